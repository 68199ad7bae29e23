/- Chapter 13: head.Check,Bytes. Chapter 14: row.Width,fits,Vector,Write. Chapter 14: row.Explicit,Seeded,Read. Chapter 15: packet.Length,fits (of what fits). Chapter 15: packet.Write (of what fits). DERIVED: THE SHELF's CONTRACTS AT THIS DUMP,IN PLAIN WORDS (tools/lay-plain.mjs out of 'TryzShelf.lean',which tools/lay-shelf.mjs wrote): THE SAME DECLARATIONS UNDER THE SAME NAMES: 'import','namespace','open','def','theorem' AND NOTHING ELSE: no command of the shelf's: FOR A HAND-IN. Each laying: the table of numbers ('.._ren') and one theorem,a field a fact of the dump's own or the kernel's comparison; each contract: ONE APPLICATION. The library: FormatUint of base 10; Itoa; Join. The contracts of the reference's Needs and Check. The plan's Room,Pad,Text; the reference's Text. Chapter 13: head.Read. Arrays that the call owns,written in place; lists of parcels: cells of two. The contracts of the reference's functions of layer 2: Dot,Scale. The contract of the reference's combination. The contract of the reference's Same of layer 7. The contracts of bytes.Clone,of Same of lists of rows,of slices.Equal at ints,of Harms. -/
import Derived.Test.YtccaiiigdfieoaaGreatDoorZg2
import Derived.Shelf.Strings.Builder1
import Derived.Shelf.Strings.Builder2
import Derived.Shelf.Strings.OnBuilder
import Derived.Shelf.Small.Bits
import Derived.Shelf.Small.Strs
import Derived.Shelf.Small.Wraps
import Derived.Shelf.Strings.BuilderF
import Derived.Shelf.Strings.BuilderK
import Derived.Shelf.Utf8.RuneCount
import Derived.Shelf.Strings.Builder2Cap
import Derived.Shelf.Strconv.Itoa0
import Derived.Shelf.Strconv.Itoa1
import Derived.Shelf.LaysM
import Derived.Shelf.Strconv.Itoa2
import Derived.Shelf.Strconv.Itoa3
import Derived.Shelf.Strconv.Clone
import Derived.Shelf.Strconv.SyntaxError
import Derived.Shelf.LaysC
import Derived.Shelf.Strconv.ToError
import Derived.Shelf.Strconv.Lower
import Derived.Shelf.Strconv.ParseUint10
import Derived.Shelf.Strconv.ParseUint10Empty
import Derived.Shelf.Strconv.ParseUint10Any
import Derived.Shelf.Strconv.RangeError
import Derived.Shelf.Strconv.ToErrorRange
import Derived.Shelf.Strconv.ParseUintEmpty
import Derived.Shelf.Strconv.ParseUint10b64
import Derived.Shelf.Strconv.ParseUint10b32
import Derived.Shelf.Strconv.ParseUint10b16
import Derived.Shelf.Strconv.ParseUint10b8
import Derived.Shelf.Strconv.ParseUint10At
import Derived.Ground.MpProg
import Derived.Shelf.Pu.ParseUintPublic10
import Derived.Shelf.Pu.ErrVarParseUint
import Derived.Shelf.Strings.Search1
import Derived.Shelf.Strings.Search2
import Derived.Shelf.Strings.Search3
import Derived.Shelf.Strings.Count
import Derived.Shelf.Strings.Shaped
import Derived.Shelf.Sort.Plain
import Derived.Shelf.Strings.Prefix
import Derived.Shelf.Strings.Split
import Derived.Shelf.Strings.SplitShaped
import Derived.Shelf.Unicode.Decode
import Derived.Shelf.Strings.RuneCount
import Derived.Shelf.Strings.Explode
import Derived.Shelf.Unicode.DecodeSlow
import Derived.Shelf.Unicode.DecodeAny
import Derived.Shelf.Strings.BuilderCap
import Derived.Shelf.Slices.Equal
import Derived.Ground.Names2Prog
import Derived.Shelf.Slices.SearchI
import Derived.Shelf.Slices.In.SortNone
import Derived.Shelf.Slices.Empties2
import Derived.Shelf.Bytes.SlSearch0
import Derived.Ground.SlbCloneProg
import Derived.Shelf.Bytes.SlClone
import Derived.Shelf.Bytes.SlEqualAll
import Derived.Shelf.Bytes.Small
import Derived.Test.YtccaiiigdfieoaaGreatDoorProg
import Derived.Lib.ItoaMem
import Derived.Lib.Join
import Derived.BigCall
import Derived.BigGuard
import Derived.Lib.ItoaLen
import Derived.Laws.IdiomCopy
namespace Go.Proofs.YtccaiiigdfieoaaGreatDoor
open Go.RowKit Go.By
abbrev HVal (m : UInt8) (o n : Nat) : Value := .agg #[B8 m,.int .u32 (o : Nat),.int .u32 (n : Nat)]
def modeC (m : UInt8) : Int := if m = 0 ∨ m = 1 then 0 else 8
theorem modeC_range (m : UInt8) : modeC m = 0 ∨ modeC m = 8 := by unfold modeC; split <;> simp
set_option maxHeartbeats 1000000 in
theorem HCheck_any (m : UInt8) (o n : Nat) (w : World) :
  Calls Tryz.prog 177 #[HVal m o n] w fun e w' => e = .returned (.int .i64 (modeC m)) ∧ Below w.heap.size w w' := by
 by_cases h0 : m = 0
 ·subst h0
  go_enter Tryz.func177,Tryz.ntmps177
  go_wp2
  go_ret
  exact ⟨rfl,al (Below.refl _ _) (Nat.le_refl _)⟩
 by_cases h1 : m = 1
 ·subst h1
  go_enter Tryz.func177,Tryz.ntmps177
  go_wp2
  go_ret
  exact ⟨rfl,al (Below.refl _ _) (Nat.le_refl _)⟩
 ·have e0 : ((m.toNat : Int) != 0) = true := bne_iff_ne.2 fun e => h0 (UInt8.toNat_inj.1 (by show m.toNat = 0; omega))
  have e1 : ((m.toNat : Int) != 1) = true := bne_iff_ne.2 fun e => h1 (UInt8.toNat_inj.1 (by show m.toNat = 1; omega))
  have hC : modeC m = 8 := by unfold modeC; rw [if_neg (by simp [h0,h1])]
  rw [hC]
  clear hC
  go_enter Tryz.func177,Tryz.ntmps177
  go_wp2
  go_ret
  exact ⟨rfl,al (Below.refl _ _) (Nat.le_refl _)⟩
def headB (m : UInt8) (o n : Nat) : List UInt8 := [1,m] ++ put4 o ++ put4 n
set_option maxRecDepth 100000 in
set_option maxHeartbeats 2000000 in
theorem HBytes_any (m : UInt8) (o n : Nat) (ho : o < 4294967296) (hn : n < 4294967296) (w : World) :
  Calls Tryz.prog 135 #[HVal m o n] w (SRet w (if modeC m = 0 then headB m o n else []) (modeC m)) := by
 have HO := Lib.hid ho
 have HN := Lib.hid hn
 clear ho hn
 by_cases hc : modeC m = 0
 ·rw [hc,if_pos rfl]
  have HK : Hid (∀ w,Calls Tryz.prog 177 #[HVal m o n] w fun e w' => e = .returned (.int .i64 0) ∧ Below w.heap.size w w') := fun w => by have := HCheck_any m o n w; rw [hc] at this; exact this
  clear hc
  go_enter Tryz.func135,Tryz.ntmps135
  go_wp2_with fail
  refine Calls.mono (HK.out _) ?_
  rintro e w1 ⟨rfl,hb1⟩
  have HB1 := Lib.hid ((al (Below.refl w.heap.size w) (Nat.le_refl _)).trans (hb1.mono (by simp)))
  have hl : w.heap.size < w1.heap.size := by have := hb1.size; simp at this; omega
  have HC : w1.heap[w.heap.size]? = some (.cells #[B8 m,.int .u32 (o : Nat),.int .u32 (n : Nat)] 120 (0,0)) := (hb1.block _ (by simp)).trans (hnew rfl)
  obtain ⟨c0,c1,c2⟩ := cells_three HC
  clear hb1 HC
  go_wp2_with fail
  refine wp_region_shapes (fun ix => ([.val (.pointer (some ⟨w.heap.size,0,none⟩)),.val (B8 m),.bytes ([1,m]),.val (.pointer (some ⟨w.heap.size,1,none⟩)),.val (.int .u32 (o : Nat)),.bytes (put4 o),.val (.pointer (some ⟨w.heap.size,2,none⟩)),.val (.int .u32 (n : Nat)),.bytes (put4 n),.rows ([[1,m],put4 o,put4 n]),.bytes (headB m o n),.bytes (headB m o n),.val (.int .i64 0)][ix]?).getD (.any)) 21 rfl (by kernel_rfl) (by decide) (by decide) (by decide) ?_ ?_
  ·refine ⟨?_,?_,?_,?_,?_,?_,?_,?_,?_,?_,?_,?_,?_,trivial⟩
   ·intro a W hb0 hs hp hi; have hb := undrew hb0; clear hb0
    have t1 : sl a 1 = .pointer (some ⟨w.heap.size,0,none⟩) := hi 1 (by decide)
    refine ite_y rfl (wp_val (.pointer (some ⟨w.heap.size,0,none⟩)) ?_ ?_)
    ·simp only [execOp,eval_tmp,eval_const,t1]; simp [go_sem]
    ·exact ⟨_,rfl,Below.refl _ _,rfl⟩
   ·intro a W hb0 hs hp hi; have hb := undrew hb0; clear hb0
    have tt : sl a 10 = .pointer (some ⟨w.heap.size,0,none⟩) := hp 0 (by decide)
    have dd := (hb.cell (p := ⟨w.heap.size,0,none⟩) (lt_of_cell c0)).trans c0
    refine ite_y rfl (wp_val (B8 m) ?_ ?_)
    ·simp only [execOp,eval_tmp,tt]; simp [go_sem,dd]
    ·exact ⟨_,rfl,Below.refl _ _,rfl⟩
   ·intro a W hb0 hs hp hi; have hb := undrew hb0; clear hb0
    have t11 : sl a 11 = B8 m := hp 1 (by decide)
    have v11 : a.tmps[11]?.getD undef = sl a 11 := by simp [sl]
    rw [t11] at v11
    refine ite_y rfl (wp_val' (w' := W.alloc (.cells #[.int .u8 1,B8 m] 5)) (.slice (some ⟨W.heap.size,0,none⟩) 2 2) ?_ ?_)
    ·simp only [execOp,eval_tmp,eval_const,t11]; simp [go_sem,v11]
    ·exact ⟨_,rfl,(al (Below.refl _ _) (Nat.le_refl _)),_,_,_,rfl,sl_block ([1,m]) 2 (hnew rfl) rfl rfl (by simp [maxLen])⟩
   ·intro a W hb0 hs hp hi; have hb := undrew hb0; clear hb0
    have t1 : sl a 1 = .pointer (some ⟨w.heap.size,0,none⟩) := hi 1 (by decide)
    refine ite_y rfl (wp_val (.pointer (some ⟨w.heap.size,1,none⟩)) ?_ ?_)
    ·simp only [execOp,eval_tmp,eval_const,t1]; simp [go_sem]
    ·exact ⟨_,rfl,Below.refl _ _,rfl⟩
   ·intro a W hb0 hs hp hi; have hb := undrew hb0; clear hb0
    have tt : sl a 13 = .pointer (some ⟨w.heap.size,1,none⟩) := hp 3 (by decide)
    have dd := (hb.cell (p := ⟨w.heap.size,1,none⟩) (lt_of_cell c1)).trans c1
    refine ite_y rfl (wp_val (.int .u32 (o : Nat)) ?_ ?_)
    ·simp only [execOp,eval_tmp,tt]; simp [go_sem,dd]
    ·exact ⟨_,rfl,Below.refl _ _,rfl⟩
   ·intro a W hb0 hs hp hi; have hb := undrew hb0; clear hb0
    have t14 : sl a 14 = .int .u32 (o : Nat) := hp 4 (by decide)
    refine ite_y rfl (wp_enter 138 #[.int .u32 (o : Nat)] ?_ (SPut_any o HO.out _) ?_)
    ·simp only [execOp,resolve,List.map_toArray,List.map,eval_tmp,eval_func,eval_const,t14]; simp [go_sem]
    ·rintro e W' ⟨g5,rfl,hg5,h5,hw⟩; exact ⟨_,rfl,_,rfl,hw,_,_,_,rfl,sl_block (put4 o) 4 h5 rfl (put4_len o) (by simp [maxLen])⟩
   ·intro a W hb0 hs hp hi; have hb := undrew hb0; clear hb0
    have t1 : sl a 1 = .pointer (some ⟨w.heap.size,0,none⟩) := hi 1 (by decide)
    refine ite_y rfl (wp_val (.pointer (some ⟨w.heap.size,2,none⟩)) ?_ ?_)
    ·simp only [execOp,eval_tmp,eval_const,t1]; simp [go_sem]
    ·exact ⟨_,rfl,Below.refl _ _,rfl⟩
   ·intro a W hb0 hs hp hi; have hb := undrew hb0; clear hb0
    have tt : sl a 16 = .pointer (some ⟨w.heap.size,2,none⟩) := hp 6 (by decide)
    have dd := (hb.cell (p := ⟨w.heap.size,2,none⟩) (lt_of_cell c2)).trans c2
    refine ite_y rfl (wp_val (.int .u32 (n : Nat)) ?_ ?_)
    ·simp only [execOp,eval_tmp,tt]; simp [go_sem,dd]
    ·exact ⟨_,rfl,Below.refl _ _,rfl⟩
   ·intro a W hb0 hs hp hi; have hb := undrew hb0; clear hb0
    have t17 : sl a 17 = .int .u32 (n : Nat) := hp 7 (by decide)
    refine ite_y rfl (wp_enter 138 #[.int .u32 (n : Nat)] ?_ (SPut_any n HN.out _) ?_)
    ·simp only [execOp,resolve,List.map_toArray,List.map,eval_tmp,eval_func,eval_const,t17]; simp [go_sem]
    ·rintro e W' ⟨g5,rfl,hg5,h5,hw⟩; exact ⟨_,rfl,_,rfl,hw,_,_,_,rfl,sl_block (put4 n) 4 h5 rfl (put4_len n) (by simp [maxLen])⟩
   ·intro a W hb0 hs hp hi; have hb := undrew hb0; clear hb0
    have t12 : BytesIs ([1,m]) (sl a 12) W := hp 2 (by decide)
    obtain ⟨y12a,y12b,y12c,t12,z12a⟩ := t12
    have t15 : BytesIs (put4 o) (sl a 15) W := hp 5 (by decide)
    obtain ⟨y15a,y15b,y15c,t15,z15a⟩ := t15
    have t18 : BytesIs (put4 n) (sl a 18) W := hp 8 (by decide)
    obtain ⟨y18a,y18b,y18c,t18,z18a⟩ := t18
    have v12 : a.tmps[12]?.getD undef = sl a 12 := by simp [sl]
    rw [t12] at v12
    have v15 : a.tmps[15]?.getD undef = sl a 15 := by simp [sl]
    rw [t15] at v15
    have v18 : a.tmps[18]?.getD undef = sl a 18 := by simp [sl]
    rw [t18] at v18
    refine ite_y rfl (wp_val' (w' := W.alloc (.cells #[.slice y12a y12b y12c,.slice y15a y15b y15c,.slice y18a y18b y18c] 22)) (.slice (some ⟨W.heap.size,0,none⟩) 3 3) ?_ ?_)
    ·simp only [execOp,eval_tmp,eval_const,t12,t15,t18]; simp [go_sem,v12,v15,v18]
    ·exact ⟨_,rfl,(al (Below.refl _ _) (Nat.le_refl _)),_,_,_,rfl,sl2_three (hnew rfl) (z12a.keep (al (Below.refl _ _) (Nat.le_refl _))) (z15a.keep (al (Below.refl _ _) (Nat.le_refl _))) (z18a.keep (al (Below.refl _ _) (Nat.le_refl _)))⟩
   ·intro a W hb0 hs hp hi; have hb := undrew hb0; clear hb0
    have t19 : RowsIs ([[1,m],put4 o,put4 n]) (sl a 19) W := hp 9 (by decide)
    obtain ⟨y19a,y19b,y19c,t19,z19a⟩ := t19
    refine ite_y rfl (wp_enter 137 #[.slice y19a y19b y19c] ?_ (Concat_any _ _ _ _ _ z19a (by simp [put4_len]; unfold Room; omega)) ?_)
    ·simp only [execOp,resolve,List.map_toArray,List.map,eval_tmp,eval_func,eval_const,t19]; simp [go_sem]
    ·rintro e W' ⟨q5,m5,g5,_,rfl,o5,hw⟩; exact ⟨_,rfl,_,rfl,hw,q5,m5,g5,rfl,(Sl.of_owns o5).read (by simp [headB])⟩
   ·intro a W hb0 hs hp hi; have hb := undrew hb0; clear hb0
    exact ite_y rfl (wp_val (sl a 20) rfl ⟨_,rfl,Below.refl _ _,hp 10 (by decide)⟩)
   ·intro a W hb0 hs hp hi; have hb := undrew hb0; clear hb0
    exact ite_y rfl (wp_val (.int .i64 0) rfl ⟨_,rfl,Below.refl _ _,rfl⟩)
  intro a w9 hb hs hd hI ht
  have ha := act_is [10,11,12,13,14,15,16,17,18,19,20,2,3] hs hd ht (by decide)
  have t3 : sl a 3 = .int .i64 0 := hI 12 (by decide)
  have y2 := hI 11 (by decide)
  obtain ⟨q9,n9,c9,t2,z2⟩ := y2
  simp only [List.foldl,t3,t2] at ha
  generalize sl a 10 = u10 at ha
  generalize sl a 11 = u11 at ha
  generalize sl a 12 = u12 at ha
  generalize sl a 13 = u13 at ha
  generalize sl a 14 = u14 at ha
  generalize sl a 15 = u15 at ha
  generalize sl a 16 = u16 at ha
  generalize sl a 17 = u17 at ha
  generalize sl a 18 = u18 at ha
  generalize sl a 19 = u19 at ha
  generalize sl a 20 = u20 at ha
  simp only [Act.put,List.setIfInBounds_toArray,List.set_cons_zero,List.set_cons_succ] at ha
  rw [ha]
  clear ha hI ht
  go_wp2
  go_ret2
  exact ⟨_,_,_,rfl,z2,stp HB1.out hb rfl (Nat.le_refl _)⟩
 ·have hc8 : modeC m = 8 := (modeC_range m).resolve_left hc
  rw [hc8,if_neg (by decide)]
  have HK : Hid (∀ w,Calls Tryz.prog 177 #[HVal m o n] w fun e w' => e = .returned (.int .i64 8) ∧ Below w.heap.size w w') := fun w => by have := HCheck_any m o n w; rw [hc8] at this; exact this
  clear hc hc8
  go_enter Tryz.func135,Tryz.ntmps135
  go_wp2_with fail
  refine Calls.mono (HK.out _) ?_
  rintro e w1 ⟨rfl,hb1⟩
  have HB1 := Lib.hid ((al (Below.refl w.heap.size w) (Nat.le_refl _)).trans (hb1.mono (by simp)))
  clear hb1
  go_wp2
  go_ret2
  exact SRet.nil _ _ _ HB1.out
end Go.Proofs.YtccaiiigdfieoaaGreatDoor
namespace Go.Proofs.YtccaiiigdfieoaaGreatDoor
open Go.RowKit Go.By
abbrev SVal (m : UInt8) (p : Option Addr) (n c s : Nat) : Value := .agg #[B8 m,.slice p n c,.int .u64 (s : Nat)]
def widS (m : UInt8) (k : Nat) : Nat := if m = 0 then k else if m = 1 then 8 else 0
def srcC (m : UInt8) (n k : Nat) : Int := if m = 0 then (if n = k then 0 else 4) else modeC m
def srcB (m : UInt8) (xs : List UInt8) (s : Nat) : List UInt8 := if m = 0 then xs else put8 s
def vecS (m : UInt8) (xs : List UInt8) (s k : Nat) : List UInt8 := if m = 0 then xs else mixRow s k
theorem mode_ne {m : UInt8} (h0 : m ≠ 0) : ((m.toNat : Int) != 0) = true := bne_iff_ne.2 fun e => h0 (UInt8.toNat_inj.1 (by show m.toNat = 0; omega))
theorem mode_ne1 {m : UInt8} (h0 : m ≠ 1) : ((m.toNat : Int) != 1) = true := bne_iff_ne.2 fun e => h0 (UInt8.toNat_inj.1 (by show m.toNat = 1; omega))
theorem mode_eq {m : UInt8} (h0 : m ≠ 0) : ((m.toNat : Int) == 0) = false := beq_eq_false_iff_ne.2 fun e => h0 (UInt8.toNat_inj.1 (by show m.toNat = 0; omega))
set_option maxHeartbeats 1000000 in
theorem RWidth_any (m : UInt8) (k : Nat) (h1 : 1 ≤ k) (h2 : k ≤ 4096) (w : World) :
  Calls Tryz.prog 208 #[B8 m,.int .i64 (k : Nat)] w fun e w' => e = .returned (.tuple #[.int .i64 (widS m k : Nat),.int .i64 (modeC m)]) ∧ Below w.heap.size w w' := by
 unfold widS
 by_cases h0 : m = 0
 ·subst h0
  rw [if_pos rfl,show modeC 0 = 0 from rfl]
  go_enter Tryz.func208,Tryz.ntmps208
  go_wp2
  go_ret2
  exact ⟨rfl,Below.refl _ _⟩
 by_cases h1' : m = 1
 ·subst h1'
  rw [if_neg (by decide),if_pos rfl,show modeC 1 = 0 from rfl]
  go_enter Tryz.func208,Tryz.ntmps208
  go_wp2
  go_ret2
  exact ⟨rfl,Below.refl _ _⟩
 ·rw [if_neg h0,if_neg h1']
  have e0 := mode_ne h0
  have e1 := mode_ne1 h1'
  have hC : modeC m = 8 := by unfold modeC; rw [if_neg (by simp [h0,h1'])]
  rw [hC]
  clear hC h0 h1'
  go_enter Tryz.func208,Tryz.ntmps208
  go_wp2
  go_ret2
  exact ⟨rfl,Below.refl _ _⟩
set_option maxHeartbeats 1000000 in
theorem SFits_any (m : UInt8) (p : Option Addr) (n c s k : Nat) (h1 : 1 ≤ k) (h2 : k ≤ 4096) (w : World) :
  Calls Tryz.prog 160 #[SVal m p n c s,.int .i64 (k : Nat)] w fun e w' => e = .returned (.int .i64 (srcC m n k)) ∧ Below w.heap.size w w' := by
 have HW : Hid (∀ w,Calls Tryz.prog 208 #[B8 m,.int .i64 (k : Nat)] w fun e w' => e = .returned (.tuple #[.int .i64 (widS m k : Nat),.int .i64 (modeC m)]) ∧ Below w.heap.size w w') := fun w => RWidth_any m k h1 h2 w
 clear h1 h2
 generalize hV : widS m k = V at HW
 clear hV
 by_cases h0 : m = 0
 ·subst h0
  rw [show modeC 0 = 0 from rfl] at HW
  by_cases hk : n = k
  ·have hC : srcC 0 n k = 0 := by unfold srcC; rw [if_pos rfl,if_pos hk]
   rw [hC]
   subst hk
   clear hC
   go_enter Tryz.func160,Tryz.ntmps160
   go_wp2_with fail
   refine Calls.mono (HW.out _) ?_
   rintro e w1 ⟨rfl,hb⟩
   obtain ⟨hb1,h1,_⟩ := one_of hb
   have HB := Lib.hid hb1
   obtain ⟨c0,c1,c2⟩ := cells_three h1
   clear hb hb1
   go_wp2
   go_ret
   exact ⟨rfl,HB.out⟩
  ·have hC : srcC 0 n k = 4 := by unfold srcC; rw [if_pos rfl,if_neg hk]
   rw [hC]
   have e0 : ((n : Int) != (k : Int)) = true := bne_iff_ne.2 (by omega)
   clear hC hk
   go_enter Tryz.func160,Tryz.ntmps160
   go_wp2_with fail
   refine Calls.mono (HW.out _) ?_
   rintro e w1 ⟨rfl,hb⟩
   obtain ⟨hb1,h1,_⟩ := one_of hb
   have HB := Lib.hid hb1
   obtain ⟨c0,c1,c2⟩ := cells_three h1
   clear hb hb1
   go_wp2
   go_ret
   exact ⟨rfl,HB.out⟩
 ·have hC : srcC m n k = modeC m := by unfold srcC; rw [if_neg h0]
  rw [hC]
  clear hC
  have e0 := mode_eq h0
  clear h0
  rcases modeC_range m with hm | hm
  ·rw [hm] at HW ⊢
   clear hm
   go_enter Tryz.func160,Tryz.ntmps160
   go_wp2_with fail
   refine Calls.mono (HW.out _) ?_
   rintro e w1 ⟨rfl,hb⟩
   obtain ⟨hb1,h1,_⟩ := one_of hb
   have HB := Lib.hid hb1
   obtain ⟨c0,c1,c2⟩ := cells_three h1
   clear hb hb1
   go_wp2
   go_ret
   exact ⟨rfl,HB.out⟩
  ·rw [hm] at HW ⊢
   clear hm
   go_enter Tryz.func160,Tryz.ntmps160
   go_wp2_with fail
   refine Calls.mono (HW.out _) ?_
   rintro e w1 ⟨rfl,hb⟩
   obtain ⟨hb1,h1,_⟩ := one_of hb
   have HB := Lib.hid hb1
   clear hb hb1
   go_wp2
   go_ret
   exact ⟨rfl,HB.out⟩
set_option maxRecDepth 100000 in
set_option maxHeartbeats 1000000 in
theorem SVector_anyF (m : UInt8) (p : Option Addr) (n c s k : Nat) (xs : List UInt8) (h1 : 1 ≤ k) (h2 : k ≤ 4096) (w : World) (h : Sl B8 w p n c xs) (hr : Room n) :
  Calls Tryz.prog 97 #[SVal m p n c s,.int .i64 (k : Nat)] w (SRetF 5 w (if srcC m n k = 0 then vecS m xs s k else []) (srcC m n k)) := by
 have HW : Hid (∀ w,Calls Tryz.prog 160 #[SVal m p n c s,.int .i64 (k : Nat)] w fun e w' => e = .returned (.int .i64 (srcC m n k)) ∧ Below w.heap.size w w') := fun w => SFits_any m p n c s k h1 h2 w
 have HK : Hid (k ≤ 65536) := by show k ≤ 65536; omega
 have H := Lib.hid h
 have HR := Lib.hid hr
 clear h1 h2 h hr
 by_cases hc : srcC m n k = 0
 ·rw [hc] at HW ⊢
  rw [if_pos rfl]
  clear hc
  by_cases h0 : m = 0
  ·subst h0
   unfold vecS
   rw [if_pos rfl]
   go_enter Tryz.func97,Tryz.ntmps97
   go_wp2_with fail
   refine Calls.mono (HW.out _) ?_
   rintro e w1 ⟨rfl,hb⟩
   obtain ⟨hb1,h1,_⟩ := one_of hb
   have HB := Lib.hid hb1
   obtain ⟨c0,c1,c2⟩ := cells_three h1
   clear hb hb1
   go_wp2_with fail
   refine Calls.mono (CloneB_any _ _ _ _ _ (H.out.keep HB.out) HR.out) ?_
   rintro e w2 ⟨q,c',rfl,ho,hb⟩
   have HB2 := Lib.hid (bl HB.out hb HB.out.size)
   have HO := Lib.hid ho
   clear hb ho
   go_wp2
   go_ret2
   exact ⟨_,_,_,rfl,(Fresh.of_owns HO.out).mono HB.out.size,HB2.out⟩
  ·unfold vecS
   rw [if_neg h0]
   have e0 := mode_eq h0
   clear h0
   go_enter Tryz.func97,Tryz.ntmps97
   go_wp2_with fail
   refine Calls.mono (HW.out _) ?_
   rintro e w1 ⟨rfl,hb⟩
   obtain ⟨hb1,h1,_⟩ := one_of hb
   have HB := Lib.hid hb1
   obtain ⟨c0,c1,c2⟩ := cells_three h1
   clear hb hb1
   go_wp2_with fail
   refine Calls.mono (MRow_anyF s k HK.out _) ?_
   rintro e w2 ⟨q,n',c',rfl,ho,hb⟩
   have HB2 := Lib.hid (bl HB.out hb HB.out.size)
   have HO := Lib.hid ho
   clear hb ho
   go_wp2
   go_ret2
   exact ⟨_,_,_,rfl,HO.out.mono HB.out.size,HB2.out⟩
 ·rw [if_neg hc]
  have e0 : (srcC m n k != 0) = true := bne_iff_ne.2 hc
  generalize srcC m n k = C at *
  clear hc
  go_enter Tryz.func97,Tryz.ntmps97
  go_wp2_with fail
  refine Calls.mono (HW.out _) ?_
  rintro e w1 ⟨rfl,hb⟩
  obtain ⟨hb1,h1,_⟩ := one_of hb
  have HB := Lib.hid hb1
  clear hb hb1
  go_wp2
  go_ret2
  exact SRetF.nil _ _ _ _ HB.out
theorem SVector_any (m : UInt8) (p : Option Addr) (n c s k : Nat) (xs : List UInt8) (h1 : 1 ≤ k) (h2 : k ≤ 4096) (w : World) (h : Sl B8 w p n c xs) (hr : Room n) :
  Calls Tryz.prog 97 #[SVal m p n c s,.int .i64 (k : Nat)] w (SRet w (if srcC m n k = 0 then vecS m xs s k else []) (srcC m n k)) := Calls.mono (SVector_anyF m p n c s k xs h1 h2 w h hr) fun _ _ h => h.ret
set_option maxRecDepth 100000 in
set_option maxHeartbeats 1000000 in
theorem SWrite_any (m : UInt8) (p : Option Addr) (n c s k : Nat) (xs : List UInt8) (h1 : 1 ≤ k) (h2 : k ≤ 4096) (w : World) (h : Sl B8 w p n c xs) (hr : Room n) :
  Calls Tryz.prog 136 #[SVal m p n c s,.int .i64 (k : Nat)] w (SRet w (if srcC m n k = 0 then srcB m xs s else []) (srcC m n k)) := by
 have HW : Hid (∀ w,Calls Tryz.prog 160 #[SVal m p n c s,.int .i64 (k : Nat)] w fun e w' => e = .returned (.int .i64 (srcC m n k)) ∧ Below w.heap.size w w') := fun w => SFits_any m p n c s k h1 h2 w
 have H := Lib.hid h
 have HR := Lib.hid hr
 clear h1 h2 h hr
 by_cases hc : srcC m n k = 0
 ·rw [hc] at HW ⊢
  rw [if_pos rfl]
  clear hc
  by_cases h0 : m = 0
  ·subst h0
   unfold srcB
   rw [if_pos rfl]
   go_enter Tryz.func136,Tryz.ntmps136
   go_wp2_with fail
   refine Calls.mono (HW.out _) ?_
   rintro e w1 ⟨rfl,hb⟩
   obtain ⟨hb1,h1,_⟩ := one_of hb
   have HB := Lib.hid hb1
   obtain ⟨c0,c1,c2⟩ := cells_three h1
   clear hb hb1
   go_wp2_with fail
   refine Calls.mono (CloneB_any _ _ _ _ _ (H.out.keep HB.out) HR.out) ?_
   rintro e w2 ⟨q,c',rfl,ho,hb⟩
   have HB2 := Lib.hid (bl HB.out hb HB.out.size)
   have HO := Lib.hid ho
   clear hb ho
   go_wp2
   go_ret2
   exact ⟨_,_,_,rfl,Sl.of_owns HO.out,HB2.out⟩
  ·unfold srcB
   rw [if_neg h0]
   have e0 := mode_eq h0
   clear h0
   go_enter Tryz.func136,Tryz.ntmps136
   go_wp2_with fail
   refine Calls.mono (HW.out _) ?_
   rintro e w1 ⟨rfl,hb⟩
   obtain ⟨hb1,h1,_⟩ := one_of hb
   have HB := Lib.hid hb1
   obtain ⟨c0,c1,c2⟩ := cells_three h1
   clear hb hb1
   go_wp2_with fail
   refine Calls.mono (MPut_any s _) ?_
   rintro e w2 ⟨q,n',c',rfl,ho,hb⟩
   have HB2 := Lib.hid (bl HB.out hb HB.out.size)
   have HO := Lib.hid ho
   clear hb ho
   go_wp2
   go_ret2
   exact ⟨_,_,_,rfl,HO.out,HB2.out⟩
 ·rw [if_neg hc]
  have e0 : (srcC m n k != 0) = true := bne_iff_ne.2 hc
  generalize srcC m n k = C at *
  clear hc
  go_enter Tryz.func136,Tryz.ntmps136
  go_wp2_with fail
  refine Calls.mono (HW.out _) ?_
  rintro e w1 ⟨rfl,hb⟩
  obtain ⟨hb1,h1,_⟩ := one_of hb
  have HB := Lib.hid hb1
  clear hb hb1
  go_wp2
  go_ret2
  exact SRet.nil _ _ _ HB.out
end Go.Proofs.YtccaiiigdfieoaaGreatDoor
namespace Go.Proofs.YtccaiiigdfieoaaGreatDoor
open Go.RowKit Go.By
theorem src_ne : 83 ≠ 5 := by decide
theorem info_source : (Tryz.prog.info? 83).map (·.size) = some 3 := by kernel_rfl
set_option maxRecDepth 100000 in
set_option maxHeartbeats 1000000 in
theorem RExplicit_any (p : Option Addr) (n c : Nat) (xs : List UInt8) (w : World) (h : Sl B8 w p n c xs) (hr : Room n) :
  Calls Tryz.prog 81 #[.slice p n c] w fun e w' => ∃ q c',e = .returned (SVal 0 q n c' 0) ∧ Fresh 5 w.heap.size w' q n c' xs ∧ Below w.heap.size w w' := by
 have H := Lib.hid h
 have HR := Lib.hid hr
 clear h hr
 go_enter Tryz.func81,Tryz.ntmps81
 go_wp2_with fail
 refine Calls.mono (CloneB_any _ _ _ _ _ (H.out.keep (al (Below.refl _ _) (Nat.le_refl _))) HR.out) ?_
 rintro e w2 ⟨q,c',rfl,ho,hb⟩
 obtain ⟨hb1,h1,_⟩ := one_of hb
 have HB := Lib.hid hb1
 have HO := Lib.hid ho
 clear hb hb1 ho
 go_wp2_with (refine wpList_store_row (o := ⟨none,.store 83 (.tmp 2) (.tmp 5),_,_,_,_⟩) rfl 83 (.tmp 2) (.tmp 5) rfl w.heap.size #[.int .u8 0,.slice q n c',.int .u64 0] rfl rfl _ _ h1 info_source rfl (by simp [Value.oneCell']) ?_)
 refine bodyPost_ret (results_cell_row rfl _ _ _ 83 #[.int .u8 0,.slice q n c',.int .u64 0] (0,0) _ rfl (hrs h1) Tryz.underlying83 rfl info_source) rfl ?_
 exact ⟨q,c',rfl,((Fresh.of_owns HO.out).mono (by simp)).row h1 src_ne,below_row HB.out (Nat.le_refl _)⟩
set_option maxRecDepth 100000 in
set_option maxHeartbeats 1000000 in
theorem RSeeded_any (s : Nat) (w : World) :
  Calls Tryz.prog 219 #[.int .u64 (s : Nat)] w fun e w' => e = .returned (SVal 1 none 0 0 s) ∧ Below w.heap.size w w' := by
 go_enter Tryz.func219,Tryz.ntmps219
 go_wp2
 refine bodyPost_ret (results_cell_row rfl _ _ _ 83 #[.int .u8 1,.slice none 0 0,.int .u64 (s : Nat)] (0,0) _ rfl ?_ Tryz.underlying83 rfl info_source) rfl ?_
 ·exact hnew rfl
 ·exact ⟨rfl,al (Below.refl _ _) (Nat.le_refl _)⟩
def rdX (m : UInt8) (xs : List UInt8) : List UInt8 := if m = 0 then xs else []
def rdS (m : UInt8) (xs : List UInt8) : Nat := if m = 0 then 0 else get8 xs
set_option maxRecDepth 100000 in
set_option maxHeartbeats 1000000 in
theorem RRead_any (m : UInt8) (k : Nat) (p : Option Addr) (n c : Nat) (xs : List UInt8) (w : World) (hm : modeC m = 0) (h1 : 1 ≤ k) (h2 : k ≤ 4096) (h : Sl B8 w p n c xs) (hn : n = widS m k) :
  Calls Tryz.prog 175 #[B8 m,.int .i64 (k : Nat),.slice p n c] w fun e w' => ∃ q n' c',e = .returned (.tuple #[SVal m q n' c' (rdS m xs),.int .i64 0]) ∧ Fresh 5 w.heap.size w' q n' c' (rdX m xs) ∧ Below w.heap.size w w' := by
 have HW : Hid (∀ w,Calls Tryz.prog 208 #[B8 m,.int .i64 (k : Nat)] w fun e w' => e = .returned (.tuple #[.int .i64 (widS m k : Nat),.int .i64 0]) ∧ Below w.heap.size w w') := fun w => by have := RWidth_any m k h1 h2 w; rw [hm] at this; exact this
 have HR : Hid (Room n) := by show n ≤ 140737488355328; rw [hn]; unfold widS; split <;> (try split) <;> omega
 have H := Lib.hid h
 have hm01 : m = 0 ∨ m = 1 := by
  unfold modeC at hm
  split at hm
  ·assumption
  ·cases hm
 have hnm := h.bound
 have hn8 : m = 1 → n = 8 := fun e => by rw [hn,e]; rfl
 rw [← hn] at HW
 clear h1 h2 h hn hm
 rcases hm01 with rfl | rfl
 ·clear hn8
  unfold rdX rdS
  rw [if_pos rfl,if_pos rfl]
  go_enter Tryz.func175,Tryz.ntmps175
  go_wp2_with fail
  refine Calls.mono (HW.out _) ?_
  rintro e w1 ⟨rfl,hb⟩
  obtain ⟨hb1,h1,hs⟩ := one_of hb
  have HB := Lib.hid hb1
  clear hb hb1
  go_wp2_with fail
  refine Calls.mono (RExplicit_any _ _ _ _ _ (H.out.keep HB.out) HR.out) ?_
  rintro e w2 ⟨q,c',rfl,hsl,hb⟩
  have h1' := (hb.block _ (by omega)).trans h1
  have HB2 := Lib.hid (bl HB.out hb HB.out.size)
  have HS := Lib.hid (hsl.mono HB.out.size)
  clear hb hsl h1
  go_wp2_with (refine wpList_store_row (o := ⟨none,.store 83 (.tmp 6) (.tmp 29),_,_,_,_⟩) rfl 83 (.tmp 6) (.tmp 29) rfl w.heap.size #[.int .u8 0,.slice q n c',.int .u64 0] rfl rfl _ _ h1' info_source rfl (by simp [Value.oneCell']) ?_)
  refine bodyPost_ret (res_ct rfl _ _ _ 83 #[.int .u8 0,.slice q n c',.int .u64 0] (0,0) _ (.int .i64 0) rfl (hrs h1') rfl Tryz.underlying83 rfl info_source) rfl ?_
  exact ⟨q,n,c',rfl,HS.out.row h1' src_ne,below_row HB2.out (Nat.le_refl _)⟩
 ·obtain rfl : n = 8 := hn8 rfl
  clear hn8
  unfold rdX rdS
  rw [if_neg (by decide),if_neg (by decide)]
  obtain ⟨S,hS⟩ : ∃ S,get8 xs = S := ⟨_,rfl⟩
  rw [hS]
  have HSS := Lib.hid hS
  clear hS
  go_enter Tryz.func175,Tryz.ntmps175
  go_wp2_with fail
  refine Calls.mono (HW.out _) ?_
  rintro e w1 ⟨rfl,hb⟩
  obtain ⟨hb1,h1,hs⟩ := one_of hb
  have HB := Lib.hid hb1
  clear hb hb1
  go_wp2_with fail
  refine Calls.mono (MSeed_any _ _ _ _ _ (H.out.keep HB.out) rfl) ?_
  rintro e w2 ⟨rfl,hb⟩
  have h1' := (hb.block _ (by omega)).trans h1
  have HB2 := Lib.hid (bl HB.out hb HB.out.size)
  have hs2 := hb.size
  clear hb h1
  rw [HSS.out]
  go_wp2_with fail
  refine Calls.mono (RSeeded_any S _) ?_
  rintro e w3 ⟨rfl,hb⟩
  have h1 := (hb.block _ (by omega)).trans h1'
  have HB3 := Lib.hid (bl HB2.out hb HB2.out.size)
  clear hb h1'
  go_wp2_with (refine wpList_store_row (o := ⟨none,.store 83 (.tmp 6) (.tmp 40),_,_,_,_⟩) rfl 83 (.tmp 6) (.tmp 40) rfl w.heap.size #[.int .u8 1,.slice none 0 0,.int .u64 (S : Nat)] rfl rfl _ _ h1 info_source rfl (by simp [Value.oneCell']) ?_)
  refine bodyPost_ret (res_ct rfl _ _ _ 83 #[.int .u8 1,.slice none 0 0,.int .u64 (S : Nat)] (0,0) _ (.int .i64 0) rfl (hrs h1) rfl Tryz.underlying83 rfl info_source) rfl ?_
  exact ⟨none,0,0,rfl,Fresh.none _ _ _,below_row HB3.out (Nat.le_refl _)⟩
end Go.Proofs.YtccaiiigdfieoaaGreatDoor
namespace Go.Proofs.YtccaiiigdfieoaaGreatDoor
open Go.RowKit Go.By
structure POK (L t k D : Nat) : Prop where
 chk : checkS (L : Int) (t : Int) (k : Int) = 0
 l : (L : Int) ≤ 9223372036854775807
 t1 : 1 ≤ t
 t2 : t ≤ 65535
 k1 : 1 ≤ k
 k2 : k ≤ 4096
 d : D < 4294967296
abbrev PVal (L t k D : Nat) : Value := .agg #[.int .i64 (L : Nat),.int .i64 (t : Nat),.int .i64 (k : Nat),.int .u32 (D : Nat)]
theorem PCheck_ok {L t k D : Nat} (h : POK L t k D) (w : World) : Calls Tryz.prog 79 #[PVal L t k D] w fun e w' => e = .returned (.int .i64 0) ∧ Below w.heap.size w w' := by
 have := Check_any (L : Int) (t : Int) (k : Int) (D : Int) w h.l
 rw [h.chk] at this
 exact this
def lenP (m : UInt8) (k t : Nat) : Nat := 10 + widS m k + t + 4
set_option maxRecDepth 100000 in
set_option maxHeartbeats 1000000 in
theorem PLength_ok (L t k D : Nat) (m : UInt8) (w : World) (hP : POK L t k D) (hm : modeC m = 0) :
  Calls Tryz.prog 173 #[PVal L t k D,B8 m] w fun e w' => e = .returned (.tuple #[.int .i64 (lenP m k t : Nat),.int .i64 0]) ∧ Below w.heap.size w w' := by
 have HK : Hid (∀ w,Calls Tryz.prog 79 #[PVal L t k D] w fun e w' => e = .returned (.int .i64 0) ∧ Below w.heap.size w w') := PCheck_ok hP
 have HW : Hid (∀ w,Calls Tryz.prog 208 #[B8 m,.int .i64 (k : Nat)] w fun e w' => e = .returned (.tuple #[.int .i64 (widS m k : Nat),.int .i64 0]) ∧ Below w.heap.size w w') := fun w => by have := RWidth_any m k hP.k1 hP.k2 w; rw [hm] at this; exact this
 have hV : widS m k ≤ 4096 := by have := hP.k1; have := hP.k2; unfold widS; split <;> (try split) <;> omega
 have ht := hP.t2
 have HL : Hid (lenP m k t = 10 + widS m k + t + 4) := rfl
 generalize lenP m k t = N at *
 generalize widS m k = V at *
 clear hP hm
 go_enter Tryz.func173,Tryz.ntmps173
 go_wp2_with fail
 refine Calls.mono (HK.out _) ?_
 rintro e w1 ⟨rfl,hb⟩
 obtain ⟨hb1,h1,hs⟩ := one_of hb
 have HB := Lib.hid hb1
 obtain ⟨c0,c1,c2,c3⟩ := cells_four h1
 clear hb hb1
 go_wp2_with fail
 refine Calls.mono (HW.out _) ?_
 rintro e w2 ⟨rfl,hb⟩
 have h2 := (hb.block _ (by omega)).trans h1
 have HB2 := Lib.hid (bl HB.out hb HB.out.size)
 clear hb h1 c0 c1 c2 c3
 obtain ⟨c0,c1,c2,c3⟩ := cells_four h2
 go_wp2
 go_ret2
 refine ⟨?_,HB2.out⟩
 rw [HL.out]
 congr 4
abbrev PkVal (m : UInt8) (o n : Nat) (sm : UInt8) (p : Option Addr) (j c s : Nat) (q : Option Addr) (t d : Nat) : Value := .agg #[B8 m,.int .u32 (o : Nat),.int .u32 (n : Nat),B8 sm,.slice p j c,.int .u64 (s : Nat),.slice q t d]
theorem cells_seven {w : World} {b T : Nat} {u v x y z r e : Value} (h : w.heap[b]? = some (.cells #[u,v,x,y,z,r,e] T (0,0))) : w.cell? ⟨b,0,none⟩ = some u ∧ w.cell? ⟨b,1,none⟩ = some v ∧ w.cell? ⟨b,2,none⟩ = some x ∧ w.cell? ⟨b,3,none⟩ = some y ∧ w.cell? ⟨b,4,none⟩ = some z ∧ w.cell? ⟨b,5,none⟩ = some r ∧ w.cell? ⟨b,6,none⟩ = some e :=
 ⟨cell_of_row _ _ 0 _ _ _ h,cell_of_row _ _ 1 _ _ _ h,cell_of_row _ _ 2 _ _ _ h,cell_of_row _ _ 3 _ _ _ h,cell_of_row _ _ 4 _ _ _ h,cell_of_row _ _ 5 _ _ _ h,cell_of_row _ _ 6 _ _ _ h⟩
set_option maxRecDepth 100000 in
set_option maxHeartbeats 2000000 in
theorem PFits_ok (L t k D n : Nat) (m : UInt8) (p : Option Addr) (j c s : Nat) (q : Option Addr) (d : Nat) (w : World) (hP : POK L t k D) (hm : modeC m = 0) (hj : m = 0 → j = k) :
  Calls Tryz.prog 112 #[PkVal m D n m p j c s q t d,PVal L t k D] w fun e w' => e = .returned (.int .i64 0) ∧ Below w.heap.size w w' := by
 have HK : Hid (∀ w,Calls Tryz.prog 79 #[PVal L t k D] w fun e w' => e = .returned (.int .i64 0) ∧ Below w.heap.size w w') := PCheck_ok hP
 have HC : Hid (∀ w,Calls Tryz.prog 177 #[HVal m D n] w fun e w' => e = .returned (.int .i64 0) ∧ Below w.heap.size w w') := fun w => by have := HCheck_any m D n w; rw [hm] at this; exact this
 have ht := hP.t2
 clear hP hm
 by_cases h0 : m = 0
 ·subst h0
  obtain rfl := hj rfl
  clear hj
  go_enter Tryz.func112,Tryz.ntmps112
  go_wp2_with fail
  refine Calls.mono (HK.out _) ?_
  rintro e w1 ⟨rfl,hb⟩
  obtain ⟨hb1,h1,h2,hs⟩ := two_of hb
  have HB := Lib.hid hb1
  obtain ⟨c0,c1,c2,c3,c4,c5,c6⟩ := cells_seven h1
  clear hb hb1
  go_wp2_with fail
  refine Calls.mono (HC.out _) ?_
  rintro e w2 ⟨rfl,hb⟩
  have h1' := (hb.block _ (by omega)).trans h1
  have h2' := (hb.block _ (by omega)).trans h2
  have HB2 := Lib.hid (bl HB.out hb HB.out.size)
  clear hb h1 h2 c0 c1 c2 c3 c4 c5 c6
  obtain ⟨c0,c1,c2,c3,c4,c5,c6⟩ := cells_seven h1'
  obtain ⟨d0,d1,d2,d3⟩ := cells_four h2'
  go_wp2
  go_ret
  exact ⟨rfl,HB2.out⟩
 ·have e0 := mode_eq h0
  clear hj h0
  go_enter Tryz.func112,Tryz.ntmps112
  go_wp2_with fail
  refine Calls.mono (HK.out _) ?_
  rintro e w1 ⟨rfl,hb⟩
  obtain ⟨hb1,h1,h2,hs⟩ := two_of hb
  have HB := Lib.hid hb1
  obtain ⟨c0,c1,c2,c3,c4,c5,c6⟩ := cells_seven h1
  clear hb hb1
  go_wp2_with fail
  refine Calls.mono (HC.out _) ?_
  rintro e w2 ⟨rfl,hb⟩
  have h1' := (hb.block _ (by omega)).trans h1
  have h2' := (hb.block _ (by omega)).trans h2
  have HB2 := Lib.hid (bl HB.out hb HB.out.size)
  clear hb h1 h2 c0 c1 c2 c3 c4 c5 c6
  obtain ⟨c0,c1,c2,c3,c4,c5,c6⟩ := cells_seven h1'
  obtain ⟨d0,d1,d2,d3⟩ := cells_four h2'
  go_wp2
  go_ret
  exact ⟨rfl,HB2.out⟩
end Go.Proofs.YtccaiiigdfieoaaGreatDoor
namespace Go.Proofs.YtccaiiigdfieoaaGreatDoor
open Go.RowKit Go.By
def bodyP (m : UInt8) (o n : Nat) (xs : List UInt8) (s : Nat) (ys : List UInt8) : List UInt8 := headB m o n ++ srcB m xs s ++ ys
def pktB (m : UInt8) (o n : Nat) (xs : List UInt8) (s : Nat) (ys : List UInt8) : List UInt8 := bodyP m o n xs s ys ++ put4 (crcS (bodyP m o n xs s ys))
set_option maxRecDepth 100000 in
set_option maxHeartbeats 4000000 in
theorem PWrite_okF (L t k D n : Nat) (m : UInt8) (p : Option Addr) (j c s : Nat) (q : Option Addr) (d : Nat) (xs ys : List UInt8) (w : World) (hP : POK L t k D) (hn : n < 4294967296) (hm : modeC m = 0) (hj : m = 0 → j = k) (hr : Room j) (h1 : Sl B8 w p j c xs) (h2 : Sl B8 w q t d ys) (hT : HalfT w) :
  Calls Tryz.prog 82 #[PkVal m D n m p j c s q t d,PVal L t k D] w (SRetF 5 w (pktB m D n xs s ys) 0) := by
 have HF : Hid (∀ w,Calls Tryz.prog 112 #[PkVal m D n m p j c s q t d,PVal L t k D] w fun e w' => e = .returned (.int .i64 0) ∧ Below w.heap.size w w') := fun w => PFits_ok L t k D n m p j c s q d w hP hm hj
 have HH : Hid (∀ w,Calls Tryz.prog 135 #[HVal m D n] w (SRet w (headB m D n) 0)) := fun w => by have := HBytes_any m D n hP.d hn w; rw [hm,if_pos rfl] at this; exact this
 have hsc : srcC m j k = 0 := by
  unfold srcC
  by_cases h0 : m = 0
  ·rw [if_pos h0,if_pos (hj h0)]
  ·rw [if_neg h0,hm]
 have HS : Hid (∀ w,Sl B8 w p j c xs → Calls Tryz.prog 136 #[SVal m p j c s,.int .i64 (k : Nat)] w (SRet w (srcB m xs s) 0)) := fun w h => by have := SWrite_any m p j c s k xs hP.k1 hP.k2 w h hr; rw [hsc,if_pos rfl] at this; exact this
 have HT := Lib.hid hT
 have H1 := Lib.hid h1
 have H2 := Lib.hid h2
 obtain ⟨B,hB⟩ : ∃ B,headB m D n = B := ⟨_,rfl⟩
 obtain ⟨S,hS⟩ : ∃ S,srcB m xs s = S := ⟨_,rfl⟩
 have hBl : B.length = 10 := by rw [← hB]; simp [headB,put4_len]
 have hSl : S.length ≤ 140737488355328 := by rw [← hS]; unfold srcB; split; · rw [h1.len]; exact hr
                                             ·rw [put8_len]; decide
 have hYl := h2.len
 have ht2 := hP.t2
 have HRm : Hid (Room [B,S,ys,put4 (crcS [B,S,ys].flatten)].flatten.length) := by
  show _ ≤ _
  simp [put4_len]
  have := hr
  unfold srcB at hS
  by_cases h0 : m = 0
  ·rw [if_pos h0] at hS
   have := hj h0; have := hP.k2; have := h1.len; rw [hS] at this; omega
  ·rw [if_neg h0] at hS
   have := put8_len s; rw [hS] at this; omega
 have hE : pktB m D n xs s ys = [B,S,ys,put4 (crcS [B,S,ys].flatten)].flatten := by
  unfold pktB bodyP
  rw [hB,hS]; simp
 rw [hE]
 rw [hB] at HH
 rw [hS] at HS
 have HL : Hid (crcS [B,S,ys].flatten < 4294967296) := crcS_lt _
 clear hB hS hBl hSl hYl ht2 hE hsc h1 h2 hT hr hj hm hP hn
 go_enter Tryz.func82,Tryz.ntmps82
 go_wp2_with fail
 refine Calls.mono (HF.out _) ?_
 rintro e w1 ⟨rfl,hb⟩
 obtain ⟨hb1,h1,h2,hs⟩ := two_of hb
 have HB := Lib.hid hb1
 obtain ⟨c0,c1,c2,c3,c4,c5,c6⟩ := cells_seven h1
 clear hb hb1
 go_wp2_with fail
 refine Calls.mono (HH.out _) ?_
 rintro e w2 ⟨q1,n1,k1,rfl,hq,hb⟩
 have h1' := (hb.block _ (by omega)).trans h1
 have h2' := (hb.block _ (by omega)).trans h2
 have hs2 := hb.size
 have HB2 := Lib.hid (bl HB.out hb HB.out.size)
 have HQ := Lib.hid hq
 clear hb hq h1 h2 c0 c1 c2 c3 c4 c5 c6
 obtain ⟨c0,c1,c2,c3,c4,c5,c6⟩ := cells_seven h1'
 obtain ⟨d0,d1,d2,d3⟩ := cells_four h2'
 go_wp2_with fail
 refine Calls.mono (HS.out _ (H1.out.keep HB2.out)) ?_
 rintro e w3 ⟨q2,n2,k2,rfl,hq,hb⟩
 have h1 := (hb.block _ (by omega)).trans h1'
 have HB3 := Lib.hid (bl HB2.out hb HB2.out.size)
 have HQ1 := Lib.hid (HQ.out.keep hb)
 have HQ2 := Lib.hid hq
 have H2' := Lib.hid (H2.out.keep HB3.out)
 have HT' := Lib.hid (HT.out.keep HB3.out)
 clear hb hq h1' h2' c0 c1 c2 c3 c4 c5 c6 d0 d1 d2 d3
 have c6 := (cells_seven h1).2.2.2.2.2.2
 clear h1
 go_wp2_with fail
 refine wp_region_shapes (fun ix => ([.val (.slice q1 n1 k1),.val (.slice q2 n2 k2),.val (.pointer (some ⟨w.heap.size,6,none⟩)),.val (.slice q t d),.val (.slice q1 n1 k1),.val (.slice q2 n2 k2),.val (.pointer (some ⟨w.heap.size,6,none⟩)),.val (.slice q t d),.rows ([B,S,ys]),.val (.int .u32 (crcS [B,S,ys].flatten : Nat)),.bytes (put4 (crcS [B,S,ys].flatten)),.rows ([B,S,ys,put4 (crcS [B,S,ys].flatten)]),(ShF 5 w.heap.size ([B,S,ys,put4 (crcS [B,S,ys].flatten)].flatten)),(ShF 5 w.heap.size ([B,S,ys,put4 (crcS [B,S,ys].flatten)].flatten)),.val (.int .i64 0)][ix]?).getD (.any)) 49 rfl (by kernel_rfl) (by decide +kernel) (by decide +kernel) (by decide +kernel) ?_ ?_
 ·refine ⟨?_,?_,?_,?_,?_,?_,?_,?_,?_,?_,?_,?_,?_,?_,?_,trivial⟩
  ·intro a W hb0 hs hp hi; have hb := undrew hb0; clear hb0
   have t7 : sl a 7 = .slice q1 n1 k1 := hi 7 (by decide)
   exact ite_y rfl (wp_val (sl a 7) rfl ⟨_,rfl,Below.refl _ _,t7⟩)
  ·intro a W hb0 hs hp hi; have hb := undrew hb0; clear hb0
   have t9 : sl a 9 = .slice q2 n2 k2 := hi 9 (by decide)
   exact ite_y rfl (wp_val (sl a 9) rfl ⟨_,rfl,Below.refl _ _,t9⟩)
  ·intro a W hb0 hs hp hi; have hb := undrew hb0; clear hb0
   have t2 : sl a 2 = .pointer (some ⟨w.heap.size,0,none⟩) := hi 2 (by decide)
   refine ite_y rfl (wp_val (.pointer (some ⟨w.heap.size,6,none⟩)) ?_ ?_)
   ·simp only [execOp,eval_tmp,eval_const,t2]; simp [go_sem]
   ·exact ⟨_,rfl,Below.refl _ _,rfl⟩
  ·intro a W hb0 hs hp hi; have hb := undrew hb0; clear hb0
   have tt : sl a 38 = .pointer (some ⟨w.heap.size,6,none⟩) := hp 2 (by decide)
   have dd := (hb.cell (p := ⟨w.heap.size,6,none⟩) (lt_of_cell c6)).trans c6
   refine ite_y rfl (wp_val (.slice q t d) ?_ ?_)
   ·simp only [execOp,eval_tmp,tt]; simp [go_sem,dd]
   ·exact ⟨_,rfl,Below.refl _ _,rfl⟩
  ·intro a W hb0 hs hp hi; have hb := undrew hb0; clear hb0
   have t7 : sl a 7 = .slice q1 n1 k1 := hi 7 (by decide)
   exact ite_y rfl (wp_val (sl a 7) rfl ⟨_,rfl,Below.refl _ _,t7⟩)
  ·intro a W hb0 hs hp hi; have hb := undrew hb0; clear hb0
   have t9 : sl a 9 = .slice q2 n2 k2 := hi 9 (by decide)
   exact ite_y rfl (wp_val (sl a 9) rfl ⟨_,rfl,Below.refl _ _,t9⟩)
  ·intro a W hb0 hs hp hi; have hb := undrew hb0; clear hb0
   have t2 : sl a 2 = .pointer (some ⟨w.heap.size,0,none⟩) := hi 2 (by decide)
   refine ite_y rfl (wp_val (.pointer (some ⟨w.heap.size,6,none⟩)) ?_ ?_)
   ·simp only [execOp,eval_tmp,eval_const,t2]; simp [go_sem]
   ·exact ⟨_,rfl,Below.refl _ _,rfl⟩
  ·intro a W hb0 hs hp hi; have hb := undrew hb0; clear hb0
   have tt : sl a 42 = .pointer (some ⟨w.heap.size,6,none⟩) := hp 6 (by decide)
   have dd := (hb.cell (p := ⟨w.heap.size,6,none⟩) (lt_of_cell c6)).trans c6
   refine ite_y rfl (wp_val (.slice q t d) ?_ ?_)
   ·simp only [execOp,eval_tmp,tt]; simp [go_sem,dd]
   ·exact ⟨_,rfl,Below.refl _ _,rfl⟩
  ·intro a W hb0 hs hp hi; have hb := undrew hb0; clear hb0
   have t40 : sl a 40 = .slice q1 n1 k1 := hp 4 (by decide)
   have t41 : sl a 41 = .slice q2 n2 k2 := hp 5 (by decide)
   have t43 : sl a 43 = .slice q t d := hp 7 (by decide)
   have v40 : a.tmps[40]?.getD undef = sl a 40 := by simp [sl]
   rw [t40] at v40
   have v41 : a.tmps[41]?.getD undef = sl a 41 := by simp [sl]
   rw [t41] at v41
   have v43 : a.tmps[43]?.getD undef = sl a 43 := by simp [sl]
   rw [t43] at v43
   refine ite_y rfl (wp_val' (w' := W.alloc (.cells #[.slice q1 n1 k1,.slice q2 n2 k2,.slice q t d] 22)) (.slice (some ⟨W.heap.size,0,none⟩) 3 3) ?_ ?_)
   ·simp only [execOp,eval_tmp,eval_const,t40,t41,t43]; simp [go_sem,v40,v41,v43]
   ·exact ⟨_,rfl,(al (Below.refl _ _) (Nat.le_refl _)),_,_,_,rfl,sl2_three (hnew rfl) ((HQ1.out.keep hb).keep (al (Below.refl _ _) (Nat.le_refl _))) ((HQ2.out.keep hb).keep (al (Below.refl _ _) (Nat.le_refl _))) ((H2'.out.keep hb).keep (al (Below.refl _ _) (Nat.le_refl _)))⟩
  ·intro a W hb0 hs hp hi; have hb := undrew hb0; clear hb0
   have t44 : RowsIs ([B,S,ys]) (sl a 44) W := hp 8 (by decide)
   obtain ⟨y44a,y44b,y44c,t44,z44a⟩ := t44
   refine ite_y rfl (wp_enter 139 #[.slice y44a y44b y44c] ?_ (SOf_any _ _ _ _ _ z44a (HT'.out.keep hb)) ?_)
   ·simp only [execOp,resolve,List.map_toArray,List.map,eval_tmp,eval_func,eval_const,t44]; simp [go_sem]
   ·rintro e W' ⟨rfl,hw⟩; exact ⟨_,rfl,_,rfl,hw,rfl⟩
  ·intro a W hb0 hs hp hi; have hb := undrew hb0; clear hb0
   have t45 : sl a 45 = .int .u32 (crcS [B,S,ys].flatten : Nat) := hp 9 (by decide)
   refine ite_y rfl (wp_enter 138 #[.int .u32 (crcS [B,S,ys].flatten : Nat)] ?_ (SPut_any _ HL.out _) ?_)
   ·simp only [execOp,resolve,List.map_toArray,List.map,eval_tmp,eval_func,eval_const,t45]; simp [go_sem]
   ·rintro e W' ⟨g5,rfl,hg5,h5,hw⟩; exact ⟨_,rfl,_,rfl,hw,_,_,_,rfl,sl_block (put4 _) 4 h5 rfl (put4_len _) (by simp [maxLen])⟩
  ·intro a W hb0 hs hp hi; have hb := undrew hb0; clear hb0
   have t36 : sl a 36 = .slice q1 n1 k1 := hp 0 (by decide)
   have t37 : sl a 37 = .slice q2 n2 k2 := hp 1 (by decide)
   have t39 : sl a 39 = .slice q t d := hp 3 (by decide)
   have t46 : BytesIs (put4 (crcS [B,S,ys].flatten)) (sl a 46) W := hp 10 (by decide)
   obtain ⟨y46a,y46b,y46c,t46,z46a⟩ := t46
   have v36 : a.tmps[36]?.getD undef = sl a 36 := by simp [sl]
   rw [t36] at v36
   have v37 : a.tmps[37]?.getD undef = sl a 37 := by simp [sl]
   rw [t37] at v37
   have v39 : a.tmps[39]?.getD undef = sl a 39 := by simp [sl]
   rw [t39] at v39
   have v46 : a.tmps[46]?.getD undef = sl a 46 := by simp [sl]
   rw [t46] at v46
   refine ite_y rfl (wp_val' (w' := W.alloc (.cells #[.slice q1 n1 k1,.slice q2 n2 k2,.slice q t d,.slice y46a y46b y46c] 22)) (.slice (some ⟨W.heap.size,0,none⟩) 4 4) ?_ ?_)
   ·simp only [execOp,eval_tmp,eval_const,t36,t37,t39,t46]; simp [go_sem,v36,v37,v39,v46]
   ·exact ⟨_,rfl,(al (Below.refl _ _) (Nat.le_refl _)),_,_,_,rfl,sl2_four (hnew rfl) ((HQ1.out.keep hb).keep (al (Below.refl _ _) (Nat.le_refl _))) ((HQ2.out.keep hb).keep (al (Below.refl _ _) (Nat.le_refl _))) ((H2'.out.keep hb).keep (al (Below.refl _ _) (Nat.le_refl _))) (z46a.keep (al (Below.refl _ _) (Nat.le_refl _)))⟩
  ·intro a W hb0 hs hp hi; have hb := undrew hb0; clear hb0
   have t47 : RowsIs ([B,S,ys,put4 (crcS [B,S,ys].flatten)]) (sl a 47) W := hp 11 (by decide)
   obtain ⟨y47a,y47b,y47c,t47,z47a⟩ := t47
   refine ite_y rfl (wp_enter 137 #[.slice y47a y47b y47c] ?_ (Concat_any _ _ _ _ _ z47a HRm.out) ?_)
   ·simp only [execOp,resolve,List.map_toArray,List.map,eval_tmp,eval_func,eval_const,t47]; simp [go_sem]
   ·rintro e W' ⟨q5,m5,g5,_,rfl,o5,hw⟩; exact ⟨_,rfl,_,rfl,hw,q5,m5,g5,rfl,(Fresh.of_owns o5).mono (Nat.le_trans HB3.out.size hb.size)⟩
  ·intro a W hb0 hs hp hi; have hb := undrew hb0; clear hb0
   exact ite_y rfl (wp_val (sl a 48) rfl ⟨_,rfl,Below.refl _ _,hp 12 (by decide)⟩)
  ·intro a W hb0 hs hp hi; have hb := undrew hb0; clear hb0
   exact ite_y rfl (wp_val (.int .i64 0) rfl ⟨_,rfl,Below.refl _ _,rfl⟩)
 intro a w9 hb hs hd hI ht
 have ha := act_is [36,37,38,39,40,41,42,43,44,45,46,47,48,4,5] hs hd ht (by decide)
 have t5 : sl a 5 = .int .i64 0 := hI 14 (by decide)
 have y4 : (ShF 5 w.heap.size ([B,S,ys,put4 (crcS [B,S,ys].flatten)].flatten)).ok (sl a 4) w9 := hI 13 (by decide)
 obtain ⟨q9,n9,c9,t4,z4⟩ := y4
 simp only [List.foldl,t5,t4] at ha
 generalize sl a 36 = u36 at ha
 generalize sl a 37 = u37 at ha
 generalize sl a 38 = u38 at ha
 generalize sl a 39 = u39 at ha
 generalize sl a 40 = u40 at ha
 generalize sl a 41 = u41 at ha
 generalize sl a 42 = u42 at ha
 generalize sl a 43 = u43 at ha
 generalize sl a 44 = u44 at ha
 generalize sl a 45 = u45 at ha
 generalize sl a 46 = u46 at ha
 generalize sl a 47 = u47 at ha
 generalize sl a 48 = u48 at ha
 simp only [Act.put,List.setIfInBounds_toArray,List.set_cons_zero,List.set_cons_succ] at ha
 rw [ha]
 clear ha hI ht
 go_wp2
 go_ret2
 exact ⟨_,_,_,rfl,z4.read (by simp),bl HB3.out hb HB3.out.size⟩
end Go.Proofs.YtccaiiigdfieoaaGreatDoor
namespace Go.Proofs
open Go.Shelf
def Tryz.lays169_ren : Go.Shelf.Ren := ⟨fun | 169 => 74 | n => n,fun | 70 => 133 | 9 => 9 | 0 => 0 | 72 => 135 | 37 => 22 | 127 => 211 | 3 => 3 | 5 => 5 | n => n,fun | n => n⟩
theorem Tryz.lays169 : Go.Proofs.Lays.n169 Tryz.prog Tryz.lays169_ren := {
 mixed := by kernel_rfl
 f169 := Tryz.func74.trans (congrArg some (by kernel_rfl))
 t0 := Tryz.underlying0
 a0 := Tryz.isAgg0
 z0 := Tryz.sizeOf0
 v0 := Tryz.zeroValue0
 t3 := Tryz.underlying3
 a3 := Tryz.isAgg3
 z3 := Tryz.sizeOf3
 v3 := Tryz.zeroValue3
 t9 := Tryz.underlying9
 a9 := Tryz.isAgg9
 z9 := Tryz.sizeOf9
 v9 := Tryz.zeroValue9
 t37 := Tryz.underlying22
 a37 := Tryz.isAgg22
 z37 := Tryz.sizeOf22
 v37 := Tryz.zeroValue22
 t70 := Tryz.underlying133
 a70 := Tryz.isAgg133
 z70 := Tryz.sizeOf133
 v70 := Tryz.zeroValue133
 t72 := Tryz.underlying135
 a72 := Tryz.isAgg135
 z72 := Tryz.sizeOf135
 v72 := Tryz.zeroValue135
 t127 := Tryz.underlying211
 a127 := Tryz.isAgg211
 z127 := Tryz.sizeOf211
 v127 := Tryz.zeroValue211 }
theorem Tryz.Builder_Extra_169 : Builder.Extra Tryz.prog Tryz.lays169_ren := {
 sizeBuilder := by kernel_rfl
 liesBuilder := by kernel_rfl
 t5 := Tryz.underlying5
 a5 := Tryz.isAgg5
 z5 := Tryz.sizeOf5
 v5 := Tryz.zeroValue5
 infoByte := by kernel_rfl
 cellsByte := by kernel_rfl
 sizeByte := by kernel_rfl
 neB5 := by decide }
open Go.RowKit in
theorem Tryz.Builder_String_any (B b : Nat) (l : List UInt8) (w : World) (h : Lib.IsBuilder 135 5 B b (Lib.byteCells l) w) (hBw : B ≤ w.heap.size) :
  Calls Tryz.prog 74 #[.pointer (some ⟨b,0,none⟩)] w fun e w' => e = .returned (.string ⟨l.toArray⟩) ∧ Below B w w' := Any.Builder_String_any Tryz.lays169 Tryz.Builder_Extra_169 B b l w h hBw
def Tryz.lays156_ren : Go.Shelf.Ren := ⟨fun | 156 => 127 | 165 => 192 | 166 => 70 | 169 => 74 | 240 => 126 | 241 => 229 | 276 => 191 | 277 => 254 | n => n,fun | 31 => 88 | 9 => 9 | 3 => 3 | 4 => 4 | 0 => 0 | 20 => 20 | 72 => 135 | 76 => 138 | 70 => 133 | 37 => 22 | 75 => 137 | 127 => 211 | 164 => 267 | 5 => 5 | 80 => 70 | n => n,fun | n => n⟩
theorem Tryz.lays156 : Go.Proofs.Lays.n156 Tryz.prog Tryz.lays156_ren := {
 mixed := by kernel_rfl
 f156 := Tryz.func127.trans (congrArg some (by kernel_rfl))
 f165 := Tryz.func192.trans (congrArg some (by kernel_rfl))
 f166 := Tryz.func70.trans (congrArg some (by kernel_rfl))
 f169 := Tryz.func74.trans (congrArg some (by kernel_rfl))
 f240 := Tryz.func126.trans (congrArg some (by kernel_rfl))
 f241 := Tryz.func229.trans (congrArg some (by kernel_rfl))
 f276 := Tryz.func191.trans (congrArg some (by kernel_rfl))
 f277 := Tryz.func254.trans (congrArg some (by kernel_rfl))
 t0 := Tryz.underlying0
 a0 := Tryz.isAgg0
 z0 := Tryz.sizeOf0
 v0 := Tryz.zeroValue0
 t3 := Tryz.underlying3
 a3 := Tryz.isAgg3
 z3 := Tryz.sizeOf3
 v3 := Tryz.zeroValue3
 t4 := Tryz.underlying4
 a4 := Tryz.isAgg4
 z4 := Tryz.sizeOf4
 v4 := Tryz.zeroValue4
 t9 := Tryz.underlying9
 a9 := Tryz.isAgg9
 z9 := Tryz.sizeOf9
 v9 := Tryz.zeroValue9
 t20 := Tryz.underlying20
 a20 := Tryz.isAgg20
 z20 := Tryz.sizeOf20
 v20 := Tryz.zeroValue20
 t31 := Tryz.underlying88
 a31 := Tryz.isAgg88
 z31 := Tryz.sizeOf88
 v31 := Tryz.zeroValue88
 t37 := Tryz.underlying22
 a37 := Tryz.isAgg22
 z37 := Tryz.sizeOf22
 v37 := Tryz.zeroValue22
 t70 := Tryz.underlying133
 a70 := Tryz.isAgg133
 z70 := Tryz.sizeOf133
 v70 := Tryz.zeroValue133
 t72 := Tryz.underlying135
 a72 := Tryz.isAgg135
 z72 := Tryz.sizeOf135
 v72 := Tryz.zeroValue135
 t75 := Tryz.underlying137
 a75 := Tryz.isAgg137
 z75 := Tryz.sizeOf137
 v75 := Tryz.zeroValue137
 t76 := Tryz.underlying138
 a76 := Tryz.isAgg138
 z76 := Tryz.sizeOf138
 v76 := Tryz.zeroValue138
 t127 := Tryz.underlying211
 a127 := Tryz.isAgg211
 z127 := Tryz.sizeOf211
 v127 := Tryz.zeroValue211
 t164 := Tryz.underlying267
 a164 := Tryz.isAgg267
 z164 := Tryz.sizeOf267
 v164 := Tryz.zeroValue267 }
theorem Tryz.Builder_Extra_156 : Builder.Extra Tryz.prog Tryz.lays156_ren := {
 sizeBuilder := by kernel_rfl
 liesBuilder := by kernel_rfl
 t5 := Tryz.underlying5
 a5 := Tryz.isAgg5
 z5 := Tryz.sizeOf5
 v5 := Tryz.zeroValue5
 infoByte := by kernel_rfl
 cellsByte := by kernel_rfl
 sizeByte := by kernel_rfl
 neB5 := by decide }
open Go.RowKit in
theorem Tryz.strings_Join (bk o c : Nat) (xs : List ByteArray) (sep : ByteArray) (w : World) (hcells : ∀ (j : Nat) x,xs[j]? = some x → w.cell? ⟨bk,o + j,none⟩ = some (.string x)) (hbk : bk < w.heap.size) (hN : xs.length ≤ 140737488355328) (hcap : xs.length ≤ c) (hlen : (Lib.join (xs.map (·.data.toList)) sep.data.toList).length ≤ 140737488355328) :
  Calls Tryz.prog 127 #[.slice (some ⟨bk,o,none⟩) xs.length c,.string sep] w fun e w' => e = .returned (.string ⟨(Lib.join (xs.map (·.data.toList)) sep.data.toList).toArray⟩) ∧ Below w.heap.size w w' := Any.strings_Join Tryz.lays156 Tryz.Builder_Extra_156 bk o c xs sep w hcells hbk hN hcap hlen
def Tryz.lays283_ren : Go.Shelf.Ren := ⟨fun | 283 => 230 | n => n,fun | 3 => 3 | 9 => 9 | 4 => 4 | n => n,fun | n => n⟩
theorem Tryz.lays283 : Go.Proofs.Lays.n283 Tryz.prog Tryz.lays283_ren := {
 mixed := by kernel_rfl
 f283 := Tryz.func230.trans (congrArg some (by kernel_rfl))
 t3 := Tryz.underlying3
 a3 := Tryz.isAgg3
 z3 := Tryz.sizeOf3
 v3 := Tryz.zeroValue3
 t4 := Tryz.underlying4
 a4 := Tryz.isAgg4
 z4 := Tryz.sizeOf4
 v4 := Tryz.zeroValue4
 t9 := Tryz.underlying9
 a9 := Tryz.isAgg9
 z9 := Tryz.sizeOf9
 v9 := Tryz.zeroValue9 }
open Go.Lib in
theorem Tryz.internal_strconv_small (i : Nat) (h : i < 100) (w : World) :
  Calls Tryz.prog 230 #[.int .i64 i] w fun e w' => e = .returned (.string ⟨(Lib.decDigits i).toArray⟩) ∧ w' = w := Any.internal_strconv_small Tryz.lays283 i h w
def Tryz.laysM284_ren : Go.Shelf.Ren := ⟨fun | 284 => 231 | 129 => 256 | 317 => 255 | 318 => 257 | n => n,fun | 53 => 81 | 3 => 3 | 212 => 323 | 0 => 0 | 4 => 4 | 46 => 142 | 5 => 5 | 9 => 9 | n => n,fun | 17 => 2 | n => n⟩
theorem Tryz.laysM284 : Go.Proofs.LaysM.n284 Tryz.prog Tryz.laysM284_ren := {
 mixed := by kernel_rfl
 f129 := Tryz.func256.trans (congrArg some (by kernel_rfl))
 f284 := Tryz.func231.trans (congrArg some (by kernel_rfl))
 f317 := Tryz.func255.trans (congrArg some (by kernel_rfl))
 f318 := Tryz.func257.trans (congrArg some (by kernel_rfl))
 t0 := Tryz.underlying0
 a0 := Tryz.isAgg0
 z0 := Tryz.sizeOf0
 v0 := Tryz.zeroValue0
 t3 := Tryz.underlying3
 a3 := Tryz.isAgg3
 z3 := Tryz.sizeOf3
 v3 := Tryz.zeroValue3
 t4 := Tryz.underlying4
 a4 := Tryz.isAgg4
 z4 := Tryz.sizeOf4
 v4 := Tryz.zeroValue4
 t5 := Tryz.underlying5
 a5 := Tryz.isAgg5
 z5 := Tryz.sizeOf5
 v5 := Tryz.zeroValue5
 t9 := Tryz.underlying9
 a9 := Tryz.isAgg9
 z9 := Tryz.sizeOf9
 v9 := Tryz.zeroValue9
 t46 := Tryz.underlying142
 a46 := Tryz.isAgg142
 z46 := Tryz.sizeOf142
 v46 := Tryz.zeroValue142
 t53 := Tryz.underlying81
 a53 := Tryz.isAgg81
 z53 := Tryz.sizeOf81
 v53 := Tryz.zeroValue81
 t212 := Tryz.underlying323
 a212 := Tryz.isAgg323
 z212 := Tryz.sizeOf323
 v212 := Tryz.zeroValue323
 g17 := by kernel_rfl
 i0 := by kernel_rfl
 i3 := by kernel_rfl
 i4 := by kernel_rfl
 i5 := by kernel_rfl
 i9 := by kernel_rfl
 i46 := by kernel_rfl
 i53 := by kernel_rfl
 i212 := by kernel_rfl
 m17 := by kernel_rfl }
open Go.Lib in
theorem Tryz.internal_strconv_numDigits (u : Nat) (h1 : 1 ≤ u) (h2 : u < 18446744073709551616) (w : World) (htab : Lib.TabIs Tryz.prog w "internal/strconv.uint64pow10" .u64 Lib.pow10Tab) :
  Calls Tryz.prog 231 #[.int .u64 u] w fun e w' => e = .returned (.int .i64 (Lib.nDigits u)) ∧ w' = w := Any.internal_strconv_numDigits Tryz.laysM284 u h1 h2 w htab
def Tryz.lays285_ren : Go.Shelf.Ren := ⟨fun | 285 => 232 | n => n,fun | 37 => 22 | 53 => 81 | 3 => 3 | 4 => 4 | 51 => 23 | 9 => 9 | 5 => 5 | 0 => 0 | n => n,fun | n => n⟩
theorem Tryz.lays285 : Go.Proofs.Lays.n285 Tryz.prog Tryz.lays285_ren := {
 mixed := by kernel_rfl
 f285 := Tryz.func232.trans (congrArg some (by kernel_rfl))
 t0 := Tryz.underlying0
 a0 := Tryz.isAgg0
 z0 := Tryz.sizeOf0
 v0 := Tryz.zeroValue0
 t3 := Tryz.underlying3
 a3 := Tryz.isAgg3
 z3 := Tryz.sizeOf3
 v3 := Tryz.zeroValue3
 t4 := Tryz.underlying4
 a4 := Tryz.isAgg4
 z4 := Tryz.sizeOf4
 v4 := Tryz.zeroValue4
 t5 := Tryz.underlying5
 a5 := Tryz.isAgg5
 z5 := Tryz.sizeOf5
 v5 := Tryz.zeroValue5
 t9 := Tryz.underlying9
 a9 := Tryz.isAgg9
 z9 := Tryz.sizeOf9
 v9 := Tryz.zeroValue9
 t37 := Tryz.underlying22
 a37 := Tryz.isAgg22
 z37 := Tryz.sizeOf22
 v37 := Tryz.zeroValue22
 t51 := Tryz.underlying23
 a51 := Tryz.isAgg23
 z51 := Tryz.sizeOf23
 v51 := Tryz.zeroValue23
 t53 := Tryz.underlying81
 a53 := Tryz.isAgg81
 z53 := Tryz.sizeOf81
 v53 := Tryz.zeroValue81 }
open Go.RowKit Go.Sort Go.Lib in
theorem Tryz.internal_strconv_formatBase10 (blk off cap : Nat) (u : Nat) (d : Array UInt8) (w : World) (hH : Holds (fun (b : UInt8) => Value.int .u8 (b.toNat : Int)) w blk off d) (hu : u < 10 ^ d.size) (hu64 : u < 18446744073709551616) (hsz : d.size < 4611686018427387904) :
  Calls Tryz.prog 232 #[.slice (some ⟨blk,off,none⟩) d.size cap,.int .u64 u] w fun e w' =>
   e = .returned (.tuple #[]) ∧ ∃ (n v' : Nat) (dk : Array UInt8),w' = (putRow (fun (b : UInt8) => Value.int .u8 (b.toNat : Int)) w blk off dk).drewN n ∧ FmtInv d.size u 0 v' dk := Any.internal_strconv_formatBase10 Tryz.lays285 blk off cap u d w hH hu hu64 hsz
def Tryz.laysM171_ren : Go.Shelf.Ren := ⟨fun | 171 => 91 | 243 => 157 | 246 => 207 | 283 => 230 | 284 => 231 | 285 => 232 | 286 => 233 | 129 => 256 | 317 => 255 | 318 => 257 | 319 => 258 | 320 => 259 | 337 => 274 | 338 => 275 | n => n,fun | 3 => 3 | 9 => 9 | 2 => 2 | 4 => 4 | 171 => 298 | 0 => 0 | 53 => 81 | 37 => 22 | 5 => 5 | 173 => 301 | 212 => 323 | 51 => 23 | 20 => 20 | 213 => 324 | 46 => 142 | 232 => 353 | 233 => 354 | n => n,fun | 17 => 2 | 18 => 7 | 19 => 8 | n => n⟩
theorem Tryz.laysM171 : Go.Proofs.LaysM.n171 Tryz.prog Tryz.laysM171_ren := {
 mixed := by kernel_rfl
 f129 := Tryz.func256.trans (congrArg some (by kernel_rfl))
 f171 := Tryz.func91.trans (congrArg some (by kernel_rfl))
 f243 := Tryz.func157.trans (congrArg some (by kernel_rfl))
 f246 := Tryz.func207.trans (congrArg some (by kernel_rfl))
 f283 := Tryz.func230.trans (congrArg some (by kernel_rfl))
 f284 := Tryz.func231.trans (congrArg some (by kernel_rfl))
 f285 := Tryz.func232.trans (congrArg some (by kernel_rfl))
 f286 := Tryz.func233.trans (congrArg some (by kernel_rfl))
 f317 := Tryz.func255.trans (congrArg some (by kernel_rfl))
 f318 := Tryz.func257.trans (congrArg some (by kernel_rfl))
 f319 := Tryz.func258.trans (congrArg some (by kernel_rfl))
 f320 := Tryz.func259.trans (congrArg some (by kernel_rfl))
 f337 := Tryz.func274.trans (congrArg some (by kernel_rfl))
 f338 := Tryz.func275.trans (congrArg some (by kernel_rfl))
 t0 := Tryz.underlying0
 a0 := Tryz.isAgg0
 z0 := Tryz.sizeOf0
 v0 := Tryz.zeroValue0
 t2 := Tryz.underlying2
 a2 := Tryz.isAgg2
 z2 := Tryz.sizeOf2
 v2 := Tryz.zeroValue2
 t3 := Tryz.underlying3
 a3 := Tryz.isAgg3
 z3 := Tryz.sizeOf3
 v3 := Tryz.zeroValue3
 t4 := Tryz.underlying4
 a4 := Tryz.isAgg4
 z4 := Tryz.sizeOf4
 v4 := Tryz.zeroValue4
 t5 := Tryz.underlying5
 a5 := Tryz.isAgg5
 z5 := Tryz.sizeOf5
 v5 := Tryz.zeroValue5
 t9 := Tryz.underlying9
 a9 := Tryz.isAgg9
 z9 := Tryz.sizeOf9
 v9 := Tryz.zeroValue9
 t20 := Tryz.underlying20
 a20 := Tryz.isAgg20
 z20 := Tryz.sizeOf20
 v20 := Tryz.zeroValue20
 t37 := Tryz.underlying22
 a37 := Tryz.isAgg22
 z37 := Tryz.sizeOf22
 v37 := Tryz.zeroValue22
 t46 := Tryz.underlying142
 a46 := Tryz.isAgg142
 z46 := Tryz.sizeOf142
 v46 := Tryz.zeroValue142
 t51 := Tryz.underlying23
 a51 := Tryz.isAgg23
 z51 := Tryz.sizeOf23
 v51 := Tryz.zeroValue23
 t53 := Tryz.underlying81
 a53 := Tryz.isAgg81
 z53 := Tryz.sizeOf81
 v53 := Tryz.zeroValue81
 t171 := Tryz.underlying298
 a171 := Tryz.isAgg298
 z171 := Tryz.sizeOf298
 v171 := Tryz.zeroValue298
 t173 := Tryz.underlying301
 a173 := Tryz.isAgg301
 z173 := Tryz.sizeOf301
 v173 := Tryz.zeroValue301
 t212 := Tryz.underlying323
 a212 := Tryz.isAgg323
 z212 := Tryz.sizeOf323
 v212 := Tryz.zeroValue323
 t213 := Tryz.underlying324
 a213 := Tryz.isAgg324
 z213 := Tryz.sizeOf324
 t232 := Tryz.underlying353
 a232 := Tryz.isAgg353
 z232 := Tryz.sizeOf353
 v232 := Tryz.zeroValue353
 t233 := Tryz.underlying354
 a233 := Tryz.isAgg354
 z233 := Tryz.sizeOf354
 v233 := Tryz.zeroValue354
 g17 := by kernel_rfl
 g18 := by kernel_rfl
 g19 := by kernel_rfl
 i0 := by kernel_rfl
 i2 := by kernel_rfl
 i3 := by kernel_rfl
 i4 := by kernel_rfl
 i5 := by kernel_rfl
 i9 := by kernel_rfl
 i20 := by kernel_rfl
 i37 := by kernel_rfl
 i46 := by kernel_rfl
 i51 := by kernel_rfl
 i53 := by kernel_rfl
 i171 := by kernel_rfl
 i173 := by kernel_rfl
 i212 := by kernel_rfl
 i232 := by kernel_rfl
 i233 := by kernel_rfl
 m17 := by kernel_rfl
 m18 := by kernel_rfl
 m19 := by kernel_rfl }
open Go.RowKit Go.Sort Go.Lib in
theorem Tryz.strconv_Itoa (n : Int) (h0 : -9223372036854775808 ≤ n) (h1 : n ≤ 9223372036854775807) (w : World) (htab : Lib.TabIs Tryz.prog w "internal/strconv.uint64pow10" .u64 Lib.pow10Tab) :
  Calls Tryz.prog 91 #[.int .i64 n] w fun e w' => e = .returned (.string ⟨(Lib.itoa n).toArray⟩) ∧ ∃ k os,w' = grow (w.drewN k) os := Any.strconv_Itoa Tryz.laysM171 n h0 h1 w htab
end Go.Proofs
namespace Go.By
open Go.RowKit
theorem below_growN (w : World) (k : Nat) (os : Array Obj) : Below w.heap.size w (Sort.grow (w.drewN k) os) :=
 ⟨rfl,rfl,rfl,by rw [Sort.size_grow]; simp,fun i hi => by
  show (Sort.grow (w.drewN k) os).heap[i]? = w.heap[i]?
  rw [Sort.heap_grow_old (w.drewN k) os (by simpa using hi)]; simp⟩
theorem fin_pos0 (w : World) (o : Obj) (dk : Array UInt8) (k : Nat) : ∃ os,(Sort.putRow (fun (b : UInt8) => Value.int .u8 (b.toNat : Int)) (w.alloc o) w.heap.size 0 dk).drewN k = Sort.grow (w.drewN k) os := by
 rw [Sort.alloc_eq_grow]
 obtain ⟨os',_,e⟩ := Sort.putRow_grow_new (fun (b : UInt8) => Value.int .u8 (b.toNat : Int)) w #[o] w.heap.size 0 dk (Nat.le_refl _)
 exact ⟨os',by rw [e]; rfl⟩
theorem holds_zero0 (w : World) (T : TypeId) (nd : Nat) (hs : nd ≤ 24) : Sort.Holds (fun (b : UInt8) => Value.int .u8 (b.toNat : Int)) (w.alloc (.cells Lib.zeros24 T)) w.heap.size 0 (Array.replicate nd (0 : UInt8)) := fun j hj => by
 have hj' : j < nd := by simpa using hj
 rw [cell_of_row _ _ _ _ _ _ (hnew rfl),Nat.zero_add,Lib.zeros24_at j (by omega)]
 have e : (Array.replicate nd (0 : UInt8))[j]! = 0 := by
  rw [getElem!_pos (Array.replicate nd (0 : UInt8)) j hj]; exact Array.getElem_replicate ..
 rw [e]
 exact ⟨rfl,frozen_of_row _ _ j _ _ (hnew rfl)⟩
end Go.By
namespace Go.Proofs.YtccaiiigdfieoaaGreatDoor
open Go.RowKit Go.By
def Tab10 (w : World) : Prop := Lib.TabIs Tryz.prog w "internal/strconv.uint64pow10" .u64 Lib.pow10Tab
theorem Tab10.keep {w w' : World} (h : Tab10 w) (hb : Below w.heap.size w w') : Tab10 w' := by
 unfold Tab10 Lib.TabIs World.var? at *
 cases hg : Tryz.prog.globalNamed "internal/strconv.uint64pow10" with
 | none => rw [hg] at h; exact h
 | some g =>
  rw [hg] at h
  simp only [Option.bind_some] at h ⊢
  cases hh : w.heap[g]? with
  | none => rw [hh] at h; cases h
  | some o => rw [hb.block g (lt_of_block hh),hh]; rw [hh] at h; exact h
theorem Itoa_any (u : Nat) (h : u ≤ 9223372036854775807) (w : World) (hT : Tab10 w) : Calls Tryz.prog 91 #[.int .i64 u] w fun e w' => e = .returned (.string (strB (Lib.decDigits u))) ∧ Below w.heap.size w w' := by
 refine (Tryz.strconv_Itoa u (by omega) (by omega) w hT).mono ?_
 rintro e w' ⟨rfl,k,os,rfl⟩
 exact ⟨by rw [Lib.itoa_nonneg]; rfl,below_growN _ _ _⟩
theorem Join_s (b : Nat) (T : TypeId) (xs : List (List UInt8)) (sep : List UInt8) (n : Nat) (w : World) (hn : xs.length = n) (h : w.heap[b]? = some (.cells (xs.map fun x => Value.string (strB x)).toArray T (0,0))) (hN : n ≤ 100000) (hlen : (Lib.join xs sep).length ≤ 100000000) :
  Calls Tryz.prog 127 #[.slice (some ⟨b,0,none⟩) n n,.string (strB sep)] w fun e w' => e = .returned (.string (strB (Lib.join xs sep))) ∧ Below w.heap.size w w' := by
 subst hn
 have e1 : (xs.map strB).map (fun x => x.data.toList) = xs := by rw [List.map_map]; conv => rhs; rw [← List.map_id xs]
                                                                 apply List.map_congr_left; intro x _; exact strB_data x
 have := Tryz.strings_Join b 0 xs.length (xs.map strB) (strB sep) w (fun j x hj => ?_) (lt_of_block h) (by rw [List.length_map]; omega) (by simp) (by rw [e1,strB_data]; omega)
 ·rw [e1,strB_data,List.length_map] at this
  exact this
 ·rw [cell_of_row _ _ _ _ _ _ h,Nat.zero_add]
  rw [List.getElem?_map] at hj
  obtain ⟨y,hy,rfl⟩ := Option.map_eq_some_iff.1 hj
  simp [hy]
set_option maxRecDepth 100000 in
set_option maxHeartbeats 4000000 in
theorem FormatUint_in10 (u : Nat) (h : u < 18446744073709551616) (w : World) (hT : Tab10 w) :
  Calls Tryz.prog 193 #[.int .u64 u,.int .i64 10] w fun e w' => e = .returned (.string (strB (Lib.decDigits u))) ∧ Below w.heap.size w w' := by
 by_cases hs : u < 100
 ·have hs' : (u : Int) < 100 := by omega
  go_enter Tryz.func193,Tryz.ntmps193
  go_wp2_with fail
  refine Calls.mono (Tryz.internal_strconv_small u hs _) ?_
  rintro e w' ⟨rfl,rfl⟩
  go_wp2
  go_ret
  exact ⟨rfl,Below.refl _ _⟩
 ·have hu1 : 1 ≤ u := by omega
  have hs' : ¬ (u : Int) < 100 := by omega
  have hnd20 : Lib.nDigits u ≤ 20 := by have := Lib.numDigits_eq u hu1 h; split at this <;> omega
  have hal : Tryz.prog.arrayLen 298 = 24 := by simp [Program.arrayLen,Tryz.underlying298]
  have hsl1 : ∀ W,(Instr.sliceAt 298 (.pointer (some ⟨w.heap.size,0,none⟩)) none (some (.int .i64 (Lib.nDigits u : Int))) none).run Tryz.prog W = .ok (.slice (some ⟨w.heap.size,0,none⟩) (Lib.nDigits u) 24) W := fun W => by
   rw [run_sliceAt_array_h W 298 ⟨w.heap.size,0,none⟩ (by simp [Program.arrayLen,Program.elem,Tryz.underlying298]) .i64 (Lib.nDigits u : Int) (by omega) (by rw [hal]; omega)]
   go_simp
  have hH0 := holds_zero0 w 298 (Lib.nDigits u) (by omega)
  have hfmt := Tryz.internal_strconv_formatBase10 w.heap.size 0 24 u (Array.replicate (Lib.nDigits u) 0) (w.alloc (.cells Lib.zeros24 298)) hH0 (by rw [Array.size_replicate]; exact Lib.lt_pow_nDigits u) h (by rw [Array.size_replicate]; omega)
  rw [Array.size_replicate] at hfmt
  have HH0 := Lib.hid hH0
  have HF := Lib.hid hfmt
  have HT := Lib.hid hT
  clear hH0 hal hfmt hT
  have hs2 : (100 : Int) ≤ (u : Int) := by omega
  clear hs' hs
  go_enter Tryz.func193,Tryz.ntmps193
  go_wp2_with fail
  refine Calls.mono (Tryz.internal_strconv_numDigits u hu1 h _ (Lib.tabIs_alloc HT.out _)) ?_
  rintro e w' ⟨rfl,rfl⟩
  go_wp2_with (first | simp only [hsl1])
  refine Calls.mono HF.out ?_
  rintro e w' ⟨rfl,k,v',dk,rfl,hF⟩
  have hcv : (convert 22 9 (.slice (some ⟨w.heap.size,0,none⟩) (Lib.nDigits u) 24)).run Tryz.prog ((Sort.putRow (fun (b : UInt8) => Value.int .u8 (b.toNat : Int)) (w.alloc (.cells Lib.zeros24 298)) w.heap.size 0 dk).drewN k) = .ok (.string ⟨(Lib.decDigits u).toArray⟩) ((Sort.putRow (fun (b : UInt8) => Value.int .u8 (b.toNat : Int)) (w.alloc (.cells Lib.zeros24 298)) w.heap.size 0 dk).drewN k) := by
   have h := run_convert_bytes_back (P := Tryz.prog) ((Sort.putRow (fun (b : UInt8) => Value.int .u8 (b.toNat : Int)) (w.alloc (.cells Lib.zeros24 298)) w.heap.size 0 dk).drewN k) 22 9 5 ⟨w.heap.size,0,none⟩ 24 (Lib.decDigits u) Tryz.underlying22 Tryz.underlying5 Tryz.underlying9 (fun j hj => by
    rw [Lib.row_is_numeral hF j hj,Lib.add_plain,World.cell?_drewN]
    exact Sort.cell?_putRow (fun (b : UInt8) => Value.int .u8 (b.toNat : Int)) _ w.heap.size 0 _ dk HH0.out (by rw [hF.size,Array.size_replicate]) j (by rw [hF.size]; rw [Lib.decDigits_length] at hj; exact hj))
   rw [Lib.decDigits_length] at h
   exact h
  go_wp2_with (first | simp only [hsl1] | simp only [hcv])
  go_ret
  obtain ⟨os,eo⟩ := fin_pos0 w (.cells Lib.zeros24 298) dk k
  exact ⟨rfl,by rw [eo]; exact below_growN _ _ _⟩
theorem FormatUint_10 (u : Nat) (h : u < 18446744073709551616) (w : World) (hT : Tab10 w) :
  Calls Tryz.prog 128 #[.int .u64 u,.int .i64 10] w fun e w' => e = .returned (.string (strB (Lib.decDigits u))) ∧ Below w.heap.size w w' := by
 have HF := Lib.hid (FormatUint_in10 u h w hT)
 clear h hT
 go_enter Tryz.func128,Tryz.ntmps128
 go_wp2_with fail
 refine Calls.mono HF.out ?_
 rintro e w' ⟨rfl,hb⟩
 have HB := Lib.hid hb; clear hb
 go_wp2
 go_ret
 exact ⟨rfl,HB.out⟩
end Go.Proofs.YtccaiiigdfieoaaGreatDoor
namespace Go.Proofs.YtccaiiigdfieoaaGreatDoor
open Go.RowKit Go.By
def rneedsS (l s : Int) : Int := if needS l s ≤ 4096 then needS l s else 4097
theorem rneeds_done {l s : Int} {k : Nat} {m : Int} (hl : 0 ≤ l) (hs : 1 ≤ s) (hm : m + k * s = l) (h0 : (k = 0 ∧ m = 0) ∨ 0 < m) (h1 : m ≤ s) : needS l s = (k : Int) + 1 := by
 rcases h0 with ⟨rfl,rfl⟩ | h0
 ·have : l = 0 := by simpa using hm.symm
  subst this; rfl
 ·have hk : 0 ≤ (k : Int) * s := Int.mul_nonneg (by omega) (by omega)
  refine needS_of (by omega) hs ?_ ?_
  ·rw [show (k : Int) + 1 - 1 = k by omega]; omega
  ·rw [Int.add_mul]; omega
theorem rneeds_more {l s : Int} {k : Nat} {m : Int} (hs : 1 ≤ s) (hm : m + k * s = l) (h0 : 0 < m) : (k : Int) < needS l s := by
 have hk : 0 ≤ (k : Int) * s := Int.mul_nonneg (by omega) (by omega)
 obtain ⟨g1,g2⟩ := needS_spec (l := l) (s := s) (by omega) hs
 generalize needS l s = n at *
 have : ¬ n ≤ (k : Int) := fun h => by
  have : n * s ≤ (k : Int) * s := Int.mul_le_mul_of_nonneg_right h (by omega)
  omega
 omega
set_option maxRecDepth 100000 in
set_option maxHeartbeats 1000000 in
theorem RNeeds_any (l s : Int) (w : World) (hl : 0 ≤ l) (hl2 : l ≤ 9223372036854775807) (hs : 1 ≤ s) :
  Calls Tryz.prog 156 #[.int .i64 l,.int .i64 s] w fun e w' => e = .returned (.int .i64 (rneedsS l s)) ∧ w = w' := by
 have HS := Lib.hid hs; have HL := Lib.hid hl
 go_enter Tryz.func156,Tryz.ntmps156
 go_wp2
 go_loop [0,5] (fun a b => ∃ (m : Int) (k : Nat),a = .int .i64 m ∧ b = .int .i64 k ∧ k ≤ 4097 ∧ 0 ≤ m ∧ m ≤ l ∧ (k = 0 ∨ 0 < m) ∧ Hid (m + k * s = l)) (fun _ b => 4097 - (intOf b).toNat)
 case atStart => exact ⟨l,0,rfl,rfl,by omega,hl,by omega,.inl rfl,by simp [Hid]⟩
 case round =>
  obtain ⟨m,k,rfl,rfl,hk,hm0,hml,hkm,hm⟩ := hrel
  have HK := Lib.hid hkm; clear hkm
  by_cases hlt : k ≤ 4096
  ·have g1 : (k : Int) ≤ 4096 := by omega
   by_cases hms : m ≤ s
   ·have hR : Hid (rneedsS l s = (k : Int) + 1) := by
     have hd : needS l s = (k : Int) + 1 := rneeds_done HL.out HS.out hm.out (by have := HK.out; omega) hms
     rw [Hid,rneedsS,hd]; split <;> omega
    by_cases hz : k = 0
    ·subst hz
     go_wp2
     go_ret
     exact ⟨by rw [hR.out]; rfl,rfl⟩
    ·have hkz : ((k : Int) == 0) = false := by simp; omega
     have hmp : 0 < m := by have := HK.out; omega
     clear hz
     go_wp2
     go_ret
     exact ⟨by rw [hR.out]; rfl,rfl⟩
   ·have hlt' : s < m := by omega
    have hlow : 0 < m - s := by omega
    have hw : wrap64 (m - s) = m - s := by unfold wrap64; omega
    clear hms
    by_cases hz : k = 0
    ·subst hz
     go_wp2
     go_round
     case rel => exact ⟨m - s,1,by simp [hw],rfl,by omega,by omega,by omega,.inr hlow,by have := hm.out; simp [Hid] at *; omega⟩
     case measure => simp [intOf]
    ·have hkz : ((k : Int) == 0) = false := by simp; omega
     have hmp : 0 < m := by have := HK.out; omega
     clear hz
     go_wp2
     go_round
     case rel => exact ⟨m - s,k + 1,by simp [hw],by go_num,by omega,by omega,by omega,.inr hlow,by have := hm.out; simp only [Hid,Int.natCast_add,Int.add_mul]; simp; omega⟩
     case measure => simp [intOf]; omega
  ·have hk' : k = 4097 := by omega
   subst hk'
   have hR : Hid (rneedsS l s = 4097) := by
    have := rneeds_more HS.out hm.out (by have := HK.out; omega)
    rw [Hid,rneedsS,if_neg (by omega)]
   go_wp2
   go_ret
   exact ⟨by rw [hR.out]; rfl,rfl⟩
set_option maxRecDepth 100000 in
set_option maxHeartbeats 1000000 in
theorem RCheck_any (l s n d : Int) (w : World) (hl2 : l ≤ 9223372036854775807) :
  Calls Tryz.prog 90 #[.agg #[.int .i64 l,.int .i64 s,.int .i64 n,.int .u32 d]] w fun e w' => e = .returned (.int .i64 (checkS l s n)) ∧ Below w.heap.size w w' := by
 by_cases h0 : l < 0
 ·have HR : Hid (checkS l s n = 2) := by unfold checkS fitS; simp [Hid,h0]
  go_enter Tryz.func90,Tryz.ntmps90
  go_wp2
  go_ret
  exact ⟨by rw [HR.out]; rfl,al (Below.refl _ _) (Nat.le_refl _)⟩
 ·by_cases h1 : s < 1
  ·have HR : Hid (checkS l s n = 4) := by unfold checkS fitS; simp [Hid,h0,h1]
   go_enter Tryz.func90,Tryz.ntmps90
   go_wp2
   go_ret
   exact ⟨by rw [HR.out]; rfl,al (Below.refl _ _) (Nat.le_refl _)⟩
  ·by_cases h2 : 65535 < s
   ·have HR : Hid (checkS l s n = 4) := by unfold checkS fitS; simp [Hid,h0,h2]
    go_enter Tryz.func90,Tryz.ntmps90
    go_wp2
    go_ret
    exact ⟨by rw [HR.out]; rfl,al (Below.refl _ _) (Nat.le_refl _)⟩
   ·have HN := Lib.hid (fun w => RNeeds_any l s w (by omega) hl2 (by omega))
    by_cases h3 : needS l s ≤ 4096
    ·rw [rneedsS,if_pos h3] at HN
     have HF : fitS l s = 0 := by unfold fitS; rw [if_neg h0,if_neg (by omega),if_neg (by omega)]
     have HR : Hid (checkS l s n = if n = needS l s then 0 else 14) := by unfold checkS; rw [Hid,if_pos HF]
     clear HF
     generalize needS l s = k at *
     have h3' : ¬ (4096 < k) := by omega
     by_cases e : n = k
     ·subst e
      have hb : (n != n) = false := by simp
      rw [if_pos rfl] at HR
      have C0 := cell4 w (.int .i64 l) (.int .i64 s) (.int .i64 n) (.int .u32 d) 52 0
      have C1 := cell4 w (.int .i64 l) (.int .i64 s) (.int .i64 n) (.int .u32 d) 52 1
      have C2 := cell4 w (.int .i64 l) (.int .i64 s) (.int .i64 n) (.int .u32 d) 52 2
      go_enter Tryz.func90,Tryz.ntmps90
      go_wp2_with fail
      refine (HN.out _).mono ?_; rintro e w' ⟨rfl,rfl⟩
      go_wp2
      go_quiet ((go_at_call 156; exact Calls.quiet_of_same ((HN.out _).mono fun e w' hh => ⟨hh.1,hh.2.symm⟩)))
      go_wp2
      go_ret
      exact ⟨by rw [HR.out]; rfl,bdn (al (Below.refl _ _) (Nat.le_refl _))⟩
     ·have hb : (n != k) = true := by simpa using e
      rw [if_neg e] at HR
      clear e
      have C0 := cell4 w (.int .i64 l) (.int .i64 s) (.int .i64 n) (.int .u32 d) 52 0
      have C1 := cell4 w (.int .i64 l) (.int .i64 s) (.int .i64 n) (.int .u32 d) 52 1
      have C2 := cell4 w (.int .i64 l) (.int .i64 s) (.int .i64 n) (.int .u32 d) 52 2
      go_enter Tryz.func90,Tryz.ntmps90
      go_wp2_with fail
      refine (HN.out _).mono ?_; rintro e w' ⟨rfl,rfl⟩
      go_wp2
      go_quiet ((go_at_call 156; exact Calls.quiet_of_same ((HN.out _).mono fun e w' hh => ⟨hh.1,hh.2.symm⟩)))
      go_wp2
      go_ret
      exact ⟨by rw [HR.out]; rfl,bdn (al (Below.refl _ _) (Nat.le_refl _))⟩
    ·rw [rneedsS,if_neg h3] at HN
     have HR : Hid (checkS l s n = 5) := by
      have : fitS l s = 5 := by unfold fitS; rw [if_neg h0,if_neg (by omega),if_pos (by omega)]
      unfold checkS; rw [Hid,this]; rfl
     clear h3
     go_enter Tryz.func90,Tryz.ntmps90
     go_wp2_with fail
     refine (HN.out _).mono ?_; rintro e w' ⟨rfl,rfl⟩
     go_wp2
     go_ret
     exact ⟨by rw [HR.out]; rfl,al (Below.refl _ _) (Nat.le_refl _)⟩
end Go.Proofs.YtccaiiigdfieoaaGreatDoor
namespace Go.By
open Go.RowKit
def ShpStr (T : TypeId) (L : List (List UInt8)) : Shp := ⟨fun v w => ∃ b,v = .slice (some ⟨b,0,none⟩) L.length L.length ∧ w.heap[b]? = some (.cells (L.map fun x => Value.string (strB x)).toArray T (0,0)),fun _ _ _ ⟨b,e,h⟩ hb => ⟨b,e,(hb.block _ (lt_of_block h)).trans h⟩⟩
def wordsS (d l s n : Nat) : List (List UInt8) := [[111,98,106,101,99,116],Lib.decDigits d,Lib.decDigits l,Lib.decDigits s,Lib.decDigits n]
def textW (d l s n : Nat) : List UInt8 := Lib.join (wordsS d l s n) [32]
theorem dd_len {u : Nat} (h : u < 18446744073709551616) : (Lib.decDigits u).length ≤ 20 := by rw [Lib.decDigits_length]; exact Lib.nDigits_le20 u h
theorem textW_eq (d l s n : Nat) : textW d l s n = [111,98,106,101,99,116] ++ 32 :: (Lib.decDigits d ++ 32 :: (Lib.decDigits l ++ 32 :: (Lib.decDigits s ++ 32 :: Lib.decDigits n))) := by
 unfold textW wordsS; rw [Lib.join_cons]; simp [Lib.joinTail]
theorem textW_len {d l s n : Nat} (hd : d < 18446744073709551616) (hl : l < 18446744073709551616) (hs : s < 18446744073709551616) (hn : n < 18446744073709551616) : (textW d l s n).length ≤ 100 := by
 have h1 := dd_len hd; have h2 := dd_len hl; have h3 := dd_len hs; have h4 := dd_len hn
 rw [textW_eq]; simp only [List.length_append,List.length_cons,List.length_nil]; omega
end Go.By
namespace Go.Proofs.YtccaiiigdfieoaaGreatDoor
open Go.RowKit Go.By
def textS (l s n : Int) (d : Nat) : List UInt8 := if checkS l s n = 0 then textW d l.toNat s.toNat n.toNat else []
theorem checkS_zero {l s n : Int} (h : checkS l s n = 0) : 0 ≤ l ∧ 1 ≤ s ∧ s ≤ 65535 ∧ n = needS l s ∧ 1 ≤ n ∧ n ≤ 4096 ∧ l ≤ n * s ∧ 0 ≤ n * s ∧ n * s ≤ 268431360 := by
 have hf : fitS l s = 0 := by
  unfold checkS at h
  by_cases e : fitS l s = 0
  ·exact e
  ·rw [if_neg e] at h; exact h
 have hn : n = needS l s := by
  unfold checkS at h
  rw [if_pos hf] at h
  by_cases e : n = needS l s
  ·exact e
  ·rw [if_neg e] at h; cases h
 rcases fitS_cases l s with ⟨a,_⟩ | ⟨_,h1,h2,h3,h4⟩
 ·exact absurd hf a
 ·have hp := (needS_pos h1 h2).1
  have hle : l ≤ needS l s * s := by
   by_cases h0 : l = 0
   ·have : 0 ≤ needS l s * s := Int.mul_nonneg (by omega) (by omega)
    omega
   ·exact (needS_spec (by omega) h2).2
  have hm : n * s ≤ 4096 * 65535 := Int.mul_le_mul (by omega) h3 (by omega) (by omega)
  have h0 : 0 ≤ n * s := Int.mul_nonneg (by omega) (by omega)
  exact ⟨h1,h2,h3,hn,by omega,by omega,by rw [hn]; exact hle,h0,by omega⟩
theorem checkS_cases (l s n : Int) : checkS l s n = 0 ∨ (checkS l s n != 0) = true := by
 by_cases h : checkS l s n = 0
 ·exact .inl h
 ·exact .inr (by simpa using h)
theorem cells4k {w w1 : World} {b : Nat} {a c e d : Value} {T : TypeId} {fr : Nat × Nat} (h : w.heap[b]? = some (.cells #[a,c,e,d] T fr)) (hb : Below w.heap.size w w1) : w1.cell? ⟨b,0,none⟩ = some a ∧ w1.cell? ⟨b,1,none⟩ = some c ∧ w1.cell? ⟨b,2,none⟩ = some e ∧ w1.cell? ⟨b,3,none⟩ = some d := by
 have h1 := (hb.block _ (lt_of_block h)).trans h
 exact ⟨cell_of_row _ _ _ _ _ _ h1,cell_of_row _ _ _ _ _ _ h1,cell_of_row _ _ _ _ _ _ h1,cell_of_row _ _ _ _ _ _ h1⟩
set_option maxRecDepth 100000 in
set_option maxHeartbeats 4000000 in
theorem PText_any (l s n : Int) (d : Nat) (hd : d < 4294967296) (w : World) (hl2 : l ≤ 9223372036854775807) (hT : Tab10 w) :
  Calls Tryz.prog 72 #[.agg #[.int .i64 l,.int .i64 s,.int .i64 n,.int .u32 (d : Int)]] w fun e w' => e = .returned (.string (strB (textS l s n d))) ∧ Below w.heap.size w w' := by
 have HC := Lib.hid (fun w => Check_any l s n d w hl2)
 have HX : Hid (∀ o,(w.alloc o).heap[w.heap.size]? = some o) := fun o => hnew rfl
 have HT := Lib.hid hT
 clear hT
 rcases checkS_cases l s n with h | h
 ·obtain ⟨h0,h1,h2,-,h4,h5,h6,-,h7⟩ := checkS_zero h
  obtain ⟨L,rfl⟩ := Int.eq_ofNat_of_zero_le h0
  obtain ⟨S,rfl⟩ := Int.eq_ofNat_of_zero_le (show 0 ≤ s by omega)
  obtain ⟨N,rfl⟩ := Int.eq_ofNat_of_zero_le (show 0 ≤ n by omega)
  have hL : L ≤ 9223372036854775807 := by omega
  have hS : S ≤ 9223372036854775807 := by omega
  have hN : N ≤ 9223372036854775807 := by omega
  have HR : Hid (textS L S N d = textW d L S N) := if_pos h
  rw [h] at HC
  clear h h0 h1 h2 h4 h5 h6 h7
  go_enter Tryz.func72,Tryz.ntmps72
  go_wp2_with fail
  refine Calls.mono (HC.out _) ?_
  rintro e w1 ⟨rfl,hb⟩
  obtain ⟨c0,c1,c2,c3⟩ := cells4k (HX.out _) hb
  have HB : Hid (Below w.heap.size w w1) := bl (al (Below.refl _ _) (Nat.le_refl _)) hb (by simp)
  have HT1 := Lib.hid (HT.out.keep HB.out)
  clear hb
  go_wp2
  refine wp_region_shapes (fun ix => ([.val (.pointer (some ⟨w.heap.size,3,none⟩)),.val (.int .u32 (d : Int)),.val (.int .u64 (d : Int)),.val (.string (strB (Lib.decDigits d))),.val (.pointer (some ⟨w.heap.size,0,none⟩)),.val (.int .i64 (L : Nat)),.val (.string (strB (Lib.decDigits L))),.val (.pointer (some ⟨w.heap.size,1,none⟩)),.val (.int .i64 (S : Nat)),.val (.string (strB (Lib.decDigits S))),.val (.pointer (some ⟨w.heap.size,2,none⟩)),.val (.int .i64 (N : Nat)),.val (.string (strB (Lib.decDigits N))),(ShpStr 9 (wordsS d L S N)),.val (.string (strB (textW d L S N))),.val (.string (strB (textW d L S N)))][ix]?).getD (.any)) 21 rfl (by kernel_rfl) (by decide) (by decide) (by decide) ?_ ?_
  ·refine ⟨?_,?_,?_,?_,?_,?_,?_,?_,?_,?_,?_,?_,?_,?_,?_,?_,trivial⟩
   ·intro a W hb0 hs hp hi; have hb := undrew hb0; clear hb0
    have t1 : sl a 1 = .pointer (some ⟨w.heap.size,0,none⟩) := hi 1 (by decide)
    refine ite_y rfl (wp_val (.pointer (some ⟨w.heap.size,3,none⟩)) ?_ ?_)
    ·simp only [execOp,eval_tmp,eval_const,t1]; simp [go_sem]
    ·exact ⟨_,rfl,Below.refl _ _,rfl⟩
   ·intro a W hb0 hs hp hi; have hb := undrew hb0; clear hb0
    have tt : sl a 6 = .pointer (some ⟨w.heap.size,3,none⟩) := hp 0 (by decide)
    have dd := (hb.cell (p := ⟨w.heap.size,3,none⟩) (lt_of_cell c3)).trans c3
    refine ite_y rfl (wp_val (.int .u32 (d : Int)) ?_ ?_)
    ·simp only [execOp,eval_tmp,tt]; simp [go_sem,dd]
    ·exact ⟨_,rfl,Below.refl _ _,rfl⟩
   ·intro a W hb0 hs hp hi; have hb := undrew hb0; clear hb0
    have tt : sl a 7 = .int .u32 (d : Int) := hp 1 (by decide)
    refine ite_y rfl (wp_val (.int .u64 (d : Int)) ?_ ?_)
    ·simp only [execOp,eval_tmp,tt]; simp [go_sem,Tryz.underlying23,Tryz.underlying81,show IntKind.u64.wrap (d : Int) = d by rw [IntKind.wrap_u64]; omega]
    ·exact ⟨_,rfl,Below.refl _ _,rfl⟩
   ·intro a W hb0 hs hp hi; have hb := undrew hb0; clear hb0
    have t8 : sl a 8 = .int .u64 (d : Int) := hp 2 (by decide)
    refine ite_y rfl (wp_enter 128 #[.int .u64 (d : Int),.int .i64 10] ?_ (FormatUint_10 d (by omega) W (HT1.out.keep hb)) ?_)
    ·simp only [execOp,resolve,List.map_toArray,List.map,eval_tmp,eval_func,eval_const,t8]; simp [go_sem]
    ·rintro e W' ⟨rfl,hw⟩; exact ⟨_,rfl,_,rfl,hw,rfl⟩
   ·intro a W hb0 hs hp hi; have hb := undrew hb0; clear hb0
    have t1 : sl a 1 = .pointer (some ⟨w.heap.size,0,none⟩) := hi 1 (by decide)
    refine ite_y rfl (wp_val (.pointer (some ⟨w.heap.size,0,none⟩)) ?_ ?_)
    ·simp only [execOp,eval_tmp,eval_const,t1]; simp [go_sem]
    ·exact ⟨_,rfl,Below.refl _ _,rfl⟩
   ·intro a W hb0 hs hp hi; have hb := undrew hb0; clear hb0
    have tt : sl a 10 = .pointer (some ⟨w.heap.size,0,none⟩) := hp 4 (by decide)
    have dd := (hb.cell (p := ⟨w.heap.size,0,none⟩) (lt_of_cell c0)).trans c0
    refine ite_y rfl (wp_val (.int .i64 (L : Nat)) ?_ ?_)
    ·simp only [execOp,eval_tmp,tt]; simp [go_sem,dd]
    ·exact ⟨_,rfl,Below.refl _ _,rfl⟩
   ·intro a W hb0 hs hp hi; have hb := undrew hb0; clear hb0
    have t11 : sl a 11 = .int .i64 (L : Nat) := hp 5 (by decide)
    refine ite_y rfl (wp_enter 91 #[.int .i64 (L : Nat)] ?_ (Itoa_any L hL W (HT1.out.keep hb)) ?_)
    ·simp only [execOp,resolve,List.map_toArray,List.map,eval_tmp,eval_func,eval_const,t11]; simp [go_sem]
    ·rintro e W' ⟨rfl,hw⟩; exact ⟨_,rfl,_,rfl,hw,rfl⟩
   ·intro a W hb0 hs hp hi; have hb := undrew hb0; clear hb0
    have t1 : sl a 1 = .pointer (some ⟨w.heap.size,0,none⟩) := hi 1 (by decide)
    refine ite_y rfl (wp_val (.pointer (some ⟨w.heap.size,1,none⟩)) ?_ ?_)
    ·simp only [execOp,eval_tmp,eval_const,t1]; simp [go_sem]
    ·exact ⟨_,rfl,Below.refl _ _,rfl⟩
   ·intro a W hb0 hs hp hi; have hb := undrew hb0; clear hb0
    have tt : sl a 13 = .pointer (some ⟨w.heap.size,1,none⟩) := hp 7 (by decide)
    have dd := (hb.cell (p := ⟨w.heap.size,1,none⟩) (lt_of_cell c1)).trans c1
    refine ite_y rfl (wp_val (.int .i64 (S : Nat)) ?_ ?_)
    ·simp only [execOp,eval_tmp,tt]; simp [go_sem,dd]
    ·exact ⟨_,rfl,Below.refl _ _,rfl⟩
   ·intro a W hb0 hs hp hi; have hb := undrew hb0; clear hb0
    have t14 : sl a 14 = .int .i64 (S : Nat) := hp 8 (by decide)
    refine ite_y rfl (wp_enter 91 #[.int .i64 (S : Nat)] ?_ (Itoa_any S hS W (HT1.out.keep hb)) ?_)
    ·simp only [execOp,resolve,List.map_toArray,List.map,eval_tmp,eval_func,eval_const,t14]; simp [go_sem]
    ·rintro e W' ⟨rfl,hw⟩; exact ⟨_,rfl,_,rfl,hw,rfl⟩
   ·intro a W hb0 hs hp hi; have hb := undrew hb0; clear hb0
    have t1 : sl a 1 = .pointer (some ⟨w.heap.size,0,none⟩) := hi 1 (by decide)
    refine ite_y rfl (wp_val (.pointer (some ⟨w.heap.size,2,none⟩)) ?_ ?_)
    ·simp only [execOp,eval_tmp,eval_const,t1]; simp [go_sem]
    ·exact ⟨_,rfl,Below.refl _ _,rfl⟩
   ·intro a W hb0 hs hp hi; have hb := undrew hb0; clear hb0
    have tt : sl a 16 = .pointer (some ⟨w.heap.size,2,none⟩) := hp 10 (by decide)
    have dd := (hb.cell (p := ⟨w.heap.size,2,none⟩) (lt_of_cell c2)).trans c2
    refine ite_y rfl (wp_val (.int .i64 (N : Nat)) ?_ ?_)
    ·simp only [execOp,eval_tmp,tt]; simp [go_sem,dd]
    ·exact ⟨_,rfl,Below.refl _ _,rfl⟩
   ·intro a W hb0 hs hp hi; have hb := undrew hb0; clear hb0
    have t17 : sl a 17 = .int .i64 (N : Nat) := hp 11 (by decide)
    refine ite_y rfl (wp_enter 91 #[.int .i64 (N : Nat)] ?_ (Itoa_any N hN W (HT1.out.keep hb)) ?_)
    ·simp only [execOp,resolve,List.map_toArray,List.map,eval_tmp,eval_func,eval_const,t17]; simp [go_sem]
    ·rintro e W' ⟨rfl,hw⟩; exact ⟨_,rfl,_,rfl,hw,rfl⟩
   ·intro a W hb0 hs hp hi; have hb := undrew hb0; clear hb0
    have x0 : sl a 9 = .string (strB (Lib.decDigits d)) := hp 3 (by decide)
    have x1 : sl a 12 = .string (strB (Lib.decDigits L)) := hp 6 (by decide)
    have x2 : sl a 15 = .string (strB (Lib.decDigits S)) := hp 9 (by decide)
    have x3 : sl a 18 = .string (strB (Lib.decDigits N)) := hp 12 (by decide)
    refine ite_y rfl (wp_val' (w' := W.alloc (.cells #[.string ⟨#[111,98,106,101,99,116]⟩,.string (strB (Lib.decDigits d)),.string (strB (Lib.decDigits L)),.string (strB (Lib.decDigits S)),.string (strB (Lib.decDigits N))] 9)) (.slice (some ⟨W.heap.size,0,none⟩) 5 5) ?_ ?_)
    ·simp only [execOp,eval_tmp,eval_const,List.map_toArray,List.map,x0,x1,x2,x3]; simp [go_sem,x0,x1,x2,x3]
    ·exact ⟨_,rfl,al (Below.refl _ _) (Nat.le_refl _),W.heap.size,rfl,hnew rfl⟩
   ·intro a W hb0 hs hp hi; have hb := undrew hb0; clear hb0
    have ty : (ShpStr 9 (wordsS d L S N)).ok (sl a 19) W := hp 13 (by decide)
    obtain ⟨b,ty,hh⟩ := ty
    have ty : sl a 19 = .slice (some ⟨b,0,none⟩) 5 5 := ty
    refine ite_y rfl (wp_enter 127 #[.slice (some ⟨b,0,none⟩) 5 5,.string ⟨#[32]⟩] ?_ (Join_s b 9 (wordsS d L S N) [32] 5 W rfl hh (by decide) (Nat.le_trans (textW_len (d := d) (l := L) (s := S) (n := N) (by omega) (by omega) (by omega) (by omega)) (by decide))) ?_)
    ·simp only [execOp,resolve,List.map_toArray,List.map,eval_tmp,eval_func,eval_const,ty]; simp [go_sem]
    ·rintro e W' ⟨rfl,hw⟩; exact ⟨_,rfl,_,rfl,hw,rfl⟩
   ·intro a W hb0 hs hp hi; have hb := undrew hb0; clear hb0
    have t20 : sl a 20 = .string (strB (textW d L S N)) := hp 14 (by decide)
    exact ite_y rfl (wp_val (sl a 20) rfl ⟨_,rfl,Below.refl _ _,t20⟩)
  intro a w2 hb hs hd hI ht
  have ha := act_is [6,7,8,9,10,11,12,13,14,15,16,17,18,19,20,2] hs hd ht (by decide)
  have t2 : sl a 2 = .string (strB (textW d L S N)) := hI 15 (by decide)
  simp only [List.foldl,t2] at ha
  generalize sl a 6 = u6 at ha
  generalize sl a 7 = u7 at ha
  generalize sl a 8 = u8 at ha
  generalize sl a 9 = u9 at ha
  generalize sl a 10 = u10 at ha
  generalize sl a 11 = u11 at ha
  generalize sl a 12 = u12 at ha
  generalize sl a 13 = u13 at ha
  generalize sl a 14 = u14 at ha
  generalize sl a 15 = u15 at ha
  generalize sl a 16 = u16 at ha
  generalize sl a 17 = u17 at ha
  generalize sl a 18 = u18 at ha
  generalize sl a 19 = u19 at ha
  generalize sl a 20 = u20 at ha
  simp only [Act.put,List.setIfInBounds_toArray,List.set_cons_zero,List.set_cons_succ] at ha
  rw [ha]
  clear ha hI ht
  have HB2 : Hid (Below w.heap.size w w2) := bl HB.out hb HB.out.size
  clear hb
  go_wp2
  go_ret
  exact ⟨by rw [HR.out]; rfl,HB2.out⟩
 ·have HR : Hid (textS l s n d = []) := if_neg (by simpa using h)
  generalize checkS l s n = k at *
  go_enter Tryz.func72,Tryz.ntmps72
  go_wp2_with fail
  refine Calls.mono (HC.out _) ?_
  rintro e w1 ⟨rfl,hb⟩
  have HB : Hid (Below w.heap.size w w1) := bl (al (Below.refl _ _) (Nat.le_refl _)) hb (by simp)
  clear hb
  go_wp2
  go_ret
  exact ⟨by rw [HR.out]; rfl,HB.out⟩
set_option maxRecDepth 100000 in
set_option maxHeartbeats 4000000 in
theorem RText_any (l s n : Int) (d : Nat) (hd : d < 4294967296) (w : World) (hl2 : l ≤ 9223372036854775807) (hT : Tab10 w) :
  Calls Tryz.prog 31 #[.agg #[.int .i64 l,.int .i64 s,.int .i64 n,.int .u32 (d : Int)]] w fun e w' => e = .returned (.string (strB (textS l s n d))) ∧ Below w.heap.size w w' := by
 have HC := Lib.hid (fun w => RCheck_any l s n d w hl2)
 have HX : Hid (∀ o,(w.alloc o).heap[w.heap.size]? = some o) := fun o => hnew rfl
 have HT := Lib.hid hT
 clear hT
 rcases checkS_cases l s n with h | h
 ·obtain ⟨h0,h1,h2,-,h4,h5,h6,-,h7⟩ := checkS_zero h
  obtain ⟨L,rfl⟩ := Int.eq_ofNat_of_zero_le h0
  obtain ⟨S,rfl⟩ := Int.eq_ofNat_of_zero_le (show 0 ≤ s by omega)
  obtain ⟨N,rfl⟩ := Int.eq_ofNat_of_zero_le (show 0 ≤ n by omega)
  have hL : L ≤ 9223372036854775807 := by omega
  have hS : S ≤ 9223372036854775807 := by omega
  have hN : N ≤ 9223372036854775807 := by omega
  have hD : d ≤ 9223372036854775807 := by omega
  have HR : Hid (textS L S N d = textW d L S N) := if_pos h
  rw [h] at HC
  clear h h0 h1 h2 h4 h5 h6 h7
  go_enter Tryz.func31,Tryz.ntmps31
  go_wp2_with fail
  refine Calls.mono (HC.out _) ?_
  rintro e w1 ⟨rfl,hb⟩
  obtain ⟨c0,c1,c2,c3⟩ := cells4k (HX.out _) hb
  have HB : Hid (Below w.heap.size w w1) := bl (al (Below.refl _ _) (Nat.le_refl _)) hb (by simp)
  have HT1 := Lib.hid (HT.out.keep HB.out)
  clear hb
  go_wp2
  have zd := dd_len (u := d) (by omega)
  have zL := dd_len (u := L) (by omega)
  have zS := dd_len (u := S) (by omega)
  have zN := dd_len (u := N) (by omega)
  refine wp_region_shapes (fun ix => ([.val (.pointer (some ⟨w.heap.size,3,none⟩)),.val (.int .u32 (d : Int)),.val (.int .i64 (d : Int)),.val (.string (strB (Lib.decDigits d))),.val (.string (⟨#[111,98,106,101,99,116,32]⟩ ++ (strB (Lib.decDigits d)))),.val (.string ((⟨#[111,98,106,101,99,116,32]⟩ ++ (strB (Lib.decDigits d))) ++ ⟨#[32]⟩)),.val (.pointer (some ⟨w.heap.size,0,none⟩)),.val (.int .i64 (L : Nat)),.val (.string (strB (Lib.decDigits L))),.val (.string (((⟨#[111,98,106,101,99,116,32]⟩ ++ (strB (Lib.decDigits d))) ++ ⟨#[32]⟩) ++ (strB (Lib.decDigits L)))),.val (.string ((((⟨#[111,98,106,101,99,116,32]⟩ ++ (strB (Lib.decDigits d))) ++ ⟨#[32]⟩) ++ (strB (Lib.decDigits L))) ++ ⟨#[32]⟩)),.val (.pointer (some ⟨w.heap.size,1,none⟩)),.val (.int .i64 (S : Nat)),.val (.string (strB (Lib.decDigits S))),.val (.string (((((⟨#[111,98,106,101,99,116,32]⟩ ++ (strB (Lib.decDigits d))) ++ ⟨#[32]⟩) ++ (strB (Lib.decDigits L))) ++ ⟨#[32]⟩) ++ (strB (Lib.decDigits S)))),.val (.string ((((((⟨#[111,98,106,101,99,116,32]⟩ ++ (strB (Lib.decDigits d))) ++ ⟨#[32]⟩) ++ (strB (Lib.decDigits L))) ++ ⟨#[32]⟩) ++ (strB (Lib.decDigits S))) ++ ⟨#[32]⟩)),.val (.pointer (some ⟨w.heap.size,2,none⟩)),.val (.int .i64 (N : Nat)),.val (.string (strB (Lib.decDigits N))),.val (.string (((((((⟨#[111,98,106,101,99,116,32]⟩ ++ (strB (Lib.decDigits d))) ++ ⟨#[32]⟩) ++ (strB (Lib.decDigits L))) ++ ⟨#[32]⟩) ++ (strB (Lib.decDigits S))) ++ ⟨#[32]⟩) ++ (strB (Lib.decDigits N)))),.val (.string (((((((⟨#[111,98,106,101,99,116,32]⟩ ++ (strB (Lib.decDigits d))) ++ ⟨#[32]⟩) ++ (strB (Lib.decDigits L))) ++ ⟨#[32]⟩) ++ (strB (Lib.decDigits S))) ++ ⟨#[32]⟩) ++ (strB (Lib.decDigits N))))][ix]?).getD (.any)) 26 rfl (by kernel_rfl) (by decide) (by decide) (by decide) ?_ ?_
  ·refine ⟨?_,?_,?_,?_,?_,?_,?_,?_,?_,?_,?_,?_,?_,?_,?_,?_,?_,?_,?_,?_,?_,trivial⟩
   ·intro a W hb0 hs hp hi; have hb := undrew hb0; clear hb0
    have t1 : sl a 1 = .pointer (some ⟨w.heap.size,0,none⟩) := hi 1 (by decide)
    refine ite_y rfl (wp_val (.pointer (some ⟨w.heap.size,3,none⟩)) ?_ ?_)
    ·simp only [execOp,eval_tmp,eval_const,t1]; simp [go_sem]
    ·exact ⟨_,rfl,Below.refl _ _,rfl⟩
   ·intro a W hb0 hs hp hi; have hb := undrew hb0; clear hb0
    have tt : sl a 6 = .pointer (some ⟨w.heap.size,3,none⟩) := hp 0 (by decide)
    have dd := (hb.cell (p := ⟨w.heap.size,3,none⟩) (lt_of_cell c3)).trans c3
    refine ite_y rfl (wp_val (.int .u32 (d : Int)) ?_ ?_)
    ·simp only [execOp,eval_tmp,tt]; simp [go_sem,dd]
    ·exact ⟨_,rfl,Below.refl _ _,rfl⟩
   ·intro a W hb0 hs hp hi; have hb := undrew hb0; clear hb0
    have tt : sl a 7 = .int .u32 (d : Int) := hp 1 (by decide)
    refine ite_y rfl (wp_val (.int .i64 (d : Int)) ?_ ?_)
    ·simp only [execOp,eval_tmp,tt]; simp [go_sem,Tryz.underlying23,Tryz.underlying3,show IntKind.i64.wrap (d : Int) = d by rw [IntKind.wrap_i64]; omega]
    ·exact ⟨_,rfl,Below.refl _ _,rfl⟩
   ·intro a W hb0 hs hp hi; have hb := undrew hb0; clear hb0
    have t8 : sl a 8 = .int .i64 (d : Int) := hp 2 (by decide)
    refine ite_y rfl (wp_enter 91 #[.int .i64 (d : Nat)] ?_ (Itoa_any d hD W (HT1.out.keep hb)) ?_)
    ·simp only [execOp,resolve,List.map_toArray,List.map,eval_tmp,eval_func,eval_const,t8]; simp [go_sem]
    ·rintro e W' ⟨rfl,hw⟩; exact ⟨_,rfl,_,rfl,hw,rfl⟩
   ·intro a W hb0 hs hp hi; have hb := undrew hb0; clear hb0
    have ti0 : sl a 9 = .string (strB (Lib.decDigits d)) := hp 3 (by decide)
    refine ite_y rfl (wp_val (.string (⟨#[111,98,106,101,99,116,32]⟩ ++ (strB (Lib.decDigits d)))) ?_ ?_)
    ·simp only [execOp,eval_tmp,eval_const,ti0]; simp [go_sem,strB_size] <;> omega
    ·exact ⟨_,rfl,Below.refl _ _,rfl⟩
   ·intro a W hb0 hs hp hi; have hb := undrew hb0; clear hb0
    have ti0 : sl a 10 = .string (⟨#[111,98,106,101,99,116,32]⟩ ++ (strB (Lib.decDigits d))) := hp 4 (by decide)
    refine ite_y rfl (wp_val (.string ((⟨#[111,98,106,101,99,116,32]⟩ ++ (strB (Lib.decDigits d))) ++ ⟨#[32]⟩)) ?_ ?_)
    ·simp only [execOp,eval_tmp,eval_const,ti0]; simp [go_sem,strB_size] <;> omega
    ·exact ⟨_,rfl,Below.refl _ _,rfl⟩
   ·intro a W hb0 hs hp hi; have hb := undrew hb0; clear hb0
    have t1 : sl a 1 = .pointer (some ⟨w.heap.size,0,none⟩) := hi 1 (by decide)
    refine ite_y rfl (wp_val (.pointer (some ⟨w.heap.size,0,none⟩)) ?_ ?_)
    ·simp only [execOp,eval_tmp,eval_const,t1]; simp [go_sem]
    ·exact ⟨_,rfl,Below.refl _ _,rfl⟩
   ·intro a W hb0 hs hp hi; have hb := undrew hb0; clear hb0
    have tt : sl a 12 = .pointer (some ⟨w.heap.size,0,none⟩) := hp 6 (by decide)
    have dd := (hb.cell (p := ⟨w.heap.size,0,none⟩) (lt_of_cell c0)).trans c0
    refine ite_y rfl (wp_val (.int .i64 (L : Nat)) ?_ ?_)
    ·simp only [execOp,eval_tmp,tt]; simp [go_sem,dd]
    ·exact ⟨_,rfl,Below.refl _ _,rfl⟩
   ·intro a W hb0 hs hp hi; have hb := undrew hb0; clear hb0
    have t13 : sl a 13 = .int .i64 (L : Nat) := hp 7 (by decide)
    refine ite_y rfl (wp_enter 91 #[.int .i64 (L : Nat)] ?_ (Itoa_any L hL W (HT1.out.keep hb)) ?_)
    ·simp only [execOp,resolve,List.map_toArray,List.map,eval_tmp,eval_func,eval_const,t13]; simp [go_sem]
    ·rintro e W' ⟨rfl,hw⟩; exact ⟨_,rfl,_,rfl,hw,rfl⟩
   ·intro a W hb0 hs hp hi; have hb := undrew hb0; clear hb0
    have ti0 : sl a 11 = .string ((⟨#[111,98,106,101,99,116,32]⟩ ++ (strB (Lib.decDigits d))) ++ ⟨#[32]⟩) := hp 5 (by decide)
    have ti1 : sl a 14 = .string (strB (Lib.decDigits L)) := hp 8 (by decide)
    refine ite_y rfl (wp_val (.string (((⟨#[111,98,106,101,99,116,32]⟩ ++ (strB (Lib.decDigits d))) ++ ⟨#[32]⟩) ++ (strB (Lib.decDigits L)))) ?_ ?_)
    ·simp only [execOp,eval_tmp,eval_const,ti0,ti1]; simp [go_sem,strB_size] <;> omega
    ·exact ⟨_,rfl,Below.refl _ _,rfl⟩
   ·intro a W hb0 hs hp hi; have hb := undrew hb0; clear hb0
    have ti0 : sl a 15 = .string (((⟨#[111,98,106,101,99,116,32]⟩ ++ (strB (Lib.decDigits d))) ++ ⟨#[32]⟩) ++ (strB (Lib.decDigits L))) := hp 9 (by decide)
    refine ite_y rfl (wp_val (.string ((((⟨#[111,98,106,101,99,116,32]⟩ ++ (strB (Lib.decDigits d))) ++ ⟨#[32]⟩) ++ (strB (Lib.decDigits L))) ++ ⟨#[32]⟩)) ?_ ?_)
    ·simp only [execOp,eval_tmp,eval_const,ti0]; simp [go_sem,strB_size] <;> omega
    ·exact ⟨_,rfl,Below.refl _ _,rfl⟩
   ·intro a W hb0 hs hp hi; have hb := undrew hb0; clear hb0
    have t1 : sl a 1 = .pointer (some ⟨w.heap.size,0,none⟩) := hi 1 (by decide)
    refine ite_y rfl (wp_val (.pointer (some ⟨w.heap.size,1,none⟩)) ?_ ?_)
    ·simp only [execOp,eval_tmp,eval_const,t1]; simp [go_sem]
    ·exact ⟨_,rfl,Below.refl _ _,rfl⟩
   ·intro a W hb0 hs hp hi; have hb := undrew hb0; clear hb0
    have tt : sl a 17 = .pointer (some ⟨w.heap.size,1,none⟩) := hp 11 (by decide)
    have dd := (hb.cell (p := ⟨w.heap.size,1,none⟩) (lt_of_cell c1)).trans c1
    refine ite_y rfl (wp_val (.int .i64 (S : Nat)) ?_ ?_)
    ·simp only [execOp,eval_tmp,tt]; simp [go_sem,dd]
    ·exact ⟨_,rfl,Below.refl _ _,rfl⟩
   ·intro a W hb0 hs hp hi; have hb := undrew hb0; clear hb0
    have t18 : sl a 18 = .int .i64 (S : Nat) := hp 12 (by decide)
    refine ite_y rfl (wp_enter 91 #[.int .i64 (S : Nat)] ?_ (Itoa_any S hS W (HT1.out.keep hb)) ?_)
    ·simp only [execOp,resolve,List.map_toArray,List.map,eval_tmp,eval_func,eval_const,t18]; simp [go_sem]
    ·rintro e W' ⟨rfl,hw⟩; exact ⟨_,rfl,_,rfl,hw,rfl⟩
   ·intro a W hb0 hs hp hi; have hb := undrew hb0; clear hb0
    have ti0 : sl a 16 = .string ((((⟨#[111,98,106,101,99,116,32]⟩ ++ (strB (Lib.decDigits d))) ++ ⟨#[32]⟩) ++ (strB (Lib.decDigits L))) ++ ⟨#[32]⟩) := hp 10 (by decide)
    have ti1 : sl a 19 = .string (strB (Lib.decDigits S)) := hp 13 (by decide)
    refine ite_y rfl (wp_val (.string (((((⟨#[111,98,106,101,99,116,32]⟩ ++ (strB (Lib.decDigits d))) ++ ⟨#[32]⟩) ++ (strB (Lib.decDigits L))) ++ ⟨#[32]⟩) ++ (strB (Lib.decDigits S)))) ?_ ?_)
    ·simp only [execOp,eval_tmp,eval_const,ti0,ti1]; simp [go_sem,strB_size] <;> omega
    ·exact ⟨_,rfl,Below.refl _ _,rfl⟩
   ·intro a W hb0 hs hp hi; have hb := undrew hb0; clear hb0
    have ti0 : sl a 20 = .string (((((⟨#[111,98,106,101,99,116,32]⟩ ++ (strB (Lib.decDigits d))) ++ ⟨#[32]⟩) ++ (strB (Lib.decDigits L))) ++ ⟨#[32]⟩) ++ (strB (Lib.decDigits S))) := hp 14 (by decide)
    refine ite_y rfl (wp_val (.string ((((((⟨#[111,98,106,101,99,116,32]⟩ ++ (strB (Lib.decDigits d))) ++ ⟨#[32]⟩) ++ (strB (Lib.decDigits L))) ++ ⟨#[32]⟩) ++ (strB (Lib.decDigits S))) ++ ⟨#[32]⟩)) ?_ ?_)
    ·simp only [execOp,eval_tmp,eval_const,ti0]; simp [go_sem,strB_size] <;> omega
    ·exact ⟨_,rfl,Below.refl _ _,rfl⟩
   ·intro a W hb0 hs hp hi; have hb := undrew hb0; clear hb0
    have t1 : sl a 1 = .pointer (some ⟨w.heap.size,0,none⟩) := hi 1 (by decide)
    refine ite_y rfl (wp_val (.pointer (some ⟨w.heap.size,2,none⟩)) ?_ ?_)
    ·simp only [execOp,eval_tmp,eval_const,t1]; simp [go_sem]
    ·exact ⟨_,rfl,Below.refl _ _,rfl⟩
   ·intro a W hb0 hs hp hi; have hb := undrew hb0; clear hb0
    have tt : sl a 22 = .pointer (some ⟨w.heap.size,2,none⟩) := hp 16 (by decide)
    have dd := (hb.cell (p := ⟨w.heap.size,2,none⟩) (lt_of_cell c2)).trans c2
    refine ite_y rfl (wp_val (.int .i64 (N : Nat)) ?_ ?_)
    ·simp only [execOp,eval_tmp,tt]; simp [go_sem,dd]
    ·exact ⟨_,rfl,Below.refl _ _,rfl⟩
   ·intro a W hb0 hs hp hi; have hb := undrew hb0; clear hb0
    have t23 : sl a 23 = .int .i64 (N : Nat) := hp 17 (by decide)
    refine ite_y rfl (wp_enter 91 #[.int .i64 (N : Nat)] ?_ (Itoa_any N hN W (HT1.out.keep hb)) ?_)
    ·simp only [execOp,resolve,List.map_toArray,List.map,eval_tmp,eval_func,eval_const,t23]; simp [go_sem]
    ·rintro e W' ⟨rfl,hw⟩; exact ⟨_,rfl,_,rfl,hw,rfl⟩
   ·intro a W hb0 hs hp hi; have hb := undrew hb0; clear hb0
    have ti0 : sl a 21 = .string ((((((⟨#[111,98,106,101,99,116,32]⟩ ++ (strB (Lib.decDigits d))) ++ ⟨#[32]⟩) ++ (strB (Lib.decDigits L))) ++ ⟨#[32]⟩) ++ (strB (Lib.decDigits S))) ++ ⟨#[32]⟩) := hp 15 (by decide)
    have ti1 : sl a 24 = .string (strB (Lib.decDigits N)) := hp 18 (by decide)
    refine ite_y rfl (wp_val (.string (((((((⟨#[111,98,106,101,99,116,32]⟩ ++ (strB (Lib.decDigits d))) ++ ⟨#[32]⟩) ++ (strB (Lib.decDigits L))) ++ ⟨#[32]⟩) ++ (strB (Lib.decDigits S))) ++ ⟨#[32]⟩) ++ (strB (Lib.decDigits N)))) ?_ ?_)
    ·simp only [execOp,eval_tmp,eval_const,ti0,ti1]; simp [go_sem,strB_size] <;> omega
    ·exact ⟨_,rfl,Below.refl _ _,rfl⟩
   ·intro a W hb0 hs hp hi; have hb := undrew hb0; clear hb0
    have t25 : sl a 25 = .string (((((((⟨#[111,98,106,101,99,116,32]⟩ ++ (strB (Lib.decDigits d))) ++ ⟨#[32]⟩) ++ (strB (Lib.decDigits L))) ++ ⟨#[32]⟩) ++ (strB (Lib.decDigits S))) ++ ⟨#[32]⟩) ++ (strB (Lib.decDigits N))) := hp 19 (by decide)
    exact ite_y rfl (wp_val (sl a 25) rfl ⟨_,rfl,Below.refl _ _,t25⟩)
  intro a w2 hb hs hd hI ht
  have ha := act_is [6,7,8,9,10,11,12,13,14,15,16,17,18,19,20,21,22,23,24,25,2] hs hd ht (by decide)
  have t2 : sl a 2 = .string (((((((⟨#[111,98,106,101,99,116,32]⟩ ++ (strB (Lib.decDigits d))) ++ ⟨#[32]⟩) ++ (strB (Lib.decDigits L))) ++ ⟨#[32]⟩) ++ (strB (Lib.decDigits S))) ++ ⟨#[32]⟩) ++ (strB (Lib.decDigits N))) := hI 20 (by decide)
  simp only [List.foldl,t2] at ha
  generalize sl a 6 = u6 at ha
  generalize sl a 7 = u7 at ha
  generalize sl a 8 = u8 at ha
  generalize sl a 9 = u9 at ha
  generalize sl a 10 = u10 at ha
  generalize sl a 11 = u11 at ha
  generalize sl a 12 = u12 at ha
  generalize sl a 13 = u13 at ha
  generalize sl a 14 = u14 at ha
  generalize sl a 15 = u15 at ha
  generalize sl a 16 = u16 at ha
  generalize sl a 17 = u17 at ha
  generalize sl a 18 = u18 at ha
  generalize sl a 19 = u19 at ha
  generalize sl a 20 = u20 at ha
  generalize sl a 21 = u21 at ha
  generalize sl a 22 = u22 at ha
  generalize sl a 23 = u23 at ha
  generalize sl a 24 = u24 at ha
  generalize sl a 25 = u25 at ha
  simp only [Act.put,List.setIfInBounds_toArray,List.set_cons_zero,List.set_cons_succ] at ha
  rw [ha]
  clear ha hI ht
  clear zd zL zS zN
  have HB2 : Hid (Below w.heap.size w w2) := bl HB.out hb HB.out.size
  clear hb
  go_wp2
  go_ret
  refine ⟨?_,HB2.out⟩
  rw [HR.out,textW_eq]
  have e1 : (⟨#[111,98,106,101,99,116,32]⟩ : ByteArray) = strB [111,98,106,101,99,116,32] := rfl
  have e2 : (⟨#[32]⟩ : ByteArray) = strB [32] := rfl
  simp only [e1,e2,txt_app]
  simp
 ·have HR : Hid (textS l s n d = []) := if_neg (by simpa using h)
  generalize checkS l s n = k at *
  go_enter Tryz.func31,Tryz.ntmps31
  go_wp2_with fail
  refine Calls.mono (HC.out _) ?_
  rintro e w1 ⟨rfl,hb⟩
  have HB : Hid (Below w.heap.size w w1) := bl (al (Below.refl _ _) (Nat.le_refl _)) hb (by simp)
  clear hb
  go_wp2
  go_ret
  exact ⟨by rw [HR.out]; rfl,HB.out⟩
end Go.Proofs.YtccaiiigdfieoaaGreatDoor
namespace Go.Proofs.YtccaiiigdfieoaaGreatDoor
open Go.RowKit Go.By
def headC (xs : List UInt8) : Int := if xs.length < 10 then 6 else if xs.getD 0 0 ≠ 1 then 7 else modeC (xs.getD 1 0)
theorem headC_mode {xs : List UInt8} (h : headC xs = 0) : modeC (xs.getD 1 0) = 0 := by
 unfold headC at h
 split at h
 ·cases h
 ·split at h
  ·cases h
  ·exact h
theorem info_head : (Tryz.prog.info? 120).map (·.size) = some 3 := by kernel_rfl
theorem at_get {xs : List UInt8} {i : Nat} {x : UInt8} (h : xs[i]? = some x) : xs.getD i 0 = x := by rw [List.getD_eq_getElem?_getD,h]; rfl
def HRet (w : World) (m : UInt8) (o n : Nat) (code : Int) (e : Ending) (w' : World) : Prop :=
 ∃ q k c,e = .returned (.tuple #[HVal m o n,.slice q k c,.int .i64 code]) ∧ Below w.heap.size w w'
set_option maxRecDepth 100000 in
set_option maxHeartbeats 2000000 in
theorem HRead_short (p : Option Addr) (n c : Nat) (w : World) (hn : n < 10) :
  Calls Tryz.prog 172 #[.slice p n c] w (HRet w 0 0 0 6) := by
 have HN := Lib.hid hn
 go_enter Tryz.func172,Tryz.ntmps172
 go_wp2
 refine bodyPost_ret (res_ctt rfl _ _ _ 120 #[.int .u8 0,.int .u32 0,.int .u32 0] (0,0) _ (.slice none 0 0) (.int .i64 6) rfl ?_ rfl rfl Tryz.underlying120 rfl info_head) rfl ?_
 ·exact hnew rfl
 ·exact ⟨none,0,0,rfl,al (Below.refl _ _) (Nat.le_refl _)⟩
set_option maxRecDepth 100000 in
set_option maxHeartbeats 2000000 in
theorem HRead_version (b o n c : Nat) (w : World) (hn : 10 ≤ n) (x0 : UInt8) (k0 : w.cell? ⟨b,o,none⟩ = some (B8 x0)) (hx : x0 ≠ 1) (hm : n ≤ 9223372036854775807) :
  Calls Tryz.prog 172 #[.slice (some ⟨b,o,none⟩) n c] w (HRet w 0 0 0 7) := by
 have e1 : ((x0.toNat : Int) != 1) = true := bne_iff_ne.2 fun e => hx (UInt8.toNat_inj.1 (by show x0.toNat = 1; omega))
 have HN := Lib.hid hn
 have a0 : ∀ o',(w.alloc o').cell? ⟨b,o,none⟩ = some (B8 x0) := fun _ => calloc k0
 clear hx k0
 go_enter Tryz.func172,Tryz.ntmps172
 go_wp2
 refine bodyPost_ret (res_ctt rfl _ _ _ 120 #[.int .u8 0,.int .u32 0,.int .u32 0] (0,0) _ (.slice none 0 0) (.int .i64 7) rfl ?_ rfl rfl Tryz.underlying120 rfl info_head) rfl ?_
 ·exact hnew rfl
 ·exact ⟨none,0,0,rfl,al (Below.refl _ _) (Nat.le_refl _)⟩
set_option maxRecDepth 100000 in
set_option maxHeartbeats 2000000 in
theorem HRead_mode (b o n c : Nat) (w : World) (hn : 10 ≤ n) (x1 : UInt8) (k0 : w.cell? ⟨b,o,none⟩ = some (B8 1)) (k1 : w.cell? ⟨b,o + 1,none⟩ = some (B8 x1)) (hx : modeC x1 = 8) (hm : n ≤ 9223372036854775807) :
  Calls Tryz.prog 172 #[.slice (some ⟨b,o,none⟩) n c] w (HRet w 0 0 0 8) := by
 have HK : Hid (∀ w,Calls Tryz.prog 177 #[HVal x1 0 0] w fun e w' => e = .returned (.int .i64 8) ∧ Below w.heap.size w w') := fun w => by have := HCheck_any x1 0 0 w; rw [hx] at this; exact this
 have HN := Lib.hid hn
 have a0 : ∀ o',(w.alloc o').cell? ⟨b,o,none⟩ = some (B8 1) := fun _ => calloc k0
 have a1 : ∀ o',(w.alloc o').cell? ⟨b,o + 1,none⟩ = some (B8 x1) := fun _ => calloc k1
 clear hx k0 k1
 go_enter Tryz.func172,Tryz.ntmps172
 go_wp2_with fail
 refine Calls.mono (HK.out _) ?_
 rintro e w1 ⟨rfl,hb1⟩
 obtain ⟨hb,h0,h1,hsz⟩ := two_of hb1
 have HB := Lib.hid hb
 clear hb1 hb
 go_wp2_with (refine wpList_store_row (o := ⟨none,.store 120 (.tmp 2) (.tmp 24),_,_,_,_⟩) rfl 120 (.tmp 2) (.tmp 24) rfl w.heap.size #[.int .u8 0,.int .u32 0,.int .u32 0] rfl rfl _ _ h0 info_head rfl (by simp [Value.oneCell']) ?_)
 refine bodyPost_ret (res_ctt rfl _ _ _ 120 #[.int .u8 0,.int .u32 0,.int .u32 0] (0,0) _ (.slice none 0 0) (.int .i64 8) rfl ?_ rfl rfl Tryz.underlying120 rfl info_head) rfl ?_
 ·exact hrs h0
 ·exact ⟨none,0,0,rfl,below_row HB.out (Nat.le_refl _)⟩
set_option maxRecDepth 100000 in
set_option maxHeartbeats 2000000 in
theorem HRead_good (b o n c : Nat) (xs : List UInt8) (w : World) (h : Sl B8 w (some ⟨b,o,none⟩) n c xs) (hr : Room n) (hn : 10 ≤ n) (x1 : UInt8) (k0 : w.cell? ⟨b,o,none⟩ = some (B8 1)) (k1 : w.cell? ⟨b,o + 1,none⟩ = some (B8 x1)) (hx : modeC x1 = 0) :
  Calls Tryz.prog 172 #[.slice (some ⟨b,o,none⟩) n c] w (HRet w x1 (get4 ((xs.drop 2).take 4)) (get4 ((xs.drop 6).take 4)) 0) := by
 obtain ⟨A,hA⟩ : ∃ A,get4 ((xs.drop 2).take 4) = A := ⟨_,rfl⟩
 obtain ⟨B,hB⟩ : ∃ B,get4 ((xs.drop 6).take 4) = B := ⟨_,rfl⟩
 rw [hA,hB]
 have HA := Lib.hid hA
 have HBB := Lib.hid hB
 clear hA hB
 have HK : Hid (∀ w,Calls Tryz.prog 177 #[HVal x1 0 0] w fun e w' => e = .returned (.int .i64 0) ∧ Below w.heap.size w w') := fun w => by have := HCheck_any x1 0 0 w; rw [hx] at this; exact this
 have HN := Lib.hid hn
 have H := Lib.hid h
 have HR := Lib.hid hr
 have hm := h.bound
 have hle := h.le
 have hmx := h.max
 unfold maxLen at hmx
 have a0 : ∀ o',(w.alloc o').cell? ⟨b,o,none⟩ = some (B8 1) := fun _ => calloc k0
 have a1 : ∀ o',(w.alloc o').cell? ⟨b,o + 1,none⟩ = some (B8 x1) := fun _ => calloc k1
 clear hx k0 k1 h hr
 go_enter Tryz.func172,Tryz.ntmps172
 go_wp2_with fail
 refine Calls.mono (HK.out _) ?_
 rintro e w1 ⟨rfl,hb1⟩
 obtain ⟨hb,h0,h1,hsz⟩ := two_of hb1
 have HB := Lib.hid hb
 clear hb1 hb a0 a1
 go_wp2_with fail
 refine Calls.mono (SGet_any _ _ _ _ _ (Sl.part (k := 2) (m := 4) (H.out.keep HB.out) (by omega))) ?_
 rintro e w2 ⟨rfl,hb2⟩
 rw [if_pos rfl,HA.out]
 have h0' := (hb2.block _ (by omega)).trans h0
 have h1' := (hb2.block _ (by omega)).trans h1
 have HB2 := Lib.hid (bl HB.out hb2 HB.out.size)
 have hs2 := hb2.size
 obtain ⟨j0,j1,j2⟩ := cells_three h1'
 have z1 := frozen_of_row _ _ 1 _ _ h1'
 have z2 := frozen_of_row _ _ 2 _ _ h1'
 clear hb2 h0 h1
 go_wp2_with fail
 have HB3 := Lib.hid (HB2.out.setCell (p := ⟨w.heap.size + 1,1,none⟩) (by simp) (.int .u32 (A : Nat)))
 refine Calls.mono (SGet_any _ _ _ _ _ (Sl.part (k := 6) (m := 4) (H.out.keep HB3.out) (by omega))) ?_
 rintro e w3 ⟨rfl,hb3⟩
 rw [if_pos rfl,HBB.out]
 have h0 : w3.heap[w.heap.size]? = some (.cells #[.int .u8 0,.int .u32 0,.int .u32 0] 120 (0,0)) := (hb3.block _ (by simp [World.setCell]; omega)).trans (hsc h0' (by simp))
 have h1 : w3.heap[w.heap.size + 1]? = some (.cells #[B8 x1,.int .u32 (A : Nat),.int .u32 0] 120 (0,0)) := (hb3.block _ (by simp [World.setCell]; omega)).trans (hss h1')
 have HB4 := Lib.hid (bl HB3.out hb3 HB3.out.size)
 have hs3 : w.heap.size + 2 ≤ w3.heap.size := by have := hb3.size; simp [World.setCell] at this; omega
 clear hb3 h0' h1' z1 z2 j0 j1 j2 hs2 hsz
 have z2 := frozen_of_row _ _ 2 _ _ h1
 obtain ⟨j0,j1,j2⟩ := cells_three h1
 go_wp2_with fail
 have HB5 := Lib.hid (HB4.out.setCell (p := ⟨w.heap.size + 1,2,none⟩) (by simp) (.int .u32 (B : Nat)))
 have h0' : (w3.setCell ⟨w.heap.size + 1,2,none⟩ (.int .u32 (B : Nat))).heap[w.heap.size]? = some (.cells #[.int .u8 0,.int .u32 0,.int .u32 0] 120 (0,0)) := hsc h0 (by simp)
 have h1' : (w3.setCell ⟨w.heap.size + 1,2,none⟩ (.int .u32 (B : Nat))).heap[w.heap.size + 1]? = some (.cells #[B8 x1,.int .u32 (A : Nat),.int .u32 (B : Nat)] 120 (0,0)) := hss h1
 have hs4 : w.heap.size + 2 ≤ (w3.setCell ⟨w.heap.size + 1,2,none⟩ (.int .u32 (B : Nat))).heap.size := by simp [World.setCell]; omega
 clear z2 j0 j1 j2 h0 h1 hs3
 generalize w3.setCell ⟨w.heap.size + 1,2,none⟩ (.int .u32 (B : Nat)) = w4 at *
 obtain ⟨c0,c1,c2⟩ := cells_three h1'
 have S := Lib.hid (H.out.keep HB5.out)
 have h10 : (10 : Int) ≤ (n : Int) := by omega
 clear HB HB2 HB3 HB4
 refine wp_region_tail (fun ix => ([.val (.agg #[B8 x1,.int .u32 (A : Nat),.int .u32 (B : Nat)]),.val (.slice (some ⟨b,o,none⟩) n c),.val (.slice (if c = 10 then some ⟨b,o,none⟩ else some ⟨b,o + 10,none⟩) (n - 10) (c - 10)),.bytes (xs.drop 10),.any,.any,.any][ix]?).getD (.any)) 44 4 rfl (by kernel_rfl) (by decide) (by decide) (by decide) (by decide) ?_ ?_
 ·refine ⟨?_,?_,?_,?_,trivial⟩
  ·intro a W hb0 hs hp hi; have hb := undrew hb0; clear hb0
   have tt : sl a 5 = .pointer (some ⟨(w.heap.size + 1),0,none⟩) := hi 5 (by decide)
   have dd0 := (hb.cell (p := ⟨(w.heap.size + 1),0,none⟩) (lt_of_cell c0)).trans c0
   have dd1 := (hb.cell (p := ⟨(w.heap.size + 1),1,none⟩) (lt_of_cell c1)).trans c1
   have dd2 := (hb.cell (p := ⟨(w.heap.size + 1),2,none⟩) (lt_of_cell c2)).trans c2
   refine ite_y rfl (wp_val (.agg #[B8 x1,.int .u32 (A : Nat),.int .u32 (B : Nat)]) ?_ ?_)
   ·simp only [execOp,eval_tmp,tt]; simp [go_sem,dd0,dd1,dd2]
   ·exact ⟨_,rfl,Below.refl _ _,rfl⟩
  ·intro a W hb0 hs hp hi; have hb := undrew hb0; clear hb0
   have t0 : sl a 0 = .slice (some ⟨b,o,none⟩) n c := hi 0 (by decide)
   exact ite_y rfl (wp_val (sl a 0) rfl ⟨_,rfl,Below.refl _ _,t0⟩)
  ·intro a W hb0 hs hp hi; have hb := undrew hb0; clear hb0
   have t41 : sl a 41 = .slice (some ⟨b,o,none⟩) n c := hp 1 (by decide)
   refine ite_y rfl (wp_val (.slice (if c = 10 then some ⟨b,o,none⟩ else some ⟨b,o + 10,none⟩) (n - 10) (c - 10)) ?_ ?_)
   ·simp only [execOp,eval_tmp,eval_const,t41]; simp [go_sem,h10]
   ·exact ⟨_,rfl,Below.refl _ _,rfl⟩
  ·intro a W hb0 hs hp hi; have hb := undrew hb0; clear hb0
   have t42 : sl a 42 = .slice (if c = 10 then some ⟨b,o,none⟩ else some ⟨b,o + 10,none⟩) (n - 10) (c - 10) := hp 2 (by decide)
   refine ite_y rfl (wp_enter 129 #[.slice (if c = 10 then some ⟨b,o,none⟩ else some ⟨b,o + 10,none⟩) (n - 10) (c - 10)] ?_ (CloneB_any _ _ _ _ _ (Sl.tail 10 (S.out.keep hb) HN.out) (HR.out.le (by omega))) ?_)
   ·simp only [execOp,resolve,List.map_toArray,List.map,eval_tmp,eval_func,eval_const,t42]; simp [go_sem]
   ·rintro e W' ⟨q5,g5,rfl,o5,hw⟩; exact ⟨_,rfl,_,rfl,hw,q5,_,g5,rfl,Sl.of_owns o5⟩
 intro a w9 hb hs hd hI ht
 have ha := act_is [40,41,42,43,3,4] hs hd ht (by decide)
 have t40 : sl a 40 = .agg #[B8 x1,.int .u32 (A : Nat),.int .u32 (B : Nat)] := hI 0 (by decide)
 have y43 := hI 3 (by decide)
 obtain ⟨q9,n9,c9,t43,z43⟩ := y43
 simp only [List.foldl,t40,t43] at ha
 generalize sl a 41 = u41 at ha
 generalize sl a 42 = u42 at ha
 generalize sl a 3 = u3 at ha
 generalize sl a 4 = u4 at ha
 simp only [Act.put,List.setIfInBounds_toArray,List.set_cons_zero,List.set_cons_succ] at ha
 rw [ha]; clear ha hI ht hs hd
 simp only [List.drop_succ_cons,List.drop_zero]
 have h0 := (hb.block _ (by omega)).trans h0'
 have HB6 := Lib.hid (bl HB5.out hb HB5.out.size)
 clear hb h0' h1' c0 c1 c2 h10
 go_wp2_with (refine wpList_store_row (o := ⟨none,.store 120 (.tmp 2) (.tmp 40),_,_,_,_⟩) rfl 120 (.tmp 2) (.tmp 40) rfl w.heap.size #[B8 x1,.int .u32 (A : Nat),.int .u32 (B : Nat)] rfl rfl _ _ h0 info_head rfl (by simp [Value.oneCell']) ?_)
 refine bodyPost_ret (res_ctt rfl _ _ _ 120 #[B8 x1,.int .u32 (A : Nat),.int .u32 (B : Nat)] (0,0) _ (.slice q9 n9 c9) (.int .i64 0) rfl ?_ rfl rfl Tryz.underlying120 rfl info_head) rfl ?_
 ·exact hrs h0
 ·exact ⟨_,_,_,rfl,below_row HB6.out (Nat.le_refl _)⟩
theorem HRead_any (p : Option Addr) (n c : Nat) (xs : List UInt8) (w : World) (h : Sl B8 w p n c xs) (hr : Room n) :
  Calls Tryz.prog 172 #[.slice p n c] w (if headC xs = 0 then HRet w (xs.getD 1 0) (get4 ((xs.drop 2).take 4)) (get4 ((xs.drop 6).take 4)) 0 else HRet w 0 0 0 (headC xs)) := by
 have hl := h.len
 unfold headC
 by_cases h10 : n < 10
 ·rw [if_pos (by omega : xs.length < 10),if_neg (by decide)]
  exact HRead_short p n c w h10
 ·rw [if_neg (by omega : ¬ xs.length < 10)]
  obtain ⟨b,o,x0,rfl,k0,y0⟩ := h.at 0 (by omega)
  obtain ⟨_,_,x1,e1,k1,y1⟩ := h.at 1 (by omega)
  cases e1
  rw [Nat.add_zero] at k0
  rw [at_get y0.out,at_get y1.out]
  by_cases h0 : x0 = 1
  ·have e : (if x0 ≠ 1 then 7 else modeC x1) = modeC x1 := if_neg (by simp [h0])
   rw [e]
   subst h0
   rcases modeC_range x1 with h1 | h1
   ·rw [h1,if_pos rfl]
    exact HRead_good b o n c xs w h hr (by omega) x1 k0 k1 h1
   ·rw [h1,if_neg (by decide)]
    exact HRead_mode b o n c w (by omega) x1 k0 k1 h1 h.bound
  ·have e : (if x0 ≠ 1 then 7 else modeC x1) = 7 := if_pos h0
   rw [e,if_neg (by decide)]
   exact HRead_version b o n c w (by omega) x0 k0 h0 h.bound
end Go.Proofs.YtccaiiigdfieoaaGreatDoor
namespace Go.By
open Go.RowKit
theorem heap_setCells {g T : Nat} : ∀ (vs : List Value) (o : Nat) (w : World) (cur : List Value),w.heap[g]? = some (.cells cur.toArray T (0,0)) → o + vs.length ≤ cur.length →
  (w.setCells g o vs).heap[g]? = some (.cells (cur.take o ++ vs ++ cur.drop (o + vs.length)).toArray T (0,0))
 | [],o,w,cur,h,_ => by simpa [World.setCells] using h
 | v :: r,o,w,cur,h,hl => by
  have hl' : o + (r.length + 1) ≤ cur.length := hl
  have h1 : (w.setCell ⟨g,o,none⟩ v).heap[g]? = some (.cells (cur.set o v).toArray T (0,0)) := by
   rw [hss h]; simp
  rw [World.setCells,heap_setCells r (o + 1) _ _ h1 (by rw [List.length_set]; omega)]
  congr 3
  apply List.ext_getElem?
  intro j
  simp only [List.getElem?_append,List.length_append,List.length_take,List.length_set,List.length_cons,List.getElem?_take,List.getElem?_drop,List.getElem?_set,List.getElem?_cons,show min (o + 1) cur.length = o + 1 by omega,show min o cur.length = o by omega]
  by_cases c1 : j < o
  ·simp [c1,show j < o + 1 by omega,show j < o + 1 + r.length by omega,show j < o + (r.length + 1) by omega,show ¬ o = j by omega]
  ·by_cases c2 : j = o
   ·subst c2; simp [show j < j + 1 + r.length by omega,show j < cur.length by omega]
   ·by_cases c3 : j < o + 1 + r.length
    ·simp [c1,c3,show ¬ j < o + 1 by omega,show j < o + (r.length + 1) by omega,show ¬ j - o = 0 by omega,show j - o - 1 = j - (o + 1) by omega]
    ·simp [c1,c3,show ¬ j < o + (r.length + 1) by omega,show ¬ o = o + 1 + r.length + (j - (o + 1 + r.length)) by omega,show o + (r.length + 1) + (j - (o + (r.length + 1))) = o + 1 + r.length + (j - (o + 1 + r.length)) by omega]
theorem grownBy_setCell (w : World) (g o : Nat) (v : Value) : w.grownBy (w.setCell ⟨g,o,none⟩ v) (some g) :=
 ⟨rfl,rfl,rfl,by simp,fun i hi hne => by
  have e : i ≠ g := fun e => hne (by rw [e])
  have := hsc (w := w) (a := ⟨g,o,none⟩) (v := v) (x := w.heap[i]) (i := i) (Array.getElem?_eq_getElem hi) e
  rw [this,Array.getElem?_eq_getElem hi]⟩
theorem grownBy_setCells (g : Nat) : ∀ (vs : List Value) (o : Nat) (w : World),w.grownBy (w.setCells g o vs) (some g)
 | [],_,w => World.grownBy.refl _ _
 | v :: r,o,w => grown_trans (grownBy_setCell w g o v) (grownBy_setCells g r (o + 1) _)
theorem grownBy_drew (w : World) (row : Option Nat) : w.grownBy w.drew row := ⟨rfl,rfl,rfl,Nat.le_refl _,fun _ _ _ => rfl⟩
theorem owns2_shut {w : World} {base T n c g : Nat} {cur L : List Value} (hg : base ≤ g) (hh : w.heap[g]? = some (.cells (List.toArray cur) T (0,0))) (h1 : n ≤ c) (h2 : c ≤ maxLen) (h3 : cur.length = c * 2) (h4 : cur.take (n * 2) = L) :
  w.ownsRow base T 2 (.slice (some ⟨g,0,none⟩) n c) n L :=
 ⟨by rw [← h4,List.length_take]; omega,.inr ⟨g,c,cur.toArray,rfl,hg,hh,h1,h2,by simpa using h3,by simpa using h4⟩⟩
theorem cell_arr {w : World} {g T : Nat} {cur : List Value} (h : w.heap[g]? = some (.cells (List.toArray cur) T (0,0))) (j : Nat) : w.cell? ⟨g,j,none⟩ = cur[j]? := by
 rw [cell_of_row _ _ j _ T (0,0) h]; simp
theorem frozen_arr {w : World} {g T : Nat} {cur : List Value} (h : w.heap[g]? = some (.cells (List.toArray cur) T (0,0))) (j : Nat) : w.frozen? ⟨g,j,none⟩ = false := frozen_of_row _ _ j _ _ h
theorem run_copy_two {P : Program} (w : World) (dT sT ty elem : TypeId) (b o dLen dCap : Nat) (a : Addr) (sLen sCap : Nat) (cs : List Value)
  (hu : P.underlying dT = some (.slice elem)) (hs : (P.info? elem).map (·.size) = some 2) (hn : cs.length = Nat.min sLen dLen * 2)
  (hsrc : ∀ j v,cs[j]? = some v → w.cell? (a.add j) = some v) (hc : ∀ j,j < cs.length → (w.cell? ⟨b,o + j,none⟩).isSome = true) (hf : ∀ j,j < cs.length → w.frozen? ⟨b,o + j,none⟩ = false) (h1 : ∀ v ∈ cs,v.oneCell' = true) :
  (Builtin.copy_ #[dT,sT] ty #[.slice (some ⟨b,o,none⟩) dLen dCap,.slice (some a) sLen sCap]).run P w = .ok (goInt (Nat.min sLen dLen)) (w.setCells b o cs) := by
 have hl := run_loadCells_list (P := P) w a cs hsrc
 have hst := run_storeCells_cells (P := P) b o cs 0 w (by simpa using hc) (by simpa using hf) h1
 cases hq : P.info? elem with
 | none => simp [hq] at hs
 | some i =>
  have hi : i.size = 2 := by simpa [hq] using hs
  simp only [Nat.add_zero] at hst
  simp [Builtin.copy_,run_underlying hu,Builtin.lenOf,Builtin.firstCells,sizeOf,typeInfo,hq,hi,← hn,hl,hst]
end Go.By
namespace Go.Proofs.YtccaiiigdfieoaaGreatDoor
open Go.RowKit Go.By
theorem RefMul_q (a b : UInt8) (w : World) : Calls Tryz.prog 206 #[B8 a,B8 b] w fun e w' => e = .returned (B8 (Gf.gmul a b)) ∧ w' = w :=
 (RefMul_any a b w).mono fun _ _ ⟨h1,h2⟩ => ⟨h1,h2.symm⟩
theorem map_take_succ {α β : Type} (f : α → β) {xs : List α} {k : Nat} {x : α} (hx : xs[k]? = some x) : (xs.take (k + 1)).map f = (xs.take k).map f ++ [f x] := by
 obtain ⟨hk,hx⟩ := List.getElem?_eq_some_iff.1 hx
 rw [List.take_succ_eq_append_getElem hk,List.map_append,hx]; rfl
set_option maxHeartbeats 400000 in
theorem RScale_any (c : UInt8) (p : Option Addr) (n cc : Nat) (xs : List UInt8) (w : World) (h : Sl B8 w p n cc xs) (hn : Room n) :
  Calls Tryz.prog 205 #[B8 c,.slice p n cc] w (RetB1 5 w (xs.map (Gf.gmul c))) := by
 obtain ⟨i0,hi,hz0,hz1,hz2⟩ := info_parts info_u8
 have hb := h.bound
 have hm := h.max
 have hle := h.le
 have HL := Lib.hid (show n ≤ maxLen by omega)
 clear hm hle
 have H := Lib.hid h; clear h
 go_enter Tryz.func205,Tryz.ntmps205
 go_wp2
 go_loopw [5,6] (fun v i wr => ∃ k : Nat,k ≤ n ∧ i = .int .i64 k ∧ wr.ownsRow w.heap.size 5 1 v k (((xs.take k).map (Gf.gmul c)).map B8) ∧ Below w.heap.size w wr) (fun _ i _ => n - (intOf i).toNat)
 case atStart => exact ⟨0,Nat.zero_le _,rfl,World.ownsRow_nil _ _ _ _,Below.refl _ _⟩
 case round =>
  obtain ⟨k,hk,rfl,ho,hw⟩ := hrel
  obtain ⟨L,eL⟩ : ∃ L,L = ((xs.take k).map (Gf.gmul c)).map B8 := ⟨_,rfl⟩
  rw [← eL] at ho
  have HO := Lib.hid ho; have HEL := Lib.hid eL; clear ho eL
  by_cases hlt : k < n
  ·obtain ⟨b,o,x,rfl,hc,hx⟩ := (H.out.keep hw).at k hlt
   go_wp2_with (first
    | (go_at_call 206; refine (RefMul_any _ _ _).mono ?_; rintro e w' ⟨rfl,rfl⟩)
    | (at_builtin; refine wpList_append_rs _ rfl _ _ 22 rfl w.heap.size 5 i0 (.int .u8 0) 1 Tryz.underlying22 hi hz0 hz1 hz2 rfl _ k _ rfl (HO.out.alloc _) B8 _ _ _ [Gf.gmul c x] (fun _ _ => rfl) rfl (sl_one rfl rfl) ?c1 ?c2 ?c3 ?_))
   case c1 => have := HL.out; omega
   case c2 => unfold Room at hn; omega
   case c3 => have := hw.size; simp; omega
   intro v' w' ho hg
   have HO' := Lib.hid ho; clear ho
   have HB := Lib.hid ((hw.alloc hw.size _).grown hg (by have := hw.size; simp; omega) (fun j hj => (HO.out.lt j hj).1))
   clear hg
   go_wp2
   go_roundw
   case rel => exact ⟨k + 1,by omega,by go_num,by rw [map_take_succ _ hx.out,List.map_append,← HEL.out]; exact HO'.out,HB.out⟩
   case measure => simp [intOf]; omega
  ·go_wp2
   go_ret
   obtain ⟨q,c',hv⟩ := owns_shape HO.out
   have := HO.out
   rw [hv,HEL.out] at this
   have e : xs.take k = xs := List.take_of_length_le (by have := H.out.len; omega)
   rw [e] at this
   exact ⟨q,k,c',by have := H.out.len; show _ = _; rw [List.length_map]; omega,by rw [← hv]; rfl,this,hw⟩
end Go.Proofs.YtccaiiigdfieoaaGreatDoor
namespace Go.Proofs.YtccaiiigdfieoaaGreatDoor
open Go.RowKit Go.By
def col (cs : List UInt8) (xss : List (List UInt8)) (i : Nat) (s : UInt8) : UInt8 := (List.zip cs xss).foldl (fun s r => s ^^^ Gf.gmul r.1 (r.2.getD i 0)) s
theorem combF_get (i m : Nat) (hi : i < m) (xss : List (List UInt8)) (h : ∀ xs,xs ∈ xss → xs.length = m) : ∀ (cs z : List UInt8),z.length = m → (combF z cs xss)[i]? = some (col cs xss i (z.getD i 0)) := by
 induction xss with
 | nil => intro cs z hz; simp [combF,col,List.getElem?_eq_getElem (show i < z.length by omega)]
 | cons x l ih =>
  intro cs z hz
  cases cs with
  | nil => simp [combF,col,List.getElem?_eq_getElem (show i < z.length by omega)]
  | cons c cs =>
   have hx := h x List.mem_cons_self
   have := ih (fun xs hx => h xs (List.mem_cons_of_mem _ hx)) cs (axpy c x z) (by rw [axpy_length _ _ _ (hx.trans hz.symm)]; exact hz)
   have e : (axpy c x z).getD i 0 = z.getD i 0 ^^^ Gf.gmul c (x.getD i 0) := by
    simp [axpy,List.getD,List.getElem?_zipWith,List.getElem?_eq_getElem (show i < z.length by omega),List.getElem?_eq_getElem (show i < x.length by omega)]
   rw [e] at this
   simpa [combF,col] using this
theorem col_step {cs : List UInt8} {xss : List (List UInt8)} {k i : Nat} {c y s : UInt8} {x : List UInt8} (hc : cs[k]? = some c) (hx : xss[k]? = some x) (hy : x[i]? = some y) :
  col (cs.take (k + 1)) (xss.take (k + 1)) i s = col (cs.take k) (xss.take k) i s ^^^ Gf.gmul c y := by
 have e : ∀ j,List.zip (cs.take j) (xss.take j) = (List.zip cs xss).take j := fun j => by simp [List.zip,List.take_zipWith]
 have hz : (List.zip cs xss)[k]? = some (c,x) := by simp [List.zip,List.getElem?_zipWith,hc,hx]
 obtain ⟨hk,hz⟩ := List.getElem?_eq_some_iff.1 hz
 simp only [col,e]
 rw [foldl_take_succ _ _ _ _ hk,hz]
 simp [List.getD,hy]
theorem take_snoc_of {α : Type} {xs : List α} {k : Nat} {x : α} (hx : xs[k]? = some x) : xs.take (k + 1) = xs.take k ++ [x] := by
 obtain ⟨hk,hx⟩ := List.getElem?_eq_some_iff.1 hx
 rw [List.take_succ_eq_append_getElem hk,hx]
theorem noughtS_of {xss : List (List UInt8)} {x0 : List UInt8} {m : Nat} (h0 : xss[0]? = some x0) (hm : x0.length = m) (h : ∀ xs,xs ∈ xss → xs.length = m) : noughtS xss = (List.replicate m 0,0) := by
 cases xss with
 | nil => simp at h0
 | cons x l =>
  simp at h0; subst h0; subst hm
  simp only [noughtS]
  rw [if_pos (List.all_eq_true.2 fun xs hx => by simpa using h xs hx)]
theorem noughtS_not {xss : List (List UInt8)} {x0 x : List UInt8} (h0 : xss[0]? = some x0) (hx : x ∈ xss) (h : x.length ≠ x0.length) : noughtS xss = ([],4) := by
 cases xss with
 | nil => simp at h0
 | cons y l =>
  simp at h0; subst h0
  simp only [noughtS]
  rw [if_neg]
  intro ha
  have := List.all_eq_true.1 ha x hx
  simp at this; exact h this
set_option maxRecDepth 100000 in
set_option maxHeartbeats 1000000 in
theorem RComb_any (p1 p2 : Option Addr) (n1 n2 c1 c2 : Nat) (cs : List UInt8) (xss : List (List UInt8)) (w : World) (h1 : Sl B8 w p1 n1 c1 cs) (h2 : Sl2 w p2 n2 c2 xss) (hr : ∀ xs,xs ∈ xss → Room xs.length) :
  Calls Tryz.prog 155 #[.slice p1 n1 c1,.slice p2 n2 c2] w (RetB 5 w (combS cs xss).1 (combS cs xss).2) := by
 obtain ⟨i0,hi,hz0,hz1,hz2⟩ := info_parts info_u8
 have b1 := h1.bound; have b2 := h2.bound
 by_cases he : n1 = n2
 ·obtain rfl := he
  by_cases h0 : n1 = 0
  ·subst h0
   have e1 : cs = [] := List.eq_nil_of_length_eq_zero h1.len
   have e2 : xss = [] := List.eq_nil_of_length_eq_zero h2.len
   subst e1; subst e2
   clear h1 h2 hr
   go_enter Tryz.func155,Tryz.ntmps155
   go_wp2
   go_ret2
   exact RetB.nil _ _ _ _ (Below.refl _ _)
  ·obtain ⟨b,o,q0,m0,c0,x0,rfl,hc0,hs0,hx0⟩ := h2.at 0 (by omega)
   have hS : Hid (combS cs xss = if (noughtS xss).2 = 0 then (combF (noughtS xss).1 cs xss,0) else ([],4)) := by unfold combS; rw [if_pos (h1.len.trans h2.len.symm)]; rfl
   have hrm : Hid (Room m0) := by have := hr x0 (List.mem_of_getElem? hx0.out); rw [hs0.len] at this; exact this
   have hm0 := hs0.bound
   have hmm := Lib.hid (show m0 ≤ maxLen by have := hs0.le; have := hs0.max; omega)
   have HL0 := Lib.hid hs0.len
   have H1 := Lib.hid h1; have H2 := Lib.hid h2
   have hn0 : ((n1 : Int) == 0) = false := by simp; omega
   have hnp : (0 : Int) < (n1 : Int) := by omega
   rw [Nat.add_zero] at hc0
   clear h1 h2 hr hs0 h0
   go_enter Tryz.func155,Tryz.ntmps155
   go_wp2
   go_loopw [6] (fun i wr => ∃ k : Nat,k ≤ n1 ∧ i = .int .i64 k ∧ Below w.heap.size w wr ∧ Hid (∀ j x,j < k → xss[j]? = some x → x.length = m0)) (fun i _ => n1 - (intOf i).toNat)
   case atStart => exact ⟨0,Nat.zero_le _,rfl,Below.refl _ _,fun j x hj => by omega⟩
   case round =>
    obtain ⟨k,hk,rfl,hw,hj⟩ := hrel
    have hcz : wr.cell? ⟨b,o,none⟩ = some (.slice q0 m0 c0) := (hw.cell (p := ⟨b,o,none⟩) (lt_of_cell hc0)).trans hc0
    by_cases hlt : k < n1
    ·obtain ⟨b',o',q,m,c',row,hp,hc,hs,hy⟩ := H2.out.at k hlt
     cases hp
     have hc' := (hw.cell (p := ⟨b,o + k,none⟩) (lt_of_cell hc)).trans hc
     have hml := Lib.hid hs.len
     have hmb := hs.bound
     have i1 : (k : Int) < (n1 : Int) := by omega
     clear hc hs
     by_cases hm : m = m0
     ·subst hm
      go_wp2
      go_quiet (fail)
      go_wp2
      go_roundw
      case rel => exact ⟨k + 1,by omega,by go_num,⟨hw.os,hw.tape,hw.output,hw.size,hw.block⟩,fun j x hj' hx => by
       by_cases e : j = k
       ·subst e; have := hy.out.symm.trans hx; cases this; exact hml.out
       ·exact hj.out j x (by omega) hx⟩
      case measure => simp [intOf]; omega
     ·have hne : ((m : Int) != (m0 : Int)) = true := by simp; omega
      have HN := Lib.hid hm; clear hm
      go_wp2
      go_quiet (fail)
      go_wp2
      go_ret2
      rw [hS.out,noughtS_not hx0.out (List.mem_of_getElem? hy.out) (by rw [hml.out,HL0.out]; exact HN.out)]
      exact RetB.nil _ _ _ _ ⟨hw.os,hw.tape,hw.output,hw.size,hw.block⟩
    ·have HALL : Hid (∀ xs,xs ∈ xss → xs.length = m0) := fun xs hx => by
      obtain ⟨j,hj',e⟩ := List.getElem_of_mem hx
      exact hj.out j xs (by have := H2.out.len; omega) (by rw [List.getElem?_eq_getElem hj',e])
     have HS : Hid (combS cs xss = (combF (List.replicate m0 0) cs xss,0)) := by
      have := hS.out
      rw [noughtS_of hx0.out HL0.out HALL.out] at this
      exact this
     have HG : Hid (∀ i,i < m0 → (combF (List.replicate m0 0) cs xss)[i]? = some (col cs xss i 0)) := fun i hi' => by
      have := combF_get i m0 hi' xss HALL.out cs (List.replicate m0 0) (by simp)
      rw [this]; simp [List.getD,hi']
     have HLen : Hid ((combF (List.replicate m0 0) cs xss).length = m0) := combF_len cs xss m0 HALL.out _ (by simp)
     clear hS hj
     generalize combF (List.replicate m0 0) cs xss = Y at *
     go_wp2
     go_loopw [7,8] (fun v i wr2 => ∃ k : Nat,k ≤ m0 ∧ i = .int .i64 k ∧ wr2.ownsRow w.heap.size 5 1 v k ((Y.take k).map B8) ∧ Below w.heap.size w wr2) (fun _ i _ => m0 - (intOf i).toNat)
     case atStart => exact ⟨0,Nat.zero_le _,rfl,by simpa using World.ownsRow_nil _ _ _ _,hw⟩
     case round =>
      clear hw hcz
      obtain ⟨k2,hk2,rfl,ho,hw⟩ := hrel
      have hcz : wr.cell? ⟨b,o,none⟩ = some (.slice q0 m0 c0) := (hw.cell (p := ⟨b,o,none⟩) (lt_of_cell hc0)).trans hc0
      obtain ⟨L,eL⟩ : ∃ L,L = (Y.take k2).map B8 := ⟨_,rfl⟩
      rw [← eL] at ho
      have HO := Lib.hid ho; have HEL := Lib.hid eL; clear ho eL
      by_cases hlt2 : k2 < m0
      ·go_wp2
       go_loopw [9,10] (fun s i wr3 => ∃ j : Nat,j ≤ n1 ∧ i = .int .i64 j ∧ s = B8 (col (cs.take j) (xss.take j) k2 0) ∧ wr3.ownsRow w.heap.size 5 1 u7 k2 L ∧ Below w.heap.size w wr3) (fun _ i _ => n1 - (intOf i).toNat)
       case atStart => exact ⟨0,Nat.zero_le _,rfl,by simp [col],HO.out,hw⟩
       case round =>
        clear hw hcz
        obtain ⟨j,hj,rfl,rfl,ho,hw⟩ := hrel
        have HO3 := Lib.hid ho; clear ho
        by_cases hlt3 : j < n1
        ·obtain ⟨b1',o1',cj,rfl,hcj,hcx⟩ := (H1.out.keep hw).at j hlt3
         obtain ⟨b',o',q,m,c',row,hp,hc,hs,hy⟩ := H2.out.at j hlt3
         cases hp
         have hc' := (hw.cell (p := ⟨b,o + j,none⟩) (lt_of_cell hc)).trans hc
         have hmm' : m = m0 := by rw [← hs.len]; exact HALL.out row (List.mem_of_getElem? hy.out)
         subst hmm'
         obtain ⟨b2',o2',x,rfl,hcxx,hxx⟩ := (hs.keep hw).at k2 hlt2
         have HZ := Lib.hid (col_step (s := 0) hcx.out hy.out hxx.out)
         generalize col (cs.take j) (xss.take j) k2 0 = s at HZ ⊢
         have i1 : (j : Int) < (n1 : Int) := by omega
         have i2 : (k2 : Int) < (m : Int) := by omega
         clear hc hs
         go_wp2
         go_quiet ((go_at_call 206; exact Calls.quiet_of_same (RefMul_q _ _ _)))
         go_wp2
         go_roundw
         case rel => exact ⟨j + 1,by omega,by go_num,by rw [HZ.out]; exact B8_congr (bits_xor _ _),HO3.out,⟨hw.os,hw.tape,hw.output,hw.size,hw.block⟩⟩
         case measure => simp [intOf]; omega
        ·have e1 : cs.take j = cs := List.take_of_length_le (by have := H1.out.len; omega)
         have e2 : xss.take j = xss := List.take_of_length_le (by have := H2.out.len; omega)
         rw [e1,e2]
         have HY := Lib.hid (HG.out k2 hlt2)
         generalize col cs xss k2 0 = s at HY ⊢
         clear e1 e2
         go_wp2_with (at_builtin; refine wpList_append_rs _ rfl _ _ 22 rfl w.heap.size 5 i0 (.int .u8 0) 1 Tryz.underlying22 hi hz0 hz1 hz2 rfl _ k2 _ rfl (HO3.out.alloc _) B8 _ _ _ [s] (fun _ _ => rfl) rfl (sl_one rfl rfl) ?c1 ?c2 ?c3 ?_)
         case c1 => have := hmm.out; omega
         case c2 => have := hrm.out; unfold Room at this; omega
         case c3 => have := hw.size; simp; omega
         intro v' w' ho hg
         have HO' := Lib.hid ho; clear ho
         have HB := Lib.hid ((hw.alloc hw.size _).grown hg (by have := hw.size; simp; omega) (fun j hj => (HO3.out.lt j hj).1))
         clear hg
         go_wp2
         go_roundw
         case rel => exact ⟨k2 + 1,by omega,by go_num,by rw [take_snoc_of HY.out,List.map_append,← HEL.out]; exact HO'.out,HB.out⟩
         case measure => simp [intOf]; omega
      ·have hkm : k2 = m0 := by omega
       have HKM := Lib.hid hkm; clear hkm
       go_wp2
       go_ret2
       rw [HS.out]
       obtain ⟨q,c',hv⟩ := owns_shape HO.out
       have := HO.out
       rw [hv,HEL.out] at this
       have e : Y.take k2 = Y := List.take_of_length_le (by have := HLen.out; have := HKM.out; omega)
       rw [e] at this
       exact ⟨q,k2,c',by have := HLen.out; have := HKM.out; show Y.length = k2; omega,by rw [← hv]; rfl,this,hw⟩
 ·have HR := Lib.hid (show combS cs xss = ([],4) by simp [combS,h1.len,h2.len,he])
  have hne : ((n1 : Int) != (n2 : Int)) = true := by simp; omega
  clear h1 h2 hr
  go_enter Tryz.func155,Tryz.ntmps155
  go_wp2
  go_ret2
  rw [HR.out]
  exact RetB.nil _ _ _ _ (Below.refl _ _)
end Go.Proofs.YtccaiiigdfieoaaGreatDoor
namespace Go.Proofs.YtccaiiigdfieoaaGreatDoor
open Go.RowKit Go.By
theorem Same_q (p1 p2 : Option Addr) (n1 n2 c1 c2 : Nat) (xs ys : List UInt8) (w : World) (q : Nat) (h1 : Sl B8 w p1 n1 c1 xs) (h2 : Sl B8 w p2 n2 c2 ys) :
  Calls Tryz.prog 23 #[.slice p1 n1 c1,.slice p2 n2 c2] (w.drewN q) fun e w'' => e = .returned (.bool (decide (xs = ys))) ∧ ∃ m,w'' = w.drewN m :=
 Calls.quiet_of (Same_d p1 p2 n1 n2 c1 c2 xs ys (w.drewN q) (dr h1 q) (dr h2 q))
set_option maxRecDepth 100000 in
set_option maxHeartbeats 1000000 in
theorem Same7_any (p1 p2 : Option Addr) (n1 n2 c1 c2 : Nat) (xss yss : List (List UInt8)) (w : World) (h1 : Sl2 w p1 n1 c1 xss) (h2 : Sl2 w p2 n2 c2 yss) :
  Calls Tryz.prog 33 #[.slice p1 n1 c1,.slice p2 n2 c2] w fun e w' => e = .returned (.bool (decide (xss = yss))) ∧ Below w.heap.size w w' := by
 have b1 := h1.bound; have b2 := h2.bound
 by_cases he : n1 = n2
 ·obtain rfl := he
  have H1 := Lib.hid h1; have H2 := Lib.hid h2; clear h1 h2
  go_enter Tryz.func33,Tryz.ntmps33
  go_wp2
  go_loopw [13] (fun i wr => ∃ k q : Nat,k ≤ n1 ∧ i = .int .i64 k ∧ wr = w.drewN q ∧ Hid (∀ j : Nat,j < k → xss[j]? = yss[j]?)) (fun i _ => n1 - (intOf i).toNat)
  case atStart => exact ⟨0,0,Nat.zero_le _,rfl,rfl,fun j hj => by omega⟩
  case round =>
   obtain ⟨k,q,hk,rfl,rfl,hj⟩ := hrel
   by_cases hlt : k < n1
   ·obtain ⟨b,o,q1,m1,k1,x,rfl,hc,hs1,hx⟩ := H1.out.at k hlt
    obtain ⟨b',o',q2,m2,k2,y,rfl,hc',hs2,hy⟩ := H2.out.at k hlt
    have HS1 := Lib.hid hs1; have HS2 := Lib.hid hs2
    have i1 : (k : Int) < (n1 : Int) := by omega
    have CS : Hid (∀ q',Calls Tryz.prog 23 #[.slice q1 m1 k1,.slice q2 m2 k2] (w.drewN (q + q')) fun e w'' => e = .returned (.bool (decide (x = y))) ∧ ∃ m,w'' = w.drewN (q + m)) := fun q' => by
     have := Same_q _ _ _ _ _ _ x y (w.drewN q) q' (dr HS1.out q) (dr HS2.out q)
     simpa only [World.drewN_drewN] using this
    clear hs1 hs2
    by_cases hxy : x = y
    ·rw [decide_eq_true hxy] at CS
     have HX := Lib.hid hxy; clear hxy
     go_wp2
     go_quiet ((go_at_call 23; exact CS.out _))
     go_wp2
     go_roundw
     case rel => exact ⟨k + 1,_,by omega,by go_num,rfl,fun j hj' => by
      by_cases e : j = k
      ·subst e; rw [hx.out,hy.out,HX.out]
      ·exact hj.out j (by omega)⟩
     case measure => simp [intOf]; omega
    ·rw [decide_eq_false hxy] at CS
     have HX := Lib.hid hxy; clear hxy
     go_wp2
     go_quiet ((go_at_call 23; exact CS.out _))
     go_wp2
     go_ret
     refine ⟨?_,bdn (below_drewN _ _)⟩
     have : ¬ xss = yss := by rintro rfl; exact HX.out (Option.some.inj (hx.out.symm.trans hy.out))
     simp [this]
   ·go_wp2
    go_ret
    refine ⟨?_,below_drewN _ _⟩
    have : xss = yss := by
     apply List.ext_getElem?
     intro j
     by_cases hjk : j < k
     ·exact hj.out j hjk
     ·rw [List.getElem?_eq_none (by have := H1.out.len; omega),List.getElem?_eq_none (by have := H2.out.len; omega)]
    simp [this]
 ·have hne : ((n1 : Int) != (n2 : Int)) = true := by simp; omega
  have HN : Hid (decide (xss = yss) = false) := by
   simp only [Hid,decide_eq_false_iff_not]; rintro rfl; exact he (h1.len.symm.trans h2.len)
  clear h1 h2
  go_enter Tryz.func33,Tryz.ntmps33
  go_wp2
  go_ret
  exact ⟨by rw [HN.out]; rfl,Below.refl _ _⟩
end Go.Proofs.YtccaiiigdfieoaaGreatDoor
namespace Go.Proofs.YtccaiiigdfieoaaGreatDoor
open Go.RowKit Go.By
set_option maxHeartbeats 400000 in
theorem BClone_any (p : Option Addr) (n c : Nat) (xs : List UInt8) (w : World) (h : Sl B8 w p n c xs) (hn : Room n) :
  Calls Tryz.prog 176 #[.slice p n c] w fun e w' => ∃ q c',e = .returned (.slice q n c') ∧ w'.ownsRow w.heap.size 5 1 (.slice q n c') n (xs.map B8) ∧ Below w.heap.size w w' := by
 obtain ⟨i0,hi,hz0,hz1,hz2⟩ := info_parts info_u8
 cases hp : p with
 | none =>
  subst hp
  obtain ⟨rfl,rfl⟩ := h.nil rfl
  have : xs = [] := List.eq_nil_of_length_eq_zero h.len
  subst this
  have hq := fun w => Lib.run_eql_slice_nil (P := Tryz.prog) w 22 5 none 0 0 0 0 Tryz.underlying22
  go_enter Tryz.func176,Tryz.ntmps176
  go_wp2
  go_ret
  exact ⟨none,0,rfl,World.ownsRow_nil _ _ _ _,Below.refl _ _⟩
 | some ad =>
  subst hp
  have hq := fun w => Lib.run_eql_slice_nil (P := Tryz.prog) w 22 5 (some ad) n c 0 0 Tryz.underlying22
  have H := Lib.hid h
  clear h
  go_enter Tryz.func176,Tryz.ntmps176
  go_wp2_with (at_builtin; refine wpList_append_rs _ rfl _ _ 22 rfl w.heap.size 5 i0 (.int .u8 0) 1 Tryz.underlying22 hi hz0 hz1 hz2 rfl _ 0 [] rfl (World.ownsRow_lit w #[] 0 (Nat.le_refl _) (by simp [maxLen]) rfl) B8 _ _ _ xs (fun _ _ => rfl) rfl (H.out.keep ((Below.refl _ _).alloc (Nat.le_refl _) _)) ?c1 ?c2 ?c3 ?_)
  case c1 => have := H.out.le; have := H.out.max; omega
  case c2 => unfold Room at hn; omega
  case c3 => simp
  intro v' w' ho hg
  obtain ⟨q,c',rfl⟩ := owns_shape ho
  go_wp2
  go_ret
  exact ⟨q,c',by simp,by simpa using ho,((Below.refl _ _).alloc (Nat.le_refl _) _).grown hg (by simp) (by simp [Value.ownBlock])⟩
end Go.Proofs.YtccaiiigdfieoaaGreatDoor
