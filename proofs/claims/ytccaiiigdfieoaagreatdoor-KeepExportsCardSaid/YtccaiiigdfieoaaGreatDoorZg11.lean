/- Chapter 24,the law: awake. The document's packets as written (of what fits,told by bytes): chapters 13,14,15. Chapter 15,the reference: Write: the bytes lie in new memory. A region that draws its order,op by op: one invariant of all slots and of the world,told by which operations have run. Chapter 24,the reference: Export. Chapter 18: how often a gate was asked: Seen. Chapter 19: TakerNone. Chapter 19: a taker's clone. DERIVED: THE SHELF's CONTRACTS AT THIS DUMP,IN PLAIN WORDS (tools/lay-plain.mjs out of 'TryzIter.lean',which tools/lay-shelf.mjs wrote): THE SAME DECLARATIONS UNDER THE SAME NAMES: 'import','namespace','open','def','theorem' AND NOTHING ELSE: no command of the shelf's: FOR A HAND-IN. Each laying: the table of numbers ('.._ren') and one theorem,a field a fact of the dump's own or the kernel's comparison; each contract: ONE APPLICATION. A map from numbers to slices,made by the call; its keys in order. The keys of such a map,in order: maps.Keys,slices.Sorted. glue.Fill,where all that is known fits. The walk of glue.Fill,where all that is known fits. Chapter 19: what a taker knows: Some. Chapter 12: the reference's Fill,of numbers that are each known once. A row of one's own of which every cell,the spare ones too,is told: appends leave other slices' cells alone. Chapter 19: what TakerTakes leans on: Seen of any gate; equal lists of bools; the object of one that is done. Chapter 19: TakerTakes,of a plan that may be. Chapter 24: KeepExports,of a plan that may be. The library's table of powers of ten,out of the row's condition. The table of the sum,out of the row's condition. What the library's variables hold,for keep: out of the row's condition. Chapter 24: KeepExports,of any plan. Arguments that came in: slices of byte slices. -/
import Derived.Test.YtccaiiigdfieoaaGreatDoorZg10
import Derived.Deep.DeepCutAuto
import Derived.Shelf.SlIterI.Nil
import Derived.Shelf.SortM.Plain
import Derived.Shelf.SortM.SortNone
import Derived.Test.YtccaiiigdfieoaaGreatDoorProg
import Derived.Maps.Own
import Derived.Maps.Views
import Derived.StillTailTactics
import Derived.Laws.CopyOwn
import Derived.Deep.QuietTactic
import Derived.BigQuiet
import Derived.Test.YtccaiiigdfieoaaGreatDoorRows
import Derived.Lib.LaidTab
import Derived.Stop.LaidErr
import Derived.OpenShut
import Derived.Deep.Matrix
namespace Go.Proofs.YtccaiiigdfieoaaGreatDoor
open Go.RowKit Go.By
theorem pok523 : POK 5 2 3 7 := ⟨by decide,by decide,by decide,by decide,by decide,by decide,by decide⟩
theorem of527 : ofS 5 2 7 = .tuple #[PVal 5 2 3 7,.int .i64 0] := by
 have h : fitS 5 2 = 0 := by decide
 have h2 : needS 5 2 = 3 := by decide
 unfold ofS; rw [if_pos h,h2]; rfl
theorem text527 : textW 7 5 2 3 ++ [10] ++ hexT [] = [111,98,106,101,99,116,32,55,32,53,32,50,32,51,10] := by decide +kernel
set_option maxRecDepth 100000 in
set_option maxHeartbeats 2000000 in
theorem awake24 (w : World) (hT : Tab10 w) (hH : HalfT w) : Calls Tryz.prog 24 #[] w fun e w' => e = .returned (.bool true) ∧ Below w.heap.size w w' := by
 have HT := Lib.hid hT
 have HH := Lib.hid hH
 have HOf : Hid (∀ w,Calls Tryz.prog 44 #[.int .i64 5,.int .i64 2,.int .u32 7] w fun e w' => e = .returned (.tuple #[PVal 5 2 3 7,.int .i64 0]) ∧ Below w.heap.size w w') := fun w => by have := POf_any 5 2 7 w (by decide); rw [of527] at this; exact this
 clear hT hH
 go_enter Tryz.func24,Tryz.ntmps24
 go_wp2_with fail
 refine Calls.mono (HOf.out w) ?_
 rintro e w1 ⟨rfl,hb1⟩
 have HB1 := Lib.hid hb1
 clear hb1
 go_wp2_with fail
 have ba := al (o := .cells #[.int .i64 5,.int .i64 2,.int .i64 3,.int .u32 7] 27 (0,0)) (Below.refl w1.heap.size w1) (Nat.le_refl _)
 refine Calls.mono (TNew_ok 5 2 3 7 _ pok523) ?_
 rintro e w2 ⟨gt,be,v,rfl,ht,hb⟩
 have HB2 := Lib.hid (bl (bl HB1.out ba HB1.out.size) hb (bl HB1.out ba HB1.out.size).size)
 have HTx := KText_ok _ gt be 5 2 3 7 0 _ v _ [] 0 [] w2 ht (HT.out.keep HB2.out) (fun W hW => by
  have := KExport_ok _ gt be 5 2 3 7 0 _ v _ [] 0 W (ht.keep hW) (HH.out.keep (bl HB2.out hW HB2.out.size))
  exact this.mono fun e w' ⟨q,c,h1,h2,h3⟩ => ⟨q,c,h1,h2,h3⟩) (by simp) (by simp)
 rw [text527] at HTx
 have HTX := Lib.hid HTx
 have hw : ((strB [111,98,106,101,99,116,32,55,32,53,32,50,32,51,10]).toList == [111,98,106,101,99,116,32,55,32,53,32,50,32,51,10]) = true := by
  rw [ByteArray.toList_eq,strB_data]; rfl
 generalize strB [111,98,106,101,99,116,32,55,32,53,32,50,32,51,10] = X at *
 clear ht hb ba HTx
 go_wp2_with fail
 refine Calls.mono HTX.out ?_
 rintro e w3 ⟨rfl,hb⟩
 have HB3 := Lib.hid (bl HB2.out hb HB2.out.size)
 clear hb
 go_wp2
 go_ret
 exact ⟨rfl,HB3.out⟩
end Go.Proofs.YtccaiiigdfieoaaGreatDoor
namespace Go.Proofs.YtccaiiigdfieoaaGreatDoor
open Go.RowKit Go.By
def ORet (w : World) (N : Nat) (ys : List UInt8) (e : Ending) (w' : World) : Prop :=
 ∃ q c,e = .returned (.tuple #[.slice q N c,.int .i64 0]) ∧ w'.ownsRow w.heap.size 5 1 (.slice q N c) N (ys.map B8) ∧ Below w.heap.size w w'
set_option maxRecDepth 100000 in
set_option maxHeartbeats 2000000 in
theorem RHead_any (o n : Nat) (ho : o < 4294967296) (hn : n < 4294967296) (w : World) :
  Calls Tryz.prog 151 #[HVal 0 o n] w (ORet w 10 (headB 0 o n)) := by
 obtain ⟨i0,hi0,hz0,hz1,hz2⟩ := info_parts info_u8
 have HP := Lib.hid RPut4_any
 have HO := Lib.hid ho
 have HN := Lib.hid hn
 clear ho hn
 go_enter Tryz.func151,Tryz.ntmps151
 go_wp2_with fail
 refine Calls.mono (HP.out o HO.out _) ?_
 rintro e w1 ⟨g1,rfl,hg1,h1,hb⟩
 obtain ⟨hb1,k0,k1,hs1⟩ := two_of hb
 have HB1 := Lib.hid hb1
 have O0 : Hid (w1.ownsRow w.heap.size 5 1 (.slice (some ⟨w.heap.size + 1,0,none⟩) 2 2) 2 [.int .u8 1,B8 0]) := by
  have := World.ownsRow_lit (base := w.heap.size) (e := 5) (size := 1) (w.alloc (.cells #[B8 0,.int .u32 (o : Nat),.int .u32 (n : Nat)] 151)) #[.int .u8 1,B8 0] 2 (by simp) (by simp [maxLen]) rfl
  have h2 := owns_keep this hb
  exact Lib.hid (by simpa using h2)
 have S1 : Hid (Sl B8 w1 (some ⟨g1,0,none⟩) 4 4 (put4 o)) := sl_block (put4 o) 4 h1 rfl (put4_len o) (by simp [maxLen])
 obtain ⟨c0,c1,c2⟩ := cells_three k0
 clear hb hb1 h1 k1
 go_wp2_with (first | (at_builtin; refine wpList_append_rs _ rfl _ _ 22 rfl w.heap.size 5 i0 (.int .u8 0) 1 Tryz.underlying22 hi0 hz0 hz1 hz2 rfl _ 2 _ rfl O0.out B8 _ _ _ (put4 o) (fun _ _ => rfl) rfl S1.out (by simp [maxLen]) (by decide) HB1.out.size ?_) | fail)
 intro v1 w2 ho1 hg2
 obtain ⟨q1,d1,rfl⟩ := owns_shape ho1
 have OB : ∀ b,Value.ownBlock (.slice (some ⟨w.heap.size + 1,0,none⟩) 2 2) = some b → b = w.heap.size + 1 := fun b hb => by simpa [Value.ownBlock] using hb.symm
 have HB2 : Hid (Below w.heap.size w w2) := HB1.out.grown hg2 HB1.out.size (fun r hr => by have := OB r hr; omega)
 have k2 := (hg2.block w.heap.size (lt_of_block k0) (fun e => by have := OB _ e.symm; omega)).trans k0
 have O1 := Lib.hid ho1
 obtain ⟨c0,c1,c2⟩ := cells_three k2
 clear ho1 hg2 k0 O0 S1 OB HB1
 go_wp2_with fail
 refine Calls.mono (HP.out n HN.out _) ?_
 rintro e w3 ⟨g3,rfl,hg3,h3,hb⟩
 have HB3 := Lib.hid (bl HB2.out hb HB2.out.size)
 have O2 := Lib.hid (owns_keep O1.out hb)
 have S3 : Hid (Sl B8 w3 (some ⟨g3,0,none⟩) 4 4 (put4 n)) := sl_block (put4 n) 4 h3 rfl (put4_len n) (by simp [maxLen])
 clear hb h3 O1 k2 c0 c1 c2 HB2
 go_wp2_with (first | (at_builtin; refine wpList_append_rs _ rfl _ _ 22 rfl w.heap.size 5 i0 (.int .u8 0) 1 Tryz.underlying22 hi0 hz0 hz1 hz2 rfl _ 6 _ rfl O2.out B8 _ _ _ (put4 n) (fun _ _ => rfl) rfl S3.out (by simp [maxLen]) (by decide) HB3.out.size ?_) | fail)
 intro v2 w4 ho4 hg4
 obtain ⟨q2,d2,rfl⟩ := owns_shape ho4
 have HB4 : Hid (Below w.heap.size w w4) := HB3.out.grown hg4 HB3.out.size (fun r hr => (O2.out.lt r hr).1)
 have O4 := Lib.hid ho4
 clear ho4 hg4 O2 S3 HB3
 go_wp2
 go_ret2
 refine ⟨_,_,rfl,?_,HB4.out⟩
 exact O4.out
theorem RWidth14_ok (k : Nat) (h1 : 1 ≤ k) (h2 : k ≤ 4096) (w : World) :
  Calls Tryz.prog 144 #[.int .u8 0,.int .i64 (k : Nat)] w fun e w' => e = .returned (.tuple #[.int .i64 (k : Nat),.int .i64 0]) ∧ w = w' := by
 have h1' : ¬ (k : Int) < 1 := by omega
 have h2' : ¬ (4096 : Int) < (k : Int) := by omega
 clear h1 h2
 go_enter Tryz.func144,Tryz.ntmps144
 go_wp2
 go_ret2
 exact ⟨rfl,rfl⟩
theorem RVector14_ok (k : Nat) (h1 : 1 ≤ k) (h2 : k ≤ 4096) (p : Option Addr) (c s : Nat) (w : World) :
  Calls Tryz.prog 146 #[.int .u8 0,.slice p k c,.int .u64 (s : Nat),.int .i64 (k : Nat)] w fun e w' => e = .returned (.tuple #[.slice p k c,.int .i64 0]) ∧ w = w' := by
 have HW := Lib.hid (fun w => RWidth14_ok k h1 h2 w)
 have hk : ((k : Int) != (k : Int)) = false := by simp
 clear h1 h2
 go_enter Tryz.func146,Tryz.ntmps146
 go_wp2_with fail
 refine Calls.mono (HW.out _) ?_
 rintro e w1 ⟨rfl,rfl⟩
 go_wp2
 go_ret2
 exact ⟨rfl,rfl⟩
theorem RWrite14_ok (k : Nat) (h1 : 1 ≤ k) (h2 : k ≤ 4096) (p : Option Addr) (c s : Nat) (w : World) :
  Calls Tryz.prog 152 #[.int .u8 0,.slice p k c,.int .u64 (s : Nat),.int .i64 (k : Nat)] w fun e w' => e = .returned (.tuple #[.slice p k c,.int .i64 0]) ∧ w = w' := by
 have HW := Lib.hid (fun w => RVector14_ok k h1 h2 p c s w)
 clear h1 h2
 go_enter Tryz.func152,Tryz.ntmps152
 go_wp2_with fail
 refine Calls.mono (HW.out _) ?_
 rintro e w1 ⟨rfl,rfl⟩
 go_wp2
 go_ret2
 exact ⟨rfl,rfl⟩
set_option maxRecDepth 100000 in
set_option maxHeartbeats 2000000 in
theorem RCheck15_ok (L t k D n : Nat) (p : Option Addr) (c s : Nat) (q : Option Addr) (d : Nat) (w : World) (hP : POK L t k D) :
  Calls Tryz.prog 150 #[PVal L t k D,PkVal 0 D n 0 p k c s q t d] w fun e w' => e = .returned (.int .i64 0) ∧ Below w.heap.size w w' := by
 have HK : Hid (∀ w,Calls Tryz.prog 90 #[PVal L t k D] w fun e w' => e = .returned (.int .i64 0) ∧ Below w.heap.size w w') := fun w => by
  have := RCheck_any (L : Int) (t : Int) (k : Int) (D : Int) w hP.l
  rw [hP.chk] at this; exact this
 have e1 : ((D : Int) != (D : Int)) = false := by simp
 have e2 : ((k : Int) != (k : Int)) = false := by simp
 have e3 : ((t : Int) != (t : Int)) = false := by simp
 clear hP
 go_enter Tryz.func150,Tryz.ntmps150
 go_wp2_with fail
 refine Calls.mono (HK.out _) ?_
 rintro e w1 ⟨rfl,hb⟩
 obtain ⟨hb1,h1,h2,hs⟩ := two_of hb
 obtain ⟨c0,c1,c2,c3⟩ := cells_four h1
 obtain ⟨d0,d1,d2,d3,d4,d5,d6⟩ := cells_seven h2
 have HB := Lib.hid hb1
 clear hb hb1 h1 h2
 go_wp2
 go_ret
 exact ⟨rfl,HB.out⟩
end Go.Proofs.YtccaiiigdfieoaaGreatDoor
namespace Go.Proofs.YtccaiiigdfieoaaGreatDoor
open Go.RowKit Go.By
set_option maxRecDepth 100000 in
set_option maxHeartbeats 4000000 in
theorem RWrite15_okF (L t k D n : Nat) (p : Option Addr) (c s : Nat) (q : Option Addr) (d : Nat) (xs ys : List UInt8) (w : World) (hP : POK L t k D) (hn : n < 4294967296) (h1 : Sl B8 w p k c xs) (h2 : Sl B8 w q t d ys) :
  Calls Tryz.prog 86 #[PVal L t k D,PkVal 0 D n 0 p k c s q t d] w (SRetF 5 w (pktB 0 D n xs 0 ys) 0) := by
 obtain ⟨i0,hi0,hz0,hz1,hz2⟩ := info_parts info_u8
 have HK := Lib.hid (fun w => RCheck15_ok L t k D n p c s q d w hP)
 have HH := Lib.hid (fun w => RHead_any D n hP.d hn w)
 have HW := Lib.hid (fun w => RWrite14_ok k hP.k1 hP.k2 p c s w)
 have HSum := Lib.hid RSum4_any
 have HPut := Lib.hid RPut4_any
 have H1 := Lib.hid h1
 have H2 := Lib.hid h2
 have hk2 := hP.k2
 have ht2 := hP.t2
 clear hP h1 h2 hn
 go_enter Tryz.func86,Tryz.ntmps86
 go_wp2_with fail
 refine Calls.mono (HK.out _) ?_
 rintro e w1 ⟨rfl,hb⟩
 obtain ⟨hb1,k1,k2,hs⟩ := two_of hb
 have HB1 := Lib.hid hb1
 obtain ⟨c0,c1,c2,c3⟩ := cells_four k1
 obtain ⟨d0,d1,d2,d3,d4,d5,d6⟩ := cells_seven k2
 clear hb hb1
 go_wp2_with fail
 refine Calls.mono (HH.out _) ?_
 rintro e w2 ⟨qh,ch,rfl,oh,hb⟩
 have HB2 := Lib.hid (bl HB1.out hb HB1.out.size)
 have m1 := (hb.block _ (lt_of_block k1)).trans k1
 have m2 := (hb.block _ (lt_of_block k2)).trans k2
 have OH := Lib.hid oh
 have HZ1 := Lib.hid hs
 have HSz : Hid (w1.heap.size ≤ w2.heap.size) := hb.size
 clear hb k1 k2 c0 c1 c2 c3 d0 d1 d2 d3 d4 d5 d6 oh
 obtain ⟨c0,c1,c2,c3⟩ := cells_four m1
 obtain ⟨d0,d1,d2,d3,d4,d5,d6⟩ := cells_seven m2
 go_wp2_with fail
 refine Calls.mono (HW.out _) ?_
 rintro e w3 ⟨rfl,rfl⟩
 go_wp2_with (first | (at_builtin; refine wpList_append_rs _ rfl _ _ 22 rfl w1.heap.size 5 i0 (.int .u8 0) 1 Tryz.underlying22 hi0 hz0 hz1 hz2 rfl _ 10 _ rfl OH.out B8 _ _ _ xs (fun _ _ => rfl) rfl (H1.out.keep HB2.out) (by unfold maxLen; omega) (by omega) HSz.out ?_) | fail)
 intro v3 w3 ho3 hg3
 obtain ⟨q3,e3,rfl⟩ := owns_shape ho3
 have n2 := (hg3.block _ (lt_of_block m2) (fun e => by have := (OH.out.lt _ e.symm).1; have := HZ1.out; omega)).trans m2
 have HB3 : Hid (Below w.heap.size w w3) := HB2.out.grown hg3 HB2.out.size (fun r hr => Nat.le_trans (by have := HZ1.out; omega) (OH.out.lt r hr).1)
 have O3 : Hid (w3.ownsRow w1.heap.size 5 1 (.slice q3 (10 + k) e3) (10 + k) ((headB 0 D n ++ xs).map B8)) := by
  have := ho3; rw [← List.map_append] at this; exact this
 have HS3 : Hid (w1.heap.size ≤ w3.heap.size) := Nat.le_trans HSz.out hg3.size
 clear ho3 hg3 m1 m2 c0 c1 c2 c3 d0 d1 d2 d3 d4 d5 d6 OH HB2 HSz
 obtain ⟨d0,d1,d2,d3,d4,d5,d6⟩ := cells_seven n2
 go_wp2_with (first | (at_builtin; refine wpList_append_rs _ rfl _ _ 22 rfl w1.heap.size 5 i0 (.int .u8 0) 1 Tryz.underlying22 hi0 hz0 hz1 hz2 rfl _ (10 + k) _ rfl O3.out B8 _ _ _ ys (fun _ _ => rfl) rfl (H2.out.keep HB3.out) (by unfold maxLen; omega) (by omega) HS3.out ?_) | fail)
 intro v4 w4 ho4 hg4
 obtain ⟨q4,e4,rfl⟩ := owns_shape ho4
 have HB4 : Hid (Below w.heap.size w w4) := HB3.out.grown hg4 HB3.out.size (fun r hr => Nat.le_trans (by have := HZ1.out; omega) (O3.out.lt r hr).1)
 have O4 : Hid (w4.ownsRow w1.heap.size 5 1 (.slice q4 (10 + k + t) e4) (10 + k + t) ((bodyP 0 D n xs 0 ys).map B8)) := by
  have := ho4; rw [← List.map_append] at this; exact this
 have HS4 : Hid (w1.heap.size ≤ w4.heap.size) := Nat.le_trans HS3.out hg4.size
 clear ho4 hg4 n2 d0 d1 d2 d3 d4 d5 d6 O3 HB3 HS3
 go_wp2_with fail
 refine Calls.mono (HSum.out _ _ _ _ _ (Sl.of_owns O4.out)) ?_
 rintro e w5 ⟨rfl,rfl⟩
 go_wp2_with fail
 refine Calls.mono (HPut.out _ (crcS_lt _) _) ?_
 rintro e w6 ⟨g6,rfl,hg6,h6,hb⟩
 have HB6 := Lib.hid (bl HB4.out hb HB4.out.size)
 have O6 := Lib.hid (owns_keep O4.out hb)
 have HS6 : Hid (w1.heap.size ≤ w6.heap.size) := Nat.le_trans HS4.out hb.size
 have S6 : Hid (Sl B8 w6 (some ⟨g6,0,none⟩) 4 4 (put4 (crcS (bodyP 0 D n xs 0 ys)))) := sl_block (put4 _) 4 h6 rfl (put4_len _) (by simp [maxLen])
 clear hb h6 hg6 O4 HB4 HS4
 go_wp2_with (first | (at_builtin; refine wpList_append_rs _ rfl _ _ 22 rfl w1.heap.size 5 i0 (.int .u8 0) 1 Tryz.underlying22 hi0 hz0 hz1 hz2 rfl _ (10 + k + t) _ rfl O6.out B8 _ _ _ (put4 (crcS (bodyP 0 D n xs 0 ys))) (fun _ _ => rfl) rfl S6.out (by unfold maxLen; omega) (by omega) HS6.out ?_) | fail)
 intro v7 w7 ho7 hg7
 obtain ⟨q7,e7,rfl⟩ := owns_shape ho7
 have HB7 : Hid (Below w.heap.size w w7) := HB6.out.grown hg7 HB6.out.size (fun r hr => Nat.le_trans (by have := HZ1.out; omega) (O6.out.lt r hr).1)
 have O7 : Hid (w7.ownsRow w1.heap.size 5 1 (.slice q7 (10 + k + t + 4) e7) (10 + k + t + 4) ((pktB 0 D n xs 0 ys).map B8)) := by
  have := ho7; rw [← List.map_append] at this; exact this
 clear ho7 hg7 O6 S6 HB6 HS6
 go_wp2
 go_ret2
 exact ⟨_,_,_,rfl,(Fresh.of_owns O7.out).mono (by have := HZ1.out; omega),HB7.out⟩
end Go.Proofs.YtccaiiigdfieoaaGreatDoor
namespace Go.By
open Go.RowKit
section
variable {P : Program} {ops : Array Oper} {Q : Exit → Act → World → Prop}
def StepAl (P : Program) (ops : Array Oper) (Q : Exit → Act → World → Prop) (a0 : Act) (I : (Nat → Bool) → (Nat → Value) → World → Prop) (i : Nat) (o : Oper) : Prop :=
 ∀ (a : Act) (w : World) (dn : Nat → Bool),dn i = false → (∀ k,k ∈ preds o → dn k = true) → I dn (sl a) w → a.tmps.size = a0.tmps.size → (∀ t,initAt ops i t = true → sl a t = sl a0 t) →
  if Region.wanted o (yielded ops a.tmps) = true then o.wp P a w (fun a' w' => ∃ v,a' = a.put o.dst v ∧ I (fun j => if i = j then true else dn j) (sl a') w') Q
  else I (fun j => if i = j then true else dn j) (sl (a.put o.dst undef)) w
def EachAl (P : Program) (ops : Array Oper) (Q : Exit → Act → World → Prop) (a0 : Act) (I : (Nat → Bool) → (Nat → Value) → World → Prop) : List Oper → Nat → Prop
 | [],_ => True
 | o :: rest,i => StepAl P ops Q a0 I i o ∧ EachAl P ops Q a0 I rest (i + 1)
theorem EachAl.get {a0 : Act} {I : (Nat → Bool) → (Nat → Value) → World → Prop} : ∀ (l : List Oper) (k : Nat),EachAl P ops Q a0 I l k → ∀ j o,l[j]? = some o → StepAl P ops Q a0 I (k + j) o := by
 intro l
 induction l with
 | nil => intro k _ j o h; simp at h
 | cons x l ih =>
  intro k h j o hj
  cases j with
  | zero => simp at hj; subst hj; exact h.1
  | succ j =>
   have := ih (k + 1) h.2 j o (by simpa using hj)
   rwa [show k + 1 + j = k + (j + 1) by omega] at this
theorem wp_region_all {id : Nat} {a0 : Act} {w0 : World} (hm : P.follows .mixedOrders = true) (hback : backB ops = true)
  (I : (Nat → Bool) → (Nat → Value) → World → Prop) (I0 : I (fun _ => false) (sl a0) w0.drew)
  (each : EachAl P ops Q a0 I ops.toList 0)
  (fin : ∀ a w dn,(∀ j,j < ops.size → dn j = true) → I dn (sl a) w → a.tmps.size = a0.tmps.size → a.defers = a0.defers → (∀ t,(ops.toList.all fun o => o.dst != some t) = true → sl a t = sl a0 t) → Q .normal a w) :
  (Code.region id ops true).wp P Q a0 w0 := by
 refine wp_region_any hm ?_
 show wpAny P .any ops Q ops.size (Array.replicate ops.size false) a0 w0.drew
 have main : ∀ (fuel : Nat) (listed : Array Bool) (a : Act) (w : World),unl ops.size listed ≤ fuel → I (fun j => listed.getD j false) (sl a) w → a.tmps.size = a0.tmps.size → a.defers = a0.defers →
   (∀ j o,listed.getD j false = true → ops[j]? = some o → ∀ k,k ∈ preds o → listed.getD k false = true) →
   (∀ j,j < ops.size → listed.getD j true = true → listed.getD j false = true) →
   (∀ t,(∀ j o,j < ops.size → listed.getD j false = true → ops[j]? = some o → o.dst ≠ some t) → sl a t = sl a0 t) → wpAny P .any ops Q fuel listed a w := by
  intro fuel
  induction fuel with
  | zero =>
   intro listed a w hu hE hs hd hcl hlt ht
   have hall : ∀ j,j < ops.size → listed.getD j false = true := by
    intro j hj
    refine hlt j hj ?_
    have h0 : unl ops.size listed = 0 := by omega
    unfold unl at h0
    have := List.countP_eq_zero.1 h0 j (List.mem_range.2 hj)
    simpa using this
   refine ⟨?_,fin a w _ hall hE hs hd (fun t htt => ht t (fun j o _ _ ho => ?_))⟩
   ·rw [List.eq_nil_iff_forall_not_mem]
    intro i hi
    obtain ⟨h1,h2,_⟩ := mem_ready.1 hi
    have hx := hall i h1
    rcases Nat.lt_or_ge i listed.size with h | h
    ·simp [Array.getD_eq_getD_getElem?,h] at h2 hx; rw [h2] at hx; cases hx
    ·simp [Array.getD_eq_getD_getElem?,Array.getElem?_eq_none h] at hx
   ·have := List.all_eq_true.1 htt o (by rw [Array.mem_toList_iff]; exact Array.mem_of_getElem? ho)
    simpa using this
  | succ fuel ih =>
   intro listed a w hu hE hs hd hcl hlt ht
   refine ⟨fun hr => ?_,fun i hi => ?_⟩
   ·have hall : ∀ n j,j < n → j < ops.size → listed.getD j false = true := by
     intro n
     induction n with
     | zero => intro j hj; omega
     | succ n ihn =>
      intro j hj hjs
      refine hlt j hjs ?_
      cases hb : listed.getD j true with
      | true => rfl
      | false =>
       exfalso
       have ho : ops[j]? = some ops[j] := Array.getElem?_eq_getElem hjs
       have : j ∈ Region.ready .any ops listed := mem_ready.2 ⟨hjs,hb,_,ho,fun k hk => by
        have hbk := List.all_eq_true.1 hback j (List.mem_range.2 hjs)
        rw [ho] at hbk
        have hkj := of_decide_eq_true (List.all_eq_true.1 hbk k hk)
        exact ihn k (by omega) (by omega)⟩
       rw [hr] at this; cases this
    exact fin a w _ (fun j hj => hall (j + 1) j (by omega) hj) hE hs hd (fun t htt => ht t (fun j o _ _ ho => by
     have := List.all_eq_true.1 htt o (by rw [Array.mem_toList_iff]; exact Array.mem_of_getElem? ho)
     simpa using this))
   ·obtain ⟨h1,h2,o,ho,h3⟩ := mem_ready.1 hi
    have hst := EachAl.get ops.toList 0 each i o (by simpa using ho)
    rw [Nat.zero_add] at hst
    have hnl : listed.getD i false ≠ true := by
     intro hx
     rcases Nat.lt_or_ge i listed.size with h | h
     ·simp [Array.getD_eq_getD_getElem?,h] at h2 hx; rw [h2] at hx; cases hx
     ·simp [Array.getD_eq_getD_getElem?,Array.getElem?_eq_none h] at hx
    have his : i < listed.size := by
     rcases Nat.lt_or_ge i listed.size with h | h
     ·exact h
     ·simp [Array.getD_eq_getD_getElem?,Array.getElem?_eq_none h] at h2
    have gset : ∀ j (d : Bool),(listed.setIfInBounds i true).getD j d = if i = j then true else listed.getD j d := by
     intro j d
     simp only [Array.getD_eq_getD_getElem?,Array.getElem?_setIfInBounds]
     by_cases e : i = j
     ·subst e; simp [his]
     ·simp [e]
    have hst' := hst a w _ (by simpa using hnl) h3 hE hs (fun t hti => by
     refine ht t (fun j oj hj hlj hoj hdj => ?_)
     have := List.all_eq_true.1 hti j (List.mem_range.2 hj)
     rw [hoj] at this
     by_cases e : j = i
     ·subst e; exact hnl hlj
     ·simp [e,hdj] at this
      exact hnl (hcl j oj hlj hoj i this))
    have next : ∀ (v : Value) (w' : World),I (fun j => if i = j then true else listed.getD j false) (sl (a.put o.dst v)) w' → wpAny P .any ops Q fuel (listed.setIfInBounds i true) (a.put o.dst v) w' := by
     intro v w' hIi
     refine ih _ _ _ (by have := unl_set (n := ops.size) h1 h2; omega) (by have h := hIi; have e : (fun j => if i = j then true else listed.getD j false) = fun j => (listed.setIfInBounds i true).getD j false := funext fun j => (gset j false).symm; rw [e] at h; exact h) ((put_size _ _ _).trans hs) ((put_defers _ _ _).trans hd) ?_ ?_ ?_
     ·intro j oj hj hoj k hk
      rw [gset] at hj ⊢
      by_cases e : i = k
      ·rw [if_pos e]
      ·rw [if_neg e]
       by_cases e' : i = j
       ·subst e'; rw [ho] at hoj; cases hoj; exact h3 k hk
       ·rw [if_neg e'] at hj; exact hcl j oj hj hoj k hk
     ·intro j hj hl
      rw [gset] at hl ⊢
      by_cases e : i = j
      ·rw [if_pos e]
      ·rw [if_neg e] at hl ⊢; exact hlt j hj hl
     ·intro t htt
      have hdt : o.dst ≠ some t := htt i o h1 (by rw [gset,if_pos rfl]) ho
      rw [put_sl _ _ _ _ hdt]
      exact ht t (fun j oj hj hl hoj => htt j oj hj (by rw [gset]; split <;> simp [hl]) hoj)
    unfold wpOp
    rw [ho]
    show if Region.wanted o (yielded ops a.tmps) = true then _ else _
    split
    ·rename_i hw
     rw [if_pos hw] at hst'
     exact .inl (Oper.wp_mono (fun a' w' ⟨v,e,hIi⟩ => by rw [e] at hIi ⊢; exact next v w' hIi) hst')
    ·rename_i hw
     rw [if_neg hw] at hst'
     exact next undef w hst'
 refine main ops.size _ a0 w0.drew ?_ (by have e : (fun j => (Array.replicate ops.size false).getD j false) = fun _ => false := funext fun j => (by simp [Array.getD_eq_getD_getElem?,Array.getElem?_replicate]; split <;> rfl); rw [e]; exact I0) rfl rfl ?_ ?_ ?_
 ·unfold unl; exact Nat.le_trans List.countP_le_length (by simp)
 ·intro j o hj; simp [Array.getD_eq_getD_getElem?,Array.getElem?_replicate] at hj
  split at hj <;> simp at hj
 ·intro j hj hl; simp [Array.getD_eq_getD_getElem?,Array.getElem?_replicate,hj] at hl
 ·intro t _; rfl
end
end Go.By
namespace Go.By
open Go.RowKit Go.Proofs.YtccaiiigdfieoaaGreatDoor
theorem RRef.push {wI w : World} {qb : Option Addr} {n cb : Nat} {X : List Rw} {vs : List (Value × Value)} {u1 u2 : Value} {x : Rw} (hl : vs.length = n) (hX : X.length = n) (hr : ∀ (j : Nat) (u : Value × Value),vs[j]? = some u → ∃ k,X[j]? = some k ∧ OldB wI w u.1 k.1 ∧ OldB wI w u.2 k.2) (h1 : OldB wI w u1 x.1) (h2 : OldB wI w u2 x.2) (ho : w.ownsRow wI.heap.size 101 2 (.slice qb (n + 1) cb) (n + 1) (fl2 vs ++ [u1,u2])) : RRef wI w qb (n + 1) cb (X ++ [x]) := by
 refine ⟨vs ++ [(u1,u2)],by rw [fl2_append]; exact ho,by simp [hl],by simp [hX],fun j u hj => ?_⟩
 rcases Nat.lt_or_ge j vs.length with g | g
 ·rw [List.getElem?_append_left g] at hj
  obtain ⟨k',hk',a1,a2⟩ := hr j u hj
  exact ⟨k',by rw [List.getElem?_append_left (by omega)]; exact hk',a1,a2⟩
 ·have hj0 : j = vs.length := by have := (List.getElem?_eq_some_iff.1 hj).1; simp at this; omega
  subst hj0
  simp at hj
  subst hj
  exact ⟨x,by rw [List.getElem?_append_right (by omega),show vs.length - X.length = 0 by omega]; rfl,h1,h2⟩
def zC (n : Nat) : Array Value := ((List.replicate n (0 : UInt8)).map B8).toArray
structure Sg (wz : World) (gp t k : Nat) (v18 v19 v20 v21 v22 v23 v24 v8 : Value) (dn : Nat → Bool) (w : World) : Prop where
 bel : Below wz.heap.size wz w
 c6 : dn 6 = true → dn 2 = true ∧ dn 5 = true
 c8 : dn 8 = true → dn 6 = true ∧ dn 7 = true
 a0 : dn 0 = true → v18 = .pointer (some ⟨gp,2,none⟩)
 a1 : dn 1 = true → v19 = .int .i64 (k : Nat)
 a2 : dn 2 = true → ∃ g,v20 = .slice (some ⟨g,0,none⟩) k k ∧ wz.heap.size ≤ g ∧ w.heap[g]? = some (.cells (zC k) 5 (0,0))
 a3 : dn 3 = true → v21 = .pointer (some ⟨gp,1,none⟩)
 a4 : dn 4 = true → v22 = .int .i64 (t : Nat)
 a5 : dn 5 = true → ∃ g,v23 = .slice (some ⟨g,0,none⟩) t t ∧ wz.heap.size ≤ g ∧ w.heap[g]? = some (.cells (zC t) 5 (0,0))
 dj : dn 2 = true → dn 5 = true → ∀ g g',v20 = .slice (some ⟨g,0,none⟩) k k → v23 = .slice (some ⟨g',0,none⟩) t t → g ≠ g'
 a6 : dn 6 = true → v24 = .agg #[v20,v23]
 a7 : dn 7 = true → ∃ g cs,v8 = .pointer (some ⟨g,0,none⟩) ∧ wz.heap.size ≤ g ∧ cs.size = 2 ∧ w.heap[g]? = some (.cells cs 101 (0,0)) ∧ (dn 8 = true → cs = #[v20,v23])
theorem Sg.grow {wz : World} {gp t k : Nat} {v18 v19 v20 v21 v22 v23 v24 v8 : Value} {dn : Nat → Bool} {w : World} (h : Sg wz gp t k v18 v19 v20 v21 v22 v23 v24 v8 dn w) (o : Obj) : Sg wz gp t k v18 v19 v20 v21 v22 v23 v24 v8 dn (w.alloc o) :=
 ⟨al h.bel h.bel.size,h.c6,h.c8,h.a0,h.a1,fun e => by obtain ⟨g,e1,h1,h2⟩ := h.a2 e; exact ⟨g,e1,h1,hal h2⟩,h.a3,h.a4,fun e => by obtain ⟨g,e1,h1,h2⟩ := h.a5 e; exact ⟨g,e1,h1,hal h2⟩,h.dj,h.a6,fun e => by obtain ⟨g,cs,e1,h1,h2,h3,h4⟩ := h.a7 e; exact ⟨g,cs,e1,h1,h2,hal h3,h4⟩⟩
section
variable {wz w : World} {gp t k : Nat} {v18 v19 v20 v21 v22 v23 v24 v8 : Value} {dn : Nat → Bool}
theorem no_true {b : Bool} (h : b = false) {P : Prop} (h2 : b = true) : P := by rw [h] at h2; cases h2
theorem Sg.s0 (h : Sg wz gp t k v18 v19 v20 v21 v22 v23 v24 v8 dn w) : Sg wz gp t k (.pointer (some ⟨gp,2,none⟩)) v19 v20 v21 v22 v23 v24 v8 (fun j => if 0 = j then true else dn j) w :=
 ⟨h.bel,h.c6,h.c8,fun _ => rfl,h.a1,h.a2,h.a3,h.a4,h.a5,h.dj,h.a6,h.a7⟩
theorem Sg.s1 (h : Sg wz gp t k v18 v19 v20 v21 v22 v23 v24 v8 dn w) : Sg wz gp t k v18 (.int .i64 (k : Nat)) v20 v21 v22 v23 v24 v8 (fun j => if 1 = j then true else dn j) w :=
 ⟨h.bel,h.c6,h.c8,h.a0,fun _ => rfl,h.a2,h.a3,h.a4,h.a5,h.dj,h.a6,h.a7⟩
theorem Sg.s2 (h : Sg wz gp t k v18 v19 v20 v21 v22 v23 v24 v8 dn w) (h0 : dn 2 = false) : Sg wz gp t k v18 v19 (.slice (some ⟨w.heap.size,0,none⟩) k k) v21 v22 v23 v24 v8 (fun j => if 2 = j then true else dn j) (w.alloc (.cells (zC k) 5)) := by
 have g := h.grow (.cells (zC k) 5)
 refine ⟨g.bel,fun e => ⟨rfl,(h.c6 e).2⟩,g.c8,g.a0,g.a1,fun _ => ⟨w.heap.size,rfl,h.bel.size,hnew rfl⟩,g.a3,g.a4,g.a5,fun _ h5 g1 g2 e1 e2 => ?_,fun e => no_true h0 (h.c6 e).1,fun e => ?_⟩
 ·obtain ⟨g',e',_,hh⟩ := h.a5 h5
  have hl := lt_of_block hh
  cases e1
  rw [e'] at e2
  cases e2
  omega
 ·obtain ⟨g',cs,x1,x2,x3,x4,x5⟩ := g.a7 e
  exact ⟨g',cs,x1,x2,x3,x4,fun e8 => no_true h0 (h.c6 (h.c8 e8).1).1⟩
theorem Sg.s3 (h : Sg wz gp t k v18 v19 v20 v21 v22 v23 v24 v8 dn w) : Sg wz gp t k v18 v19 v20 (.pointer (some ⟨gp,1,none⟩)) v22 v23 v24 v8 (fun j => if 3 = j then true else dn j) w :=
 ⟨h.bel,h.c6,h.c8,h.a0,h.a1,h.a2,fun _ => rfl,h.a4,h.a5,h.dj,h.a6,h.a7⟩
theorem Sg.s4 (h : Sg wz gp t k v18 v19 v20 v21 v22 v23 v24 v8 dn w) : Sg wz gp t k v18 v19 v20 v21 (.int .i64 (t : Nat)) v23 v24 v8 (fun j => if 4 = j then true else dn j) w :=
 ⟨h.bel,h.c6,h.c8,h.a0,h.a1,h.a2,h.a3,fun _ => rfl,h.a5,h.dj,h.a6,h.a7⟩
theorem Sg.s5 (h : Sg wz gp t k v18 v19 v20 v21 v22 v23 v24 v8 dn w) (h0 : dn 5 = false) : Sg wz gp t k v18 v19 v20 v21 v22 (.slice (some ⟨w.heap.size,0,none⟩) t t) v24 v8 (fun j => if 5 = j then true else dn j) (w.alloc (.cells (zC t) 5)) := by
 have g := h.grow (.cells (zC t) 5)
 refine ⟨g.bel,fun e => ⟨(h.c6 e).1,rfl⟩,g.c8,g.a0,g.a1,g.a2,g.a3,g.a4,fun _ => ⟨w.heap.size,rfl,h.bel.size,hnew rfl⟩,fun h2 _ g1 g2 e1 e2 => ?_,fun e => no_true h0 (h.c6 e).2,fun e => ?_⟩
 ·obtain ⟨g',e',_,hh⟩ := h.a2 h2
  have hl := lt_of_block hh
  cases e2
  rw [e'] at e1
  cases e1
  omega
 ·obtain ⟨g',cs,x1,x2,x3,x4,x5⟩ := g.a7 e
  exact ⟨g',cs,x1,x2,x3,x4,fun e8 => no_true h0 (h.c6 (h.c8 e8).1).2⟩
theorem Sg.s6 (h : Sg wz gp t k v18 v19 v20 v21 v22 v23 v24 v8 dn w) (h2 : dn 2 = true) (h5 : dn 5 = true) : Sg wz gp t k v18 v19 v20 v21 v22 v23 (.agg #[v20,v23]) v8 (fun j => if 6 = j then true else dn j) w :=
 ⟨h.bel,fun _ => ⟨h2,h5⟩,fun e => ⟨rfl,(h.c8 e).2⟩,h.a0,h.a1,h.a2,h.a3,h.a4,h.a5,h.dj,fun _ => rfl,h.a7⟩
theorem Sg.s7 (h : Sg wz gp t k v18 v19 v20 v21 v22 v23 v24 v8 dn w) (h0 : dn 7 = false) : Sg wz gp t k v18 v19 v20 v21 v22 v23 v24 (.pointer (some ⟨w.heap.size,0,none⟩)) (fun j => if 7 = j then true else dn j) (w.alloc (.cells #[.slice none 0 0,.slice none 0 0] 101)) := by
 have g := h.grow (.cells #[.slice none 0 0,.slice none 0 0] 101)
 exact ⟨g.bel,g.c6,fun e => ⟨(h.c8 e).1,rfl⟩,g.a0,g.a1,g.a2,g.a3,g.a4,g.a5,g.dj,g.a6,fun _ => ⟨w.heap.size,_,rfl,h.bel.size,rfl,hnew rfl,fun e8 => no_true h0 (h.c8 e8).2⟩⟩
theorem Sg.s8 {g8 : Nat} {cs : Array Value} (h : Sg wz gp t k v18 v19 v20 v21 v22 v23 v24 v8 dn w) (h6 : dn 6 = true) (h7 : dn 7 = true) (e8 : v8 = .pointer (some ⟨g8,0,none⟩)) (hg : wz.heap.size ≤ g8) (hh : w.heap[g8]? = some (.cells cs 101 (0,0))) : Sg wz gp t k v18 v19 v20 v21 v22 v23 v24 v8 (fun j => if 8 = j then true else dn j) (w.setRow g8 #[v20,v23]) :=
 ⟨below_row h.bel hg,h.c6,fun _ => ⟨h6,h7⟩,h.a0,h.a1,fun e => by obtain ⟨g,e1,h1,h2⟩ := h.a2 e; exact ⟨g,e1,h1,(setRow_other_type h2 hh (by decide)).trans h2⟩,h.a3,h.a4,fun e => by obtain ⟨g,e1,h1,h2⟩ := h.a5 e; exact ⟨g,e1,h1,(setRow_other_type h2 hh (by decide)).trans h2⟩,h.dj,h.a6,fun _ => ⟨g8,_,e8,hg,rfl,hrs hh,fun _ => rfl⟩⟩
end
theorem owns_blk {w : World} {base g T n : Nat} {xs : List UInt8} (hb : base ≤ g) (h : w.heap[g]? = some (.cells (xs.map B8).toArray T (0,0))) (hl : xs.length = n) (hm : n ≤ maxLen) : w.ownsRow base T 1 (.slice (some ⟨g,0,none⟩) n n) n (xs.map B8) :=
 ⟨by simp [hl],.inr ⟨g,n,(xs.map B8).toArray,rfl,hb,h,Nat.le_refl _,hm,by simp [hl],by simp [← hl,List.take_of_length_le]⟩⟩
theorem grown_typ {B T e n : Nat} {w w' : World} {v : Value} {ys : List Value} (ho : w.ownsRow B T e v n ys) (hg : w.grownBy w' v.ownBlock) {T' : Nat} (hne : T ≠ T') : ∀ (b : Nat) (cs : Array Value) (fr : Nat × Nat),w.heap[b]? = some (.cells cs T' fr) → w'.heap[b]? = w.heap[b]? := fun b cs fr hb => by
 rcases ho.2 with ⟨e1,_⟩ | ⟨g,cap,cur,e1,hgb,hh,_⟩
 ·exact hg.block b (lt_of_block hb) (fun e => by rw [e1] at e; cases e)
 ·refine hg.block b (lt_of_block hb) (fun e => ?_)
  rw [e1] at e; cases e
  rw [hh] at hb; injection hb with hb; injection hb with _ hb _; exact hne hb
end Go.By
namespace Go.Proofs.YtccaiiigdfieoaaGreatDoor
open Go.RowKit Go.By
set_option maxRecDepth 1000000 in
set_option maxHeartbeats 8000000 in
theorem RExport_ok (L t k D : Nat) (q : Option Addr) (n c : Nat) (K : List Rw) (b : Bool) (w : World) (hP : POK L t k D) (hK : RwS w q n c K) (hf : ∀ r,r ∈ K → Fit k t r) (hn : n ≤ 4096) :
  Calls Tryz.prog 29 #[PVal L t k D,.slice q n c,.bool b] w fun e w' => ∃ q' c',e = .returned (.slice q' (if b then K ++ [clashRow k t] else K).length c') ∧ HdrF 22 5 w.heap.size w' (.slice q' (if b then K ++ [clashRow k t] else K).length c') (if b then K ++ [clashRow k t] else K).length (expL D (if b then K ++ [clashRow k t] else K)) ∧ Below w.heap.size w w' := by
 obtain ⟨r0,hr0,hrz,hr1',hr2'⟩ := info_parts info_rrow3
 obtain ⟨R,hR⟩ : ∃ R,R = (if b then K ++ [clashRow k t] else K) := ⟨_,rfl⟩
 rw [← hR]
 have HR := Lib.hid hR
 have HF : Hid (∀ r,r ∈ R → Fit k t r) := fun r hr => by
  rw [hR] at hr
  cases b with
  | false => exact hf r hr
  | true =>
   rcases List.mem_append.1 hr with hr | hr
   ·exact hf r hr
   ·rw [List.mem_singleton.1 hr]; exact clashRow_len k t
 have HP := Lib.hid hP
 have HLN : Hid (K.length = n) := hK.len
 have ht1 := hP.t1
 have ht2 := hP.t2
 have hk1 := hP.k1
 have hk2 := hP.k2
 obtain ⟨vs,hv,hvr⟩ := hK.vals
 have HV := Lib.hid hv
 have HVR : Hid (∀ (j : Nat) (u : Value × Value),vs[j]? = some u → ∃ k,K[j]? = some k ∧ OldB w w u.1 k.1 ∧ OldB w w u.2 k.2) := fun j u hj => by
  obtain ⟨k',hk',q1,m1,c1,q2,m2,c2,rfl,s1,s2⟩ := hvr j u hj
  exact ⟨k',hk',⟨q1,m1,c1,rfl,.inl s1⟩,q2,m2,c2,rfl,.inl s2⟩
 have hRl : R.length ≤ 4097 := by
  rw [hR]
  cases b with
  | false => show K.length ≤ 4097; rw [hK.len]; omega
  | true => show (K ++ [clashRow k t]).length ≤ 4097; rw [List.length_append,hK.len]; simp; omega
 clear hR hP hK hf hv hvr
 go_enter Tryz.func29,Tryz.ntmps29
 have ba : Below w.heap.size w (w.alloc (.cells #[.int .i64 (L : Nat),.int .i64 (t : Nat),.int .i64 (k : Nat),.int .u32 (D : Nat)] 52 (0,0))) := al (Below.refl _ _) (Nat.le_refl _)
 have kp1 : (w.alloc (.cells #[.int .i64 (L : Nat),.int .i64 (t : Nat),.int .i64 (k : Nat),.int .u32 (D : Nat)] 52 (0,0))).heap[w.heap.size]? = some (.cells #[.int .i64 (L : Nat),.int .i64 (t : Nat),.int .i64 (k : Nat),.int .u32 (D : Nat)] 52 (0,0)) := hnew rfl
 have KP1 := Lib.hid kp1
 have HB1 := Lib.hid ba
 have HV1 := Lib.hid (HV.out.keep ba)
 have hsz1 : w.heap.size ≤ (w.alloc (.cells #[.int .i64 (L : Nat),.int .i64 (t : Nat),.int .i64 (k : Nat),.int .u32 (D : Nat)] 52 (0,0))).heap.size := ba.size
 have hgp := lt_of_block kp1
 clear ba kp1
 go_wp2_with (at_builtin; refine wpList_append_two _ rfl (.tmp 14) (.tmp 15) 53 rfl w.heap.size 101 r0 _ 48 Tryz.underlying53 hr0 hrz hr1' hr2' rfl (.slice none 0 0) 0 [] rfl (World.ownsRow_nil _ _ _ _) q n c vs rfl HV1.out (by unfold maxLen; omega) (by omega) hsz1 ?_)
 intro v5 w5 ho5 hg5
 obtain ⟨qa,ca,rfl⟩ := owns_shape ho5
 have ho5' : w5.ownsRow w.heap.size 101 2 (.slice qa n ca) n (fl2 vs) := by simpa using ho5
 have HB5 : Hid (Below w.heap.size w w5) := HB1.out.grown hg5 hsz1 (by simp [Value.ownBlock])
 have KP5 : Hid (w5.heap[w.heap.size]? = some (.cells #[.int .i64 (L : Nat),.int .i64 (t : Nat),.int .i64 (k : Nat),.int .u32 (D : Nat)] 52 (0,0))) := (hg5.block _ hgp (by simp [Value.ownBlock])).trans KP1.out
 have HR5 : Hid (RRef w w5 qa n ca K) := ⟨vs,ho5',HV.out.len,HLN.out,fun j u hj => by
  obtain ⟨k',hk',a1,a2⟩ := HVR.out j u hj
  exact ⟨k',hk',a1.keep HB5.out,a2.keep HB5.out⟩⟩
 have HLV : Hid (vs.length = n) := HV.out.len
 go_upto_if 17 with (fail)
 go_cut [7,8] (fun s7 _ wx => ∃ (q' : Option Addr) (c' n' : Nat),s7 = .slice q' n' c' ∧ n' = R.length ∧ Hid (RRef w wx q' n' c' R) ∧ Hid (Below w.heap.size w wx) ∧ Hid (wx.heap[w.heap.size]? = some (.cells #[.int .i64 (L : Nat),.int .i64 (t : Nat),.int .i64 (k : Nat),.int .u32 (D : Nat)] 52 (0,0))))
 case first =>
  as_aux_lemma =>
   cases b with
   | false =>
    have HE : Hid (R = K) := HR.out
    go_wp2
    go_meet
    case rel => exact ⟨qa,ca,n,rfl,by rw [HE.out,HLN.out],by rw [HE.out]; exact HR5.out,HB5.out,KP5.out⟩
   | true =>
    have HE : Hid (R = K ++ [clashRow k t]) := HR.out
    obtain ⟨d0,d1,d2,d3⟩ := cells_four KP5.out
    have hmk1 := mk_bytesK 22 Tryz.underlying22 k (by omega)
    have hmk2 := mk_bytesK 22 Tryz.underlying22 t (by omega)
    go_upto_region 4 with (fail)
    refine wp_region_all (by kernel_rfl) (by decide +kernel) (fun dn σ W => Sg w5.drew w.heap.size t k (σ 18) (σ 19) (σ 20) (σ 21) (σ 22) (σ 23) (σ 24) (σ 8) dn W) ?_ ?_ ?_
    ·exact ⟨Below.refl _ _,fun e => (by cases e),fun e => (by cases e),fun e => (by cases e),fun e => (by cases e),fun e => (by cases e),fun e => (by cases e),fun e => (by cases e),fun e => (by cases e),fun e => (by cases e),fun e => (by cases e),fun e => (by cases e)⟩
    ·refine ⟨?_,?_,?_,?_,?_,?_,?_,?_,?_,trivial⟩
     ·intro a W dn h0 hp hI hs hi
      have t3 : sl a 3 = .pointer (some ⟨w.heap.size,0,none⟩) := hi 3 (by decide)
      refine ite_y rfl (wp_val (.pointer (some ⟨w.heap.size,2,none⟩)) ?_ ⟨_,rfl,?_⟩)
      ·simp only [execOp,eval_tmp,eval_const,t3]; simp [go_sem]
      ·have e : ∀ t',t' ≠ 18 → sl (a.put (some 18) (.pointer (some ⟨w.heap.size,2,none⟩))) t' = sl a t' := fun t' h => put_sl _ _ _ _ (fun e => h (Option.some.inj e).symm)
       show Sg _ _ _ _ (sl (a.put (some 18) (.pointer (some ⟨w.heap.size,2,none⟩))) 18) (sl (a.put (some 18) (.pointer (some ⟨w.heap.size,2,none⟩))) 19) (sl (a.put (some 18) (.pointer (some ⟨w.heap.size,2,none⟩))) 20) (sl (a.put (some 18) (.pointer (some ⟨w.heap.size,2,none⟩))) 21) (sl (a.put (some 18) (.pointer (some ⟨w.heap.size,2,none⟩))) 22) (sl (a.put (some 18) (.pointer (some ⟨w.heap.size,2,none⟩))) 23) (sl (a.put (some 18) (.pointer (some ⟨w.heap.size,2,none⟩))) 24) (sl (a.put (some 18) (.pointer (some ⟨w.heap.size,2,none⟩))) 8) _ _
       rw [put_same _ 18 _ (by rw [hs]; show 18 < 60; decide),e 19 (by decide),e 20 (by decide),e 21 (by decide),e 22 (by decide),e 23 (by decide),e 24 (by decide),e 8 (by decide)]
       exact hI.s0
     ·intro a W dn h0 hp hI hs hi
      have t18 : sl a 18 = .pointer (some ⟨w.heap.size,2,none⟩) := hI.a0 (hp 0 (by decide))
      have dd := (hI.bel.cell (p := ⟨w.heap.size,2,none⟩) (lt_of_cell d2)).trans d2
      refine ite_y rfl (wp_val (.int .i64 (k : Nat)) ?_ ⟨_,rfl,?_⟩)
      ·simp only [execOp,eval_tmp,eval_const,t18]; simp [go_sem,dd]
      ·have e : ∀ t',t' ≠ 19 → sl (a.put (some 19) (.int .i64 (k : Nat))) t' = sl a t' := fun t' h => put_sl _ _ _ _ (fun e => h (Option.some.inj e).symm)
       show Sg _ _ _ _ (sl (a.put (some 19) (.int .i64 (k : Nat))) 18) (sl (a.put (some 19) (.int .i64 (k : Nat))) 19) (sl (a.put (some 19) (.int .i64 (k : Nat))) 20) (sl (a.put (some 19) (.int .i64 (k : Nat))) 21) (sl (a.put (some 19) (.int .i64 (k : Nat))) 22) (sl (a.put (some 19) (.int .i64 (k : Nat))) 23) (sl (a.put (some 19) (.int .i64 (k : Nat))) 24) (sl (a.put (some 19) (.int .i64 (k : Nat))) 8) _ _
       rw [put_same _ 19 _ (by rw [hs]; show 19 < 60; decide),e 18 (by decide),e 20 (by decide),e 21 (by decide),e 22 (by decide),e 23 (by decide),e 24 (by decide),e 8 (by decide)]
       exact hI.s1
     ·intro a W dn h0 hp hI hs hi
      have t19 : sl a 19 = .int .i64 (k : Nat) := hI.a1 (hp 1 (by decide))
      refine ite_y rfl (wp_val' (w' := W.alloc (.cells (zC k) 5)) (.slice (some ⟨W.heap.size,0,none⟩) k k) ?_ ⟨_,rfl,?_⟩)
      ·simp only [execOp,eval_tmp,eval_const,t19]; simp [hmk1,zC]
      ·have e : ∀ t',t' ≠ 20 → sl (a.put (some 20) (.slice (some ⟨W.heap.size,0,none⟩) k k)) t' = sl a t' := fun t' h => put_sl _ _ _ _ (fun e => h (Option.some.inj e).symm)
       show Sg _ _ _ _ (sl (a.put (some 20) (.slice (some ⟨W.heap.size,0,none⟩) k k)) 18) (sl (a.put (some 20) (.slice (some ⟨W.heap.size,0,none⟩) k k)) 19) (sl (a.put (some 20) (.slice (some ⟨W.heap.size,0,none⟩) k k)) 20) (sl (a.put (some 20) (.slice (some ⟨W.heap.size,0,none⟩) k k)) 21) (sl (a.put (some 20) (.slice (some ⟨W.heap.size,0,none⟩) k k)) 22) (sl (a.put (some 20) (.slice (some ⟨W.heap.size,0,none⟩) k k)) 23) (sl (a.put (some 20) (.slice (some ⟨W.heap.size,0,none⟩) k k)) 24) (sl (a.put (some 20) (.slice (some ⟨W.heap.size,0,none⟩) k k)) 8) _ _
       rw [put_same _ 20 _ (by rw [hs]; show 20 < 60; decide),e 18 (by decide),e 19 (by decide),e 21 (by decide),e 22 (by decide),e 23 (by decide),e 24 (by decide),e 8 (by decide)]
       exact hI.s2 h0
     ·intro a W dn h0 hp hI hs hi
      have t3 : sl a 3 = .pointer (some ⟨w.heap.size,0,none⟩) := hi 3 (by decide)
      refine ite_y rfl (wp_val (.pointer (some ⟨w.heap.size,1,none⟩)) ?_ ⟨_,rfl,?_⟩)
      ·simp only [execOp,eval_tmp,eval_const,t3]; simp [go_sem]
      ·have e : ∀ t',t' ≠ 21 → sl (a.put (some 21) (.pointer (some ⟨w.heap.size,1,none⟩))) t' = sl a t' := fun t' h => put_sl _ _ _ _ (fun e => h (Option.some.inj e).symm)
       show Sg _ _ _ _ (sl (a.put (some 21) (.pointer (some ⟨w.heap.size,1,none⟩))) 18) (sl (a.put (some 21) (.pointer (some ⟨w.heap.size,1,none⟩))) 19) (sl (a.put (some 21) (.pointer (some ⟨w.heap.size,1,none⟩))) 20) (sl (a.put (some 21) (.pointer (some ⟨w.heap.size,1,none⟩))) 21) (sl (a.put (some 21) (.pointer (some ⟨w.heap.size,1,none⟩))) 22) (sl (a.put (some 21) (.pointer (some ⟨w.heap.size,1,none⟩))) 23) (sl (a.put (some 21) (.pointer (some ⟨w.heap.size,1,none⟩))) 24) (sl (a.put (some 21) (.pointer (some ⟨w.heap.size,1,none⟩))) 8) _ _
       rw [put_same _ 21 _ (by rw [hs]; show 21 < 60; decide),e 18 (by decide),e 19 (by decide),e 20 (by decide),e 22 (by decide),e 23 (by decide),e 24 (by decide),e 8 (by decide)]
       exact hI.s3
     ·intro a W dn h0 hp hI hs hi
      have t21 : sl a 21 = .pointer (some ⟨w.heap.size,1,none⟩) := hI.a3 (hp 3 (by decide))
      have dd := (hI.bel.cell (p := ⟨w.heap.size,1,none⟩) (lt_of_cell d1)).trans d1
      refine ite_y rfl (wp_val (.int .i64 (t : Nat)) ?_ ⟨_,rfl,?_⟩)
      ·simp only [execOp,eval_tmp,eval_const,t21]; simp [go_sem,dd]
      ·have e : ∀ t',t' ≠ 22 → sl (a.put (some 22) (.int .i64 (t : Nat))) t' = sl a t' := fun t' h => put_sl _ _ _ _ (fun e => h (Option.some.inj e).symm)
       show Sg _ _ _ _ (sl (a.put (some 22) (.int .i64 (t : Nat))) 18) (sl (a.put (some 22) (.int .i64 (t : Nat))) 19) (sl (a.put (some 22) (.int .i64 (t : Nat))) 20) (sl (a.put (some 22) (.int .i64 (t : Nat))) 21) (sl (a.put (some 22) (.int .i64 (t : Nat))) 22) (sl (a.put (some 22) (.int .i64 (t : Nat))) 23) (sl (a.put (some 22) (.int .i64 (t : Nat))) 24) (sl (a.put (some 22) (.int .i64 (t : Nat))) 8) _ _
       rw [put_same _ 22 _ (by rw [hs]; show 22 < 60; decide),e 18 (by decide),e 19 (by decide),e 20 (by decide),e 21 (by decide),e 23 (by decide),e 24 (by decide),e 8 (by decide)]
       exact hI.s4
     ·intro a W dn h0 hp hI hs hi
      have t22 : sl a 22 = .int .i64 (t : Nat) := hI.a4 (hp 4 (by decide))
      refine ite_y rfl (wp_val' (w' := W.alloc (.cells (zC t) 5)) (.slice (some ⟨W.heap.size,0,none⟩) t t) ?_ ⟨_,rfl,?_⟩)
      ·simp only [execOp,eval_tmp,eval_const,t22]; simp [hmk2,zC]
      ·have e : ∀ t',t' ≠ 23 → sl (a.put (some 23) (.slice (some ⟨W.heap.size,0,none⟩) t t)) t' = sl a t' := fun t' h => put_sl _ _ _ _ (fun e => h (Option.some.inj e).symm)
       show Sg _ _ _ _ (sl (a.put (some 23) (.slice (some ⟨W.heap.size,0,none⟩) t t)) 18) (sl (a.put (some 23) (.slice (some ⟨W.heap.size,0,none⟩) t t)) 19) (sl (a.put (some 23) (.slice (some ⟨W.heap.size,0,none⟩) t t)) 20) (sl (a.put (some 23) (.slice (some ⟨W.heap.size,0,none⟩) t t)) 21) (sl (a.put (some 23) (.slice (some ⟨W.heap.size,0,none⟩) t t)) 22) (sl (a.put (some 23) (.slice (some ⟨W.heap.size,0,none⟩) t t)) 23) (sl (a.put (some 23) (.slice (some ⟨W.heap.size,0,none⟩) t t)) 24) (sl (a.put (some 23) (.slice (some ⟨W.heap.size,0,none⟩) t t)) 8) _ _
       rw [put_same _ 23 _ (by rw [hs]; show 23 < 60; decide),e 18 (by decide),e 19 (by decide),e 20 (by decide),e 21 (by decide),e 22 (by decide),e 24 (by decide),e 8 (by decide)]
       exact hI.s5 h0
     ·intro a W dn h0 hp hI hs hi
      have v20 : a.tmps[20]?.getD undef = sl a 20 := by simp [sl]
      have v23 : a.tmps[23]?.getD undef = sl a 23 := by simp [sl]
      obtain ⟨g1,e20,_,_⟩ := hI.a2 (hp 2 (by decide))
      obtain ⟨g2,e23,_,_⟩ := hI.a5 (hp 5 (by decide))
      refine ite_y rfl (wp_val (.agg #[sl a 20,sl a 23]) ?_ ⟨_,rfl,?_⟩)
      ·simp only [execOp,eval_tmp,e20,e23]; rw [e20] at v20; rw [e23] at v23; simp [go_sem,v20,v23,Tryz.underlying101]
      ·have e : ∀ t',t' ≠ 24 → sl (a.put (some 24) (.agg #[sl a 20,sl a 23])) t' = sl a t' := fun t' h => put_sl _ _ _ _ (fun e => h (Option.some.inj e).symm)
       show Sg _ _ _ _ (sl (a.put (some 24) (.agg #[sl a 20,sl a 23])) 18) (sl (a.put (some 24) (.agg #[sl a 20,sl a 23])) 19) (sl (a.put (some 24) (.agg #[sl a 20,sl a 23])) 20) (sl (a.put (some 24) (.agg #[sl a 20,sl a 23])) 21) (sl (a.put (some 24) (.agg #[sl a 20,sl a 23])) 22) (sl (a.put (some 24) (.agg #[sl a 20,sl a 23])) 23) (sl (a.put (some 24) (.agg #[sl a 20,sl a 23])) 24) (sl (a.put (some 24) (.agg #[sl a 20,sl a 23])) 8) _ _
       rw [put_same _ 24 _ (by rw [hs]; show 24 < 60; decide),e 18 (by decide),e 19 (by decide),e 20 (by decide),e 21 (by decide),e 22 (by decide),e 23 (by decide),e 8 (by decide)]
       exact hI.s6 (hp 2 (by decide)) (hp 5 (by decide))
     ·intro a W dn h0 hp hI hs hi
      refine ite_y rfl (wp_val' (w' := W.alloc (.cells #[.slice none 0 0,.slice none 0 0] 101)) (.pointer (some ⟨W.heap.size,0,none⟩)) ?_ ⟨_,rfl,?_⟩)
      ·simp only [execOp]; simp [go_sem]
      ·have e : ∀ t',t' ≠ 8 → sl (a.put (some 8) (.pointer (some ⟨W.heap.size,0,none⟩))) t' = sl a t' := fun t' h => put_sl _ _ _ _ (fun e => h (Option.some.inj e).symm)
       show Sg _ _ _ _ (sl (a.put (some 8) (.pointer (some ⟨W.heap.size,0,none⟩))) 18) (sl (a.put (some 8) (.pointer (some ⟨W.heap.size,0,none⟩))) 19) (sl (a.put (some 8) (.pointer (some ⟨W.heap.size,0,none⟩))) 20) (sl (a.put (some 8) (.pointer (some ⟨W.heap.size,0,none⟩))) 21) (sl (a.put (some 8) (.pointer (some ⟨W.heap.size,0,none⟩))) 22) (sl (a.put (some 8) (.pointer (some ⟨W.heap.size,0,none⟩))) 23) (sl (a.put (some 8) (.pointer (some ⟨W.heap.size,0,none⟩))) 24) (sl (a.put (some 8) (.pointer (some ⟨W.heap.size,0,none⟩))) 8) _ _
       rw [put_same _ 8 _ (by rw [hs]; show 8 < 60; decide),e 18 (by decide),e 19 (by decide),e 20 (by decide),e 21 (by decide),e 22 (by decide),e 23 (by decide),e 24 (by decide)]
       exact hI.s7 h0
     ·intro a W dn h0 hp hI hs hi
      have h6 := hp 6 (by decide)
      have h7 := hp 7 (by decide)
      have t24 := hI.a6 h6
      obtain ⟨g1,e20,_,_⟩ := hI.a2 (hI.c6 h6).1
      obtain ⟨g2,e23,_,_⟩ := hI.a5 (hI.c6 h6).2
      obtain ⟨g8,cs,e8,hg8,hc8,hh8,_⟩ := hI.a7 h7
      refine ite_y rfl (wp_store_row 101 (.tmp 8) (.tmp 24) rfl g8 #[sl a 20,sl a 23] e8 t24 _ _ hh8 info_rrow2 hc8 (by rw [e20,e23]; simp [Value.oneCell']) ⟨_,rfl,?_⟩)
      exact hI.s8 h6 h7 e8 hg8 hh8
    intro a w6 dn hall hI hs hd ht
    have ha := act_is [18,19,20,21,22,23,24,8] hs hd ht (by decide)
    obtain ⟨g1,e20,hg1,k1⟩ := hI.a2 (hall 2 (by decide))
    obtain ⟨g2,e23,hg2,k2⟩ := hI.a5 (hall 5 (by decide))
    have hne := hI.dj (hall 2 (by decide)) (hall 5 (by decide)) g1 g2 e20 e23
    obtain ⟨g8,cs,e8,hg8,hc8,k8,hcs⟩ := hI.a7 (hall 7 (by decide))
    have hcs := hcs (hall 8 (by decide))
    rw [e20,e23] at hcs
    subst hcs
    have hb := undrew hI.bel
    simp only [List.foldl,e8] at ha
    generalize sl a 18 = u18 at ha
    generalize sl a 19 = u19 at ha
    generalize sl a 20 = u20 at ha
    generalize sl a 21 = u21 at ha
    generalize sl a 22 = u22 at ha
    generalize sl a 23 = u23 at ha
    generalize sl a 24 = u24 at ha
    simp only [Act.put,List.setIfInBounds_toArray,List.set_cons_zero,List.set_cons_succ] at ha
    rw [ha]
    clear ha hI ht hs hd hall d0 d1 d2 d3 hmk1 hmk2 hc8
    have HB6 := Lib.hid (bl HB5.out hb HB5.out.size)
    have KP6 := Lib.hid ((hb.block _ (lt_of_block KP5.out)).trans KP5.out)
    have HG1 : Hid (w.heap.size ≤ g1) := Nat.le_trans HB5.out.size hg1
    have HG2 : Hid (w5.heap.size ≤ g2) := hg2
    have HG3 : Hid (w.heap.size ≤ g2) := Nat.le_trans HB5.out.size hg2
    have h82 : g8 ≠ g2 := fun e => by rw [e,k2] at k8; injection k8 with k8; injection k8 with _ k8 _; exact absurd k8 (by decide)
    have hgp2 : w.heap.size ≠ g2 := by have h1 := lt_of_block KP5.out; have h2 := HG2.out; omega
    obtain ⟨e0,e1⟩ := cells2 k8
    have hcell : w6.cell? ⟨g2,0,none⟩ = some (.int .u8 0) := by
     rw [cell_of_row _ _ 0 _ _ _ k2]; unfold zC
     rw [List.getElem?_toArray,List.getElem?_map,List.getElem?_replicate,if_pos (by omega)]
     rfl
    have hfro : w6.frozen? ⟨g2,0,none⟩ = false := frozen_of_row _ _ 0 _ _ k2
    have K2 : Hid ((w6.setCell ⟨g2,0,none⟩ (.int .u8 1)).heap[g2]? = some (.cells (((List.replicate t (0 : UInt8)).set 0 1).map B8).toArray 5 (0,0))) := by
     show _ = _
     rw [heap_setCell_same _ _ _ _ _ _ k2]; unfold zC
     rw [List.setIfInBounds_toArray,List.map_set]
     rfl
    have K1 : Hid ((w6.setCell ⟨g2,0,none⟩ (.int .u8 1)).heap[g1]? = some (.cells (zC k) 5 (0,0))) := (Below.heap_setCell _ _ _ _ hne).trans k1
    have K8 : Hid ((w6.setCell ⟨g2,0,none⟩ (.int .u8 1)).heap[g8]? = some (.cells #[.slice (some ⟨g1,0,none⟩) k k,.slice (some ⟨g2,0,none⟩) t t] 101 (0,0))) := (Below.heap_setCell _ _ _ _ h82).trans k8
    have KP7 : Hid ((w6.setCell ⟨g2,0,none⟩ (.int .u8 1)).heap[w.heap.size]? = some (.cells #[.int .i64 (L : Nat),.int .i64 (t : Nat),.int .i64 (k : Nat),.int .u32 (D : Nat)] 52 (0,0))) := (Below.heap_setCell _ _ _ _ hgp2).trans KP6.out
    have HB7 : Hid (Below w.heap.size w (w6.setCell ⟨g2,0,none⟩ (.int .u8 1))) := Below.setCell HB6.out HG3.out _
    have HR7 : Hid (RRef w (w6.setCell ⟨g2,0,none⟩ (.int .u8 1)) qa n ca K) := HR5.out.keep (Below.setCell hb HG2.out _)
    clear k1 k2 k8 hb HB6 KP6 HR5 HB5 KP5 hg1 hg2 hg8 h82 hgp2 hne
    go_upto_region 6 with (fail)
    clear e0 e1 hcell hfro
    generalize w6.setCell ⟨g2,0,none⟩ (.int .u8 1) = w7 at *
    have F1 : Hid (OldB w w7 (.slice (some ⟨g1,0,none⟩) k k) (clashRow k t).1) := ⟨_,_,_,rfl,.inr (Fresh.of_owns (owns_blk HG1.out K1.out (by simp [clashRow]) (by unfold maxLen; omega)))⟩
    have F2 : Hid (OldB w w7 (.slice (some ⟨g2,0,none⟩) t t) (clashRow k t).2) := ⟨_,_,_,rfl,.inr (Fresh.of_owns (owns_blk HG3.out K2.out (by simp [clashRow]) (by unfold maxLen; omega)))⟩
    obtain ⟨e0,e1⟩ := cells2 K8.out
    have ba : Below w7.heap.size w7 (w7.alloc (.cells #[.slice (some ⟨g1,0,none⟩) k k,.slice (some ⟨g2,0,none⟩) t t] 101 (0,0))) := al (Below.refl _ _) (Nat.le_refl _)
    obtain ⟨vs',o',l',lX,r'⟩ := HR7.out.keep ba
    have F1' := Lib.hid (F1.out.keep ba)
    have F2' := Lib.hid (F2.out.keep ba)
    have VO := Lib.hid o'
    have VL := Lib.hid l'
    have VR := Lib.hid r'
    have hsz7 := HB7.out.size
    clear o' l' lX r' ba F1 F2 K1 K2 K8 HR7
    go_wp2_with (at_builtin; refine wpList_append_own _ rfl _ _ 53 rfl w.heap.size 101 r0 _ 2 48 Tryz.underlying53 hr0 hrz hr1' hr2' rfl (by omega) _ n (fl2 vs') rfl VO.out ⟨w7.heap.size,0,none⟩ 1 1 [.slice (some ⟨g1,0,none⟩) k k,.slice (some ⟨g2,0,none⟩) t t] rfl rfl ?c1 ?c2 ?c3 ?c4 ?c5 ?_)
    case c2 => first | exact ⟨rfl,rfl⟩ | (intro y hy; simp at hy; rcases hy with rfl | rfl <;> rfl)
    case c3 => unfold maxLen; omega
    case c4 => omega
    case c5 => first | omega | (simp; omega)
    intro v' w9 ho' hg' _
    obtain ⟨q',c',rfl⟩ := owns_shape ho'
    have hT := grown_typ VO.out hg' (T' := 5) (by decide)
    have HR9 : Hid (RRef w w9 q' (n + 1) c' R) := by
     show RRef _ _ _ _ _ _
     rw [HE.out]
     exact RRef.push VL.out HLN.out (fun j u hj => by obtain ⟨k',hk',a1,a2⟩ := VR.out j u hj; exact ⟨k',hk',a1.same hT,a2.same hT⟩) (F1'.out.same hT) (F2'.out.same hT) ho'
    have HB9 : Hid (Below w.heap.size w w9) := (al HB7.out hsz7).grown hg' (by simp; omega) (fun rr hrr => (VO.out.lt rr hrr).1)
    have KP9 : Hid (w9.heap[w.heap.size]? = some (.cells #[.int .i64 (L : Nat),.int .i64 (t : Nat),.int .i64 (k : Nat),.int .u32 (D : Nat)] 52 (0,0))) := by
     have hl := lt_of_block KP7.out
     refine (hg'.block w.heap.size (by simp; omega) fun e => ?_).trans (hal KP7.out)
     have hO := VO.out
     rcases hO.2 with ⟨e1,_⟩ | ⟨g',cap,cur,e1,_,hh,_⟩
     ·rw [e1] at e; cases e
     ·rw [e1] at e
      have e2 : g' = w.heap.size := (Option.some.inj (show some w.heap.size = some g' from e)).symm
      rw [e2,hal KP7.out] at hh
      injection hh with hh
      injection hh with _ hh _
      exact absurd hh (by decide)
    clear ho' hg' VO VL VR F1' F2' hsz7 e0 e1 hT
    go_wp2
    go_meet
    case rel => exact ⟨q',c',n + 1,rfl,by rw [HE.out]; simp [HLN.out],HR9.out,HB9.out,KP9.out⟩
 case rest =>
  obtain ⟨q',c',n',rfl,hn',HRF,HB,HPl⟩ := hcut
  have HRS := Lib.hid (HRF.out.rwS HB.out)
  have HN := Lib.hid hn'
  have hnl : n' ≤ 4097 := by omega
  clear hn' hRl HB5 KP5 HR5 HRF HLV HVR HV HV1 KP1 HB1 hg5 ho5 ho5'
  go_wp2
  go_loopw [9,10,11,12,13,34] (fun ov _ _ _ _ iv wr => ∃ (i co : Nat) (qo : Option Addr),i ≤ n' ∧ iv = .int .i64 (i : Nat) ∧ ov = .slice qo i co ∧ Hid (HdrF 22 5 wc.heap.size wr (.slice qo i co) i (expL D (R.take i))) ∧ Hid (Below wc.heap.size wc wr)) (fun _ _ _ _ _ iv _ => n' - (intOf iv).toNat)
  case atStart => exact ⟨0,0,none,Nat.zero_le _,rfl,rfl,HdrF.nil _ _ _ _,Below.refl _ _⟩
  case round =>
   obtain ⟨i,co,qo,hi,rfl,rfl,HO,HBr⟩ := hrel
   by_cases hlt : i < n'
   ·obtain ⟨x,hx⟩ : ∃ x,R[i]? = some x := ⟨_,List.getElem?_eq_getElem (by rw [← HN.out]; exact hlt)⟩
    obtain ⟨b',o',q1,m1,c1,qd,td,cd,rfl,E1,E2,s1,s2⟩ := (HRS.out.keep HBr.out).row i x hx
    have hfx := HF.out x (List.mem_of_getElem? hx)
    obtain rfl : m1 = k := by rw [← s1.len]; exact hfx.1
    obtain rfl : td = t := by rw [← s2.len]; exact hfx.2
    have HX := Lib.hid (expL_snoc (D := D) hx)
    have hlt' : (i : Int) < (n' : Int) := by omega
    have HLT := Lib.hid hlt
    have hi32 : IntKind.u32.wrap (i : Int) = (i : Int) := by rw [IntKind.wrap_u32]; omega
    have ba : Below wr.heap.size wr (wr.alloc (.cells #[.slice q1 m1 c1,.slice qd td cd] 101 (0,0))) := al (Below.refl _ _) (Nat.le_refl _)
    have pr := (ba.block _ (lt_of_block ((HBr.out.block _ (lt_of_block HPl.out)).trans HPl.out))).trans ((HBr.out.block _ (lt_of_block HPl.out)).trans HPl.out)
    obtain ⟨d0,d1,d2,d3⟩ := cells_four pr
    have S1 := Lib.hid (s1.keep ba)
    have S2 := Lib.hid (s2.keep ba)
    have HO6 := Lib.hid (HO.out.keep ba)
    have B6 := Lib.hid (bl HBr.out ba HBr.out.size)
    clear hlt hx s1 s2 hfx ba pr HO HBr
    go_wp2_with fail
    refine Calls.mono (RWrite15_okF L td m1 D i q1 c1 0 qd cd x.1 x.2 _ HP.out (by omega) S1.out S2.out) ?_
    rintro e w9 ⟨qw,nw,cw,rfl,ho,hb⟩
    have HB9 := Lib.hid (bl B6.out hb B6.out.size)
    have HW9 := Lib.hid (ho.mono B6.out.size)
    have HO9 := Lib.hid (HO6.out.keep hb)
    clear hb ho d0 d1 d2 d3 S1 S2 HO6 B6
    have ba : Below w9.heap.size w9 (w9.alloc (.cells #[.slice qw nw cw] 22 (0,0))) := al (Below.refl _ _) (Nat.le_refl _)
    have HO10 := Lib.hid (HO9.out.keep ba)
    have HW10 := Lib.hid (HW9.out.keep ba)
    have HB10 := Lib.hid (bl HB9.out ba HB9.out.size)
    clear ba
    go_wp2_with (first | (at_builtin; refine wpList_hdr rfl _ _ rfl wc.heap.size i (.slice qo i co) (expL D (R.take i)) rfl HO10.out (by omega) HB10.out.size w9.heap.size rfl qw nw cw (0,0) _ (hnew rfl) HW10.out ?_) | fail)
    rintro sA wA hA1 ⟨ys,hA2⟩ hA3 hA4
    obtain ⟨qA,cA,rfl⟩ := hA1.shape
    have HA : Hid (HdrF 22 5 wc.heap.size wA (.slice qA (i + 1) cA) (i + 1) (expL D (R.take (i + 1)))) := by show HdrF _ _ _ _ _ _ _; rw [HX.out]; exact hA1
    have HBA : Hid (Below wc.heap.size wc wA) := HB10.out.grown hA3 HB10.out.size (fun g hg => (hA2.lt g hg).1)
    clear hA1 hA2 hA3 hA4 HO10 HW10 HB10
    go_wp2
    go_roundw
    case rel => exact ⟨i + 1,cA,qA,HLT.out,by go_num,rfl,HA.out,HBA.out⟩
    case measure => simp [intOf]; have := HLT.out; omega
   ·obtain rfl : i = n' := by omega
    have e9 : R.take i = R := List.take_of_length_le (by have := HN.out; omega)
    rw [e9] at HO
    clear hlt e9
    go_wp2
    go_ret
    exact ⟨qo,co,by rw [← HN.out]; rfl,by rw [← HN.out]; exact hdrF_mono HO.out HB.out.size,bl HB.out HBr.out HB.out.size⟩
end Go.Proofs.YtccaiiigdfieoaaGreatDoor
namespace Go.By
open Go.RowKit Go.Maps
end Go.By
namespace Go.Proofs.YtccaiiigdfieoaaGreatDoor
open Go.RowKit Go.By Go.Maps
end Go.Proofs.YtccaiiigdfieoaaGreatDoor
namespace Go.Proofs.YtccaiiigdfieoaaGreatDoor
open Go.RowKit Go.By Go.Maps
end Go.Proofs.YtccaiiigdfieoaaGreatDoor
namespace Go.Proofs.YtccaiiigdfieoaaGreatDoor
open Go.RowKit Go.By Go.Maps
end Go.Proofs.YtccaiiigdfieoaaGreatDoor
namespace Go.Proofs
open Go.Shelf
end Go.Proofs
namespace Go.By
open Go.RowKit Go.Maps Go.ChangeMaps
end Go.By
namespace Go.Proofs.YtccaiiigdfieoaaGreatDoor
open Go.RowKit Go.By Go.Maps Go.Sort Go.Shelf
end Go.Proofs.YtccaiiigdfieoaaGreatDoor
namespace Go.Proofs.YtccaiiigdfieoaaGreatDoor
open Go.RowKit Go.By Go.Maps Go.Sort Go.Shelf
end Go.Proofs.YtccaiiigdfieoaaGreatDoor
namespace Go.By
open Go.RowKit
end Go.By
namespace Go.Proofs.YtccaiiigdfieoaaGreatDoor
open Go.RowKit Go.By
end Go.Proofs.YtccaiiigdfieoaaGreatDoor
namespace Go.Proofs.YtccaiiigdfieoaaGreatDoor
open Go.RowKit Go.By Go.Maps
end Go.Proofs.YtccaiiigdfieoaaGreatDoor
namespace Go.Proofs.YtccaiiigdfieoaaGreatDoor
open Go.RowKit Go.By Go.Maps
end Go.Proofs.YtccaiiigdfieoaaGreatDoor
namespace Go.By
open Go.RowKit
end Go.By
namespace Go.By
open Go.RowKit Go.Maps Go.Proofs.YtccaiiigdfieoaaGreatDoor
end Go.By
namespace Go.Proofs.YtccaiiigdfieoaaGreatDoor
open Go.RowKit Go.By Go.Maps
end Go.Proofs.YtccaiiigdfieoaaGreatDoor
namespace Go.By
open Go.RowKit Go.Maps Go.Proofs.YtccaiiigdfieoaaGreatDoor
theorem few_len19 {xss : List (List UInt8)} {n1 : Nat} (h : (xss.all (fun y => decide (y.length ≤ 800)) && decide (n1 ≤ 30)) = true) {i : Nat} {xs : List UInt8} (hx : xss[i]? = some xs) : xs.length ≤ 800 := by
 rw [Bool.and_eq_true] at h
 have := List.all_eq_true.1 h.1 xs (List.mem_of_getElem? hx)
 exact of_decide_eq_true this
end Go.By
namespace Go.Proofs.YtccaiiigdfieoaaGreatDoor
open Go.RowKit Go.By Go.Maps
theorem RRows19 {k t : Nat} {X K : List Rw} {wI W : World} {q : Option Addr} {c : Nat} (hX : RefS k t X K) (hk : k ≤ 12) (ht : t ≤ 20) (hl : X.length ≤ 31) (hR : RRef wI W q X.length c X) (hB : Below wI.heap.size wI W) : Calls Tryz.prog 30 #[.slice q X.length c] W (RetKN W K) := by
 have := RRows_any k t q X.length c X W (hR.rwS hB) hX.fit (by unfold Room; omega) (by unfold Room; omega) (by omega)
 rwa [show redL (kD X) = K from hX.sys.same.symm] at this
end Go.Proofs.YtccaiiigdfieoaaGreatDoor
namespace Go.By
open Go.RowKit Go.Proofs.YtccaiiigdfieoaaGreatDoor
def RwT4 (K : List Rw) (v : Value) (w : World) : Prop := ∃ q c,v = .slice q K.length c ∧ RwS w q K.length c K
def ShRw4 (K : List Rw) : Shp := ⟨RwT4 K,fun _ _ _ ⟨q,c,e,h⟩ hb => ⟨q,c,e,h.keep hb⟩⟩
def HdT4 (B : Nat) (L : List (List UInt8)) (v : Value) (w : World) : Prop := ∃ q c,v = .slice q L.length c ∧ HdrF 22 5 B w (.slice q L.length c) L.length L
def ShHd4 (B : Nat) (L : List (List UInt8)) : Shp := ⟨HdT4 B L,fun _ _ _ ⟨q,c,e,h⟩ hb => ⟨q,c,e,h.keep hb⟩⟩
theorem expR_if (k t : Nat) (K : List Rw) (st : Nat) : (if decide (st = 2) then K ++ [clashRow k t] else K) = expR k t K st := by
 unfold expR
 by_cases h : st = 2
 ·rw [if_pos h,decide_eq_true h]; rfl
 ·rw [if_neg h,decide_eq_false h]; rfl
end Go.By
namespace Go.Proofs.YtccaiiigdfieoaaGreatDoor
open Go.RowKit Go.By Go.Maps
theorem expL_lens {k t D : Nat} {R : List Rw} (hf : ∀ r,r ∈ R → Fit k t r) (hk : k ≤ 12) (ht : t ≤ 20) : ∀ x ∈ expL D R,x.length ≤ 46 := fun x hx => by
 obtain ⟨i,hi⟩ := List.mem_iff_getElem?.1 hx
 have hl : i < R.length := by have := (List.getElem?_eq_some_iff.1 hi).1; rwa [expL_len] at this
 have hr := List.getElem?_eq_getElem hl
 rw [expL_at hr] at hi
 have hf2 := hf _ (List.mem_of_getElem? hr)
 rw [← Option.some.inj hi,pktB_len0,hf2.1,hf2.2]
 omega
set_option maxRecDepth 1000000 in
set_option maxHeartbeats 8000000 in
theorem KeepExports_core (L t k D : Nat) (p1 : Option Addr) (n1 c1 : Nat) (xss : List (List UInt8)) (w : World) (hP : POK L t k D) (hk12 : k ≤ 12) (ht20 : t ≤ 20) (hfew : (xss.all (fun y => decide (y.length ≤ 800)) && decide (n1 ≤ 30)) = true) (hsm : small19 (L : Int) (t : Int) (k : Int) = true) (h1 : Sl2 w p1 n1 c1 xss) (hT : HalfT w) (hX : Tab10 w) :
  Calls Tryz.prog 4 #[PVal L t k D,.slice p1 n1 c1] w fun e w' => e = .returned (.bool true) ∧ Below w.heap.size w w' := by
 have HT := Lib.hid hT
 have HTX := Lib.hid hX
 have HFew : Hid (∀ w,Sl2 w p1 n1 c1 xss → Calls Tryz.prog 25 #[.slice p1 n1 c1] w fun e w' => e = .returned (.bool true) ∧ w = w') := fun w h => by have := Few18_any p1 n1 c1 xss w h; rw [hfew] at this; exact this
 have HSm : Hid (∀ w,Calls Tryz.prog 26 #[PVal L t k D] w fun e w' => e = .returned (.bool true) ∧ Below w.heap.size w w') := fun w => by have := Small19_any L t k D w hP.l; rw [hsm] at this; exact this
 have HNew := Lib.hid (fun w => TNew_ok L t k D w hP)
 have HP := Lib.hid hP
 have H1 := Lib.hid h1
 have HFw := Lib.hid hfew
 have HK12 := Lib.hid hk12
 have HT20 := Lib.hid ht20
 have hb1' := h1.bound
 clear hT hP h1 hfew hsm hk12 ht20 hX
 go_enter Tryz.func4,Tryz.ntmps4
 go_wp2_with fail
 refine Calls.mono (awake24 _ (HTX.out.keep (al (Below.refl _ _) (Nat.le_refl _))) (HT.out.keep (al (Below.refl _ _) (Nat.le_refl _)))) ?_
 rintro e w1 ⟨rfl,hb⟩
 obtain ⟨hb1,kp,hs1⟩ := one_of hb
 have HB1 := Lib.hid hb1
 clear hb hb1
 go_wp2_with fail
 refine Calls.mono (HFew.out _ (H1.out.keep HB1.out)) ?_
 rintro e w2 ⟨rfl,rfl⟩
 obtain ⟨z0,z1,z2,z3⟩ := cells_four kp
 go_wp2_with fail
 refine Calls.mono (HSm.out _) ?_
 rintro e w3 ⟨rfl,hb⟩
 have HB3 := Lib.hid (bl HB1.out hb HB1.out.size)
 have kp3 := (hb.block _ (lt_of_block kp)).trans kp
 clear hb z0 z1 z2 z3 kp HB1 hs1
 obtain ⟨z0,z1,z2,z3⟩ := cells_four kp3
 go_wp2_with fail
 refine Calls.mono (HNew.out _) ?_
 rintro e w4 ⟨gt,be,v0,rfl,hr,hb⟩
 have HB4 := Lib.hid (bl HB3.out hb HB3.out.size)
 have HBase : Hid (w.heap.size ≤ w3.heap.size) := HB3.out.size
 obtain ⟨base,hbase⟩ : ∃ base,base = w3.heap.size := ⟨_,rfl⟩
 rw [← hbase] at hr HBase
 have kp4 := (hb.block _ (lt_of_block kp3)).trans kp3
 clear hb kp3 z0 z1 z2 z3 hbase HB3
 obtain ⟨z0,z1,z2,z3⟩ := cells_four kp4
 have ba : Below w4.heap.size w4 (w4.alloc (.cells #[.int .i64 (L : Nat),.int .i64 (t : Nat),.int .i64 (k : Nat),.int .u32 (D : Nat)] 52 (0,0))) := al (Below.refl _ _) (Nat.le_refl _)
 have kd : (w4.alloc (.cells #[.int .i64 (L : Nat),.int .i64 (t : Nat),.int .i64 (k : Nat),.int .u32 (D : Nat)] 52 (0,0))).heap[w4.heap.size]? = some (.cells #[.int .i64 (L : Nat),.int .i64 (t : Nat),.int .i64 (k : Nat),.int .u32 (D : Nat)] 52 (0,0)) := hnew rfl
 have KD5 := Lib.hid kd
 have HR5 := Lib.hid (hr.keep ba)
 have HB5 := Lib.hid (bl HB4.out ba HB4.out.size)
 have KP4 := Lib.hid kp4
 clear ba kd hr HB4 HFew HSm HNew kp4
 go_wp2
 clear z0 z1 z2 z3
 obtain ⟨g1,hg1⟩ : ∃ g1,g1 = w4.heap.size := ⟨_,rfl⟩
 rw [← hg1] at KD5 ⊢
 clear hg1 KP4
 generalize w4.alloc (.cells #[.int .i64 (L : Nat),.int .i64 (t : Nat),.int .i64 (k : Nat),.int .u32 (D : Nat)] 52 (0,0)) = w5 at *
 go_loopw [8,9,43] (fun rv sv iv wr => ∃ (i : Nat) (M v : Value) (C : DataW Unit) (K X : List Rw) (st : Nat) (q : Option Addr) (c : Nat),i ≤ n1 ∧ iv = .int .i64 (i : Nat) ∧ rv = .slice q X.length c ∧ sv = .int .i64 (st : Nat) ∧ X.length ≤ i ∧ Hid (Tkr wr base gt be L t k D i M v C K st) ∧ Hid (RefS k t X K) ∧ Hid (RRef w wr q X.length c X) ∧ Hid (Below w.heap.size w wr) ∧ Hid (wr.heap[g1]? = some (.cells #[.int .i64 (L : Nat),.int .i64 (t : Nat),.int .i64 (k : Nat),.int .u32 (D : Nat)] 52 (0,0)))) (fun _ _ iv _ => n1 - (intOf iv).toNat)
 case atStart => exact ⟨0,_,_,_,_,[],0,none,0,Nat.zero_le _,rfl,rfl,rfl,Nat.zero_le _,HR5.out,RefS.nil k t,RRef.nil _ _,HB5.out,KD5.out⟩
 case round =>
  obtain ⟨i,M,v,C,K,X,st,q,c,hi,rfl,rfl,rfl,hxi,HR6,HX6,HF6,HB6,KD6⟩ := hrel
  clear HR5 HB5 KD5
  by_cases hlt : i < n1
  ·obtain ⟨bb,oo,qx,mx,cx,xs,rfl,hcd,hsd,hxd⟩ := H1.out.at i hlt
   have hcd6 := (HB6.out.cell (lt_of_cell hcd)).trans hcd
   have HXS := Lib.hid hsd
   have hmx : xs.length ≤ 800 := few_len19 HFw.out hxd.out
   have hmb : Room mx := by have := hsd.len; unfold Room; omega
   have hi30 : i < 30 := by
    have := HFw.out
    rw [Bool.and_eq_true] at this
    have := of_decide_eq_true this.2
    omega
   have hlt' : (i : Int) < (n1 : Int) := by omega
   have HLT := Lib.hid hlt
   clear hcd hsd hxd hlt hmx
   go_wp2_with fail
   refine Calls.mono (TTake_any base gt be L t k D i M v C K st qx mx cx xs wr HR6.out (HT.out.keep HB6.out) (by omega) (HXS.out.keep HB6.out) hmb) ?_
   rintro e w4 ⟨rfl,M4,v4,hk4,hch,-⟩
   have HR4 := Lib.hid hk4
   have HW4 := Lib.hid (HB6.out.trans (hch.below HR6.out HBase.out HB6.out.size))
   have HF4 := Lib.hid (HF6.out.keepS (hch.keepS HR6.out))
   have KD4 : Hid (w4.heap[g1]? = some (.cells #[.int .i64 (L : Nat),.int .i64 (t : Nat),.int .i64 (k : Nat),.int .u32 (D : Nat)] 52 (0,0))) := hch.blk HR6.out KD6.out (by decide) (by decide) (by decide)
   obtain ⟨hx4,hz4⟩ := HX6.out.take (D := D) (st := st) xs
   have hxl4 := refX_len k t D X st xs
   clear hk4 hch HR6 HF6 KD6 HB6
   obtain ⟨d0,d1,d2,d3⟩ := cells_four KD4.out
   go_wp2_with fail
   refine Calls.mono (RTake19_any L t k D q X.length c X st qx mx cx xs w w4 HP.out HW4.out HF4.out HXS.out HX6.out.fit (by omega)) ?_
   rintro e w5 ⟨q5,n5,c5,rfl,hf5,hb⟩
   rw [hz4] at *
   have HX5 := Lib.hid hx4
   generalize refX k t D X st xs = X5 at *
   generalize takeK k t D K st xs = K5 at *
   generalize takeS k t D K st xs = st5 at *
   generalize readC k t D xs = code at *
   obtain rfl : X5.length = n5 := hf5.len
   have HF5 := Lib.hid hf5
   have HR5 := Lib.hid (HR4.out.keep hb)
   have HW5 := Lib.hid (bl HW4.out hb HW4.out.size)
   have KD5 := Lib.hid ((hb.block _ (lt_of_block KD4.out)).trans KD4.out)
   generalize bump C code = C5 at *
   clear hf5 hb hx4 hz4 HR4 HF4 KD4 HW4 d0 d1 d2 d3 HX6 HXS
   have hxl : X5.length ≤ i + 1 := by omega
   go_wp2
   go_roundw
   case rel => exact ⟨i + 1,M4,v4,C5,K5,X5,st5,q5,c5,HLT.out,by go_num,rfl,rfl,hxl,HR5.out,HX5.out,HF5.out,HW5.out,KD5.out⟩
   case measure => simp [intOf]; have := HLT.out; omega
  ·obtain rfl : i = n1 := by omega
   have hn30 : i ≤ 30 := by
    have := HFw.out
    rw [Bool.and_eq_true] at this
    exact of_decide_eq_true this.2
   have HXL : Hid (X.length ≤ 31) := by show _ ≤ _; omega
   have HRW : Hid (∀ W,Below wr.heap.size wr W → Calls Tryz.prog 30 #[.slice q X.length c] W (RetKN W K)) := fun W hW => RRows19 HX6.out HK12.out HT20.out HXL.out (HF6.out.keep hW) (bl HB6.out hW HB6.out.size)
   have hKk : K.length ≤ k := Red.le HR6.out.red
   have HKl : Hid (K.length ≤ 12) := by have := HK12.out; show _ ≤ _; omega
   have HFit : Hid (∀ r,r ∈ K → Fit k t r) := fun r hr => (HR6.out.red.kept.rows r hr).1
   obtain ⟨bb,hbb⟩ : ∃ b,b = decide (st = 2) := ⟨_,rfl⟩
   have hst2 : ((st : Int) == 2) = bb := by rw [hbb,Bool.eq_iff_iff,decide_eq_true_iff,beq_iff_eq]; omega
   have HEq : Hid ((if bb then K ++ [clashRow k t] else K) = expR k t K st) := by show _ = _; rw [hbb]; exact expR_if k t K st
   have HREx : Hid (∀ W q' c',RwS W q' K.length c' K → Calls Tryz.prog 29 #[PVal L t k D,.slice q' K.length c',.bool bb] W fun e w' => ∃ q2 c2,e = .returned (.slice q2 (expL D (expR k t K st)).length c2) ∧ HdrF 22 5 W.heap.size w' (.slice q2 (expL D (expR k t K st)).length c2) (expL D (expR k t K st)).length (expL D (expR k t K st)) ∧ Below W.heap.size W w') := fun W q' c' h => by
    have := RExport_ok L t k D q' K.length c' K bb W HP.out h HFit.out (by have := HKl.out; omega)
    rw [HEq.out] at this
    rw [expL_len]; exact this
   have HEx : Hid (∀ W,Below wr.heap.size wr W → Calls Tryz.prog 27 #[.pointer (some ⟨gt,0,none⟩)] W fun e w' => ∃ q2 c2,e = .returned (.slice q2 (expL D (expR k t K st)).length c2) ∧ HdrF 22 5 W.heap.size w' (.slice q2 (expL D (expR k t K st)).length c2) (expL D (expR k t K st)).length (expL D (expR k t K st)) ∧ Below W.heap.size W w') := fun W hW => by
    have := KExport_ok base gt be L t k D i M v C K st W (HR6.out.keep hW) (HT.out.keep (bl HB6.out hW HB6.out.size))
    rw [expL_len]; exact this
   have HLl : Hid ((∀ x ∈ expL D (expR k t K st),x.length ≤ 46) ∧ (expL D (expR k t K st)).length ≤ 13) := ⟨expL_lens (expR_fit HFit.out) HK12.out HT20.out,by rw [expL_len]; have := expR_len (k := k) (t := t) (st := st) (K := K); have := HKl.out; omega⟩
   have HTx : Hid (∀ W,Below wr.heap.size wr W → Calls Tryz.prog 18 #[.pointer (some ⟨gt,0,none⟩)] W fun e w' => e = .returned (.string (strB (textW D L t k ++ [10] ++ hexT (expL D (expR k t K st))))) ∧ Below W.heap.size W w') := fun W hW =>
    KText_ok base gt be L t k D i M v C K st (expL D (expR k t K st)) W (HR6.out.keep hW) (HTX.out.keep (bl HB6.out hW HB6.out.size)) (fun W2 h2 => HEx.out W2 (bl hW h2 hW.size)) (fun x hx => by have := HLl.out.1 x hx; omega) (by have := HLl.out.2; omega)
   have HRT : Hid (∀ W,Below wr.heap.size wr W → Calls Tryz.prog 31 #[PVal L t k D] W fun e w' => e = .returned (.string (strB (textW D L t k))) ∧ Below W.heap.size W w') := fun W hW => by
    have := RText_any (L : Int) t k D HP.out.d W HP.out.l (HTX.out.keep (bl HB6.out hW HB6.out.size))
    rwa [textS_pok HP.out] at this
   have htl : (textW D L t k).length ≤ 100 := textW_len (by have := HP.out.d; omega) (by have := HP.out.l; omega) (by have := HP.out.t2; omega) (by have := HP.out.k2; omega)
   obtain ⟨E,hE⟩ : ∃ E,E = expL D (expR k t K st) := ⟨_,rfl⟩
   rw [← hE] at HREx HEx HTx HLl
   generalize textW D L t k = TX at *
   obtain ⟨d0,d1,d2,d3⟩ := cells_four KD6.out
   have hEl := HLl.out.2
   clear hlt hi hE hKk hxi hbb HX6 HF6 hn30
   go_upto_region 17 with (fail)
   refine wp_region_shapes (fun ix => ([.val (.agg #[.int .i64 (L : Nat),.int .i64 (t : Nat),.int .i64 (k : Nat),.int .u32 (D : Nat)]),.val (.slice q X.length c),(ShRw4 K),.val (.int .i64 (st : Nat)),.val (.bool bb),(ShHd4 wr.heap.size E),(ShHd4 wr.heap.size E)][ix]?).getD (.any)) 91 rfl (by kernel_rfl) (by decide +kernel) (by decide +kernel) (by decide +kernel) ?_ ?_
   ·refine ⟨?_,?_,?_,?_,?_,?_,?_,trivial⟩
    ·intro a W hb0 hs hp hi; have hb := undrew hb0; clear hb0
     have tt : sl a 7 = .pointer (some ⟨g1,0,none⟩) := hi 7 (by decide)
     have dd0 := (hb.cell (p := ⟨g1,0,none⟩) (lt_of_cell d0)).trans d0
     have dd1 := (hb.cell (p := ⟨g1,1,none⟩) (lt_of_cell d1)).trans d1
     have dd2 := (hb.cell (p := ⟨g1,2,none⟩) (lt_of_cell d2)).trans d2
     have dd3 := (hb.cell (p := ⟨g1,3,none⟩) (lt_of_cell d3)).trans d3
     refine ite_y rfl (wp_val (.agg #[.int .i64 (L : Nat),.int .i64 (t : Nat),.int .i64 (k : Nat),.int .u32 (D : Nat)]) ?_ ?_)
     ·simp only [execOp,eval_tmp,tt]; simp [go_sem,dd0,dd1,dd2,dd3]
     ·exact ⟨_,rfl,Below.refl _ _,rfl⟩
    ·intro a W hb0 hs hp hi; have hb := undrew hb0; clear hb0
     have t8 : sl a 8 = .slice q X.length c := hi 8 (by decide)
     exact ite_y rfl (wp_val (sl a 8) rfl ⟨_,rfl,Below.refl _ _,t8⟩)
    ·intro a W hb0 hs hp hi; have hb := undrew hb0; clear hb0
     have t61 : sl a 61 = .slice q X.length c := hp 1 (by decide)
     refine ite_y rfl (wp_enter 30 #[.slice q X.length c] ?_ (HRW.out W hb) ?_)
     ·simp only [execOp,resolve,List.map_toArray,List.map,eval_tmp,eval_func,eval_const,t61]; simp [go_sem]
     ·rintro e W' ⟨q5,n5,g5,rfl,rfl,hz,hw,-⟩; exact ⟨_,rfl,_,rfl,hw,q5,g5,rfl,hz⟩
    ·intro a W hb0 hs hp hi; have hb := undrew hb0; clear hb0
     have t9 : sl a 9 = .int .i64 (st : Nat) := hi 9 (by decide)
     exact ite_y rfl (wp_val (sl a 9) rfl ⟨_,rfl,Below.refl _ _,t9⟩)
    ·intro a W hb0 hs hp hi; have hb := undrew hb0; clear hb0
     have t63 : sl a 63 = .int .i64 (st : Nat) := hp 3 (by decide)
     refine ite_y rfl (wp_val (.bool bb) ?_ ?_)
     ·simp only [execOp,eval_tmp,eval_const,t63]; simp [go_sem,hst2]
     ·exact ⟨_,rfl,Below.refl _ _,rfl⟩
    ·intro a W hb0 hs hp hi; have hb := undrew hb0; clear hb0
     have t60 : sl a 60 = .agg #[.int .i64 (L : Nat),.int .i64 (t : Nat),.int .i64 (k : Nat),.int .u32 (D : Nat)] := hp 0 (by decide)
     have t62 : RwT4 K (sl a 62) W := hp 2 (by decide)
     have t64 : sl a 64 = .bool bb := hp 4 (by decide)
     obtain ⟨q5,g5,t62,z62⟩ := t62
     refine ite_y rfl (wp_enter 29 #[.agg #[.int .i64 (L : Nat),.int .i64 (t : Nat),.int .i64 (k : Nat),.int .u32 (D : Nat)],.slice q5 K.length g5,.bool bb] ?_ (HREx.out W q5 g5 z62) ?_)
     ·simp only [execOp,resolve,List.map_toArray,List.map,eval_tmp,eval_func,eval_const,t60,t62,t64]; simp [go_sem]
     ·rintro e W' ⟨q6,g6,rfl,hz,hw⟩; exact ⟨_,rfl,_,rfl,hw,q6,g6,rfl,hdrF_mono hz hb.size⟩
    ·intro a W hb0 hs hp hi; have hb := undrew hb0; clear hb0
     exact ite_y rfl (wp_val (sl a 65) rfl ⟨_,rfl,Below.refl _ _,hp 5 (by decide)⟩)
   intro a wa hb hs hd hI ht
   have ha := act_is [60,61,62,63,64,65,12] hs hd ht (by decide)
   have y12 : (ShHd4 wr.heap.size E).ok (sl a 12) wa := hI 6 (by decide)
   obtain ⟨qE,cE,tE,hE1⟩ := y12
   simp only [List.foldl,tE] at ha
   generalize sl a 60 = u60 at ha
   generalize sl a 61 = u61 at ha
   generalize sl a 62 = u62 at ha
   generalize sl a 63 = u63 at ha
   generalize sl a 64 = u64 at ha
   generalize sl a 65 = u65 at ha
   simp only [Act.put,List.setIfInBounds_toArray,List.set_cons_zero,List.set_cons_succ] at ha
   rw [ha]
   clear ha hI ht
   have HBa := Lib.hid (bl HB6.out hb HB6.out.size)
   have HBr := Lib.hid hb
   have HEa := Lib.hid (hE1.sl2)
   have KDa := Lib.hid ((hb.block _ (lt_of_block KD6.out)).trans KD6.out)
   clear hb hE1 d0 d1 d2 d3 HREx HRW KD6
   have s1 : (strB TX).size ≤ 100 := by rw [strB_size]; exact htl
   obtain ⟨d0,d1,d2,d3⟩ := cells_four KDa.out
   go_wp2_with fail
   refine Calls.mono (HRT.out wa HBr.out) ?_
   rintro e wb ⟨rfl,hb⟩
   have HBb := Lib.hid (bl HBr.out hb HBr.out.size)
   have HEb := Lib.hid (HEa.out.keep hb)
   clear hb d0 d1 d2 d3 HBr HEa KDa HBa HRT
   have HS0 : Hid (strB TX ++ ⟨#[10]⟩ = strB (TX ++ [10])) := txt_app TX [10]
   go_wp2
   go_loopw [13,71] (fun sv iv wz => ∃ (j : Nat) (A : List UInt8),j ≤ E.length ∧ iv = .int .i64 (j : Nat) ∧ sv = .string (strB A) ∧ Hid (A = TX ++ [10] ++ hexT (E.take j)) ∧ Hid (Below wb.heap.size wb wz)) (fun _ iv _ => E.length - (intOf iv).toNat)
   case atStart => exact ⟨0,TX ++ [10],Nat.zero_le _,rfl,congrArg Value.string HS0.out,by show _ = _; simp [hexT],Below.refl _ _⟩
   case round =>
    obtain ⟨j,A,hj,rfl,rfl,HA,HBz⟩ := hrel
    have HBw := Lib.hid (bl HBb.out HBz.out HBb.out.size)
    have hAl : A.length ≤ 100 + 1 + 93 * 13 := by
     rw [HA.out,List.length_append,List.length_append]
     have h1 := hexT_len (L := E.take j) (m := 46) fun x hx => HLl.out.1 x (List.mem_of_mem_take hx)
     have h2 : (E.take j).length ≤ 13 := by rw [List.length_take]; omega
     have h3 : (2 * 46 + 1) * (E.take j).length ≤ (2 * 46 + 1) * 13 := Nat.mul_le_mul_left _ h2
     simp only [List.length_cons,List.length_nil]
     omega
    by_cases hlt : j < E.length
    ·obtain ⟨bb,oo,qx,mx,cx,xs,rfl,hcd,hsd,hxd⟩ := (HEb.out.keep HBz.out).at j hlt
     have hxl := HLl.out.1 xs (List.mem_of_getElem? hxd.out)
     have hml := hsd.len
     have HHx := Lib.hid (Hex24_any qx mx cx xs wr hsd (by omega))
     have HSn := Lib.hid (hexT_snoc hxd.out)
     have HC : Hid (strB A ++ (strB (hexL xs) ++ ⟨#[10]⟩) = strB (A ++ (hexL xs ++ [10]))) := by
      show _ = _
      rw [show strB (hexL xs) ++ ⟨#[10]⟩ = strB (hexL xs ++ [10]) from txt_app _ _,txt_app]
     have s2 : (strB A).size ≤ 100 + 1 + 93 * 13 := by rw [strB_size]; exact hAl
     have s3 : (strB (hexL xs)).size ≤ 92 := by rw [strB_size,hexL_len]; omega
     obtain ⟨S,hS⟩ : ∃ S,S = strB A := ⟨_,rfl⟩
     obtain ⟨H,hH⟩ : ∃ H,H = strB (hexL xs) := ⟨_,rfl⟩
     rw [← hS] at HC s2 ⊢
     rw [← hH] at HC HHx s3
     have hlt' : (j : Int) < (E.length : Int) := by omega
     have HLT := Lib.hid hlt
     clear hsd hxd hlt hS hH hxl hml
     go_wp2_with fail
     refine Calls.mono HHx.out ?_
     rintro e wy ⟨rfl,hb⟩
     have HBy := Lib.hid (bl HBz.out hb HBz.out.size)
     clear hb HBz HHx
     go_wp2
     go_roundw
     case rel => exact ⟨j + 1,A ++ (hexL xs ++ [10]),HLT.out,by go_num,congrArg Value.string HC.out,by show _ = _; rw [HSn.out,HA.out,List.append_assoc],HBy.out⟩
     case measure => simp [intOf]; have := HLT.out; omega
    ·obtain rfl : j = E.length := by omega
     have hAe : A = TX ++ [10] ++ hexT E := by rw [HA.out,List.take_of_length_le (Nat.le_refl _)]
     rw [← hAe] at HTx
     have hZ : ((strB A).toList == (strB A).toList) = true := beq_self_eq_true _
     obtain ⟨Z,hZe⟩ : ∃ Z,Z = strB A := ⟨_,rfl⟩
     rw [← hZe] at hZ HTx ⊢
     clear hlt hAe hZe HA hAl hj
     go_wp2_with fail
     refine Calls.mono (HEx.out wr HBw.out) ?_
     rintro e wy ⟨q2,c2,rfl,hE2,hb⟩
     have HBy := Lib.hid (bl HBw.out hb HBw.out.size)
     have HS1 := Lib.hid hE2.sl2
     have HS2 := Lib.hid (HEb.out.keep (bl HBz.out hb HBz.out.size))
     clear hb hE2 HBw
     go_wp2_with fail
     refine Calls.mono (Same7_any _ _ _ _ _ _ E E wy HS1.out HS2.out) ?_
     rintro e wx ⟨rfl,hb⟩
     have HBx := Lib.hid (bl HBy.out hb HBy.out.size)
     clear hb HBy HS1 HS2
     rw [decide_eq_true rfl]
     go_wp2_with fail
     refine Calls.mono (HTx.out wx HBx.out) ?_
     rintro e wv ⟨rfl,hb⟩
     have HBv := Lib.hid (bl HBx.out hb HBx.out.size)
     clear hb HBx
     go_wp2
     go_ret
     exact ⟨rfl,bl HB6.out HBv.out HB6.out.size⟩
end Go.Proofs.YtccaiiigdfieoaaGreatDoor
namespace Go.Proofs.YtccaiiigdfieoaaGreatDoor
open Go.RowKit Go.By
theorem tab10_of {d32 d64 : DataW Unit} {rest : List (String × DataW Unit)} {W : World} (h : laidMet Tryz.prog (("math/bits.deBruijn32tab", d32) :: ("math/bits.deBruijn64tab", d64) :: ("internal/strconv.uint64pow10", Rows.laid_internal_strconv_uint64pow10) :: rest) W) : Tab10 W := by
 have hz : (Rows.laid_internal_strconv_uint64pow10 : DataW Unit) = Lib.tabData .u64 Lib.pow10Tab := rfl
 have h2 := laidMet.tail (laidMet.tail h)
 rw [hz] at h2
 exact Lib.tabIs_of_head (g := 2) (t := 323) (e := 81) (n := 20) (by kernel_rfl) (by kernel_rfl) (by kernel_rfl) (by kernel_rfl) (by kernel_rfl) (by kernel_rfl) h2
end Go.Proofs.YtccaiiigdfieoaaGreatDoor
namespace Go.Proofs.YtccaiiigdfieoaaGreatDoor
open Go.RowKit Go.By
theorem halves_of {rest : List (String × DataW Unit)} {W : World} (h : laidMet Tryz.prog (("wellspring/sum.halves", Rows.laid_wellspring_sum_halves) :: rest) W) : HalfT W := by
 obtain ⟨zs,hz,hzl,hzc⟩ : ∃ zs : List Int,(Rows.laid_wellspring_sum_halves : DataW Unit) = Lib.tabData .u32 zs ∧ zs.length = 16 ∧ ∀ i,i < 16 → zs.getD i 0 = ((crcTab.getD i 0 : Nat) : Int) := ⟨[0,498536548,997073096,651767980,1994146192,1802195444,1303535960,1342533948,3988292384,4027552580,3604390888,3412177804,2607071920,2262029012,2685067896,3183342108],rfl,rfl,by decide⟩
 rw [hz] at h
 have h3 := Lib.tabIs_of_head (g := 0) (t := 304) (e := 23) (n := 16) (by kernel_rfl) (by kernel_rfl) (by kernel_rfl) (by kernel_rfl) (by kernel_rfl) (by kernel_rfl) h
 intro i hi
 have := h3.cell (g := 0) (by kernel_rfl) i (by omega)
 rw [hzc i hi] at this
 exact this
end Go.Proofs.YtccaiiigdfieoaaGreatDoor
namespace Go.Proofs.YtccaiiigdfieoaaGreatDoor
open Go.RowKit Go.By
theorem keep_of {d32 d64 : DataW Unit} {rest : List (String × DataW Unit)} {W : World} (h : laidMet Tryz.prog (("math/bits.deBruijn32tab", d32) :: ("math/bits.deBruijn64tab", d64) :: ("internal/strconv.uint64pow10", Rows.laid_internal_strconv_uint64pow10) :: ("wellspring/sum.halves", Rows.laid_wellspring_sum_halves) :: rest) W) : Tab10 W ∧ HalfT W := ⟨tab10_of h, halves_of (laidMet.tail (laidMet.tail (laidMet.tail h)))⟩
end Go.Proofs.YtccaiiigdfieoaaGreatDoor
namespace Go.Proofs.YtccaiiigdfieoaaGreatDoor
open Go.RowKit Go.By Go.Maps
set_option maxRecDepth 100000 in
set_option maxHeartbeats 4000000 in
theorem KeepExports_out (l s n d : Int) (p1 : Option Addr) (n1 c1 : Nat) (xss : List (List UInt8)) (w : World) (hl : l ≤ 9223372036854775807) (h1 : Sl2 w p1 n1 c1 xss) (hT : HalfT w) (hX : Tab10 w)
  (hx : ((xss.all (fun y => decide (y.length ≤ 800)) && decide (n1 ≤ 30)) && small19 l s n) = false) :
  Calls Tryz.prog 4 #[.agg #[.int .i64 l,.int .i64 s,.int .i64 n,.int .u32 d],.slice p1 n1 c1] w fun e w' => e = .returned (.bool true) ∧ Below w.heap.size w w' := by
 have HT := Lib.hid hT
 have HTX := Lib.hid hX
 have HFew : Hid (∀ w,Sl2 w p1 n1 c1 xss → Calls Tryz.prog 25 #[.slice p1 n1 c1] w fun e w' => e = .returned (.bool (xss.all (fun y => decide (y.length ≤ 800)) && decide (n1 ≤ 30))) ∧ w = w') := fun w h => Few18_any p1 n1 c1 xss w h
 have HSm := Lib.hid (fun w => Small19_any l s n d w hl)
 generalize (xss.all (fun y => decide (y.length ≤ 800)) && decide (n1 ≤ 30)) = F at *
 generalize small19 l s n = S at *
 have H1 := Lib.hid h1
 clear hT h1 hX
 cases F with
 | false =>
  clear hx
  go_enter Tryz.func4,Tryz.ntmps4
  go_wp2_with fail
  refine Calls.mono (awake24 _ (HTX.out.keep (al (Below.refl _ _) (Nat.le_refl _))) (HT.out.keep (al (Below.refl _ _) (Nat.le_refl _)))) ?_
  rintro e w1 ⟨rfl,hb⟩
  have HB1 := Lib.hid (one_of hb).1
  clear hb
  go_wp2_with fail
  refine Calls.mono (HFew.out _ (H1.out.keep HB1.out)) ?_
  rintro e w2 ⟨rfl,rfl⟩
  go_wp2
  go_ret
  exact ⟨rfl,HB1.out⟩
 | true =>
  cases S with
  | false =>
   clear hx
   go_enter Tryz.func4,Tryz.ntmps4
   go_wp2_with fail
   refine Calls.mono (awake24 _ (HTX.out.keep (al (Below.refl _ _) (Nat.le_refl _))) (HT.out.keep (al (Below.refl _ _) (Nat.le_refl _)))) ?_
   rintro e w1 ⟨rfl,hb⟩
   obtain ⟨hb1,kp,hs1⟩ := one_of hb
   have HB1 := Lib.hid hb1
   clear hb hb1
   go_wp2_with fail
   refine Calls.mono (HFew.out _ (H1.out.keep HB1.out)) ?_
   rintro e w2 ⟨rfl,rfl⟩
   obtain ⟨z0,z1,z2,z3⟩ := cells_four kp
   go_wp2_with fail
   refine Calls.mono (HSm.out _) ?_
   rintro e w3 ⟨rfl,hb⟩
   have HB3 := Lib.hid (bl HB1.out hb HB1.out.size)
   clear hb z0 z1 z2 z3 kp HB1
   go_wp2
   go_ret
   exact ⟨rfl,HB3.out⟩
  | true => cases hx
set_option maxRecDepth 100000 in
set_option maxHeartbeats 4000000 in
theorem KeepExports_bad (l s n d : Int) (p1 : Option Addr) (n1 c1 : Nat) (xss : List (List UInt8)) (w : World) (hl : l ≤ 9223372036854775807) (h1 : Sl2 w p1 n1 c1 xss) (hT : HalfT w) (hX : Tab10 w)
  (hfew : (xss.all (fun y => decide (y.length ≤ 800)) && decide (n1 ≤ 30)) = true) (hc : checkS l s n ≠ 0) :
  Calls Tryz.prog 4 #[.agg #[.int .i64 l,.int .i64 s,.int .i64 n,.int .u32 d],.slice p1 n1 c1] w fun e w' => e = .returned (.bool true) ∧ Below w.heap.size w w' := by
 have HT := Lib.hid hT
 have HTX := Lib.hid hX
 have HFew : Hid (∀ w,Sl2 w p1 n1 c1 xss → Calls Tryz.prog 25 #[.slice p1 n1 c1] w fun e w' => e = .returned (.bool true) ∧ w = w') := fun w h => by have := Few18_any p1 n1 c1 xss w h; rw [hfew] at this; exact this
 have hsm : small19 l s n = true := by unfold small19; rw [if_neg hc]
 have HSm : Hid (∀ w,Calls Tryz.prog 26 #[.agg #[.int .i64 l,.int .i64 s,.int .i64 n,.int .u32 d]] w fun e w' => e = .returned (.bool true) ∧ Below w.heap.size w w') := fun w => by have := Small19_any l s n d w hl; rw [hsm] at this; exact this
 have HNew := Lib.hid (fun w => TNew_bad l s n d w hl hc)
 have hz : (checkS l s n != 0) = true := bne_iff_ne.2 hc
 generalize checkS l s n = C at *
 have H1 := Lib.hid h1
 clear hT h1 hsm hc hfew hX
 go_enter Tryz.func4,Tryz.ntmps4
 go_wp2_with fail
 refine Calls.mono (awake24 _ (HTX.out.keep (al (Below.refl _ _) (Nat.le_refl _))) (HT.out.keep (al (Below.refl _ _) (Nat.le_refl _)))) ?_
 rintro e w1 ⟨rfl,hb⟩
 obtain ⟨hb1,kp,hs1⟩ := one_of hb
 have HB1 := Lib.hid hb1
 clear hb hb1
 go_wp2_with fail
 refine Calls.mono (HFew.out _ (H1.out.keep HB1.out)) ?_
 rintro e w2 ⟨rfl,rfl⟩
 obtain ⟨z0,z1,z2,z3⟩ := cells_four kp
 go_wp2_with fail
 refine Calls.mono (HSm.out _) ?_
 rintro e w3 ⟨rfl,hb⟩
 have HB3 := Lib.hid (bl HB1.out hb HB1.out.size)
 have kp3 := (hb.block _ (lt_of_block kp)).trans kp
 clear hb z0 z1 z2 z3 kp HB1 hs1
 obtain ⟨z0,z1,z2,z3⟩ := cells_four kp3
 go_wp2_with fail
 refine Calls.mono (HNew.out _) ?_
 rintro e w4 ⟨rfl,hb⟩
 have HB4 := Lib.hid (bl HB3.out hb HB3.out.size)
 clear hb kp3 z0 z1 z2 z3 HB3
 go_wp2_with fail
 refine Calls.mono (KText_nil _) ?_
 rintro e w5 ⟨rfl,rfl⟩
 go_wp2_with fail
 refine Calls.mono (KExport_nil _) ?_
 rintro e w6 ⟨rfl,rfl⟩
 go_wp2
 go_ret
 exact ⟨rfl,HB4.out⟩
theorem KeepExports_any (l s n d : Int) (p1 : Option Addr) (n1 c1 : Nat) (xss : List (List UInt8)) (w : World) (w0 : (Lit.int .i64 l).wf = true) (_w1 : (Lit.int .i64 s).wf = true) (_w2 : (Lit.int .i64 n).wf = true) (w3 : (Lit.int .u32 d).wf = true) (h1 : Sl2 w p1 n1 c1 xss) (hK : Tab10 w ∧ HalfT w) :
  Calls Tryz.prog 4 #[.agg #[.int .i64 l,.int .i64 s,.int .i64 n,.int .u32 d],.slice p1 n1 c1] w fun e w' => e = .returned (.bool true) ∧ Below w.heap.size w w' := by
 have hl := (Go.bounds_i64 w0).2
 have hd := Go.bounds_u32 w3
 obtain ⟨hX,hT⟩ := hK
 by_cases hx : ((xss.all (fun y => decide (y.length ≤ 800)) && decide (n1 ≤ 30)) && small19 l s n) = false
 ·exact KeepExports_out l s n d p1 n1 c1 xss w hl h1 hT hX hx
 ·rw [Bool.not_eq_false,Bool.and_eq_true] at hx
  obtain ⟨hfew,hsm⟩ := hx
  by_cases hc : checkS l s n = 0
  ·obtain ⟨L,t,k,D,rfl,rfl,rfl,rfl,hP⟩ := pok_of hl hc hd.1 (by omega)
   have hsm' := hsm
   unfold small19 at hsm'
   rw [if_pos hc,Bool.and_eq_true] at hsm'
   have h12 := of_decide_eq_true hsm'.1
   have h20 := of_decide_eq_true hsm'.2
   exact KeepExports_core L t k D p1 n1 c1 xss w hP (by omega) (by omega) hfew hsm h1 hT hX
  ·exact KeepExports_bad l s n d p1 n1 c1 xss w hl h1 hT hX hfew hc
end Go.Proofs.YtccaiiigdfieoaaGreatDoor
namespace Go.By
open Go.RowKit
theorem spot_none {w : World} {x : Addr} {v : Value} (h : w.cell? (x.add 0) = some v) : ∃ b o,x = ⟨b,o,none⟩ := by
 obtain ⟨b,off,spot⟩ := x
 have hspot : spot = none := by simpa [Addr.add] using World.cell?_spot h
 subst hspot
 exact ⟨b,off,rfl⟩
theorem sl2_of_rows {w : World} {a : Option Addr} {len cap : Nat} (hl : len ≤ cap) (hm : cap ≤ maxLen) (hn : a = none → len = 0 ∧ cap = 0) (A : Nat → Option Addr) (L C : Nat → Nat) (Z : Nat → List Int)
  (h : ∀ x,a = some x → ∀ r,r < cap → w.cell? (x.add r) = some (.slice (A r) (L r) (C r)) ∧ L r ≤ C r ∧ C r ≤ maxLen ∧ (Z r).length = C r ∧ (∀ n ∈ Z r,(Lit.int .u8 n).wf = true) ∧ (A r = none → C r = 0) ∧
    ∀ a',A r = some a' → ∀ c,c < C r → w.cell? (a'.add c) = some (.int .u8 ((Z r).getD c 0))) : ∃ xss,Sl2 w a len cap xss := by
 have each : ∀ r,∃ xs,r < len → Sl B8 w (A r) (L r) (C r) xs := by
  intro r
  by_cases hr : r < len
  ·cases ha : a with
   | none => have := hn ha; omega
   | some x =>
    obtain ⟨_,h1,h2,h3,h4,h5,h6⟩ := h x ha r (by omega)
    cases hA : A r with
    | none =>
     have := h5 hA
     have hL : L r = 0 := by omega
     exact ⟨[],fun _ => by rw [hL,this]; exact Sl.nil0 _ _⟩
    | some a' =>
     obtain ⟨xs,hx⟩ := sl_of_row (w := w) (a := some a') (len := L r) (cap := C r) (zs := Z r) (.inr ⟨a',rfl,h1,h2,h3,fun i hi => h6 a' hA i (by omega),h4⟩)
     exact ⟨xs,fun _ => hx⟩
  ·exact ⟨[],fun h => absurd h hr⟩
 refine ⟨(List.range len).map fun r => Classical.choose (each r),⟨by simp,hl,hm,hn,?_⟩⟩
 intro i xs hi
 obtain ⟨hi',e⟩ := List.getElem?_eq_some_iff.1 hi
 simp at hi' e
 have hs := Classical.choose_spec (each i) hi'
 rw [e] at hs
 cases ha : a with
 | none => have := hn ha; omega
 | some x =>
  obtain ⟨hc,_⟩ := h x ha i (by omega)
  obtain ⟨b,o,rfl⟩ := spot_none (h x ha 0 (by omega)).1
  rw [Addr.add_lit] at hc
  exact ⟨b,o,A i,C i,rfl,by rw [hs.len]; exact hc,by rw [hs.len]; exact hs⟩
end Go.By
