/- Chapter 25: the texts of a view. Chapter 19: the law's awake. Arguments that came in,as bytes and slices of bytes. Slices of structs of two slices of bytes,that came in. Sources that came in: a slice of structs of a byte,bytes and a number,opened. What the laws of the packets ask first: few bytes,small plans. Chapter 19: TakerHas,of an object that the plan fits. The contracts of slices.Delete and slices.Insert at parcels. The contract of slices.Insert at parcels: one more,where there is room. Lists of parcels that the call owns: each owns its bytes,no two share them. The contracts of the acts: drop,move,forge. The contract of the act move. The contract of the act double. The contract of the act cut. One cell of a parcel is written: its bytes,or where it came from. The contract of the act mask. What acts do to lists of packets; acts that came in,read from memory. Acts that came in: a slice of structs of five cells,and one by value,opened. The contract of play. The contracts of Apply and Whole. The contracts of Whole,of slices.Equal at ints,of Harms; of the law's Few; the chapter's example. The contract of the law's Few of layer 20; the chapter's example. The plain law of WayWhole: what came whole is what was sent; acts that harm nothing leave all whole; acts one by one are as all at once. Chapter 22: what a trip comes to (plain); what a sender and a taker carry along while other blocks turn. Chapter 24,plain: what a taker's rows are as packets,and as a text. Chapter 24,the reference: Hex. Chapter 24: keep.Text. The document's mixing: shifted,Next,Bytes (chapter 5). A region that draws its order,in which one whole row is stored: all else is told values (calls that change nothing among them). The document's heads as read (chapter 13); widths,lengths (chapters 14,15). -/
import Derived.Test.YtccaiiigdfieoaaGreatDoorZl9
import Derived.OpenShut
import Derived.Lib.SmallJoins
import Derived.Deep.DeepCutAuto
import Derived.Deep.RegionLaw
import Derived.Lib.Overlaps
import Derived.Shelf.Spec.SlicesInsert
import Derived.Lib.AppendZeros
import Derived.Deep.AppendLies
import Derived.Deep.RegionWith
import Derived.BigQuiet
namespace Go.By
open Go.RowKit Go.Proofs.YtccaiiigdfieoaaGreatDoor
def wordV (st:Nat):List UInt8:=if st = 1 then [100,111,110,101] else if st = 2 then [105,110,99,111,110,115,105,115,116,101,110,116] else [112,101,110,100,105,110,103]
def viewT (st r k n m:Nat):List UInt8:=wordV st ++ [32] ++ Lib.decDigits r ++ [47] ++ Lib.decDigits k ++ [32] ++ Lib.decDigits n ++ [32] ++ Lib.decDigits m
end Go.By
namespace Go.Proofs.YtccaiiigdfieoaaGreatDoor
open Go.RowKit Go.By Go.Maps
set_option maxRecDepth 1000000 in
set_option maxHeartbeats 4000000 in
theorem VText_any (L t k D st r n m:Nat) (w:World) (hT:Tab10 w) (hs:st = 0∨st = 1∨st = 2) (hr:r≤1000000) (hk:k≤1000000) (hn:n≤1000000) (hm:m≤1000000) :
  Calls Tryz.prog 39 #[VwV L t k D st r n m] w fun e w'=>e = .returned (.string (strB (viewT st r k n m)))∧Below w.heap.size w w':=by
 have HT:=Lib.hid hT
 unfold VwV
 clear hT
 have hr:r≤9223372036854775807:=by omega
 have hk:k≤9223372036854775807:=by omega
 have hn:n≤9223372036854775807:=by omega
 have hm:m≤9223372036854775807:=by omega
 have zr:=dd_len (u:=r) (by omega)
 have zk:=dd_len (u:=k) (by omega)
 have zn:=dd_len (u:=n) (by omega)
 have zm:=dd_len (u:=m) (by omega)
 have e1:(⟨#[47]⟩:ByteArray) = strB [47]:=rfl
 have e2:(⟨#[32]⟩:ByteArray) = strB [32]:=rfl
 rcases hs with rfl | rfl | rfl
 ·obtain ⟨WD,hWD⟩:∃ WD,WD = wordV 0:=⟨_,rfl⟩
  have e3:(⟨#[112,101,110,100,105,110,103]⟩:ByteArray) = strB WD:=by rw [hWD];rfl
  have zw:WD.length≤12:=by rw [hWD];decide
  have HWD:=Lib.hid hWD
  clear hWD
  go_enter Tryz.func39,Tryz.ntmps39
  go_upto_region 5 with (fail)
  have hv0:VwB (w.alloc (.cells #[.int .i64 (L:Nat),.int .i64 (t:Nat),.int .i64 (k:Nat),.int .u32 (D:Nat),.int .i64 0,.int .i64 (r:Nat),.int .i64 (n:Nat),.int .i64 (m:Nat)] 63 (0,0))) w.heap.size L t k D 0 r n m:=hnew rfl
  have ba:Below (w.alloc (.cells #[.int .i64 (L:Nat),.int .i64 (t:Nat),.int .i64 (k:Nat),.int .u32 (D:Nat),.int .i64 0,.int .i64 (r:Nat),.int .i64 (n:Nat),.int .i64 (m:Nat)] 63 (0,0))).heap.size (w.alloc (.cells #[.int .i64 (L:Nat),.int .i64 (t:Nat),.int .i64 (k:Nat),.int .u32 (D:Nat),.int .i64 0,.int .i64 (r:Nat),.int .i64 (n:Nat),.int .i64 (m:Nat)] 63 (0,0))) ((w.alloc (.cells #[.int .i64 (L:Nat),.int .i64 (t:Nat),.int .i64 (k:Nat),.int .u32 (D:Nat),.int .i64 0,.int .i64 (r:Nat),.int .i64 (n:Nat),.int .i64 (m:Nat)] 63 (0,0))).alloc (.cells #[.string (strB WD),.string ⟨#[100,111,110,101]⟩,.string ⟨#[105,110,99,111,110,115,105,115,116,101,110,116]⟩] 169 (0,0))):=al (Below.refl _ _) (Nat.le_refl _)
  have hv1:VwB ((w.alloc (.cells #[.int .i64 (L:Nat),.int .i64 (t:Nat),.int .i64 (k:Nat),.int .u32 (D:Nat),.int .i64 0,.int .i64 (r:Nat),.int .i64 (n:Nat),.int .i64 (m:Nat)] 63 (0,0))).alloc (.cells #[.string (strB WD),.string ⟨#[100,111,110,101]⟩,.string ⟨#[105,110,99,111,110,115,105,115,116,101,110,116]⟩] 169 (0,0))) w.heap.size L t k D 0 r n m:=(ba.block _ (lt_of_block hv0)).trans hv0
  have HB:Hid (Below w.heap.size w ((w.alloc (.cells #[.int .i64 (L:Nat),.int .i64 (t:Nat),.int .i64 (k:Nat),.int .u32 (D:Nat),.int .i64 0,.int .i64 (r:Nat),.int .i64 (n:Nat),.int .i64 (m:Nat)] 63 (0,0))).alloc (.cells #[.string (strB WD),.string ⟨#[100,111,110,101]⟩,.string ⟨#[105,110,99,111,110,115,105,115,116,101,110,116]⟩] 169 (0,0)))):=al (al (Below.refl _ _) (Nat.le_refl _)) (by simp)
  clear hv0 ba
  generalize (w.alloc (.cells #[.int .i64 (L:Nat),.int .i64 (t:Nat),.int .i64 (k:Nat),.int .u32 (D:Nat),.int .i64 0,.int .i64 (r:Nat),.int .i64 (n:Nat),.int .i64 (m:Nat)] 63 (0,0))).alloc (.cells #[.string (strB WD),.string ⟨#[100,111,110,101]⟩,.string ⟨#[105,110,99,111,110,115,105,115,116,101,110,116]⟩] 169 (0,0)) = w1 at *
  have HT1:=Lib.hid (HT.out.keep HB.out)
  obtain ⟨c0,c1,c2,c3,c4,c5,c6,c7⟩:=cells_eight hv1
  clear hv1 c4
  refine wp_region_shapes (fun ix=>([.val (.string (strB WD)),.val (.string ((strB WD) ++ ⟨#[32]⟩)),.val (.pointer (some ⟨w.heap.size,5,none⟩)),.val (.int .i64 (r:Nat)),.val (.string (strB (Lib.decDigits r))),.val (.string (((strB WD) ++ ⟨#[32]⟩) ++ (strB (Lib.decDigits r)))),.val (.string ((((strB WD) ++ ⟨#[32]⟩) ++ (strB (Lib.decDigits r))) ++ ⟨#[47]⟩)),.val (.pointer (some ⟨w.heap.size,0,none⟩)),.val (.pointer (some ⟨w.heap.size,2,none⟩)),.val (.int .i64 (k:Nat)),.val (.string (strB (Lib.decDigits k))),.val (.string (((((strB WD) ++ ⟨#[32]⟩) ++ (strB (Lib.decDigits r))) ++ ⟨#[47]⟩) ++ (strB (Lib.decDigits k)))),.val (.string ((((((strB WD) ++ ⟨#[32]⟩) ++ (strB (Lib.decDigits r))) ++ ⟨#[47]⟩) ++ (strB (Lib.decDigits k))) ++ ⟨#[32]⟩)),.val (.pointer (some ⟨w.heap.size,6,none⟩)),.val (.int .i64 (n:Nat)),.val (.string (strB (Lib.decDigits n))),.val (.string (((((((strB WD) ++ ⟨#[32]⟩) ++ (strB (Lib.decDigits r))) ++ ⟨#[47]⟩) ++ (strB (Lib.decDigits k))) ++ ⟨#[32]⟩) ++ (strB (Lib.decDigits n)))),.val (.string ((((((((strB WD) ++ ⟨#[32]⟩) ++ (strB (Lib.decDigits r))) ++ ⟨#[47]⟩) ++ (strB (Lib.decDigits k))) ++ ⟨#[32]⟩) ++ (strB (Lib.decDigits n))) ++ ⟨#[32]⟩)),.val (.pointer (some ⟨w.heap.size,7,none⟩)),.val (.int .i64 (m:Nat)),.val (.string (strB (Lib.decDigits m))),.val (.string (((((((((strB WD) ++ ⟨#[32]⟩) ++ (strB (Lib.decDigits r))) ++ ⟨#[47]⟩) ++ (strB (Lib.decDigits k))) ++ ⟨#[32]⟩) ++ (strB (Lib.decDigits n))) ++ ⟨#[32]⟩) ++ (strB (Lib.decDigits m)))),.val (.string (((((((((strB WD) ++ ⟨#[32]⟩) ++ (strB (Lib.decDigits r))) ++ ⟨#[47]⟩) ++ (strB (Lib.decDigits k))) ++ ⟨#[32]⟩) ++ (strB (Lib.decDigits n))) ++ ⟨#[32]⟩) ++ (strB (Lib.decDigits m))))][ix]?).getD (.any)) 42 rfl (by kernel_rfl) (by decide +kernel) (by decide +kernel) (by decide +kernel) ?_ ?_
  ·refine ⟨?_,?_,?_,?_,?_,?_,?_,?_,?_,?_,?_,?_,?_,?_,?_,?_,?_,?_,?_,?_,?_,?_,?_,trivial⟩
   ·intro a W hb0 hs hp hi;have hb:=undrew hb0;clear hb0
    have t4:sl a 4 = .string (strB WD):=hi 4 (by decide)
    exact ite_y rfl (wp_val (sl a 4) rfl ⟨_,rfl,Below.refl _ _,t4⟩)
   ·intro a W hb0 hs hp hi;have hb:=undrew hb0;clear hb0
    have ti0:sl a 20 = .string (strB WD):=hp 0 (by decide)
    refine ite_y rfl (wp_val (.string ((strB WD) ++ ⟨#[32]⟩)) ?_ ?_)
    ·simp only [execOp,eval_tmp,eval_const,ti0];simp [go_sem,strB_size] <;> omega
    ·exact ⟨_,rfl,Below.refl _ _,rfl⟩
   ·intro a W hb0 hs hp hi;have hb:=undrew hb0;clear hb0
    have t1:sl a 1 = .pointer (some ⟨w.heap.size,0,none⟩):=hi 1 (by decide)
    refine ite_y rfl (wp_val (.pointer (some ⟨w.heap.size,5,none⟩)) ?_ ?_)
    ·simp only [execOp,eval_tmp,eval_const,t1];simp [go_sem]
    ·exact ⟨_,rfl,Below.refl _ _,rfl⟩
   ·intro a W hb0 hs hp hi;have hb:=undrew hb0;clear hb0
    have tt:sl a 22 = .pointer (some ⟨w.heap.size,5,none⟩):=hp 2 (by decide)
    have dd:=(hb.cell (p:=⟨w.heap.size,5,none⟩) (lt_of_cell c5)).trans c5
    refine ite_y rfl (wp_val (.int .i64 (r:Nat)) ?_ ?_)
    ·simp only [execOp,eval_tmp,tt];simp [go_sem,dd]
    ·exact ⟨_,rfl,Below.refl _ _,rfl⟩
   ·intro a W hb0 hs hp hi;have hb:=undrew hb0;clear hb0
    have t23:sl a 23 = .int .i64 (r:Nat):=hp 3 (by decide)
    refine ite_y rfl (wp_enter 91 #[.int .i64 (r:Nat)] ?_ (Itoa_any r hr W (HT1.out.keep hb)) ?_)
    ·simp only [execOp,resolve,List.map_toArray,List.map,eval_tmp,eval_func,eval_const,t23];simp [go_sem]
    ·rintro e W' ⟨rfl,hw⟩;exact ⟨_,rfl,_,rfl,hw,rfl⟩
   ·intro a W hb0 hs hp hi;have hb:=undrew hb0;clear hb0
    have ti0:sl a 21 = .string ((strB WD) ++ ⟨#[32]⟩):=hp 1 (by decide)
    have ti1:sl a 24 = .string (strB (Lib.decDigits r)):=hp 4 (by decide)
    refine ite_y rfl (wp_val (.string (((strB WD) ++ ⟨#[32]⟩) ++ (strB (Lib.decDigits r)))) ?_ ?_)
    ·simp only [execOp,eval_tmp,eval_const,ti0,ti1];simp [go_sem,strB_size] <;> omega
    ·exact ⟨_,rfl,Below.refl _ _,rfl⟩
   ·intro a W hb0 hs hp hi;have hb:=undrew hb0;clear hb0
    have ti0:sl a 25 = .string (((strB WD) ++ ⟨#[32]⟩) ++ (strB (Lib.decDigits r))):=hp 5 (by decide)
    refine ite_y rfl (wp_val (.string ((((strB WD) ++ ⟨#[32]⟩) ++ (strB (Lib.decDigits r))) ++ ⟨#[47]⟩)) ?_ ?_)
    ·simp only [execOp,eval_tmp,eval_const,ti0];simp [go_sem,strB_size] <;> omega
    ·exact ⟨_,rfl,Below.refl _ _,rfl⟩
   ·intro a W hb0 hs hp hi;have hb:=undrew hb0;clear hb0
    have t1:sl a 1 = .pointer (some ⟨w.heap.size,0,none⟩):=hi 1 (by decide)
    refine ite_y rfl (wp_val (.pointer (some ⟨w.heap.size,0,none⟩)) ?_ ?_)
    ·simp only [execOp,eval_tmp,eval_const,t1];simp [go_sem]
    ·exact ⟨_,rfl,Below.refl _ _,rfl⟩
   ·intro a W hb0 hs hp hi;have hb:=undrew hb0;clear hb0
    have t27:sl a 27 = .pointer (some ⟨w.heap.size,0,none⟩):=hp 7 (by decide)
    refine ite_y rfl (wp_val (.pointer (some ⟨w.heap.size,2,none⟩)) ?_ ?_)
    ·simp only [execOp,eval_tmp,eval_const,t27];simp [go_sem]
    ·exact ⟨_,rfl,Below.refl _ _,rfl⟩
   ·intro a W hb0 hs hp hi;have hb:=undrew hb0;clear hb0
    have tt:sl a 28 = .pointer (some ⟨w.heap.size,2,none⟩):=hp 8 (by decide)
    have dd:=(hb.cell (p:=⟨w.heap.size,2,none⟩) (lt_of_cell c2)).trans c2
    refine ite_y rfl (wp_val (.int .i64 (k:Nat)) ?_ ?_)
    ·simp only [execOp,eval_tmp,tt];simp [go_sem,dd]
    ·exact ⟨_,rfl,Below.refl _ _,rfl⟩
   ·intro a W hb0 hs hp hi;have hb:=undrew hb0;clear hb0
    have t29:sl a 29 = .int .i64 (k:Nat):=hp 9 (by decide)
    refine ite_y rfl (wp_enter 91 #[.int .i64 (k:Nat)] ?_ (Itoa_any k hk W (HT1.out.keep hb)) ?_)
    ·simp only [execOp,resolve,List.map_toArray,List.map,eval_tmp,eval_func,eval_const,t29];simp [go_sem]
    ·rintro e W' ⟨rfl,hw⟩;exact ⟨_,rfl,_,rfl,hw,rfl⟩
   ·intro a W hb0 hs hp hi;have hb:=undrew hb0;clear hb0
    have ti0:sl a 26 = .string ((((strB WD) ++ ⟨#[32]⟩) ++ (strB (Lib.decDigits r))) ++ ⟨#[47]⟩):=hp 6 (by decide)
    have ti1:sl a 30 = .string (strB (Lib.decDigits k)):=hp 10 (by decide)
    refine ite_y rfl (wp_val (.string (((((strB WD) ++ ⟨#[32]⟩) ++ (strB (Lib.decDigits r))) ++ ⟨#[47]⟩) ++ (strB (Lib.decDigits k)))) ?_ ?_)
    ·simp only [execOp,eval_tmp,eval_const,ti0,ti1];simp [go_sem,strB_size] <;> omega
    ·exact ⟨_,rfl,Below.refl _ _,rfl⟩
   ·intro a W hb0 hs hp hi;have hb:=undrew hb0;clear hb0
    have ti0:sl a 31 = .string (((((strB WD) ++ ⟨#[32]⟩) ++ (strB (Lib.decDigits r))) ++ ⟨#[47]⟩) ++ (strB (Lib.decDigits k))):=hp 11 (by decide)
    refine ite_y rfl (wp_val (.string ((((((strB WD) ++ ⟨#[32]⟩) ++ (strB (Lib.decDigits r))) ++ ⟨#[47]⟩) ++ (strB (Lib.decDigits k))) ++ ⟨#[32]⟩)) ?_ ?_)
    ·simp only [execOp,eval_tmp,eval_const,ti0];simp [go_sem,strB_size] <;> omega
    ·exact ⟨_,rfl,Below.refl _ _,rfl⟩
   ·intro a W hb0 hs hp hi;have hb:=undrew hb0;clear hb0
    have t1:sl a 1 = .pointer (some ⟨w.heap.size,0,none⟩):=hi 1 (by decide)
    refine ite_y rfl (wp_val (.pointer (some ⟨w.heap.size,6,none⟩)) ?_ ?_)
    ·simp only [execOp,eval_tmp,eval_const,t1];simp [go_sem]
    ·exact ⟨_,rfl,Below.refl _ _,rfl⟩
   ·intro a W hb0 hs hp hi;have hb:=undrew hb0;clear hb0
    have tt:sl a 33 = .pointer (some ⟨w.heap.size,6,none⟩):=hp 13 (by decide)
    have dd:=(hb.cell (p:=⟨w.heap.size,6,none⟩) (lt_of_cell c6)).trans c6
    refine ite_y rfl (wp_val (.int .i64 (n:Nat)) ?_ ?_)
    ·simp only [execOp,eval_tmp,tt];simp [go_sem,dd]
    ·exact ⟨_,rfl,Below.refl _ _,rfl⟩
   ·intro a W hb0 hs hp hi;have hb:=undrew hb0;clear hb0
    have t34:sl a 34 = .int .i64 (n:Nat):=hp 14 (by decide)
    refine ite_y rfl (wp_enter 91 #[.int .i64 (n:Nat)] ?_ (Itoa_any n hn W (HT1.out.keep hb)) ?_)
    ·simp only [execOp,resolve,List.map_toArray,List.map,eval_tmp,eval_func,eval_const,t34];simp [go_sem]
    ·rintro e W' ⟨rfl,hw⟩;exact ⟨_,rfl,_,rfl,hw,rfl⟩
   ·intro a W hb0 hs hp hi;have hb:=undrew hb0;clear hb0
    have ti0:sl a 32 = .string ((((((strB WD) ++ ⟨#[32]⟩) ++ (strB (Lib.decDigits r))) ++ ⟨#[47]⟩) ++ (strB (Lib.decDigits k))) ++ ⟨#[32]⟩):=hp 12 (by decide)
    have ti1:sl a 35 = .string (strB (Lib.decDigits n)):=hp 15 (by decide)
    refine ite_y rfl (wp_val (.string (((((((strB WD) ++ ⟨#[32]⟩) ++ (strB (Lib.decDigits r))) ++ ⟨#[47]⟩) ++ (strB (Lib.decDigits k))) ++ ⟨#[32]⟩) ++ (strB (Lib.decDigits n)))) ?_ ?_)
    ·simp only [execOp,eval_tmp,eval_const,ti0,ti1];simp [go_sem,strB_size] <;> omega
    ·exact ⟨_,rfl,Below.refl _ _,rfl⟩
   ·intro a W hb0 hs hp hi;have hb:=undrew hb0;clear hb0
    have ti0:sl a 36 = .string (((((((strB WD) ++ ⟨#[32]⟩) ++ (strB (Lib.decDigits r))) ++ ⟨#[47]⟩) ++ (strB (Lib.decDigits k))) ++ ⟨#[32]⟩) ++ (strB (Lib.decDigits n))):=hp 16 (by decide)
    refine ite_y rfl (wp_val (.string ((((((((strB WD) ++ ⟨#[32]⟩) ++ (strB (Lib.decDigits r))) ++ ⟨#[47]⟩) ++ (strB (Lib.decDigits k))) ++ ⟨#[32]⟩) ++ (strB (Lib.decDigits n))) ++ ⟨#[32]⟩)) ?_ ?_)
    ·simp only [execOp,eval_tmp,eval_const,ti0];simp [go_sem,strB_size] <;> omega
    ·exact ⟨_,rfl,Below.refl _ _,rfl⟩
   ·intro a W hb0 hs hp hi;have hb:=undrew hb0;clear hb0
    have t1:sl a 1 = .pointer (some ⟨w.heap.size,0,none⟩):=hi 1 (by decide)
    refine ite_y rfl (wp_val (.pointer (some ⟨w.heap.size,7,none⟩)) ?_ ?_)
    ·simp only [execOp,eval_tmp,eval_const,t1];simp [go_sem]
    ·exact ⟨_,rfl,Below.refl _ _,rfl⟩
   ·intro a W hb0 hs hp hi;have hb:=undrew hb0;clear hb0
    have tt:sl a 38 = .pointer (some ⟨w.heap.size,7,none⟩):=hp 18 (by decide)
    have dd:=(hb.cell (p:=⟨w.heap.size,7,none⟩) (lt_of_cell c7)).trans c7
    refine ite_y rfl (wp_val (.int .i64 (m:Nat)) ?_ ?_)
    ·simp only [execOp,eval_tmp,tt];simp [go_sem,dd]
    ·exact ⟨_,rfl,Below.refl _ _,rfl⟩
   ·intro a W hb0 hs hp hi;have hb:=undrew hb0;clear hb0
    have t39:sl a 39 = .int .i64 (m:Nat):=hp 19 (by decide)
    refine ite_y rfl (wp_enter 91 #[.int .i64 (m:Nat)] ?_ (Itoa_any m hm W (HT1.out.keep hb)) ?_)
    ·simp only [execOp,resolve,List.map_toArray,List.map,eval_tmp,eval_func,eval_const,t39];simp [go_sem]
    ·rintro e W' ⟨rfl,hw⟩;exact ⟨_,rfl,_,rfl,hw,rfl⟩
   ·intro a W hb0 hs hp hi;have hb:=undrew hb0;clear hb0
    have ti0:sl a 37 = .string ((((((((strB WD) ++ ⟨#[32]⟩) ++ (strB (Lib.decDigits r))) ++ ⟨#[47]⟩) ++ (strB (Lib.decDigits k))) ++ ⟨#[32]⟩) ++ (strB (Lib.decDigits n))) ++ ⟨#[32]⟩):=hp 17 (by decide)
    have ti1:sl a 40 = .string (strB (Lib.decDigits m)):=hp 20 (by decide)
    refine ite_y rfl (wp_val (.string (((((((((strB WD) ++ ⟨#[32]⟩) ++ (strB (Lib.decDigits r))) ++ ⟨#[47]⟩) ++ (strB (Lib.decDigits k))) ++ ⟨#[32]⟩) ++ (strB (Lib.decDigits n))) ++ ⟨#[32]⟩) ++ (strB (Lib.decDigits m)))) ?_ ?_)
    ·simp only [execOp,eval_tmp,eval_const,ti0,ti1];simp [go_sem,strB_size] <;> omega
    ·exact ⟨_,rfl,Below.refl _ _,rfl⟩
   ·intro a W hb0 hs hp hi;have hb:=undrew hb0;clear hb0
    have t41:sl a 41 = .string (((((((((strB WD) ++ ⟨#[32]⟩) ++ (strB (Lib.decDigits r))) ++ ⟨#[47]⟩) ++ (strB (Lib.decDigits k))) ++ ⟨#[32]⟩) ++ (strB (Lib.decDigits n))) ++ ⟨#[32]⟩) ++ (strB (Lib.decDigits m))):=hp 21 (by decide)
    exact ite_y rfl (wp_val (sl a 41) rfl ⟨_,rfl,Below.refl _ _,t41⟩)
  intro a w2 hb hs hd hI ht
  have ha:=act_is [20,21,22,23,24,25,26,27,28,29,30,31,32,33,34,35,36,37,38,39,40,41,2] hs hd ht (by decide)
  have t2:sl a 2 = .string (((((((((strB WD) ++ ⟨#[32]⟩) ++ (strB (Lib.decDigits r))) ++ ⟨#[47]⟩) ++ (strB (Lib.decDigits k))) ++ ⟨#[32]⟩) ++ (strB (Lib.decDigits n))) ++ ⟨#[32]⟩) ++ (strB (Lib.decDigits m))):=hI 22 (by decide)
  simp only [List.foldl,t2] at ha
  generalize sl a 20 = u20 at ha
  generalize sl a 21 = u21 at ha
  generalize sl a 22 = u22 at ha
  generalize sl a 23 = u23 at ha
  generalize sl a 24 = u24 at ha
  generalize sl a 25 = u25 at ha
  generalize sl a 26 = u26 at ha
  generalize sl a 27 = u27 at ha
  generalize sl a 28 = u28 at ha
  generalize sl a 29 = u29 at ha
  generalize sl a 30 = u30 at ha
  generalize sl a 31 = u31 at ha
  generalize sl a 32 = u32 at ha
  generalize sl a 33 = u33 at ha
  generalize sl a 34 = u34 at ha
  generalize sl a 35 = u35 at ha
  generalize sl a 36 = u36 at ha
  generalize sl a 37 = u37 at ha
  generalize sl a 38 = u38 at ha
  generalize sl a 39 = u39 at ha
  generalize sl a 40 = u40 at ha
  generalize sl a 41 = u41 at ha
  simp only [Act.put,List.setIfInBounds_toArray,List.set_cons_zero,List.set_cons_succ] at ha
  rw [ha]
  clear ha hI ht
  have HB2:Hid (Below w.heap.size w w2):=bl HB.out hb HB.out.size
  clear hb
  clear c0 c1 c2 c3 c5 c6 c7
  have e1':=Lib.hid e1
  have e2':=Lib.hid e2
  clear e1 e2 e3
  go_wp2
  go_ret
  refine ⟨?_,HB2.out⟩
  unfold viewT
  rw [← HWD.out]
  simp only [← txt_app,← e1'.out,← e2'.out]
  rfl
 ·obtain ⟨WD,hWD⟩:∃ WD,WD = wordV 1:=⟨_,rfl⟩
  have e3:(⟨#[100,111,110,101]⟩:ByteArray) = strB WD:=by rw [hWD];rfl
  have zw:WD.length≤12:=by rw [hWD];decide
  have HWD:=Lib.hid hWD
  clear hWD
  go_enter Tryz.func39,Tryz.ntmps39
  go_upto_region 5 with (fail)
  have hv0:VwB (w.alloc (.cells #[.int .i64 (L:Nat),.int .i64 (t:Nat),.int .i64 (k:Nat),.int .u32 (D:Nat),.int .i64 1,.int .i64 (r:Nat),.int .i64 (n:Nat),.int .i64 (m:Nat)] 63 (0,0))) w.heap.size L t k D 1 r n m:=hnew rfl
  have ba:Below (w.alloc (.cells #[.int .i64 (L:Nat),.int .i64 (t:Nat),.int .i64 (k:Nat),.int .u32 (D:Nat),.int .i64 1,.int .i64 (r:Nat),.int .i64 (n:Nat),.int .i64 (m:Nat)] 63 (0,0))).heap.size (w.alloc (.cells #[.int .i64 (L:Nat),.int .i64 (t:Nat),.int .i64 (k:Nat),.int .u32 (D:Nat),.int .i64 1,.int .i64 (r:Nat),.int .i64 (n:Nat),.int .i64 (m:Nat)] 63 (0,0))) ((w.alloc (.cells #[.int .i64 (L:Nat),.int .i64 (t:Nat),.int .i64 (k:Nat),.int .u32 (D:Nat),.int .i64 1,.int .i64 (r:Nat),.int .i64 (n:Nat),.int .i64 (m:Nat)] 63 (0,0))).alloc (.cells #[.string ⟨#[112,101,110,100,105,110,103]⟩,.string (strB WD),.string ⟨#[105,110,99,111,110,115,105,115,116,101,110,116]⟩] 169 (0,0))):=al (Below.refl _ _) (Nat.le_refl _)
  have hv1:VwB ((w.alloc (.cells #[.int .i64 (L:Nat),.int .i64 (t:Nat),.int .i64 (k:Nat),.int .u32 (D:Nat),.int .i64 1,.int .i64 (r:Nat),.int .i64 (n:Nat),.int .i64 (m:Nat)] 63 (0,0))).alloc (.cells #[.string ⟨#[112,101,110,100,105,110,103]⟩,.string (strB WD),.string ⟨#[105,110,99,111,110,115,105,115,116,101,110,116]⟩] 169 (0,0))) w.heap.size L t k D 1 r n m:=(ba.block _ (lt_of_block hv0)).trans hv0
  have HB:Hid (Below w.heap.size w ((w.alloc (.cells #[.int .i64 (L:Nat),.int .i64 (t:Nat),.int .i64 (k:Nat),.int .u32 (D:Nat),.int .i64 1,.int .i64 (r:Nat),.int .i64 (n:Nat),.int .i64 (m:Nat)] 63 (0,0))).alloc (.cells #[.string ⟨#[112,101,110,100,105,110,103]⟩,.string (strB WD),.string ⟨#[105,110,99,111,110,115,105,115,116,101,110,116]⟩] 169 (0,0)))):=al (al (Below.refl _ _) (Nat.le_refl _)) (by simp)
  clear hv0 ba
  generalize (w.alloc (.cells #[.int .i64 (L:Nat),.int .i64 (t:Nat),.int .i64 (k:Nat),.int .u32 (D:Nat),.int .i64 1,.int .i64 (r:Nat),.int .i64 (n:Nat),.int .i64 (m:Nat)] 63 (0,0))).alloc (.cells #[.string ⟨#[112,101,110,100,105,110,103]⟩,.string (strB WD),.string ⟨#[105,110,99,111,110,115,105,115,116,101,110,116]⟩] 169 (0,0)) = w1 at *
  have HT1:=Lib.hid (HT.out.keep HB.out)
  obtain ⟨c0,c1,c2,c3,c4,c5,c6,c7⟩:=cells_eight hv1
  clear hv1 c4
  refine wp_region_shapes (fun ix=>([.val (.string (strB WD)),.val (.string ((strB WD) ++ ⟨#[32]⟩)),.val (.pointer (some ⟨w.heap.size,5,none⟩)),.val (.int .i64 (r:Nat)),.val (.string (strB (Lib.decDigits r))),.val (.string (((strB WD) ++ ⟨#[32]⟩) ++ (strB (Lib.decDigits r)))),.val (.string ((((strB WD) ++ ⟨#[32]⟩) ++ (strB (Lib.decDigits r))) ++ ⟨#[47]⟩)),.val (.pointer (some ⟨w.heap.size,0,none⟩)),.val (.pointer (some ⟨w.heap.size,2,none⟩)),.val (.int .i64 (k:Nat)),.val (.string (strB (Lib.decDigits k))),.val (.string (((((strB WD) ++ ⟨#[32]⟩) ++ (strB (Lib.decDigits r))) ++ ⟨#[47]⟩) ++ (strB (Lib.decDigits k)))),.val (.string ((((((strB WD) ++ ⟨#[32]⟩) ++ (strB (Lib.decDigits r))) ++ ⟨#[47]⟩) ++ (strB (Lib.decDigits k))) ++ ⟨#[32]⟩)),.val (.pointer (some ⟨w.heap.size,6,none⟩)),.val (.int .i64 (n:Nat)),.val (.string (strB (Lib.decDigits n))),.val (.string (((((((strB WD) ++ ⟨#[32]⟩) ++ (strB (Lib.decDigits r))) ++ ⟨#[47]⟩) ++ (strB (Lib.decDigits k))) ++ ⟨#[32]⟩) ++ (strB (Lib.decDigits n)))),.val (.string ((((((((strB WD) ++ ⟨#[32]⟩) ++ (strB (Lib.decDigits r))) ++ ⟨#[47]⟩) ++ (strB (Lib.decDigits k))) ++ ⟨#[32]⟩) ++ (strB (Lib.decDigits n))) ++ ⟨#[32]⟩)),.val (.pointer (some ⟨w.heap.size,7,none⟩)),.val (.int .i64 (m:Nat)),.val (.string (strB (Lib.decDigits m))),.val (.string (((((((((strB WD) ++ ⟨#[32]⟩) ++ (strB (Lib.decDigits r))) ++ ⟨#[47]⟩) ++ (strB (Lib.decDigits k))) ++ ⟨#[32]⟩) ++ (strB (Lib.decDigits n))) ++ ⟨#[32]⟩) ++ (strB (Lib.decDigits m)))),.val (.string (((((((((strB WD) ++ ⟨#[32]⟩) ++ (strB (Lib.decDigits r))) ++ ⟨#[47]⟩) ++ (strB (Lib.decDigits k))) ++ ⟨#[32]⟩) ++ (strB (Lib.decDigits n))) ++ ⟨#[32]⟩) ++ (strB (Lib.decDigits m))))][ix]?).getD (.any)) 42 rfl (by kernel_rfl) (by decide +kernel) (by decide +kernel) (by decide +kernel) ?_ ?_
  ·refine ⟨?_,?_,?_,?_,?_,?_,?_,?_,?_,?_,?_,?_,?_,?_,?_,?_,?_,?_,?_,?_,?_,?_,?_,trivial⟩
   ·intro a W hb0 hs hp hi;have hb:=undrew hb0;clear hb0
    have t4:sl a 4 = .string (strB WD):=hi 4 (by decide)
    exact ite_y rfl (wp_val (sl a 4) rfl ⟨_,rfl,Below.refl _ _,t4⟩)
   ·intro a W hb0 hs hp hi;have hb:=undrew hb0;clear hb0
    have ti0:sl a 20 = .string (strB WD):=hp 0 (by decide)
    refine ite_y rfl (wp_val (.string ((strB WD) ++ ⟨#[32]⟩)) ?_ ?_)
    ·simp only [execOp,eval_tmp,eval_const,ti0];simp [go_sem,strB_size] <;> omega
    ·exact ⟨_,rfl,Below.refl _ _,rfl⟩
   ·intro a W hb0 hs hp hi;have hb:=undrew hb0;clear hb0
    have t1:sl a 1 = .pointer (some ⟨w.heap.size,0,none⟩):=hi 1 (by decide)
    refine ite_y rfl (wp_val (.pointer (some ⟨w.heap.size,5,none⟩)) ?_ ?_)
    ·simp only [execOp,eval_tmp,eval_const,t1];simp [go_sem]
    ·exact ⟨_,rfl,Below.refl _ _,rfl⟩
   ·intro a W hb0 hs hp hi;have hb:=undrew hb0;clear hb0
    have tt:sl a 22 = .pointer (some ⟨w.heap.size,5,none⟩):=hp 2 (by decide)
    have dd:=(hb.cell (p:=⟨w.heap.size,5,none⟩) (lt_of_cell c5)).trans c5
    refine ite_y rfl (wp_val (.int .i64 (r:Nat)) ?_ ?_)
    ·simp only [execOp,eval_tmp,tt];simp [go_sem,dd]
    ·exact ⟨_,rfl,Below.refl _ _,rfl⟩
   ·intro a W hb0 hs hp hi;have hb:=undrew hb0;clear hb0
    have t23:sl a 23 = .int .i64 (r:Nat):=hp 3 (by decide)
    refine ite_y rfl (wp_enter 91 #[.int .i64 (r:Nat)] ?_ (Itoa_any r hr W (HT1.out.keep hb)) ?_)
    ·simp only [execOp,resolve,List.map_toArray,List.map,eval_tmp,eval_func,eval_const,t23];simp [go_sem]
    ·rintro e W' ⟨rfl,hw⟩;exact ⟨_,rfl,_,rfl,hw,rfl⟩
   ·intro a W hb0 hs hp hi;have hb:=undrew hb0;clear hb0
    have ti0:sl a 21 = .string ((strB WD) ++ ⟨#[32]⟩):=hp 1 (by decide)
    have ti1:sl a 24 = .string (strB (Lib.decDigits r)):=hp 4 (by decide)
    refine ite_y rfl (wp_val (.string (((strB WD) ++ ⟨#[32]⟩) ++ (strB (Lib.decDigits r)))) ?_ ?_)
    ·simp only [execOp,eval_tmp,eval_const,ti0,ti1];simp [go_sem,strB_size] <;> omega
    ·exact ⟨_,rfl,Below.refl _ _,rfl⟩
   ·intro a W hb0 hs hp hi;have hb:=undrew hb0;clear hb0
    have ti0:sl a 25 = .string (((strB WD) ++ ⟨#[32]⟩) ++ (strB (Lib.decDigits r))):=hp 5 (by decide)
    refine ite_y rfl (wp_val (.string ((((strB WD) ++ ⟨#[32]⟩) ++ (strB (Lib.decDigits r))) ++ ⟨#[47]⟩)) ?_ ?_)
    ·simp only [execOp,eval_tmp,eval_const,ti0];simp [go_sem,strB_size] <;> omega
    ·exact ⟨_,rfl,Below.refl _ _,rfl⟩
   ·intro a W hb0 hs hp hi;have hb:=undrew hb0;clear hb0
    have t1:sl a 1 = .pointer (some ⟨w.heap.size,0,none⟩):=hi 1 (by decide)
    refine ite_y rfl (wp_val (.pointer (some ⟨w.heap.size,0,none⟩)) ?_ ?_)
    ·simp only [execOp,eval_tmp,eval_const,t1];simp [go_sem]
    ·exact ⟨_,rfl,Below.refl _ _,rfl⟩
   ·intro a W hb0 hs hp hi;have hb:=undrew hb0;clear hb0
    have t27:sl a 27 = .pointer (some ⟨w.heap.size,0,none⟩):=hp 7 (by decide)
    refine ite_y rfl (wp_val (.pointer (some ⟨w.heap.size,2,none⟩)) ?_ ?_)
    ·simp only [execOp,eval_tmp,eval_const,t27];simp [go_sem]
    ·exact ⟨_,rfl,Below.refl _ _,rfl⟩
   ·intro a W hb0 hs hp hi;have hb:=undrew hb0;clear hb0
    have tt:sl a 28 = .pointer (some ⟨w.heap.size,2,none⟩):=hp 8 (by decide)
    have dd:=(hb.cell (p:=⟨w.heap.size,2,none⟩) (lt_of_cell c2)).trans c2
    refine ite_y rfl (wp_val (.int .i64 (k:Nat)) ?_ ?_)
    ·simp only [execOp,eval_tmp,tt];simp [go_sem,dd]
    ·exact ⟨_,rfl,Below.refl _ _,rfl⟩
   ·intro a W hb0 hs hp hi;have hb:=undrew hb0;clear hb0
    have t29:sl a 29 = .int .i64 (k:Nat):=hp 9 (by decide)
    refine ite_y rfl (wp_enter 91 #[.int .i64 (k:Nat)] ?_ (Itoa_any k hk W (HT1.out.keep hb)) ?_)
    ·simp only [execOp,resolve,List.map_toArray,List.map,eval_tmp,eval_func,eval_const,t29];simp [go_sem]
    ·rintro e W' ⟨rfl,hw⟩;exact ⟨_,rfl,_,rfl,hw,rfl⟩
   ·intro a W hb0 hs hp hi;have hb:=undrew hb0;clear hb0
    have ti0:sl a 26 = .string ((((strB WD) ++ ⟨#[32]⟩) ++ (strB (Lib.decDigits r))) ++ ⟨#[47]⟩):=hp 6 (by decide)
    have ti1:sl a 30 = .string (strB (Lib.decDigits k)):=hp 10 (by decide)
    refine ite_y rfl (wp_val (.string (((((strB WD) ++ ⟨#[32]⟩) ++ (strB (Lib.decDigits r))) ++ ⟨#[47]⟩) ++ (strB (Lib.decDigits k)))) ?_ ?_)
    ·simp only [execOp,eval_tmp,eval_const,ti0,ti1];simp [go_sem,strB_size] <;> omega
    ·exact ⟨_,rfl,Below.refl _ _,rfl⟩
   ·intro a W hb0 hs hp hi;have hb:=undrew hb0;clear hb0
    have ti0:sl a 31 = .string (((((strB WD) ++ ⟨#[32]⟩) ++ (strB (Lib.decDigits r))) ++ ⟨#[47]⟩) ++ (strB (Lib.decDigits k))):=hp 11 (by decide)
    refine ite_y rfl (wp_val (.string ((((((strB WD) ++ ⟨#[32]⟩) ++ (strB (Lib.decDigits r))) ++ ⟨#[47]⟩) ++ (strB (Lib.decDigits k))) ++ ⟨#[32]⟩)) ?_ ?_)
    ·simp only [execOp,eval_tmp,eval_const,ti0];simp [go_sem,strB_size] <;> omega
    ·exact ⟨_,rfl,Below.refl _ _,rfl⟩
   ·intro a W hb0 hs hp hi;have hb:=undrew hb0;clear hb0
    have t1:sl a 1 = .pointer (some ⟨w.heap.size,0,none⟩):=hi 1 (by decide)
    refine ite_y rfl (wp_val (.pointer (some ⟨w.heap.size,6,none⟩)) ?_ ?_)
    ·simp only [execOp,eval_tmp,eval_const,t1];simp [go_sem]
    ·exact ⟨_,rfl,Below.refl _ _,rfl⟩
   ·intro a W hb0 hs hp hi;have hb:=undrew hb0;clear hb0
    have tt:sl a 33 = .pointer (some ⟨w.heap.size,6,none⟩):=hp 13 (by decide)
    have dd:=(hb.cell (p:=⟨w.heap.size,6,none⟩) (lt_of_cell c6)).trans c6
    refine ite_y rfl (wp_val (.int .i64 (n:Nat)) ?_ ?_)
    ·simp only [execOp,eval_tmp,tt];simp [go_sem,dd]
    ·exact ⟨_,rfl,Below.refl _ _,rfl⟩
   ·intro a W hb0 hs hp hi;have hb:=undrew hb0;clear hb0
    have t34:sl a 34 = .int .i64 (n:Nat):=hp 14 (by decide)
    refine ite_y rfl (wp_enter 91 #[.int .i64 (n:Nat)] ?_ (Itoa_any n hn W (HT1.out.keep hb)) ?_)
    ·simp only [execOp,resolve,List.map_toArray,List.map,eval_tmp,eval_func,eval_const,t34];simp [go_sem]
    ·rintro e W' ⟨rfl,hw⟩;exact ⟨_,rfl,_,rfl,hw,rfl⟩
   ·intro a W hb0 hs hp hi;have hb:=undrew hb0;clear hb0
    have ti0:sl a 32 = .string ((((((strB WD) ++ ⟨#[32]⟩) ++ (strB (Lib.decDigits r))) ++ ⟨#[47]⟩) ++ (strB (Lib.decDigits k))) ++ ⟨#[32]⟩):=hp 12 (by decide)
    have ti1:sl a 35 = .string (strB (Lib.decDigits n)):=hp 15 (by decide)
    refine ite_y rfl (wp_val (.string (((((((strB WD) ++ ⟨#[32]⟩) ++ (strB (Lib.decDigits r))) ++ ⟨#[47]⟩) ++ (strB (Lib.decDigits k))) ++ ⟨#[32]⟩) ++ (strB (Lib.decDigits n)))) ?_ ?_)
    ·simp only [execOp,eval_tmp,eval_const,ti0,ti1];simp [go_sem,strB_size] <;> omega
    ·exact ⟨_,rfl,Below.refl _ _,rfl⟩
   ·intro a W hb0 hs hp hi;have hb:=undrew hb0;clear hb0
    have ti0:sl a 36 = .string (((((((strB WD) ++ ⟨#[32]⟩) ++ (strB (Lib.decDigits r))) ++ ⟨#[47]⟩) ++ (strB (Lib.decDigits k))) ++ ⟨#[32]⟩) ++ (strB (Lib.decDigits n))):=hp 16 (by decide)
    refine ite_y rfl (wp_val (.string ((((((((strB WD) ++ ⟨#[32]⟩) ++ (strB (Lib.decDigits r))) ++ ⟨#[47]⟩) ++ (strB (Lib.decDigits k))) ++ ⟨#[32]⟩) ++ (strB (Lib.decDigits n))) ++ ⟨#[32]⟩)) ?_ ?_)
    ·simp only [execOp,eval_tmp,eval_const,ti0];simp [go_sem,strB_size] <;> omega
    ·exact ⟨_,rfl,Below.refl _ _,rfl⟩
   ·intro a W hb0 hs hp hi;have hb:=undrew hb0;clear hb0
    have t1:sl a 1 = .pointer (some ⟨w.heap.size,0,none⟩):=hi 1 (by decide)
    refine ite_y rfl (wp_val (.pointer (some ⟨w.heap.size,7,none⟩)) ?_ ?_)
    ·simp only [execOp,eval_tmp,eval_const,t1];simp [go_sem]
    ·exact ⟨_,rfl,Below.refl _ _,rfl⟩
   ·intro a W hb0 hs hp hi;have hb:=undrew hb0;clear hb0
    have tt:sl a 38 = .pointer (some ⟨w.heap.size,7,none⟩):=hp 18 (by decide)
    have dd:=(hb.cell (p:=⟨w.heap.size,7,none⟩) (lt_of_cell c7)).trans c7
    refine ite_y rfl (wp_val (.int .i64 (m:Nat)) ?_ ?_)
    ·simp only [execOp,eval_tmp,tt];simp [go_sem,dd]
    ·exact ⟨_,rfl,Below.refl _ _,rfl⟩
   ·intro a W hb0 hs hp hi;have hb:=undrew hb0;clear hb0
    have t39:sl a 39 = .int .i64 (m:Nat):=hp 19 (by decide)
    refine ite_y rfl (wp_enter 91 #[.int .i64 (m:Nat)] ?_ (Itoa_any m hm W (HT1.out.keep hb)) ?_)
    ·simp only [execOp,resolve,List.map_toArray,List.map,eval_tmp,eval_func,eval_const,t39];simp [go_sem]
    ·rintro e W' ⟨rfl,hw⟩;exact ⟨_,rfl,_,rfl,hw,rfl⟩
   ·intro a W hb0 hs hp hi;have hb:=undrew hb0;clear hb0
    have ti0:sl a 37 = .string ((((((((strB WD) ++ ⟨#[32]⟩) ++ (strB (Lib.decDigits r))) ++ ⟨#[47]⟩) ++ (strB (Lib.decDigits k))) ++ ⟨#[32]⟩) ++ (strB (Lib.decDigits n))) ++ ⟨#[32]⟩):=hp 17 (by decide)
    have ti1:sl a 40 = .string (strB (Lib.decDigits m)):=hp 20 (by decide)
    refine ite_y rfl (wp_val (.string (((((((((strB WD) ++ ⟨#[32]⟩) ++ (strB (Lib.decDigits r))) ++ ⟨#[47]⟩) ++ (strB (Lib.decDigits k))) ++ ⟨#[32]⟩) ++ (strB (Lib.decDigits n))) ++ ⟨#[32]⟩) ++ (strB (Lib.decDigits m)))) ?_ ?_)
    ·simp only [execOp,eval_tmp,eval_const,ti0,ti1];simp [go_sem,strB_size] <;> omega
    ·exact ⟨_,rfl,Below.refl _ _,rfl⟩
   ·intro a W hb0 hs hp hi;have hb:=undrew hb0;clear hb0
    have t41:sl a 41 = .string (((((((((strB WD) ++ ⟨#[32]⟩) ++ (strB (Lib.decDigits r))) ++ ⟨#[47]⟩) ++ (strB (Lib.decDigits k))) ++ ⟨#[32]⟩) ++ (strB (Lib.decDigits n))) ++ ⟨#[32]⟩) ++ (strB (Lib.decDigits m))):=hp 21 (by decide)
    exact ite_y rfl (wp_val (sl a 41) rfl ⟨_,rfl,Below.refl _ _,t41⟩)
  intro a w2 hb hs hd hI ht
  have ha:=act_is [20,21,22,23,24,25,26,27,28,29,30,31,32,33,34,35,36,37,38,39,40,41,2] hs hd ht (by decide)
  have t2:sl a 2 = .string (((((((((strB WD) ++ ⟨#[32]⟩) ++ (strB (Lib.decDigits r))) ++ ⟨#[47]⟩) ++ (strB (Lib.decDigits k))) ++ ⟨#[32]⟩) ++ (strB (Lib.decDigits n))) ++ ⟨#[32]⟩) ++ (strB (Lib.decDigits m))):=hI 22 (by decide)
  simp only [List.foldl,t2] at ha
  generalize sl a 20 = u20 at ha
  generalize sl a 21 = u21 at ha
  generalize sl a 22 = u22 at ha
  generalize sl a 23 = u23 at ha
  generalize sl a 24 = u24 at ha
  generalize sl a 25 = u25 at ha
  generalize sl a 26 = u26 at ha
  generalize sl a 27 = u27 at ha
  generalize sl a 28 = u28 at ha
  generalize sl a 29 = u29 at ha
  generalize sl a 30 = u30 at ha
  generalize sl a 31 = u31 at ha
  generalize sl a 32 = u32 at ha
  generalize sl a 33 = u33 at ha
  generalize sl a 34 = u34 at ha
  generalize sl a 35 = u35 at ha
  generalize sl a 36 = u36 at ha
  generalize sl a 37 = u37 at ha
  generalize sl a 38 = u38 at ha
  generalize sl a 39 = u39 at ha
  generalize sl a 40 = u40 at ha
  generalize sl a 41 = u41 at ha
  simp only [Act.put,List.setIfInBounds_toArray,List.set_cons_zero,List.set_cons_succ] at ha
  rw [ha]
  clear ha hI ht
  have HB2:Hid (Below w.heap.size w w2):=bl HB.out hb HB.out.size
  clear hb
  clear c0 c1 c2 c3 c5 c6 c7
  have e1':=Lib.hid e1
  have e2':=Lib.hid e2
  clear e1 e2 e3
  go_wp2
  go_ret
  refine ⟨?_,HB2.out⟩
  unfold viewT
  rw [← HWD.out]
  simp only [← txt_app,← e1'.out,← e2'.out]
  rfl
 ·obtain ⟨WD,hWD⟩:∃ WD,WD = wordV 2:=⟨_,rfl⟩
  have e3:(⟨#[105,110,99,111,110,115,105,115,116,101,110,116]⟩:ByteArray) = strB WD:=by rw [hWD];rfl
  have zw:WD.length≤12:=by rw [hWD];decide
  have HWD:=Lib.hid hWD
  clear hWD
  go_enter Tryz.func39,Tryz.ntmps39
  go_upto_region 5 with (fail)
  have hv0:VwB (w.alloc (.cells #[.int .i64 (L:Nat),.int .i64 (t:Nat),.int .i64 (k:Nat),.int .u32 (D:Nat),.int .i64 2,.int .i64 (r:Nat),.int .i64 (n:Nat),.int .i64 (m:Nat)] 63 (0,0))) w.heap.size L t k D 2 r n m:=hnew rfl
  have ba:Below (w.alloc (.cells #[.int .i64 (L:Nat),.int .i64 (t:Nat),.int .i64 (k:Nat),.int .u32 (D:Nat),.int .i64 2,.int .i64 (r:Nat),.int .i64 (n:Nat),.int .i64 (m:Nat)] 63 (0,0))).heap.size (w.alloc (.cells #[.int .i64 (L:Nat),.int .i64 (t:Nat),.int .i64 (k:Nat),.int .u32 (D:Nat),.int .i64 2,.int .i64 (r:Nat),.int .i64 (n:Nat),.int .i64 (m:Nat)] 63 (0,0))) ((w.alloc (.cells #[.int .i64 (L:Nat),.int .i64 (t:Nat),.int .i64 (k:Nat),.int .u32 (D:Nat),.int .i64 2,.int .i64 (r:Nat),.int .i64 (n:Nat),.int .i64 (m:Nat)] 63 (0,0))).alloc (.cells #[.string ⟨#[112,101,110,100,105,110,103]⟩,.string ⟨#[100,111,110,101]⟩,.string (strB WD)] 169 (0,0))):=al (Below.refl _ _) (Nat.le_refl _)
  have hv1:VwB ((w.alloc (.cells #[.int .i64 (L:Nat),.int .i64 (t:Nat),.int .i64 (k:Nat),.int .u32 (D:Nat),.int .i64 2,.int .i64 (r:Nat),.int .i64 (n:Nat),.int .i64 (m:Nat)] 63 (0,0))).alloc (.cells #[.string ⟨#[112,101,110,100,105,110,103]⟩,.string ⟨#[100,111,110,101]⟩,.string (strB WD)] 169 (0,0))) w.heap.size L t k D 2 r n m:=(ba.block _ (lt_of_block hv0)).trans hv0
  have HB:Hid (Below w.heap.size w ((w.alloc (.cells #[.int .i64 (L:Nat),.int .i64 (t:Nat),.int .i64 (k:Nat),.int .u32 (D:Nat),.int .i64 2,.int .i64 (r:Nat),.int .i64 (n:Nat),.int .i64 (m:Nat)] 63 (0,0))).alloc (.cells #[.string ⟨#[112,101,110,100,105,110,103]⟩,.string ⟨#[100,111,110,101]⟩,.string (strB WD)] 169 (0,0)))):=al (al (Below.refl _ _) (Nat.le_refl _)) (by simp)
  clear hv0 ba
  generalize (w.alloc (.cells #[.int .i64 (L:Nat),.int .i64 (t:Nat),.int .i64 (k:Nat),.int .u32 (D:Nat),.int .i64 2,.int .i64 (r:Nat),.int .i64 (n:Nat),.int .i64 (m:Nat)] 63 (0,0))).alloc (.cells #[.string ⟨#[112,101,110,100,105,110,103]⟩,.string ⟨#[100,111,110,101]⟩,.string (strB WD)] 169 (0,0)) = w1 at *
  have HT1:=Lib.hid (HT.out.keep HB.out)
  obtain ⟨c0,c1,c2,c3,c4,c5,c6,c7⟩:=cells_eight hv1
  clear hv1 c4
  refine wp_region_shapes (fun ix=>([.val (.string (strB WD)),.val (.string ((strB WD) ++ ⟨#[32]⟩)),.val (.pointer (some ⟨w.heap.size,5,none⟩)),.val (.int .i64 (r:Nat)),.val (.string (strB (Lib.decDigits r))),.val (.string (((strB WD) ++ ⟨#[32]⟩) ++ (strB (Lib.decDigits r)))),.val (.string ((((strB WD) ++ ⟨#[32]⟩) ++ (strB (Lib.decDigits r))) ++ ⟨#[47]⟩)),.val (.pointer (some ⟨w.heap.size,0,none⟩)),.val (.pointer (some ⟨w.heap.size,2,none⟩)),.val (.int .i64 (k:Nat)),.val (.string (strB (Lib.decDigits k))),.val (.string (((((strB WD) ++ ⟨#[32]⟩) ++ (strB (Lib.decDigits r))) ++ ⟨#[47]⟩) ++ (strB (Lib.decDigits k)))),.val (.string ((((((strB WD) ++ ⟨#[32]⟩) ++ (strB (Lib.decDigits r))) ++ ⟨#[47]⟩) ++ (strB (Lib.decDigits k))) ++ ⟨#[32]⟩)),.val (.pointer (some ⟨w.heap.size,6,none⟩)),.val (.int .i64 (n:Nat)),.val (.string (strB (Lib.decDigits n))),.val (.string (((((((strB WD) ++ ⟨#[32]⟩) ++ (strB (Lib.decDigits r))) ++ ⟨#[47]⟩) ++ (strB (Lib.decDigits k))) ++ ⟨#[32]⟩) ++ (strB (Lib.decDigits n)))),.val (.string ((((((((strB WD) ++ ⟨#[32]⟩) ++ (strB (Lib.decDigits r))) ++ ⟨#[47]⟩) ++ (strB (Lib.decDigits k))) ++ ⟨#[32]⟩) ++ (strB (Lib.decDigits n))) ++ ⟨#[32]⟩)),.val (.pointer (some ⟨w.heap.size,7,none⟩)),.val (.int .i64 (m:Nat)),.val (.string (strB (Lib.decDigits m))),.val (.string (((((((((strB WD) ++ ⟨#[32]⟩) ++ (strB (Lib.decDigits r))) ++ ⟨#[47]⟩) ++ (strB (Lib.decDigits k))) ++ ⟨#[32]⟩) ++ (strB (Lib.decDigits n))) ++ ⟨#[32]⟩) ++ (strB (Lib.decDigits m)))),.val (.string (((((((((strB WD) ++ ⟨#[32]⟩) ++ (strB (Lib.decDigits r))) ++ ⟨#[47]⟩) ++ (strB (Lib.decDigits k))) ++ ⟨#[32]⟩) ++ (strB (Lib.decDigits n))) ++ ⟨#[32]⟩) ++ (strB (Lib.decDigits m))))][ix]?).getD (.any)) 42 rfl (by kernel_rfl) (by decide +kernel) (by decide +kernel) (by decide +kernel) ?_ ?_
  ·refine ⟨?_,?_,?_,?_,?_,?_,?_,?_,?_,?_,?_,?_,?_,?_,?_,?_,?_,?_,?_,?_,?_,?_,?_,trivial⟩
   ·intro a W hb0 hs hp hi;have hb:=undrew hb0;clear hb0
    have t4:sl a 4 = .string (strB WD):=hi 4 (by decide)
    exact ite_y rfl (wp_val (sl a 4) rfl ⟨_,rfl,Below.refl _ _,t4⟩)
   ·intro a W hb0 hs hp hi;have hb:=undrew hb0;clear hb0
    have ti0:sl a 20 = .string (strB WD):=hp 0 (by decide)
    refine ite_y rfl (wp_val (.string ((strB WD) ++ ⟨#[32]⟩)) ?_ ?_)
    ·simp only [execOp,eval_tmp,eval_const,ti0];simp [go_sem,strB_size] <;> omega
    ·exact ⟨_,rfl,Below.refl _ _,rfl⟩
   ·intro a W hb0 hs hp hi;have hb:=undrew hb0;clear hb0
    have t1:sl a 1 = .pointer (some ⟨w.heap.size,0,none⟩):=hi 1 (by decide)
    refine ite_y rfl (wp_val (.pointer (some ⟨w.heap.size,5,none⟩)) ?_ ?_)
    ·simp only [execOp,eval_tmp,eval_const,t1];simp [go_sem]
    ·exact ⟨_,rfl,Below.refl _ _,rfl⟩
   ·intro a W hb0 hs hp hi;have hb:=undrew hb0;clear hb0
    have tt:sl a 22 = .pointer (some ⟨w.heap.size,5,none⟩):=hp 2 (by decide)
    have dd:=(hb.cell (p:=⟨w.heap.size,5,none⟩) (lt_of_cell c5)).trans c5
    refine ite_y rfl (wp_val (.int .i64 (r:Nat)) ?_ ?_)
    ·simp only [execOp,eval_tmp,tt];simp [go_sem,dd]
    ·exact ⟨_,rfl,Below.refl _ _,rfl⟩
   ·intro a W hb0 hs hp hi;have hb:=undrew hb0;clear hb0
    have t23:sl a 23 = .int .i64 (r:Nat):=hp 3 (by decide)
    refine ite_y rfl (wp_enter 91 #[.int .i64 (r:Nat)] ?_ (Itoa_any r hr W (HT1.out.keep hb)) ?_)
    ·simp only [execOp,resolve,List.map_toArray,List.map,eval_tmp,eval_func,eval_const,t23];simp [go_sem]
    ·rintro e W' ⟨rfl,hw⟩;exact ⟨_,rfl,_,rfl,hw,rfl⟩
   ·intro a W hb0 hs hp hi;have hb:=undrew hb0;clear hb0
    have ti0:sl a 21 = .string ((strB WD) ++ ⟨#[32]⟩):=hp 1 (by decide)
    have ti1:sl a 24 = .string (strB (Lib.decDigits r)):=hp 4 (by decide)
    refine ite_y rfl (wp_val (.string (((strB WD) ++ ⟨#[32]⟩) ++ (strB (Lib.decDigits r)))) ?_ ?_)
    ·simp only [execOp,eval_tmp,eval_const,ti0,ti1];simp [go_sem,strB_size] <;> omega
    ·exact ⟨_,rfl,Below.refl _ _,rfl⟩
   ·intro a W hb0 hs hp hi;have hb:=undrew hb0;clear hb0
    have ti0:sl a 25 = .string (((strB WD) ++ ⟨#[32]⟩) ++ (strB (Lib.decDigits r))):=hp 5 (by decide)
    refine ite_y rfl (wp_val (.string ((((strB WD) ++ ⟨#[32]⟩) ++ (strB (Lib.decDigits r))) ++ ⟨#[47]⟩)) ?_ ?_)
    ·simp only [execOp,eval_tmp,eval_const,ti0];simp [go_sem,strB_size] <;> omega
    ·exact ⟨_,rfl,Below.refl _ _,rfl⟩
   ·intro a W hb0 hs hp hi;have hb:=undrew hb0;clear hb0
    have t1:sl a 1 = .pointer (some ⟨w.heap.size,0,none⟩):=hi 1 (by decide)
    refine ite_y rfl (wp_val (.pointer (some ⟨w.heap.size,0,none⟩)) ?_ ?_)
    ·simp only [execOp,eval_tmp,eval_const,t1];simp [go_sem]
    ·exact ⟨_,rfl,Below.refl _ _,rfl⟩
   ·intro a W hb0 hs hp hi;have hb:=undrew hb0;clear hb0
    have t27:sl a 27 = .pointer (some ⟨w.heap.size,0,none⟩):=hp 7 (by decide)
    refine ite_y rfl (wp_val (.pointer (some ⟨w.heap.size,2,none⟩)) ?_ ?_)
    ·simp only [execOp,eval_tmp,eval_const,t27];simp [go_sem]
    ·exact ⟨_,rfl,Below.refl _ _,rfl⟩
   ·intro a W hb0 hs hp hi;have hb:=undrew hb0;clear hb0
    have tt:sl a 28 = .pointer (some ⟨w.heap.size,2,none⟩):=hp 8 (by decide)
    have dd:=(hb.cell (p:=⟨w.heap.size,2,none⟩) (lt_of_cell c2)).trans c2
    refine ite_y rfl (wp_val (.int .i64 (k:Nat)) ?_ ?_)
    ·simp only [execOp,eval_tmp,tt];simp [go_sem,dd]
    ·exact ⟨_,rfl,Below.refl _ _,rfl⟩
   ·intro a W hb0 hs hp hi;have hb:=undrew hb0;clear hb0
    have t29:sl a 29 = .int .i64 (k:Nat):=hp 9 (by decide)
    refine ite_y rfl (wp_enter 91 #[.int .i64 (k:Nat)] ?_ (Itoa_any k hk W (HT1.out.keep hb)) ?_)
    ·simp only [execOp,resolve,List.map_toArray,List.map,eval_tmp,eval_func,eval_const,t29];simp [go_sem]
    ·rintro e W' ⟨rfl,hw⟩;exact ⟨_,rfl,_,rfl,hw,rfl⟩
   ·intro a W hb0 hs hp hi;have hb:=undrew hb0;clear hb0
    have ti0:sl a 26 = .string ((((strB WD) ++ ⟨#[32]⟩) ++ (strB (Lib.decDigits r))) ++ ⟨#[47]⟩):=hp 6 (by decide)
    have ti1:sl a 30 = .string (strB (Lib.decDigits k)):=hp 10 (by decide)
    refine ite_y rfl (wp_val (.string (((((strB WD) ++ ⟨#[32]⟩) ++ (strB (Lib.decDigits r))) ++ ⟨#[47]⟩) ++ (strB (Lib.decDigits k)))) ?_ ?_)
    ·simp only [execOp,eval_tmp,eval_const,ti0,ti1];simp [go_sem,strB_size] <;> omega
    ·exact ⟨_,rfl,Below.refl _ _,rfl⟩
   ·intro a W hb0 hs hp hi;have hb:=undrew hb0;clear hb0
    have ti0:sl a 31 = .string (((((strB WD) ++ ⟨#[32]⟩) ++ (strB (Lib.decDigits r))) ++ ⟨#[47]⟩) ++ (strB (Lib.decDigits k))):=hp 11 (by decide)
    refine ite_y rfl (wp_val (.string ((((((strB WD) ++ ⟨#[32]⟩) ++ (strB (Lib.decDigits r))) ++ ⟨#[47]⟩) ++ (strB (Lib.decDigits k))) ++ ⟨#[32]⟩)) ?_ ?_)
    ·simp only [execOp,eval_tmp,eval_const,ti0];simp [go_sem,strB_size] <;> omega
    ·exact ⟨_,rfl,Below.refl _ _,rfl⟩
   ·intro a W hb0 hs hp hi;have hb:=undrew hb0;clear hb0
    have t1:sl a 1 = .pointer (some ⟨w.heap.size,0,none⟩):=hi 1 (by decide)
    refine ite_y rfl (wp_val (.pointer (some ⟨w.heap.size,6,none⟩)) ?_ ?_)
    ·simp only [execOp,eval_tmp,eval_const,t1];simp [go_sem]
    ·exact ⟨_,rfl,Below.refl _ _,rfl⟩
   ·intro a W hb0 hs hp hi;have hb:=undrew hb0;clear hb0
    have tt:sl a 33 = .pointer (some ⟨w.heap.size,6,none⟩):=hp 13 (by decide)
    have dd:=(hb.cell (p:=⟨w.heap.size,6,none⟩) (lt_of_cell c6)).trans c6
    refine ite_y rfl (wp_val (.int .i64 (n:Nat)) ?_ ?_)
    ·simp only [execOp,eval_tmp,tt];simp [go_sem,dd]
    ·exact ⟨_,rfl,Below.refl _ _,rfl⟩
   ·intro a W hb0 hs hp hi;have hb:=undrew hb0;clear hb0
    have t34:sl a 34 = .int .i64 (n:Nat):=hp 14 (by decide)
    refine ite_y rfl (wp_enter 91 #[.int .i64 (n:Nat)] ?_ (Itoa_any n hn W (HT1.out.keep hb)) ?_)
    ·simp only [execOp,resolve,List.map_toArray,List.map,eval_tmp,eval_func,eval_const,t34];simp [go_sem]
    ·rintro e W' ⟨rfl,hw⟩;exact ⟨_,rfl,_,rfl,hw,rfl⟩
   ·intro a W hb0 hs hp hi;have hb:=undrew hb0;clear hb0
    have ti0:sl a 32 = .string ((((((strB WD) ++ ⟨#[32]⟩) ++ (strB (Lib.decDigits r))) ++ ⟨#[47]⟩) ++ (strB (Lib.decDigits k))) ++ ⟨#[32]⟩):=hp 12 (by decide)
    have ti1:sl a 35 = .string (strB (Lib.decDigits n)):=hp 15 (by decide)
    refine ite_y rfl (wp_val (.string (((((((strB WD) ++ ⟨#[32]⟩) ++ (strB (Lib.decDigits r))) ++ ⟨#[47]⟩) ++ (strB (Lib.decDigits k))) ++ ⟨#[32]⟩) ++ (strB (Lib.decDigits n)))) ?_ ?_)
    ·simp only [execOp,eval_tmp,eval_const,ti0,ti1];simp [go_sem,strB_size] <;> omega
    ·exact ⟨_,rfl,Below.refl _ _,rfl⟩
   ·intro a W hb0 hs hp hi;have hb:=undrew hb0;clear hb0
    have ti0:sl a 36 = .string (((((((strB WD) ++ ⟨#[32]⟩) ++ (strB (Lib.decDigits r))) ++ ⟨#[47]⟩) ++ (strB (Lib.decDigits k))) ++ ⟨#[32]⟩) ++ (strB (Lib.decDigits n))):=hp 16 (by decide)
    refine ite_y rfl (wp_val (.string ((((((((strB WD) ++ ⟨#[32]⟩) ++ (strB (Lib.decDigits r))) ++ ⟨#[47]⟩) ++ (strB (Lib.decDigits k))) ++ ⟨#[32]⟩) ++ (strB (Lib.decDigits n))) ++ ⟨#[32]⟩)) ?_ ?_)
    ·simp only [execOp,eval_tmp,eval_const,ti0];simp [go_sem,strB_size] <;> omega
    ·exact ⟨_,rfl,Below.refl _ _,rfl⟩
   ·intro a W hb0 hs hp hi;have hb:=undrew hb0;clear hb0
    have t1:sl a 1 = .pointer (some ⟨w.heap.size,0,none⟩):=hi 1 (by decide)
    refine ite_y rfl (wp_val (.pointer (some ⟨w.heap.size,7,none⟩)) ?_ ?_)
    ·simp only [execOp,eval_tmp,eval_const,t1];simp [go_sem]
    ·exact ⟨_,rfl,Below.refl _ _,rfl⟩
   ·intro a W hb0 hs hp hi;have hb:=undrew hb0;clear hb0
    have tt:sl a 38 = .pointer (some ⟨w.heap.size,7,none⟩):=hp 18 (by decide)
    have dd:=(hb.cell (p:=⟨w.heap.size,7,none⟩) (lt_of_cell c7)).trans c7
    refine ite_y rfl (wp_val (.int .i64 (m:Nat)) ?_ ?_)
    ·simp only [execOp,eval_tmp,tt];simp [go_sem,dd]
    ·exact ⟨_,rfl,Below.refl _ _,rfl⟩
   ·intro a W hb0 hs hp hi;have hb:=undrew hb0;clear hb0
    have t39:sl a 39 = .int .i64 (m:Nat):=hp 19 (by decide)
    refine ite_y rfl (wp_enter 91 #[.int .i64 (m:Nat)] ?_ (Itoa_any m hm W (HT1.out.keep hb)) ?_)
    ·simp only [execOp,resolve,List.map_toArray,List.map,eval_tmp,eval_func,eval_const,t39];simp [go_sem]
    ·rintro e W' ⟨rfl,hw⟩;exact ⟨_,rfl,_,rfl,hw,rfl⟩
   ·intro a W hb0 hs hp hi;have hb:=undrew hb0;clear hb0
    have ti0:sl a 37 = .string ((((((((strB WD) ++ ⟨#[32]⟩) ++ (strB (Lib.decDigits r))) ++ ⟨#[47]⟩) ++ (strB (Lib.decDigits k))) ++ ⟨#[32]⟩) ++ (strB (Lib.decDigits n))) ++ ⟨#[32]⟩):=hp 17 (by decide)
    have ti1:sl a 40 = .string (strB (Lib.decDigits m)):=hp 20 (by decide)
    refine ite_y rfl (wp_val (.string (((((((((strB WD) ++ ⟨#[32]⟩) ++ (strB (Lib.decDigits r))) ++ ⟨#[47]⟩) ++ (strB (Lib.decDigits k))) ++ ⟨#[32]⟩) ++ (strB (Lib.decDigits n))) ++ ⟨#[32]⟩) ++ (strB (Lib.decDigits m)))) ?_ ?_)
    ·simp only [execOp,eval_tmp,eval_const,ti0,ti1];simp [go_sem,strB_size] <;> omega
    ·exact ⟨_,rfl,Below.refl _ _,rfl⟩
   ·intro a W hb0 hs hp hi;have hb:=undrew hb0;clear hb0
    have t41:sl a 41 = .string (((((((((strB WD) ++ ⟨#[32]⟩) ++ (strB (Lib.decDigits r))) ++ ⟨#[47]⟩) ++ (strB (Lib.decDigits k))) ++ ⟨#[32]⟩) ++ (strB (Lib.decDigits n))) ++ ⟨#[32]⟩) ++ (strB (Lib.decDigits m))):=hp 21 (by decide)
    exact ite_y rfl (wp_val (sl a 41) rfl ⟨_,rfl,Below.refl _ _,t41⟩)
  intro a w2 hb hs hd hI ht
  have ha:=act_is [20,21,22,23,24,25,26,27,28,29,30,31,32,33,34,35,36,37,38,39,40,41,2] hs hd ht (by decide)
  have t2:sl a 2 = .string (((((((((strB WD) ++ ⟨#[32]⟩) ++ (strB (Lib.decDigits r))) ++ ⟨#[47]⟩) ++ (strB (Lib.decDigits k))) ++ ⟨#[32]⟩) ++ (strB (Lib.decDigits n))) ++ ⟨#[32]⟩) ++ (strB (Lib.decDigits m))):=hI 22 (by decide)
  simp only [List.foldl,t2] at ha
  generalize sl a 20 = u20 at ha
  generalize sl a 21 = u21 at ha
  generalize sl a 22 = u22 at ha
  generalize sl a 23 = u23 at ha
  generalize sl a 24 = u24 at ha
  generalize sl a 25 = u25 at ha
  generalize sl a 26 = u26 at ha
  generalize sl a 27 = u27 at ha
  generalize sl a 28 = u28 at ha
  generalize sl a 29 = u29 at ha
  generalize sl a 30 = u30 at ha
  generalize sl a 31 = u31 at ha
  generalize sl a 32 = u32 at ha
  generalize sl a 33 = u33 at ha
  generalize sl a 34 = u34 at ha
  generalize sl a 35 = u35 at ha
  generalize sl a 36 = u36 at ha
  generalize sl a 37 = u37 at ha
  generalize sl a 38 = u38 at ha
  generalize sl a 39 = u39 at ha
  generalize sl a 40 = u40 at ha
  generalize sl a 41 = u41 at ha
  simp only [Act.put,List.setIfInBounds_toArray,List.set_cons_zero,List.set_cons_succ] at ha
  rw [ha]
  clear ha hI ht
  have HB2:Hid (Below w.heap.size w w2):=bl HB.out hb HB.out.size
  clear hb
  clear c0 c1 c2 c3 c5 c6 c7
  have e1':=Lib.hid e1
  have e2':=Lib.hid e2
  clear e1 e2 e3
  go_wp2
  go_ret
  refine ⟨?_,HB2.out⟩
  unfold viewT
  rw [← HWD.out]
  simp only [← txt_app,← e1'.out,← e2'.out]
  rfl
set_option maxRecDepth 1000000 in
set_option maxHeartbeats 4000000 in
theorem RText25_any (k st r n m:Nat) (w:World) (hT:Tab10 w) (hs:st = 0∨st = 1∨st = 2) (hr:r≤1000000) (hk:k≤1000000) (hn:n≤1000000) (hm:m≤1000000) :
  Calls Tryz.prog 40 #[.int .i64 (st:Nat),.int .i64 (r:Nat),.int .i64 (k:Nat),.int .i64 (n:Nat),.int .i64 (m:Nat)] w fun e w'=>e = .returned (.string (strB (viewT st r k n m)))∧Below w.heap.size w w':=by
 have HT:=Lib.hid hT
 clear hT
 have hr:r≤9223372036854775807:=by omega
 have hk:k≤9223372036854775807:=by omega
 have hn:n≤9223372036854775807:=by omega
 have hm:m≤9223372036854775807:=by omega
 have zr:(strB (Lib.decDigits r)).size≤20:=by rw [strB_size];exact dd_len (u:=r) (by omega)
 have zk:(strB (Lib.decDigits k)).size≤20:=by rw [strB_size];exact dd_len (u:=k) (by omega)
 have zn:(strB (Lib.decDigits n)).size≤20:=by rw [strB_size];exact dd_len (u:=n) (by omega)
 have zm:(strB (Lib.decDigits m)).size≤20:=by rw [strB_size];exact dd_len (u:=m) (by omega)
 have e1:(⟨#[47]⟩:ByteArray) = strB [47]:=rfl
 have e2:(⟨#[32]⟩:ByteArray) = strB [32]:=rfl
 have E1:=Lib.hid e1
 have E2:=Lib.hid e2
 clear e1 e2
 rcases hs with rfl | rfl | rfl
 ·have e3:(⟨#[112,101,110,100,105,110,103]⟩:ByteArray) = strB (wordV 0):=rfl
  have zw:(strB (wordV 0)).size≤12:=by rw [strB_size];decide
  go_enter Tryz.func40,Tryz.ntmps40
  go_wp2_with fail
  refine Calls.mono (Itoa_any r hr w HT.out) ?_
  rintro e w1 ⟨rfl,hb1⟩
  have H1:=Lib.hid (HT.out.keep hb1)
  have B1:=Lib.hid hb1
  clear hb1
  go_wp2_with fail
  refine Calls.mono (Itoa_any k hk w1 H1.out) ?_
  rintro e w2 ⟨rfl,hb2⟩
  have H2:=Lib.hid (H1.out.keep hb2)
  have B2:=Lib.hid (bl B1.out hb2 B1.out.size)
  clear hb2
  go_wp2_with fail
  refine Calls.mono (Itoa_any n hn w2 H2.out) ?_
  rintro e w3 ⟨rfl,hb3⟩
  have H3:=Lib.hid (H2.out.keep hb3)
  have B3:=Lib.hid (bl B2.out hb3 B2.out.size)
  clear hb3
  go_wp2_with fail
  refine Calls.mono (Itoa_any m hm w3 H3.out) ?_
  rintro e w4 ⟨rfl,hb4⟩
  have B4:=Lib.hid (bl B3.out hb4 B3.out.size)
  clear hb4
  go_wp2
  go_ret
  refine ⟨?_,B4.out⟩
  unfold viewT
  simp only [← txt_app,← E1.out,← E2.out,← e3]
  rfl
 ·have e3:(⟨#[100,111,110,101]⟩:ByteArray) = strB (wordV 1):=rfl
  have zw:(strB (wordV 1)).size≤12:=by rw [strB_size];decide
  go_enter Tryz.func40,Tryz.ntmps40
  go_wp2_with fail
  refine Calls.mono (Itoa_any r hr w HT.out) ?_
  rintro e w1 ⟨rfl,hb1⟩
  have H1:=Lib.hid (HT.out.keep hb1)
  have B1:=Lib.hid hb1
  clear hb1
  go_wp2_with fail
  refine Calls.mono (Itoa_any k hk w1 H1.out) ?_
  rintro e w2 ⟨rfl,hb2⟩
  have H2:=Lib.hid (H1.out.keep hb2)
  have B2:=Lib.hid (bl B1.out hb2 B1.out.size)
  clear hb2
  go_wp2_with fail
  refine Calls.mono (Itoa_any n hn w2 H2.out) ?_
  rintro e w3 ⟨rfl,hb3⟩
  have H3:=Lib.hid (H2.out.keep hb3)
  have B3:=Lib.hid (bl B2.out hb3 B2.out.size)
  clear hb3
  go_wp2_with fail
  refine Calls.mono (Itoa_any m hm w3 H3.out) ?_
  rintro e w4 ⟨rfl,hb4⟩
  have B4:=Lib.hid (bl B3.out hb4 B3.out.size)
  clear hb4
  go_wp2
  go_ret
  refine ⟨?_,B4.out⟩
  unfold viewT
  simp only [← txt_app,← E1.out,← E2.out,← e3]
  rfl
 ·have e3:(⟨#[105,110,99,111,110,115,105,115,116,101,110,116]⟩:ByteArray) = strB (wordV 2):=rfl
  have zw:(strB (wordV 2)).size≤12:=by rw [strB_size];decide
  go_enter Tryz.func40,Tryz.ntmps40
  go_wp2_with fail
  refine Calls.mono (Itoa_any r hr w HT.out) ?_
  rintro e w1 ⟨rfl,hb1⟩
  have H1:=Lib.hid (HT.out.keep hb1)
  have B1:=Lib.hid hb1
  clear hb1
  go_wp2_with fail
  refine Calls.mono (Itoa_any k hk w1 H1.out) ?_
  rintro e w2 ⟨rfl,hb2⟩
  have H2:=Lib.hid (H1.out.keep hb2)
  have B2:=Lib.hid (bl B1.out hb2 B1.out.size)
  clear hb2
  go_wp2_with fail
  refine Calls.mono (Itoa_any n hn w2 H2.out) ?_
  rintro e w3 ⟨rfl,hb3⟩
  have H3:=Lib.hid (H2.out.keep hb3)
  have B3:=Lib.hid (bl B2.out hb3 B2.out.size)
  clear hb3
  go_wp2_with fail
  refine Calls.mono (Itoa_any m hm w3 H3.out) ?_
  rintro e w4 ⟨rfl,hb4⟩
  have B4:=Lib.hid (bl B3.out hb4 B3.out.size)
  clear hb4
  go_wp2
  go_ret
  refine ⟨?_,B4.out⟩
  unfold viewT
  simp only [← txt_app,← E1.out,← E2.out,← e3]
  rfl
end Go.Proofs.YtccaiiigdfieoaaGreatDoor
namespace Go.Proofs.YtccaiiigdfieoaaGreatDoor
open Go.RowKit Go.By Go.Maps
end Go.Proofs.YtccaiiigdfieoaaGreatDoor
namespace Go.By
open Go.RowKit
theorem sl_of_row {w:World} {a:Option Addr} {len cap:Nat} {zs:List Int}
  (h:(a = none∧len = 0∧cap = 0∧zs = [])∨∃ x,a = some x∧len≤cap∧cap≤maxLen∧zs.length = cap∧(∀ i,i < zs.length→w.cell? (x.add i) = some (.int .u8 (zs.getD i 0)))∧∀ n ∈ zs,(Lit.int .u8 n).wf = true) :
  ∃ xs,Sl B8 w a len cap xs:=by
 rcases h with ⟨rfl,rfl,rfl,_⟩ | ⟨x,rfl,hl,hm,hz,hc,hw⟩
 ·exact ⟨[],Sl.nil0 _ _⟩
 ·refine ⟨(zs.take len).map fun z=>UInt8.ofNat z.toNat,⟨by simp;omega,hl,hm,fun h=>by simp at h,?_⟩⟩
  intro i hi
  have hi':i < zs.length:=by simp at hi;omega
  obtain ⟨b,o,hx,hc'⟩:=ints_at hc (by omega)
  refine ⟨b,o,by rw [hx],?_⟩
  have hh:=hc i hi'
  rw [hx,Addr.add_lit] at hh
  rw [hh]
  have e:zs.getD i 0 = zs[i]:=by simp [hi']
  rw [e]
  have hb:=bounds_u8 (hw _ (List.getElem_mem hi'))
  simp
  omega
end Go.By
namespace Go.Proofs.YtccaiiigdfieoaaGreatDoor
open Go.RowKit Go.By Go.ChangeShapes Go.WideShapes Go.Deep
section
variable {H:Type} {enc:TypeId × Value→H} {P:Program} {w:World} {base:Nat} {held:Bool}
end
end Go.Proofs.YtccaiiigdfieoaaGreatDoor
namespace Go.By
open Go.RowKit
end Go.By
namespace Go.Proofs.YtccaiiigdfieoaaGreatDoor
open Go.RowKit Go.By Go.ChangeShapes Go.WideShapes Go.Deep
section
variable {H:Type} {enc:TypeId × Value→H} {P:Program} {w:World} {base:Nat} {held:Bool}
end
end Go.Proofs.YtccaiiigdfieoaaGreatDoor
namespace Go.Proofs.YtccaiiigdfieoaaGreatDoor
open Go.RowKit Go.By
set_option maxRecDepth 100000 in
set_option maxHeartbeats 1000000 in
theorem Few18_any (p:Option Addr) (m c:Nat) (xss:List (List UInt8)) (w:World) (h:Sl2 w p m c xss) :
  Calls Tryz.prog 25 #[.slice p m c] w fun e w'=>e = .returned (.bool (xss.all (fun y=>decide (y.length≤800)) && decide (m≤30)))∧w = w':=by
 have H:=Lib.hid h
 have HL:=Lib.hid h.len
 have hmb:=h.bound
 obtain ⟨R,hR⟩:∃ R:Bool,R = (xss.all (fun y=>decide (y.length≤800)) && decide (m≤30)):=⟨_,rfl⟩
 rw [← hR]
 have HR:=Lib.hid hR
 clear h hR
 go_enter Tryz.func25,Tryz.ntmps25
 go_wp2
 go_loop [7] (fun i=>∃ k:Nat,k≤m∧i = .int .i64 k∧Hid (∀ (j:Nat) (x:List UInt8),j < k→xss[j]? = some x→x.length≤800)) (fun i=>m - (intOf i).toNat)
 case atStart=>exact ⟨0,Nat.zero_le _,rfl,fun j x hj=>by omega⟩
 case round =>
  obtain ⟨k,hk,rfl,hj⟩:=hrel
  by_cases hlt:k < m
  ·obtain ⟨b,o,q,mx,cx,xs,rfl,hc,hs,hx⟩:=H.out.at k hlt
   have hmx:=hs.len
   have hxb:=hs.bound
   by_cases e:mx≤800
   ·have HX:=Lib.hid hmx
    clear hs hmx
    have e':(mx:Int)≤800:=by omega
    go_wp2
    go_round
    case rel=>exact ⟨k + 1,by omega,by go_num,fun j x hjk hx'=>by
     rcases Nat.lt_or_ge j k with h | h
     ·exact hj.out j x h hx'
     ·obtain rfl:j = k:=by omega
      have:=hx.out;rw [hx'] at this;cases this;rw [HX.out];exact e⟩
    case measure=>simp [intOf];omega
   ·have e':(800:Int) < (mx:Int):=by omega
    have hRf:Hid (R = false):=by
     show R = false
     rw [HR.out]
     have:xss.all (fun y=>decide (y.length≤800)) = false:=by
      rw [List.all_eq_false]
      exact ⟨xs,List.mem_of_getElem? hx.out,by simp;omega⟩
     rw [this];rfl
    clear hs hmx e
    go_wp2
    go_ret
    exact ⟨by rw [hRf.out];rfl,rfl⟩
  ·have hkm:k = m:=by omega
   have hRt:Hid (R = decide ((m:Int)≤30)):=by
    show R = _
    rw [HR.out]
    have:xss.all (fun y=>decide (y.length≤800)) = true:=by
     rw [List.all_eq_true]
     intro x hx
     obtain ⟨i,hi,rfl⟩:=List.getElem_of_mem hx
     exact decide_eq_true (hj.out i _ (by rw [hkm,← HL.out];exact hi) (List.getElem?_eq_getElem hi))
    rw [this,Bool.true_and]
    by_cases h30:m≤30
    ·rw [decide_eq_true h30,decide_eq_true (by omega)]
    ·rw [decide_eq_false h30,decide_eq_false (by omega)]
   have hge:(m:Int)≤(k:Int):=by omega
   clear hkm
   go_wp2
   go_ret
   exact ⟨by rw [hRt.out];rfl,rfl⟩
def small19 (l s n:Int):Bool:=if checkS l s n = 0 then decide (n≤12) && decide (s≤20) else true
set_option maxRecDepth 100000 in
set_option maxHeartbeats 1000000 in
theorem Small19_any (l s n d:Int) (w:World) (hl2:l≤9223372036854775807) :
  Calls Tryz.prog 26 #[.agg #[.int .i64 l,.int .i64 s,.int .i64 n,.int .u32 d]] w fun e w'=>e = .returned (.bool (small19 l s n))∧Below w.heap.size w w':=by
 have HC:=Lib.hid (fun w=>Check_any l s n d w hl2)
 have HS:Hid (small19 l s n = if checkS l s n = 0 then decide (n≤12) && decide (s≤20) else true):=rfl
 generalize small19 l s n = R at *
 generalize checkS l s n = C at *
 by_cases hc:C = 0
 ·subst hc
  by_cases hn:n≤12
  ·by_cases hs:s≤20
   ·have HR:Hid (R = true):=by show _ = _;rw [HS.out,if_pos rfl,decide_eq_true hn,decide_eq_true hs];rfl
    clear HS
    go_enter Tryz.func26,Tryz.ntmps26
    go_wp2_with fail
    refine Calls.mono (HC.out _) ?_
    rintro e w1 ⟨rfl,hb⟩
    obtain ⟨hb1,h1,hsz⟩:=one_of hb
    obtain ⟨c0,c1,c2,c3⟩:=cells_four h1
    have HB:=Lib.hid hb1
    clear hb hb1
    go_wp2
    go_ret
    exact ⟨by rw [HR.out];first | rfl | (simp only [decide_eq_true hs];rfl),HB.out⟩
   ·have hs':¬ s≤20:=by omega
    have HR:Hid (R = false):=by show _ = _;rw [HS.out,if_pos rfl,decide_eq_true hn,decide_eq_false hs'];rfl
    clear HS
    go_enter Tryz.func26,Tryz.ntmps26
    go_wp2_with fail
    refine Calls.mono (HC.out _) ?_
    rintro e w1 ⟨rfl,hb⟩
    obtain ⟨hb1,h1,hsz⟩:=one_of hb
    obtain ⟨c0,c1,c2,c3⟩:=cells_four h1
    have HB:=Lib.hid hb1
    clear hb hb1
    go_wp2
    go_ret
    exact ⟨by rw [HR.out];first | rfl | (simp only [show decide (s≤20) = false from decide_eq_false (by omega)];rfl),HB.out⟩
  ·have HR:Hid (R = false):=by show _ = _;rw [HS.out,if_pos rfl,decide_eq_false hn];rfl
   clear HS
   go_enter Tryz.func26,Tryz.ntmps26
   go_wp2_with fail
   refine Calls.mono (HC.out _) ?_
   rintro e w1 ⟨rfl,hb⟩
   obtain ⟨hb1,h1,hsz⟩:=one_of hb
   obtain ⟨c0,c1,c2,c3⟩:=cells_four h1
   have HB:=Lib.hid hb1
   clear hb hb1
   go_wp2
   go_ret
   exact ⟨by rw [HR.out];rfl,HB.out⟩
 ·have hz:(C != 0) = true:=bne_iff_ne.2 hc
  have HR:Hid (R = true):=by show _ = _;rw [HS.out,if_neg hc]
  clear HS hc
  go_enter Tryz.func26,Tryz.ntmps26
  go_wp2_with fail
  refine Calls.mono (HC.out _) ?_
  rintro e w1 ⟨rfl,hb⟩
  obtain ⟨hb1,h1,hsz⟩:=one_of hb
  have HB:=Lib.hid hb1
  clear hb hb1
  go_wp2
  go_ret
  exact ⟨by rw [HR.out];rfl,HB.out⟩
end Go.Proofs.YtccaiiigdfieoaaGreatDoor
namespace Go.Proofs.YtccaiiigdfieoaaGreatDoor
open Go.RowKit Go.By Gf Go.Maps
end Go.Proofs.YtccaiiigdfieoaaGreatDoor
namespace Go.Proofs.YtccaiiigdfieoaaGreatDoor
open Go.RowKit Go.By
end Go.Proofs.YtccaiiigdfieoaaGreatDoor
namespace Go.Proofs.YtccaiiigdfieoaaGreatDoor
open Go.RowKit Go.By
end Go.Proofs.YtccaiiigdfieoaaGreatDoor
namespace Go.By
open Go.RowKit
abbrev Par:=Value × Int × List UInt8
section
variable {TP T1:Nat} {w w':World} {base n:Nat} {v:Value} {ts:List Par}
end
end Go.By
namespace Go.Proofs.YtccaiiigdfieoaaGreatDoor
open Go.RowKit Go.By
end Go.Proofs.YtccaiiigdfieoaaGreatDoor
namespace Go.Proofs.YtccaiiigdfieoaaGreatDoor
open Go.RowKit Go.By
def dropAt {α:Type} (ps:List α) (i:Nat):List α:=ps.take i ++ ps.drop (i + 1)
def putAtP {α:Type} (ps:List α) (k:Nat) (p:α):List α:=ps.take k ++ p :: ps.drop k
end Go.Proofs.YtccaiiigdfieoaaGreatDoor
namespace Go.Proofs.YtccaiiigdfieoaaGreatDoor
open Go.RowKit Go.By
end Go.Proofs.YtccaiiigdfieoaaGreatDoor
namespace Go.Proofs.YtccaiiigdfieoaaGreatDoor
open Go.RowKit Go.By
def cutP (p:List UInt8 × Int) (j:Nat):List UInt8 × Int:=if j < p.1.length then (p.1.take j,-1) else p
end Go.Proofs.YtccaiiigdfieoaaGreatDoor
namespace Go.Proofs.YtccaiiigdfieoaaGreatDoor
open Go.RowKit Go.By
def flip (xs:List UInt8) (at':Nat):List UInt8:=xs.set (at' / 8) ((xs.getD (at' / 8) 0) ^^^ UInt8.ofNat (2 ^ (at' % 8)))
def maskF (b j:Nat) (xs:List UInt8):Nat→List UInt8 × Bool
 | 0=>(xs,false)
 | k + 1=>if b.testBit k = true∧(j + k) / 8 < xs.length then (flip (maskF b j xs k).1 (j + k),true) else maskF b j xs k
end Go.Proofs.YtccaiiigdfieoaaGreatDoor
namespace Go.Proofs.YtccaiiigdfieoaaGreatDoor
open Go.RowKit Go.By
def maskP (p:List UInt8 × Int) (b j:Nat):List UInt8 × Int:=((maskF b j p.1 32).1,if (maskF b j p.1 32).2 then -1 else p.2)
end Go.Proofs.YtccaiiigdfieoaaGreatDoor
namespace Go.Proofs.YtccaiiigdfieoaaGreatDoor
open Go.RowKit Go.By
structure ActD where
 d:Int
 i:Int
 j:Int
 b:Nat
 bs:List UInt8
abbrev Pack:=List UInt8 × Int
def stepS (ps:List Pack) (a:ActD):List Pack :=
 if a.d < 0∨6≤a.d∨a.j < 0 then ps
 else if a.d = 5 then ps ++ [(a.bs,-1)]
 else match ps[a.i.toNat]? with
  | none=>ps
  | some p=>if a.i < 0 then ps
   else if a.d = 0 then dropAt ps a.i.toNat
   else if a.d = 1 then ps ++ [p]
   else if a.d = 2 then putAtP (dropAt ps a.i.toNat) (min a.j.toNat (ps.length - 1)) p
   else if a.d = 3 then ps.set a.i.toNat (cutP p a.j.toNat)
   else ps.set a.i.toNat (maskP p a.b a.j.toNat)
end Go.Proofs.YtccaiiigdfieoaaGreatDoor
namespace Go.Proofs.YtccaiiigdfieoaaGreatDoor
open Go.RowKit Go.By Go.ChangeShapes Go.WideShapes Go.Deep
section
variable {H:Type} {enc:TypeId × Value→H} {P:Program} {w:World} {base:Nat} {held:Bool}
instance:Inhabited ActD:=⟨⟨0,0,0,0,[]⟩⟩
end
end Go.Proofs.YtccaiiigdfieoaaGreatDoor
namespace Go.Proofs.YtccaiiigdfieoaaGreatDoor
open Go.RowKit Go.By
end Go.Proofs.YtccaiiigdfieoaaGreatDoor
namespace Go.Proofs.YtccaiiigdfieoaaGreatDoor
open Go.RowKit Go.By
end Go.Proofs.YtccaiiigdfieoaaGreatDoor
namespace Go.Proofs.YtccaiiigdfieoaaGreatDoor
open Go.RowKit Go.By
end Go.Proofs.YtccaiiigdfieoaaGreatDoor
namespace Go.Proofs.YtccaiiigdfieoaaGreatDoor
open Go.RowKit Go.By
end Go.Proofs.YtccaiiigdfieoaaGreatDoor
namespace Go.Proofs.YtccaiiigdfieoaaGreatDoor
open Go.RowKit Go.By
end Go.Proofs.YtccaiiigdfieoaaGreatDoor
namespace Go.Proofs.YtccaiiigdfieoaaGreatDoor
open Go.RowKit Go.By Gf Go.Maps
section
variable {wI w0 w w':World} {gs gt be base L t k D nx N st:Nat} {FX:List (List UInt8)} {v:Value} {K:List Rw}
end
end Go.Proofs.YtccaiiigdfieoaaGreatDoor
namespace Go.By
open Go.RowKit Go.Proofs.YtccaiiigdfieoaaGreatDoor
end Go.By
namespace Go.By
open Go.RowKit Go.Proofs.YtccaiiigdfieoaaGreatDoor
end Go.By
namespace Go.Proofs.YtccaiiigdfieoaaGreatDoor
open Go.RowKit Go.By
end Go.Proofs.YtccaiiigdfieoaaGreatDoor
namespace Go.Proofs.YtccaiiigdfieoaaGreatDoor
open Go.RowKit Go.By
end Go.Proofs.YtccaiiigdfieoaaGreatDoor
namespace Go.Proofs.YtccaiiigdfieoaaGreatDoor
open Go.RowKit Go.By
set_option maxHeartbeats 1000000 in
theorem RShift5_any (z b:Nat) (hz:z < 18446744073709551616) (hb:b≤64) (w:World) :
  Calls Tryz.prog 260 #[.int .u64 (z:Nat),.int .i64 (b:Nat)] w fun e w'=>e = .returned (.int .u64 (mixX z b:Nat))∧w = w':=by
 have HZ:=Lib.hid hz
 clear hz
 go_enter Tryz.func260,Tryz.ntmps260
 go_wp2
 go_loop [5,6] (fun kv iv=>∃ j y:Nat,j≤b∧y < 18446744073709551616∧iv = .int .i64 (j:Nat)∧kv = .int .u64 (y:Nat)∧Hid (y = z / 2 ^ j)) (fun _ i=>b - (intOf i).toNat)
 case atStart=>exact ⟨0,z,Nat.zero_le _,HZ.out,rfl,rfl,by show z = z / 2 ^ 0;simp⟩
 case round =>
  obtain ⟨j,y,hj,hy64,rfl,rfl,hy⟩:=hrel
  by_cases hlt:j < b
  ·have hlt':(j:Int) < (b:Int):=by omega
   have HY:Hid (y / 2 = z / 2 ^ (j + 1)):=by show _ = _;rw [hy.out,Nat.div_div_eq_div_mul,Nat.pow_succ]
   clear hlt
   go_wp2
   go_round
   case rel=>exact ⟨j + 1,y / 2,by omega,by omega,by go_num,by go_num,HY.out⟩
   case measure=>simp [intOf];omega
  ·obtain rfl:j = b:=by omega
   have e1:bits .xor .u64 (z:Int) (y:Int) = (mixX z j:Int):=by
    rw [bits_xor64 HZ.out hy64,hy.out];rfl
   clear hlt hj hy
   go_wp2_with (simp only [e1])
   go_ret
   exact ⟨rfl,rfl⟩
set_option maxHeartbeats 1000000 in
theorem RNext5_any (s:Nat) (w:World) :
  Calls Tryz.prog 235 #[.int .u64 (s:Nat)] w fun e w'=>e = .returned (.tuple #[.int .u64 (mixS s:Nat),.int .u64 (mixZ (mixS s):Nat)])∧w = w':=by
 have w1:IntKind.u64.wrap ((s:Int) + 11400714819323198485) = (mixS s:Int):=by rw [IntKind.wrap_u64];unfold mixS;omega
 have hl:=mixS_lt s
 obtain ⟨S,hS⟩:∃ S,S = mixS s:=⟨_,rfl⟩
 unfold mixZ
 rw [← hS] at w1 hl ⊢
 have c1:=Lib.hid (fun w=>RShift5_any S 30 hl (by decide) w)
 obtain ⟨Y,hY⟩:∃ Y,Y = mixX S 30:=⟨_,rfl⟩
 rw [← hY] at c1 ⊢
 have m1:IntKind.u64.wrap ((Y:Int) * 13787848793156543929) = ((Y * 13787848793156543929 % 18446744073709551616:Nat):Int):=by rw [IntKind.wrap_u64];omega
 obtain ⟨Z,hZ⟩:∃ Z,Z = Y * 13787848793156543929 % 18446744073709551616:=⟨_,rfl⟩
 have lz:Z < 18446744073709551616:=by rw [hZ];exact Nat.mod_lt _ (by decide)
 rw [← hZ] at m1 ⊢
 have c2:=Lib.hid (fun w=>RShift5_any Z 27 lz (by decide) w)
 obtain ⟨Y2,hY2⟩:∃ Y,Y = mixX Z 27:=⟨_,rfl⟩
 rw [← hY2] at c2 ⊢
 have m2:IntKind.u64.wrap ((Y2:Int) * 10723151780598845931) = ((Y2 * 10723151780598845931 % 18446744073709551616:Nat):Int):=by rw [IntKind.wrap_u64];omega
 obtain ⟨Z2,hZ2⟩:∃ Z,Z = Y2 * 10723151780598845931 % 18446744073709551616:=⟨_,rfl⟩
 have lz2:Z2 < 18446744073709551616:=by rw [hZ2];exact Nat.mod_lt _ (by decide)
 rw [← hZ2] at m2 ⊢
 have c3:=Lib.hid (fun w=>RShift5_any Z2 31 lz2 (by decide) w)
 obtain ⟨Y3,hY3⟩:∃ Y,Y = mixX Z2 31:=⟨_,rfl⟩
 rw [← hY3] at c3 ⊢
 clear hS hY hZ hY2 hZ2 hY3 hl lz lz2
 go_enter Tryz.func235,Tryz.ntmps235
 go_wp2_with fail
 refine Calls.mono (c1.out _) ?_
 rintro e wa ⟨rfl,rfl⟩
 go_wp2_with fail
 refine Calls.mono (c2.out _) ?_
 rintro e wa ⟨rfl,rfl⟩
 go_wp2_with fail
 refine Calls.mono (c3.out _) ?_
 rintro e wa ⟨rfl,rfl⟩
 go_wp2
 go_ret2
 exact ⟨rfl,rfl⟩
def lnV:Value→Nat
 | .slice _ n _=>n
 | _=>0
theorem mixRow_at {s n i:Nat} (h:i < n):(mixRow s n)[i]? = some (mixAt s i):=by
 unfold mixRow
 rw [List.getElem?_map,List.getElem?_range h];rfl
set_option maxRecDepth 100000 in
set_option maxHeartbeats 2000000 in
theorem RBytes5_any (s n:Nat) (hn:n≤65536) (w:World) :
  Calls Tryz.prog 202 #[.int .u64 (s:Nat),.int .i64 (n:Nat)] w fun e w'=>∃ s' q c,e = .returned (.tuple #[.int .u64 s',.slice q n c])∧w'.ownsRow w.heap.size 5 1 (.slice q n c) n ((mixRow s n).map B8)∧Below w.heap.size w w':=by
 obtain ⟨i0,hi,hz0,hz1,hz2⟩:=info_parts info_u8
 go_enter Tryz.func202,Tryz.ntmps202
 go_wp2
 go_loopw [0,6] (fun sv v wr=>∃ q:Nat,8 * q≤n + 7∧sv = .int .u64 (mixIt s q:Nat)∧Hid (wr.ownsRow w.heap.size 5 1 v (min (8 * q) n) (((mixRow s n).take (min (8 * q) n)).map B8))∧Hid (Below w.heap.size w wr)) (fun _ v _=>n - lnV v)
 case atStart=>exact ⟨0,by omega,rfl,Lib.hid (by simpa using World.ownsRow_nil w w.heap.size 5 1),Below.refl _ _⟩
 case round =>
  obtain ⟨q,hq,rfl,HO,HB⟩:=hrel
  obtain ⟨p0,c0,rfl⟩:=owns_shape HO.out
  by_cases hlt:8 * q < n
  ·rw [show min (8 * q) n = 8 * q by omega] at HO ⊢
   have HLT:=Lib.hid hlt
   clear hlt
   have hlt':((8 * q:Nat):Int) < (n:Int):=by have:=HLT.out;omega
   have hnx:=RNext5_any (mixIt s q) wr
   rw [show mixS (mixIt s q) = mixIt s (q + 1) from rfl] at hnx
   obtain ⟨X,hX⟩:∃ X,X = mixZ (mixIt s (q + 1)):=⟨_,rfl⟩
   rw [← hX] at hnx
   have HX:=Lib.hid hX
   have HN:=Lib.hid hnx
   have hX64:X < 18446744073709551616:=by rw [hX];exact mixZ_lt _
   have HX64:=Lib.hid hX64
   clear hX hnx hX64
   go_wp2_with fail
   refine Calls.mono HN.out ?_
   rintro e wa ⟨rfl,rfl⟩
   clear HN
   obtain ⟨st,hst⟩:∃ st,st = mixIt s (q + 1):=⟨_,rfl⟩
   rw [← hst]
   have HST:=Lib.hid hst
   clear hst
   go_wp2
   go_loopw [6,8,9] (fun v xv jv wi=>∃ j x:Nat,j≤8∧x < 18446744073709551616∧jv = .int .i64 (j:Nat)∧xv = .int .u64 (x:Nat)∧Hid (x = X / 256 ^ j)∧Hid (wi.ownsRow w.heap.size 5 1 v (min (8 * q + j) n) (((mixRow s n).take (min (8 * q + j) n)).map B8))∧Hid (Below w.heap.size w wi)) (fun _ _ jv _=>8 - (intOf jv).toNat)
   case atStart=>exact ⟨0,X,by omega,HX64.out,rfl,rfl,by show X = X / 256 ^ 0;simp,by rw [Nat.add_zero,show min (8 * q) n = 8 * q by have:=HLT.out;omega];exact HO.out,HB.out⟩
   case round =>
    clear HO HB
    obtain ⟨j,x,hj,hx,rfl,rfl,HXJ,HO,HB⟩:=hrel
    obtain ⟨p1,c1,rfl⟩:=owns_shape HO.out
    by_cases hj8:j < 8
    ·have hj8':(j:Int) < 8:=by omega
     have HXN:Hid (x / 256 = X / 256 ^ (j + 1)):=by show _ = _;rw [HXJ.out,Nat.div_div_eq_div_mul,Nat.pow_succ]
     have HJ:=Lib.hid hj8
     clear hj8
     by_cases hin:8 * q + j < n
     ·rw [show min (8 * q + j) n = 8 * q + j by omega] at HO ⊢
      have hin':((8 * q + j:Nat):Int) < (n:Int):=by omega
      have A1:IntKind.u8.wrap ((x:Int) % 256) = ((mixAt s (8 * q + j)).toNat:Int):=by
       have e1:(8 * q + j) / 8 = q:=by have:=HJ.out;omega
       have e2:(8 * q + j) % 8 = j:=by have:=HJ.out;omega
       unfold mixAt
       rw [e1,e2,← HX.out,← HXJ.out,UInt8.toNat_ofNat',IntKind.wrap_u8]
       omega
      have HIN:=Lib.hid hin
      obtain ⟨L,eL⟩:∃ L,L = ((mixRow s n).take (8 * q + j)).map B8:=⟨_,rfl⟩
      rw [← eL] at HO
      have HEL:=Lib.hid eL
      obtain ⟨b8,hb8⟩:∃ b8,b8 = mixAt s (8 * q + j):=⟨_,rfl⟩
      rw [← hb8] at A1
      have HB8:=Lib.hid hb8
      obtain ⟨m,hm⟩:∃ m,m = 8 * q + j:=⟨_,rfl⟩
      rw [← hm] at HO hin'
      rw [← hm]
      have HM:=Lib.hid hm
      have hm6:m≤65536:=by omega
      clear hin eL hb8 hm
      go_wp2_with (first
       | simp only [A1]
       | (at_builtin;refine wpList_append_rs _ rfl _ _ 22 rfl w.heap.size 5 i0 (.int .u8 0) 1 Tryz.underlying22 hi hz0 hz1 hz2 rfl _ m _ rfl (HO.out.alloc _) B8 _ _ _ [b8] (fun _ _=>rfl) rfl (sl_one rfl rfl) ?c1 ?c2 ?c3 ?_))
      case c1=>unfold maxLen;simp;omega
      case c2=>simp;omega
      case c3=>have:=HB.out.size;simp;omega
      intro v' w' ho hg
      have HO':=Lib.hid ho;clear ho
      have HB':=Lib.hid ((HB.out.alloc HB.out.size _).grown hg (by have:=HB.out.size;simp;omega) (fun j hj=>(HO.out.lt j hj).1))
      clear hg
      go_wp2
      go_roundw
      case rel =>
       refine ⟨j + 1,x / 256,by have:=HJ.out;omega,by omega,by go_num,by go_num,HXN.out,?_,HB'.out⟩
       have h1:=HIN.out
       rw [show min (8 * q + (j + 1)) n = (8 * q + j) + 1 by omega,List.take_add_one,mixRow_at h1,List.map_append,← HEL.out,← HM.out]
       have h2:=HO'.out
       rw [HB8.out,← HM.out] at h2
       exact h2
      case measure=>simp [intOf];have:=HJ.out;omega
     ·rw [show min (8 * q + j) n = n by omega] at HO ⊢
      have HIN:Hid (min (8 * q + (j + 1)) n = n):=by show _ = _;omega
      clear hin
      go_wp2
      go_roundw
      case rel=>exact ⟨j + 1,x / 256,by have:=HJ.out;omega,by omega,by go_num,by go_num,HXN.out,by rw [HIN.out];exact HO.out,HB.out⟩
      case measure=>simp [intOf];have:=HJ.out;omega
    ·obtain rfl:j = 8:=by omega
     clear hj8 hj
     go_wp2
     go_roundw
     case rel=>exact ⟨q + 1,by have:=HLT.out;omega,by rw [HST.out],by rw [show 8 * (q + 1) = 8 * q + 8 by omega];exact HO.out,HB.out⟩
     case measure=>simp [lnV];have:=HLT.out;omega
  ·rw [show min (8 * q) n = n by omega] at HO ⊢
   have hge:¬ (n:Int) < (n:Int):=by omega
   have HE:Hid ((mixRow s n).take n = mixRow s n):=by show _ = _;exact List.take_of_length_le (by rw [mixRow_len];exact Nat.le_refl _)
   clear hlt hq
   go_wp2
   go_ret2
   have h1:=HO.out
   rw [HE.out] at h1
   exact ⟨_,p0,c0,rfl,h1,HB.out⟩
end Go.Proofs.YtccaiiigdfieoaaGreatDoor
namespace Go.By
open Go.RowKit
theorem wp_region_row {P:Program} {ops:Array Oper} {Q:Exit→Act→World→Prop} {id:Nat} {a0:Act} {w0:World} (sv:Nat→Value) (n m g T:Nat) (cs:Array Value) (hn:a0.tmps.size = n) (hm:P.follows .mixedOrders = true) (hback:backB ops = true) (hdist:distB ops = true) (hpair:pairB ops n m m = true)
  (z:∃ old,w0.heap[g]? = some (.cells old T (0,0))∧old.size = cs.size)
  (each:∀ i o,i≠m→ops[i]? = some o→∀ a w,TwoE w0 g g w→a.tmps.size = a0.tmps.size→(∀ k d,k ∈ preds o→k≠m→dstOf ops k = some d→sl a d = sv k)→(∀ t,initAt ops i t = true→sl a t = sl a0 t)→o.wp P a w (fun a' w'=>a' = a.put o.dst (sv i)∧w' = w) Q)
  (st:∀ o,ops[m]? = some o→∀ a w,TwoE w0 g g w→a.tmps.size = a0.tmps.size→(∀ k d,k ∈ preds o→k≠m→dstOf ops k = some d→sl a d = sv k)→(∀ t,initAt ops m t = true→sl a t = sl a0 t)→∀ old,w.heap[g]? = some (.cells old T (0,0))→old.size = cs.size→o.wp P a w (fun a' w'=>a' = a.put o.dst undef∧w' = w.setRow g cs) Q)
  (hs:m < ops.size)
  (fin:∀ a w,TwoE w0 g g w→w.heap[g]? = some (.cells cs T (0,0))→a.tmps.size = a0.tmps.size→a.defers = a0.defers→(∀ j d,j < ops.size→j≠m→dstOf ops j = some d→sl a d = sv j)→(∀ t,(ops.toList.all fun o=>o.dst != some t) = true→sl a t = sl a0 t)→Q .normal a w) :
  (Code.region id ops true).wp P Q a0 w0:=by
 have hp:∀ i o,ops[i]? = some o→o.guard = none∧(i≠m→∃ d,o.dst = some d∧d < n)∧(i = m→o.dst = none):=fun i o ho=>by
  have h0:=List.all_eq_true.1 hpair i (List.mem_range.2 (Array.getElem?_eq_some_iff.1 ho).1)
  rw [ho] at h0
  simp only [Bool.and_eq_true] at h0
  refine ⟨by cases hg:o.guard <;> simp [hg] at h0 ⊢,fun h1=>?_,fun h=>?_⟩
  ·have h3:=h0.2
   rw [if_neg (by simp [h1])] at h3
   cases hd:o.dst with
   | none=>rw [hd] at h3;cases h3
   | some d=>rw [hd] at h3;exact ⟨d,rfl,of_decide_eq_true h3⟩
  ·have h3:=h0.2
   rw [if_pos (by simp [h])] at h3
   cases hd:o.dst <;> simp [hd] at h3 ⊢
 refine wp_region_each hm hback (fun _ w=>TwoE w0 g g w∧∃ old,w.heap[g]? = some (.cells old T (0,0))∧old.size = cs.size)
  (fun i w w'=>if i = m then w' = w.setRow g cs else w' = w)
  (fun j σ w=>if j = m then w.heap[g]? = some (.cells cs T (0,0)) else ∀ d,dstOf ops j = some d→σ d = sv j) ?_ ?_ ?_ ?_ ?_
 ·exact ⟨⟨rfl,rfl,rfl,rfl,fun _ _ _=>rfl⟩,z⟩
 ·intro i w w' hE hR
  obtain ⟨hE,o1,h1,e1⟩:=hE
  by_cases hi1:i = m
  ·rw [if_pos hi1] at hR
   subst hR
   exact ⟨hE.row1 _,cs,hrs h1,rfl⟩
  ·rw [if_neg hi1] at hR
   subst hR
   exact ⟨hE,o1,h1,e1⟩
 ·intro i j oi oj σ σ' w w' hij hoi hoj _ hI hR hσ _ _
  by_cases hj1:j = m
  ·subst hj1
   rw [if_pos rfl] at hI ⊢
   rw [if_neg hij] at hR
   subst hR;exact hI
  ·rw [if_neg hj1] at hI ⊢
   intro d hd
   have hne:oi.dst≠some d:=by
    intro e
    have hi':i < ops.size:=(Array.getElem?_eq_some_iff.1 hoi).1
    have hj':j < ops.size:=(Array.getElem?_eq_some_iff.1 hoj).1
    have:=List.all_eq_true.1 (List.all_eq_true.1 hdist i (List.mem_range.2 hi')) j (List.mem_range.2 hj')
    rw [hoi,hoj] at this
    have hdj':oj.dst = some d:=by simpa [dstOf,hoj] using hd
    simp [e,hdj',hij] at this
   rw [hσ d hne]
   exact hI d hd
 ·have key:∀ i o,ops[i]? = some o→StepOf P ops Q a0 w0.drew (fun _ w=>TwoE w0 g g w∧∃ old,w.heap[g]? = some (.cells old T (0,0))∧old.size = cs.size)
    (fun i w w'=>if i = m then w' = w.setRow g cs else w' = w)
    (fun j σ w=>if j = m then w.heap[g]? = some (.cells cs T (0,0)) else ∀ d,dstOf ops j = some d→σ d = sv j) i o:=by
   intro i o ho a w hE hsz hpr hin
   obtain ⟨hE,o1,h1,e1⟩:=hE
   obtain ⟨hg,hd,hd2⟩:=hp i o ho
   rw [if_pos (by simp [Region.wanted,hg])]
   have hpr':∀ k d,k ∈ preds o→k≠m→dstOf ops k = some d→sl a d = sv k:=fun k d hk k1 hdk=>by
    have:=hpr k hk
    dsimp only at this
    rw [if_neg k1] at this
    exact this d hdk
   by_cases hi1:i = m
   ·subst hi1
    refine Oper.wp_mono (fun a' w' hq=>?_) (st o ho a w hE hsz hpr' hin o1 h1 e1)
    obtain ⟨rfl,rfl⟩:=hq
    exact ⟨undef,rfl,by dsimp only;rw [if_pos rfl],by dsimp only;rw [if_pos rfl];exact hrs h1⟩
   ·refine Oper.wp_mono (fun a' w' hq=>?_) (each i o hi1 ho a w hE hsz hpr' hin)
    obtain ⟨rfl,rfl⟩:=hq
    refine ⟨sv i,rfl,by dsimp only;rw [if_neg hi1],?_⟩
    dsimp only
    rw [if_neg hi1]
    intro d hdd
    obtain ⟨d',hd',hdn⟩:=hd hi1
    have:d' = d:=by
     have:o.dst = some d:=by simpa [dstOf,ho] using hdd
     rw [hd'] at this;exact Option.some.inj this
    subst this
    rw [hd']
    exact put_same _ _ _ (by rw [hsz,hn];exact hdn)
  exact each_all key ops.toList 0 fun j o hj=>by simpa using hj
 ·intro a w hE hs2 hd hI ht
  obtain ⟨hE,_⟩:=hE
  have i1:=hI m hs
  rw [if_pos rfl] at i1
  refine fin a w hE i1 hs2 hd (fun j d hj j1 hdj=>?_) ht
  have:=hI j hj
  rw [if_neg j1] at this
  exact this d hdj
end Go.By
namespace Go.By
open Go.RowKit
def fourN (xs:List UInt8) (j:Nat):Nat:=(xs.drop (4 - j)).foldr (fun b a=>256 * a + b.toNat) 0
theorem fourN_succ {xs:List UInt8} (hl:xs.length = 4) {j:Nat} (hj:j < 4) {x:UInt8} (hx:xs[3 - j]? = some x):fourN xs (j + 1) = 256 * fourN xs j + x.toNat:=by
 obtain ⟨h1,h2⟩:=List.getElem?_eq_some_iff.1 hx
 unfold fourN
 rw [show 4 - (j + 1) = 3 - j by omega,List.drop_eq_getElem_cons h1,h2,show 3 - j + 1 = 4 - j by omega]
 rfl
theorem fourN_get4 {xs:List UInt8} (hl:xs.length = 4):fourN xs 4 = get4 xs:=by
 match xs,hl with
 | [a,b,c,d],_ =>
  show 256 * (256 * (256 * (256 * 0 + d.toNat) + c.toNat) + b.toNat) + a.toNat = a.toNat + 256 * b.toNat + 65536 * c.toNat + 16777216 * d.toNat
  omega
theorem fourN_lt {xs:List UInt8} (hl:xs.length = 4):∀ j,j≤4→fourN xs j < 256 ^ j
 | 0,_=>by
  unfold fourN
  rw [List.drop_eq_nil_of_le (by omega)]
  decide
 | j + 1,hj=>by
  have h1:3 - j < xs.length:=by omega
  have:=fourN_succ hl (j:=j) (by omega) (List.getElem?_eq_getElem h1)
  have ih:=fourN_lt hl j (by omega)
  have hx:=(xs[3 - j]).toNat_lt
  rw [this,Nat.pow_succ]
  omega
end Go.By
namespace Go.Proofs.YtccaiiigdfieoaaGreatDoor
open Go.RowKit Go.By
set_option maxHeartbeats 1000000 in
theorem RFour13_any (p:Option Addr) (n c:Nat) (xs:List UInt8) (w:World) (h:Sl B8 w p n c xs) (hl:xs.length = 4) :
  Calls Tryz.prog 201 #[.slice p n c] w fun e w'=>e = .returned (.int .u32 (get4 xs:Nat))∧w = w':=by
 have hn:n = 4:=by rw [← h.len];exact hl
 subst hn
 have H:=Lib.hid h;have HL:=Lib.hid hl;clear h hl
 go_enter Tryz.func201,Tryz.ntmps201
 go_wp2
 go_loop [3,4] (fun nv iv=>∃ r v:Nat,r≤4∧iv = .int .i64 ((r:Int) - 1)∧nv = .int .u32 (v:Nat)∧Hid (v = fourN xs (4 - r))) (fun _ i=>(intOf i + 1).toNat)
 case atStart=>exact ⟨4,0,by omega,rfl,rfl,by show 0 = fourN xs 0;unfold fourN;rw [List.drop_eq_nil_of_le (by rw [HL.out];omega)];rfl⟩
 case round =>
  obtain ⟨r,v,hr,rfl,rfl,hv⟩:=hrel
  cases r with
  | zero =>
   have hv4:v = get4 xs:=by rw [hv.out,show 4 - 0 = 4 from rfl,fourN_get4 HL.out]
   subst hv4
   go_wp2
   go_ret
   exact ⟨rfl,rfl⟩
  | succ r =>
   rw [show (((r + 1:Nat):Int) - 1) = (r:Int) by omega]
   obtain ⟨b,o,x,rfl,hc,hx⟩:=H.out.at r (by omega)
   have hlt:=fourN_lt HL.out (4 - (r + 1)) (by omega)
   have hle:256 ^ (4 - (r + 1))≤16777216:=Nat.pow_le_pow_right (by decide) (show 4 - (r + 1)≤3 by omega)
   have hv3:v < 16777216:=by rw [hv.out];omega
   have hxb:=x.toNat_lt
   have HV:Hid (256 * v + x.toNat = fourN xs (4 - r)):=by
    show _ = _
    have:=fourN_succ HL.out (j:=4 - (r + 1)) (by omega) (x:=x) (by rw [show 3 - (4 - (r + 1)) = r by omega];exact hx.out)
    rw [hv.out,← this];congr 1;omega
   have A1:IntKind.u32.wrap (256 * (v:Int)) = ((256 * v:Nat):Int):=by rw [IntKind.wrap_u32];omega
   have A2:IntKind.u32.wrap (x.toNat:Int) = (x.toNat:Int):=by rw [IntKind.wrap_u32];omega
   have A3:IntKind.u32.wrap (((256 * v:Nat):Int) + (x.toNat:Int)) = ((256 * v + x.toNat:Nat):Int):=by rw [IntKind.wrap_u32];omega
   have hr4:r < 4:=by omega
   have hr4':(r:Int) < 4:=by omega
   generalize 256 * v + x.toNat = v2 at *
   generalize 256 * v = v1 at *
   clear hlt hle hv hx hxb hr hv3
   go_wp2_with (first | simp only [A1] | simp only [A2] | simp only [A3])
   go_round
   case rel=>exact ⟨r,v2,by omega,by simp,rfl,HV.out⟩
   case measure=>simp [intOf] <;> omega
set_option maxHeartbeats 1000000 in
theorem REight15_any (p:Option Addr) (n c:Nat) (xs:List UInt8) (w:World) (h:Sl B8 w p n c xs) (hl:8≤n) :
  Calls Tryz.prog 145 #[.slice p n c] w fun e w'=>e = .returned (.int .u64 (get8 (xs.take 8):Nat))∧w = w':=by
 have hb:=h.bound
 have H:=Lib.hid h;clear h
 go_enter Tryz.func145,Tryz.ntmps145
 go_wp2
 go_loop [3,4] (fun nv iv=>∃ i v:Nat,i≤8∧iv = .int .i64 (i:Nat)∧nv = .int .u64 (v:Nat)∧Hid (v = get8 (xs.take i))) (fun _ i=>8 - (intOf i).toNat)
 case atStart=>exact ⟨0,0,by omega,rfl,rfl,rfl⟩
 case round =>
  obtain ⟨i,v,hi,rfl,rfl,hv⟩:=hrel
  by_cases hlt:i < 8
  ·obtain ⟨b,o,x,rfl,hc,hx⟩:=H.out.at i (by omega)
   have hvl:v < 256 ^ i:=by rw [hv.out];exact get8_lt xs i
   have hpl:256 ^ i≤72057594037927936:=Nat.pow_le_pow_right (by decide) (show i≤7 by omega)
   have hv7:v < 72057594037927936:=by omega
   have hxb:=x.toNat_lt
   have HV:Hid (256 * v + x.toNat = get8 (xs.take (i + 1))):=by show _ = _;rw [get8_take hx.out,← hv.out];omega
   have A1:IntKind.u64.wrap (256 * (v:Int)) = ((256 * v:Nat):Int):=by rw [IntKind.wrap_u64];omega
   have A2:IntKind.u64.wrap (x.toNat:Int) = (x.toNat:Int):=by rw [IntKind.wrap_u64];omega
   have A3:IntKind.u64.wrap (((256 * v:Nat):Int) + (x.toNat:Int)) = ((256 * v + x.toNat:Nat):Int):=by rw [IntKind.wrap_u64];omega
   have hin:i < n:=by omega
   have hin':(i:Int) < (n:Int):=by omega
   have hlt':(i:Int) < 8:=by omega
   generalize 256 * v + x.toNat = v2 at *
   generalize 256 * v = v1 at *
   clear hvl hpl hv hx hxb hv7
   go_wp2_with (first | simp only [A1] | simp only [A2] | simp only [A3])
   go_round
   case rel=>exact ⟨i + 1,v2,by omega,by go_num,rfl,HV.out⟩
   case measure=>simp [intOf];omega
  ·obtain rfl:i = 8:=by omega
   have hv8:v = get8 (xs.take 8):=hv.out
   subst hv8
   clear hlt hi hv
   go_wp2
   go_ret
   exact ⟨rfl,rfl⟩
theorem RWidth14_any (m:UInt8) (k:Nat) (hm:modeC m = 0) (h1:1≤k) (h2:k≤4096) (w:World) :
  Calls Tryz.prog 144 #[B8 m,.int .i64 (k:Nat)] w fun e w'=>e = .returned (.tuple #[.int .i64 (widS m k:Nat),.int .i64 0])∧w = w':=by
 have h1':¬ (k:Int) < 1:=by omega
 have h2':¬ (4096:Int) < (k:Int):=by omega
 have hm2:m = 0∨m = 1:=by
  unfold modeC at hm
  by_cases h:m = 0∨m = 1
  ·exact h
  ·rw [if_neg h] at hm;cases hm
 clear h1 h2 hm
 rcases hm2 with rfl | rfl
 ·rw [show widS 0 k = k from if_pos rfl,show B8 0 = .int .u8 0 from rfl]
  go_enter Tryz.func144,Tryz.ntmps144
  go_wp2
  go_ret2
  exact ⟨rfl,rfl⟩
 ·rw [show widS 1 k = 8 from rfl,show B8 1 = .int .u8 1 from rfl]
  go_enter Tryz.func144,Tryz.ntmps144
  go_wp2
  go_ret2
  exact ⟨rfl,rfl⟩
set_option maxHeartbeats 1000000 in
theorem RLength15_ok (L t k D:Nat) (m:UInt8) (w:World) (hP:POK L t k D) (hm:modeC m = 0) :
  Calls Tryz.prog 141 #[PVal L t k D,B8 m] w fun e w'=>e = .returned (.tuple #[.int .i64 (lenP m k t:Nat),.int .i64 0])∧Below w.heap.size w w':=by
 have HK:Hid (∀ w,Calls Tryz.prog 90 #[PVal L t k D] w fun e w'=>e = .returned (.int .i64 0)∧Below w.heap.size w w'):=fun w=>by
  have:=RCheck_any (L:Int) (t:Int) (k:Int) (D:Int) w hP.l
  rw [hP.chk] at this;exact this
 have HW:=Lib.hid (fun w=>RWidth14_any m k hm hP.k1 hP.k2 w)
 have hk2:=hP.k2
 have ht2:=hP.t2
 have hw:widS m k≤4096:=by unfold widS;split <;> (try split) <;> omega
 have e:(14:Int) + (widS m k:Int) + (t:Int) = (lenP m k t:Int):=by unfold lenP;omega
 obtain ⟨V,hV⟩:∃ V,V = widS m k:=⟨_,rfl⟩
 rw [← hV] at HW hw e
 have HE:=Lib.hid e
 clear hP hm hV e
 go_enter Tryz.func141,Tryz.ntmps141
 go_wp2_with fail
 refine Calls.mono (HK.out _) ?_
 rintro e w1 ⟨rfl,hb⟩
 obtain ⟨hb1,h1,hs⟩:=one_of hb
 have HB:=Lib.hid hb1
 obtain ⟨c0,c1,c2,c3⟩:=cells_four h1
 clear hb hb1 h1
 go_wp2_with fail
 refine Calls.mono (HW.out _) ?_
 rintro e w2 ⟨rfl,rfl⟩
 go_wp2
 rw [HE.out]
 go_ret2
 exact ⟨rfl,HB.out⟩
theorem info_head13:(Tryz.prog.info? 151).map (·.size) = some 3:=by kernel_rfl
def RHd13 (w:World) (b o n c:Nat) (m:UInt8) (O M:Nat) (e:Ending) (w':World):Prop :=
 e = .returned (.tuple #[HVal m O M,.slice (if c = 10 then some ⟨b,o,none⟩ else some ⟨b,o + 10,none⟩) (n - 10) (c - 10),.int .i64 0])∧Below w.heap.size w w'
def RHd13z (w:World) (code:Int) (e:Ending) (w':World):Prop:=e = .returned (.tuple #[HVal 0 0 0,.slice none 0 0,.int .i64 code])∧Below w.heap.size w w'
set_option maxRecDepth 100000 in
set_option maxHeartbeats 2000000 in
theorem RHead13_short (p:Option Addr) (n c:Nat) (w:World) (hn:n < 10) :
  Calls Tryz.prog 140 #[.slice p n c] w (RHd13z w 6):=by
 have HN:=Lib.hid hn
 go_enter Tryz.func140,Tryz.ntmps140
 go_wp2
 refine bodyPost_ret (res_ctt rfl _ _ _ 151 #[.int .u8 0,.int .u32 0,.int .u32 0] (0,0) _ (.slice none 0 0) (.int .i64 6) rfl ?_ rfl rfl Tryz.underlying151 rfl info_head13) rfl ?_
 ·exact hnew rfl
 ·exact ⟨rfl,al (Below.refl _ _) (Nat.le_refl _)⟩
set_option maxRecDepth 100000 in
set_option maxHeartbeats 2000000 in
theorem RHead13_version (b o n c:Nat) (w:World) (hn:10≤n) (x0:UInt8) (k0:w.cell? ⟨b,o,none⟩ = some (B8 x0)) (hx:x0≠1) (hm:n≤9223372036854775807) :
  Calls Tryz.prog 140 #[.slice (some ⟨b,o,none⟩) n c] w (RHd13z w 7):=by
 have e1:((x0.toNat:Int) != 1) = true:=bne_iff_ne.2 fun e=>hx (UInt8.toNat_inj.1 (by show x0.toNat = 1;omega))
 have HN:=Lib.hid hn
 have a0:∀ o',(w.alloc o').cell? ⟨b,o,none⟩ = some (B8 x0):=fun _=>calloc k0
 clear hx k0
 go_enter Tryz.func140,Tryz.ntmps140
 go_wp2
 refine bodyPost_ret (res_ctt rfl _ _ _ 151 #[.int .u8 0,.int .u32 0,.int .u32 0] (0,0) _ (.slice none 0 0) (.int .i64 7) rfl ?_ rfl rfl Tryz.underlying151 rfl info_head13) rfl ?_
 ·exact hnew rfl
 ·exact ⟨rfl,al (Below.refl _ _) (Nat.le_refl _)⟩
set_option maxRecDepth 100000 in
set_option maxHeartbeats 2000000 in
theorem RHead13_mode (b o n c:Nat) (w:World) (hn:10≤n) (x1:UInt8) (k0:w.cell? ⟨b,o,none⟩ = some (B8 1)) (k1:w.cell? ⟨b,o + 1,none⟩ = some (B8 x1)) (hx:modeC x1 = 8) (hm:n≤9223372036854775807) :
  Calls Tryz.prog 140 #[.slice (some ⟨b,o,none⟩) n c] w (RHd13z w 8):=by
 have e1:(1:Int) < (x1.toNat:Int):=by
  unfold modeC at hx
  by_cases h:x1 = 0∨x1 = 1
  ·rw [if_pos h] at hx;cases hx
  ·have h0:x1.toNat≠0:=fun e=>h (.inl (UInt8.toNat_inj.1 e))
   have h1:x1.toNat≠1:=fun e=>h (.inr (UInt8.toNat_inj.1 e))
   omega
 have HN:=Lib.hid hn
 have a0:∀ o',(w.alloc o').cell? ⟨b,o,none⟩ = some (B8 1):=fun _=>calloc k0
 have a1:∀ o',(w.alloc o').cell? ⟨b,o + 1,none⟩ = some (B8 x1):=fun _=>calloc k1
 clear hx k0 k1
 go_enter Tryz.func140,Tryz.ntmps140
 go_wp2
 refine bodyPost_ret (res_ctt rfl _ _ _ 151 #[.int .u8 0,.int .u32 0,.int .u32 0] (0,0) _ (.slice none 0 0) (.int .i64 8) rfl ?_ rfl rfl Tryz.underlying151 rfl info_head13) rfl ?_
 ·exact hnew rfl
 ·exact ⟨rfl,al (Below.refl _ _) (Nat.le_refl _)⟩
set_option maxRecDepth 100000 in
set_option maxHeartbeats 2000000 in
theorem RHead13_good (b o n c:Nat) (xs:List UInt8) (w:World) (h:Sl B8 w (some ⟨b,o,none⟩) n c xs) (hn:10≤n) (x1:UInt8) (k0:w.cell? ⟨b,o,none⟩ = some (B8 1)) (k1:w.cell? ⟨b,o + 1,none⟩ = some (B8 x1)) (hx:modeC x1 = 0) :
  Calls Tryz.prog 140 #[.slice (some ⟨b,o,none⟩) n c] w (RHd13 w b o n c x1 (get4 ((xs.drop 2).take 4)) (get4 ((xs.drop 6).take 4))):=by
 have hl:=h.len
 have HA:Hid (∀ W,Sl B8 W (some ⟨b,o + 2,none⟩) 4 (c - 2) ((xs.drop 2).take 4)→Calls Tryz.prog 201 #[.slice (some ⟨b,o + 2,none⟩) 4 (c - 2)] W fun e w'=>e = .returned (.int .u32 (get4 ((xs.drop 2).take 4):Nat))∧W = w'):=fun W h=>RFour13_any _ _ _ _ W h (by rw [List.length_take,List.length_drop];omega)
 have HC:Hid (∀ W,Sl B8 W (some ⟨b,o + 6,none⟩) 4 (c - 6) ((xs.drop 6).take 4)→Calls Tryz.prog 201 #[.slice (some ⟨b,o + 6,none⟩) 4 (c - 6)] W fun e w'=>e = .returned (.int .u32 (get4 ((xs.drop 6).take 4):Nat))∧W = w'):=fun W h=>RFour13_any _ _ _ _ W h (by rw [List.length_take,List.length_drop];omega)
 have H2:=Lib.hid (Sl.part (k:=2) (m:=4) h (by omega))
 have H6:=Lib.hid (Sl.part (k:=6) (m:=4) h (by omega))
 generalize get4 ((xs.drop 2).take 4) = A at *
 generalize get4 ((xs.drop 6).take 4) = B at *
 generalize (xs.drop 2).take 4 = ya at *
 generalize (xs.drop 6).take 4 = yb at *
 have e1:¬ (1:Int) < (x1.toNat:Int):=by
  unfold modeC at hx
  by_cases h:x1 = 0∨x1 = 1
  ·rcases h with rfl | rfl <;> decide
  ·rw [if_neg h] at hx;cases hx
 have hm:=h.bound
 have hle:=h.le
 have hmx:=h.max
 unfold maxLen at hmx
 have a0:∀ o',(w.alloc o').cell? ⟨b,o,none⟩ = some (B8 1):=fun _=>calloc k0
 have a1:∀ o',(w.alloc o').cell? ⟨b,o + 1,none⟩ = some (B8 x1):=fun _=>calloc k1
 have ba:Below w.heap.size w (w.alloc (.cells #[.int .u8 0,.int .u32 0,.int .u32 0] 151)):=al (Below.refl _ _) (Nat.le_refl _)
 have K1:=Lib.hid k1
 have HBA:=Lib.hid ba
 clear h k0 k1 hx ba hl
 have hn1:(1:Int) < (n:Int):=by omega
 have g1:(6:Int)≤(c:Int):=by omega
 have g2:¬ (c = 2):=by omega
 have g3:(10:Int)≤(c:Int):=by omega
 have g4:¬ (c = 6):=by omega
 have g5:(10:Int)≤(n:Int):=by omega
 go_enter Tryz.func140,Tryz.ntmps140
 go_wp2
 have HH:Hid ((w.alloc (.cells #[.int .u8 0,.int .u32 0,.int .u32 0] 151)).heap[w.heap.size]? = some (.cells #[.int .u8 0,.int .u32 0,.int .u32 0] 151 (0,0))):=hnew rfl
 obtain ⟨g,hg⟩:∃ g,g = w.heap.size:=⟨_,rfl⟩
 rw [← hg] at HH ⊢
 generalize w.alloc (.cells #[.int .u8 0,.int .u32 0,.int .u32 0] 151) = w1 at *
 have HGE:Hid (w.heap.size≤g):=by show _≤_;omega
 clear a0 a1 hg
 refine wp_region_row (fun ix=>([.slice (some ⟨b,o,none⟩) n c,.pointer (some ⟨b,o + 1,none⟩),B8 x1,.slice (some ⟨b,o,none⟩) n c,.slice (some ⟨b,o + 2,none⟩) 4 (c - 2),.int .u32 (A:Nat),.slice (some ⟨b,o,none⟩) n c,.slice (some ⟨b,o + 6,none⟩) 4 (c - 6),.int .u32 (B:Nat),.agg #[B8 x1,.int .u32 (A:Nat),.int .u32 (B:Nat)],.slice (some ⟨b,o,none⟩) n c,.slice (if c = 10 then some ⟨b,o,none⟩ else some ⟨b,o + 10,none⟩) (n - 10) (c - 10),undef,.slice (if c = 10 then some ⟨b,o,none⟩ else some ⟨b,o + 10,none⟩) (n - 10) (c - 10),.int .i64 0][ix]?).getD undef) 31 12 g 151 #[B8 x1,.int .u32 (A:Nat),.int .u32 (B:Nat)] rfl (by kernel_rfl) (by decide +kernel) (by decide +kernel) (by decide +kernel) ⟨_,HH.out,rfl⟩ ?_ ?_ (by decide) ?_
 ·intro i oo h1 ho a W hE hs hp hi
  have hBW:Below w.heap.size w W:=HBA.out.trans (hE.below HGE.out HGE.out);have kk1:=(hBW.cell (p:=⟨b,o + 1,none⟩) (lt_of_cell K1.out)).trans K1.out
  match i,h1,ho with
  | 0,_,ho =>
   simp at ho;subst ho
   have t0:sl a 0 = .slice (some ⟨b,o,none⟩) n c:=hi 0 (by decide)
   refine wp_val (.slice (some ⟨b,o,none⟩) n c) ?_ ⟨rfl,rfl⟩
   simp only [execOp,eval_tmp,t0];rfl
  | 1,_,ho =>
   simp at ho;subst ho
   have t19:sl a 19 = .slice (some ⟨b,o,none⟩) n c:=hp 0 19 (by decide) (by decide) rfl
   have v19:a.tmps[19]?.getD undef = sl a 19:=by simp [sl]
   rw [t19] at v19
   refine wp_val (.pointer (some ⟨b,o + 1,none⟩)) ?_ ⟨rfl,rfl⟩
   simp only [execOp,eval_tmp,eval_const,t19];simp [go_sem,v19,hn1]
  | 2,_,ho =>
   simp at ho;subst ho
   have t20:sl a 20 = .pointer (some ⟨b,o + 1,none⟩):=hp 1 20 (by decide) (by decide) rfl
   have v20:a.tmps[20]?.getD undef = sl a 20:=by simp [sl]
   rw [t20] at v20
   refine wp_val (B8 x1) ?_ ⟨rfl,rfl⟩
   simp only [execOp,eval_tmp,eval_const,t20];simp [go_sem,v20,kk1]
  | 3,_,ho =>
   simp at ho;subst ho
   have t0:sl a 0 = .slice (some ⟨b,o,none⟩) n c:=hi 0 (by decide)
   refine wp_val (.slice (some ⟨b,o,none⟩) n c) ?_ ⟨rfl,rfl⟩
   simp only [execOp,eval_tmp,t0];rfl
  | 4,_,ho =>
   simp at ho;subst ho
   have t22:sl a 22 = .slice (some ⟨b,o,none⟩) n c:=hp 3 22 (by decide) (by decide) rfl
   have v22:a.tmps[22]?.getD undef = sl a 22:=by simp [sl]
   rw [t22] at v22
   refine wp_val (.slice (some ⟨b,o + 2,none⟩) 4 (c - 2)) ?_ ⟨rfl,rfl⟩
   simp only [execOp,eval_tmp,eval_const,t22];simp [go_sem,v22,g1,g2]
  | 5,_,ho =>
   simp at ho;subst ho
   have t23:sl a 23 = .slice (some ⟨b,o + 2,none⟩) 4 (c - 2):=hp 4 23 (by decide) (by decide) rfl
   refine wp_enter 201 #[.slice (some ⟨b,o + 2,none⟩) 4 (c - 2)] ?_ (HA.out W (H2.out.keep hBW)) ?_
   ·simp only [execOp,resolve,List.map_toArray,List.map,eval_tmp,eval_func,eval_const,t23];simp [go_sem]
   ·rintro e W' ⟨rfl,rfl⟩;exact ⟨_,rfl,rfl,rfl⟩
  | 6,_,ho =>
   simp at ho;subst ho
   have t0:sl a 0 = .slice (some ⟨b,o,none⟩) n c:=hi 0 (by decide)
   refine wp_val (.slice (some ⟨b,o,none⟩) n c) ?_ ⟨rfl,rfl⟩
   simp only [execOp,eval_tmp,t0];rfl
  | 7,_,ho =>
   simp at ho;subst ho
   have t25:sl a 25 = .slice (some ⟨b,o,none⟩) n c:=hp 6 25 (by decide) (by decide) rfl
   have v25:a.tmps[25]?.getD undef = sl a 25:=by simp [sl]
   rw [t25] at v25
   refine wp_val (.slice (some ⟨b,o + 6,none⟩) 4 (c - 6)) ?_ ⟨rfl,rfl⟩
   simp only [execOp,eval_tmp,eval_const,t25];simp [go_sem,v25,g3,g4]
  | 8,_,ho =>
   simp at ho;subst ho
   have t26:sl a 26 = .slice (some ⟨b,o + 6,none⟩) 4 (c - 6):=hp 7 26 (by decide) (by decide) rfl
   refine wp_enter 201 #[.slice (some ⟨b,o + 6,none⟩) 4 (c - 6)] ?_ (HC.out W (H6.out.keep hBW)) ?_
   ·simp only [execOp,resolve,List.map_toArray,List.map,eval_tmp,eval_func,eval_const,t26];simp [go_sem]
   ·rintro e W' ⟨rfl,rfl⟩;exact ⟨_,rfl,rfl,rfl⟩
  | 9,_,ho =>
   simp at ho;subst ho
   have t21:sl a 21 = B8 x1:=hp 2 21 (by decide) (by decide) rfl
   have t24:sl a 24 = .int .u32 (A:Nat):=hp 5 24 (by decide) (by decide) rfl
   have t27:sl a 27 = .int .u32 (B:Nat):=hp 8 27 (by decide) (by decide) rfl
   have v21:a.tmps[21]?.getD undef = sl a 21:=by simp [sl]
   rw [t21] at v21
   have v24:a.tmps[24]?.getD undef = sl a 24:=by simp [sl]
   rw [t24] at v24
   have v27:a.tmps[27]?.getD undef = sl a 27:=by simp [sl]
   rw [t27] at v27
   refine wp_val (.agg #[B8 x1,.int .u32 (A:Nat),.int .u32 (B:Nat)]) ?_ ⟨rfl,rfl⟩
   simp only [execOp,eval_tmp,eval_const,t21,t24,t27];simp [go_sem,v21,v24,v27,Tryz.underlying151]
  | 10,_,ho =>
   simp at ho;subst ho
   have t0:sl a 0 = .slice (some ⟨b,o,none⟩) n c:=hi 0 (by decide)
   refine wp_val (.slice (some ⟨b,o,none⟩) n c) ?_ ⟨rfl,rfl⟩
   simp only [execOp,eval_tmp,t0];rfl
  | 11,_,ho =>
   simp at ho;subst ho
   have t29:sl a 29 = .slice (some ⟨b,o,none⟩) n c:=hp 10 29 (by decide) (by decide) rfl
   have v29:a.tmps[29]?.getD undef = sl a 29:=by simp [sl]
   rw [t29] at v29
   refine wp_val (.slice (if c = 10 then some ⟨b,o,none⟩ else some ⟨b,o + 10,none⟩) (n - 10) (c - 10)) ?_ ⟨rfl,rfl⟩
   simp only [execOp,eval_tmp,eval_const,t29];simp [go_sem,v29,g3,g5]
  | 12,h,_=>exact absurd rfl h
  | 13,_,ho =>
   simp at ho;subst ho
   have t30:sl a 30 = .slice (if c = 10 then some ⟨b,o,none⟩ else some ⟨b,o + 10,none⟩) (n - 10) (c - 10):=hp 11 30 (by decide) (by decide) rfl
   refine wp_val (.slice (if c = 10 then some ⟨b,o,none⟩ else some ⟨b,o + 10,none⟩) (n - 10) (c - 10)) ?_ ⟨rfl,rfl⟩
   simp only [execOp,eval_tmp,t30];rfl
  | 14,_,ho =>
   simp at ho;subst ho
   exact wp_val (.int .i64 0) rfl ⟨rfl,rfl⟩
  | j + 15,_,ho=>simp at ho
 ·intro oo ho a W hE hs hp hi old hold hsz
  simp at ho;subst ho
  have t2:sl a 2 = .pointer (some ⟨g,0,none⟩):=hi 2 (by decide)
  have t28:sl a 28 = .agg #[B8 x1,.int .u32 (A:Nat),.int .u32 (B:Nat)]:=hp 9 28 (by decide) (by decide) rfl
  refine wp_store_row 151 (.tmp 2) (.tmp 28) rfl g #[B8 x1,.int .u32 (A:Nat),.int .u32 (B:Nat)] (by rw [eval_tmp];exact t2) (by rw [eval_tmp];exact t28) _ _ hold info_head13 hsz (by simp [Value.oneCell']) ?_
  exact ⟨rfl,rfl⟩
 intro a w9 hE hG hs hd hI ht
 have ha:=act_is [19,20,21,22,23,24,25,26,27,28,29,30,3,4] hs hd ht (by decide)
 have t3:sl a 3 = .slice (if c = 10 then some ⟨b,o,none⟩ else some ⟨b,o + 10,none⟩) (n - 10) (c - 10):=hI 13 3 (by decide) (by decide) rfl
 have t4:sl a 4 = .int .i64 0:=hI 14 4 (by decide) (by decide) rfl
 simp only [List.foldl,t3,t4] at ha
 generalize sl a 19 = u19 at ha
 generalize sl a 20 = u20 at ha
 generalize sl a 21 = u21 at ha
 generalize sl a 22 = u22 at ha
 generalize sl a 23 = u23 at ha
 generalize sl a 24 = u24 at ha
 generalize sl a 25 = u25 at ha
 generalize sl a 26 = u26 at ha
 generalize sl a 27 = u27 at ha
 generalize sl a 28 = u28 at ha
 generalize sl a 29 = u29 at ha
 generalize sl a 30 = u30 at ha
 simp only [Act.put,List.setIfInBounds_toArray,List.set_cons_zero,List.set_cons_succ] at ha
 rw [ha]
 clear ha hI ht hs hd t3 t4
 have HB6:=Lib.hid (HBA.out.trans (hE.below HGE.out HGE.out))
 clear HH HBA hE
 generalize hqr:(if c = 10 then (some ⟨b,o,none⟩:Option Addr) else some ⟨b,o + 10,none⟩) = qr
 have HQR:=Lib.hid hqr
 clear hqr
 go_wp2
 refine bodyPost_ret (res_ctt rfl _ _ _ 151 #[B8 x1,.int .u32 (A:Nat),.int .u32 (B:Nat)] (0,0) _ (.slice qr (n - 10) (c - 10)) (.int .i64 0) rfl hG rfl rfl Tryz.underlying151 rfl info_head13) rfl ?_
 exact ⟨by rw [← HQR.out],HB6.out⟩
theorem RHead13_any (p:Option Addr) (n c:Nat) (xs:List UInt8) (w:World) (h:Sl B8 w p n c xs) :
  Calls Tryz.prog 140 #[.slice p n c] w fun e w'=>(headC xs = 0∧∃ b o,p = some ⟨b,o,none⟩∧10≤n∧RHd13 w b o n c (xs.getD 1 0) (get4 ((xs.drop 2).take 4)) (get4 ((xs.drop 6).take 4)) e w')∨(headC xs≠0∧RHd13z w (headC xs) e w'):=by
 have hl:=h.len
 unfold headC
 by_cases h10:n < 10
 ·rw [if_pos (by omega:xs.length < 10)]
  exact Calls.mono (RHead13_short p n c w h10) fun e w' h=>.inr ⟨by decide,h⟩
 ·rw [if_neg (by omega:¬ xs.length < 10)]
  obtain ⟨b,o,x0,rfl,k0,y0⟩:=h.at 0 (by omega)
  obtain ⟨_,_,x1,e1,k1,y1⟩:=h.at 1 (by omega)
  cases e1
  rw [Nat.add_zero] at k0
  rw [at_get y0.out,at_get y1.out]
  by_cases h0:x0 = 1
  ·have e:(if x0≠1 then 7 else modeC x1) = modeC x1:=if_neg (by simp [h0])
   rw [e]
   subst h0
   rcases modeC_range x1 with h1 | h1
   ·rw [h1]
    exact Calls.mono (RHead13_good b o n c xs w h (by omega) x1 k0 k1 h1) fun e w' h=>.inl ⟨rfl,b,o,rfl,by omega,h⟩
   ·rw [h1]
    exact Calls.mono (RHead13_mode b o n c w (by omega) x1 k0 k1 h1 h.bound) fun e w' h=>.inr ⟨by decide,h⟩
  ·have e:(if x0≠1 then 7 else modeC x1) = 7:=if_pos h0
   rw [e]
   exact Calls.mono (RHead13_version b o n c w (by omega) x0 k0 h0 h.bound) fun e w' h=>.inr ⟨by decide,h⟩
end Go.Proofs.YtccaiiigdfieoaaGreatDoor
