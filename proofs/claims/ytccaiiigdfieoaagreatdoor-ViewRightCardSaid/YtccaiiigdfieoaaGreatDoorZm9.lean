/- Chapter 25: the texts of a view. Chapter 19: the law's awake. Arguments that came in,as bytes and slices of bytes. Slices of structs of two slices of bytes,that came in. Sources that came in: a slice of structs of a byte,bytes and a number,opened. What the laws of the packets ask first: few bytes,small plans. Chapter 19: TakerHas,of an object that the plan fits. The contracts of slices.Delete and slices.Insert at parcels. The contract of slices.Insert at parcels: one more,where there is room. Lists of parcels that the call owns: each owns its bytes,no two share them. The contracts of the acts: drop,move,forge. The contract of the act move. The contract of the act double. The contract of the act cut. One cell of a parcel is written: its bytes,or where it came from. The contract of the act mask. What acts do to lists of packets; acts that came in,read from memory. Acts that came in: a slice of structs of five cells,and one by value,opened. The contract of play. The contracts of Apply and Whole. The contracts of Whole,of slices.Equal at ints,of Harms; of the law's Few; the chapter's example. The contract of the law's Few of layer 20; the chapter's example. The plain law of WayWhole: what came whole is what was sent; acts that harm nothing leave all whole; acts one by one are as all at once. Chapter 22: what a trip comes to (plain); what a sender and a taker carry along while other blocks turn. Chapter 24,plain: what a taker's rows are as packets,and as a text. Chapter 24,the reference: Hex. Chapter 24: keep.Text. The document's mixing: shifted,Next,Bytes (chapter 5). A region that draws its order,in which one whole row is stored: all else is told values (calls that change nothing among them). The document's heads as read (chapter 13); widths,lengths (chapters 14,15). The document's packets as read (chapters 14,15). A row of headers that read in an older world; vectors of rows. Where equations first clash. The reference's Vectors. The reference's Wide. The reference's Judge. Chapter 19,plain: the equations that the document keeps,and a taker's rows; how they lie in memory. Chapter 19: the document's Take. Chapter 24: keep.Export. Chapter 24: no taker. Chapter 24,the law: awake. Chapter 19: TakerNone. Chapter 25: equal gaps; no taker; the law's awake. Chapter 25: views compared. Chapter 18: how often a gate was asked: Seen. A row of one's own of which every cell,the spare ones too,is told: appends leave other slices' cells alone. Chapter 19: what TakerTakes leans on: Seen of any gate; equal lists of bools; the object of one that is done. Chapter 25,plain: what ViewRight says: as many are known as rows at most; between gaps lie the object's bytes. Chapter 25: what ViewRight's walk leans on: a part of a slice; a taker that is carried along,viewed. Chapter 19: TakerTakes,of a plan that may be. Chapter 25: ViewRight,of an object that the plan fits. -/
import Derived.Test.YtccaiiigdfieoaaGreatDoorZm8
import Derived.OpenShut
import Derived.Lib.SmallJoins
import Derived.Deep.DeepCutAuto
import Derived.Deep.RegionLaw
import Derived.Lib.Overlaps
import Derived.Shelf.Spec.SlicesInsert
import Derived.Lib.AppendZeros
import Derived.Deep.AppendLies
import Derived.Deep.RegionWith
import Derived.BigQuiet
import Derived.Deep.QuietTactic
import Derived.Laws.StructEq
import Derived.ChangeKeysEq
namespace Go.By
open Go.RowKit Go.Proofs.YtccaiiigdfieoaaGreatDoor
def wordV (st:Nat):List UInt8:=if st = 1 then [100,111,110,101] else if st = 2 then [105,110,99,111,110,115,105,115,116,101,110,116] else [112,101,110,100,105,110,103]
def viewT (st r k n m:Nat):List UInt8:=wordV st ++ [32] ++ Lib.decDigits r ++ [47] ++ Lib.decDigits k ++ [32] ++ Lib.decDigits n ++ [32] ++ Lib.decDigits m
end Go.By
namespace Go.Proofs.YtccaiiigdfieoaaGreatDoor
open Go.RowKit Go.By Go.Maps
set_option maxRecDepth 1000000 in
set_option maxHeartbeats 4000000 in
theorem VText_any (L t k D st r n m:Nat) (w:World) (hT:Tab10 w) (hs:st = 0∨st = 1∨st = 2) (hr:r≤1000000) (hk:k≤1000000) (hn:n≤1000000) (hm:m≤1000000) :
  Calls Tryz.prog 39 #[VwV L t k D st r n m] w fun e w'=>e = .returned (.string (strB (viewT st r k n m)))∧Below w.heap.size w w':=by
 have HT:=Lib.hid hT
 unfold VwV
 clear hT
 have hr:r≤9223372036854775807:=by omega
 have hk:k≤9223372036854775807:=by omega
 have hn:n≤9223372036854775807:=by omega
 have hm:m≤9223372036854775807:=by omega
 have zr:=dd_len (u:=r) (by omega)
 have zk:=dd_len (u:=k) (by omega)
 have zn:=dd_len (u:=n) (by omega)
 have zm:=dd_len (u:=m) (by omega)
 have e1:(⟨#[47]⟩:ByteArray) = strB [47]:=rfl
 have e2:(⟨#[32]⟩:ByteArray) = strB [32]:=rfl
 rcases hs with rfl | rfl | rfl
 ·obtain ⟨WD,hWD⟩:∃ WD,WD = wordV 0:=⟨_,rfl⟩
  have e3:(⟨#[112,101,110,100,105,110,103]⟩:ByteArray) = strB WD:=by rw [hWD];rfl
  have zw:WD.length≤12:=by rw [hWD];decide
  have HWD:=Lib.hid hWD
  clear hWD
  go_enter Tryz.func39,Tryz.ntmps39
  go_upto_region 5 with (fail)
  have hv0:VwB (w.alloc (.cells #[.int .i64 (L:Nat),.int .i64 (t:Nat),.int .i64 (k:Nat),.int .u32 (D:Nat),.int .i64 0,.int .i64 (r:Nat),.int .i64 (n:Nat),.int .i64 (m:Nat)] 63 (0,0))) w.heap.size L t k D 0 r n m:=hnew rfl
  have ba:Below (w.alloc (.cells #[.int .i64 (L:Nat),.int .i64 (t:Nat),.int .i64 (k:Nat),.int .u32 (D:Nat),.int .i64 0,.int .i64 (r:Nat),.int .i64 (n:Nat),.int .i64 (m:Nat)] 63 (0,0))).heap.size (w.alloc (.cells #[.int .i64 (L:Nat),.int .i64 (t:Nat),.int .i64 (k:Nat),.int .u32 (D:Nat),.int .i64 0,.int .i64 (r:Nat),.int .i64 (n:Nat),.int .i64 (m:Nat)] 63 (0,0))) ((w.alloc (.cells #[.int .i64 (L:Nat),.int .i64 (t:Nat),.int .i64 (k:Nat),.int .u32 (D:Nat),.int .i64 0,.int .i64 (r:Nat),.int .i64 (n:Nat),.int .i64 (m:Nat)] 63 (0,0))).alloc (.cells #[.string (strB WD),.string ⟨#[100,111,110,101]⟩,.string ⟨#[105,110,99,111,110,115,105,115,116,101,110,116]⟩] 169 (0,0))):=al (Below.refl _ _) (Nat.le_refl _)
  have hv1:VwB ((w.alloc (.cells #[.int .i64 (L:Nat),.int .i64 (t:Nat),.int .i64 (k:Nat),.int .u32 (D:Nat),.int .i64 0,.int .i64 (r:Nat),.int .i64 (n:Nat),.int .i64 (m:Nat)] 63 (0,0))).alloc (.cells #[.string (strB WD),.string ⟨#[100,111,110,101]⟩,.string ⟨#[105,110,99,111,110,115,105,115,116,101,110,116]⟩] 169 (0,0))) w.heap.size L t k D 0 r n m:=(ba.block _ (lt_of_block hv0)).trans hv0
  have HB:Hid (Below w.heap.size w ((w.alloc (.cells #[.int .i64 (L:Nat),.int .i64 (t:Nat),.int .i64 (k:Nat),.int .u32 (D:Nat),.int .i64 0,.int .i64 (r:Nat),.int .i64 (n:Nat),.int .i64 (m:Nat)] 63 (0,0))).alloc (.cells #[.string (strB WD),.string ⟨#[100,111,110,101]⟩,.string ⟨#[105,110,99,111,110,115,105,115,116,101,110,116]⟩] 169 (0,0)))):=al (al (Below.refl _ _) (Nat.le_refl _)) (by simp)
  clear hv0 ba
  generalize (w.alloc (.cells #[.int .i64 (L:Nat),.int .i64 (t:Nat),.int .i64 (k:Nat),.int .u32 (D:Nat),.int .i64 0,.int .i64 (r:Nat),.int .i64 (n:Nat),.int .i64 (m:Nat)] 63 (0,0))).alloc (.cells #[.string (strB WD),.string ⟨#[100,111,110,101]⟩,.string ⟨#[105,110,99,111,110,115,105,115,116,101,110,116]⟩] 169 (0,0)) = w1 at *
  have HT1:=Lib.hid (HT.out.keep HB.out)
  obtain ⟨c0,c1,c2,c3,c4,c5,c6,c7⟩:=cells_eight hv1
  clear hv1 c4
  refine wp_region_shapes (fun ix=>([.val (.string (strB WD)),.val (.string ((strB WD) ++ ⟨#[32]⟩)),.val (.pointer (some ⟨w.heap.size,5,none⟩)),.val (.int .i64 (r:Nat)),.val (.string (strB (Lib.decDigits r))),.val (.string (((strB WD) ++ ⟨#[32]⟩) ++ (strB (Lib.decDigits r)))),.val (.string ((((strB WD) ++ ⟨#[32]⟩) ++ (strB (Lib.decDigits r))) ++ ⟨#[47]⟩)),.val (.pointer (some ⟨w.heap.size,0,none⟩)),.val (.pointer (some ⟨w.heap.size,2,none⟩)),.val (.int .i64 (k:Nat)),.val (.string (strB (Lib.decDigits k))),.val (.string (((((strB WD) ++ ⟨#[32]⟩) ++ (strB (Lib.decDigits r))) ++ ⟨#[47]⟩) ++ (strB (Lib.decDigits k)))),.val (.string ((((((strB WD) ++ ⟨#[32]⟩) ++ (strB (Lib.decDigits r))) ++ ⟨#[47]⟩) ++ (strB (Lib.decDigits k))) ++ ⟨#[32]⟩)),.val (.pointer (some ⟨w.heap.size,6,none⟩)),.val (.int .i64 (n:Nat)),.val (.string (strB (Lib.decDigits n))),.val (.string (((((((strB WD) ++ ⟨#[32]⟩) ++ (strB (Lib.decDigits r))) ++ ⟨#[47]⟩) ++ (strB (Lib.decDigits k))) ++ ⟨#[32]⟩) ++ (strB (Lib.decDigits n)))),.val (.string ((((((((strB WD) ++ ⟨#[32]⟩) ++ (strB (Lib.decDigits r))) ++ ⟨#[47]⟩) ++ (strB (Lib.decDigits k))) ++ ⟨#[32]⟩) ++ (strB (Lib.decDigits n))) ++ ⟨#[32]⟩)),.val (.pointer (some ⟨w.heap.size,7,none⟩)),.val (.int .i64 (m:Nat)),.val (.string (strB (Lib.decDigits m))),.val (.string (((((((((strB WD) ++ ⟨#[32]⟩) ++ (strB (Lib.decDigits r))) ++ ⟨#[47]⟩) ++ (strB (Lib.decDigits k))) ++ ⟨#[32]⟩) ++ (strB (Lib.decDigits n))) ++ ⟨#[32]⟩) ++ (strB (Lib.decDigits m)))),.val (.string (((((((((strB WD) ++ ⟨#[32]⟩) ++ (strB (Lib.decDigits r))) ++ ⟨#[47]⟩) ++ (strB (Lib.decDigits k))) ++ ⟨#[32]⟩) ++ (strB (Lib.decDigits n))) ++ ⟨#[32]⟩) ++ (strB (Lib.decDigits m))))][ix]?).getD (.any)) 42 rfl (by kernel_rfl) (by decide +kernel) (by decide +kernel) (by decide +kernel) ?_ ?_
  ·refine ⟨?_,?_,?_,?_,?_,?_,?_,?_,?_,?_,?_,?_,?_,?_,?_,?_,?_,?_,?_,?_,?_,?_,?_,trivial⟩
   ·intro a W hb0 hs hp hi;have hb:=undrew hb0;clear hb0
    have t4:sl a 4 = .string (strB WD):=hi 4 (by decide)
    exact ite_y rfl (wp_val (sl a 4) rfl ⟨_,rfl,Below.refl _ _,t4⟩)
   ·intro a W hb0 hs hp hi;have hb:=undrew hb0;clear hb0
    have ti0:sl a 20 = .string (strB WD):=hp 0 (by decide)
    refine ite_y rfl (wp_val (.string ((strB WD) ++ ⟨#[32]⟩)) ?_ ?_)
    ·simp only [execOp,eval_tmp,eval_const,ti0];simp [go_sem,strB_size] <;> omega
    ·exact ⟨_,rfl,Below.refl _ _,rfl⟩
   ·intro a W hb0 hs hp hi;have hb:=undrew hb0;clear hb0
    have t1:sl a 1 = .pointer (some ⟨w.heap.size,0,none⟩):=hi 1 (by decide)
    refine ite_y rfl (wp_val (.pointer (some ⟨w.heap.size,5,none⟩)) ?_ ?_)
    ·simp only [execOp,eval_tmp,eval_const,t1];simp [go_sem]
    ·exact ⟨_,rfl,Below.refl _ _,rfl⟩
   ·intro a W hb0 hs hp hi;have hb:=undrew hb0;clear hb0
    have tt:sl a 22 = .pointer (some ⟨w.heap.size,5,none⟩):=hp 2 (by decide)
    have dd:=(hb.cell (p:=⟨w.heap.size,5,none⟩) (lt_of_cell c5)).trans c5
    refine ite_y rfl (wp_val (.int .i64 (r:Nat)) ?_ ?_)
    ·simp only [execOp,eval_tmp,tt];simp [go_sem,dd]
    ·exact ⟨_,rfl,Below.refl _ _,rfl⟩
   ·intro a W hb0 hs hp hi;have hb:=undrew hb0;clear hb0
    have t23:sl a 23 = .int .i64 (r:Nat):=hp 3 (by decide)
    refine ite_y rfl (wp_enter 91 #[.int .i64 (r:Nat)] ?_ (Itoa_any r hr W (HT1.out.keep hb)) ?_)
    ·simp only [execOp,resolve,List.map_toArray,List.map,eval_tmp,eval_func,eval_const,t23];simp [go_sem]
    ·rintro e W' ⟨rfl,hw⟩;exact ⟨_,rfl,_,rfl,hw,rfl⟩
   ·intro a W hb0 hs hp hi;have hb:=undrew hb0;clear hb0
    have ti0:sl a 21 = .string ((strB WD) ++ ⟨#[32]⟩):=hp 1 (by decide)
    have ti1:sl a 24 = .string (strB (Lib.decDigits r)):=hp 4 (by decide)
    refine ite_y rfl (wp_val (.string (((strB WD) ++ ⟨#[32]⟩) ++ (strB (Lib.decDigits r)))) ?_ ?_)
    ·simp only [execOp,eval_tmp,eval_const,ti0,ti1];simp [go_sem,strB_size] <;> omega
    ·exact ⟨_,rfl,Below.refl _ _,rfl⟩
   ·intro a W hb0 hs hp hi;have hb:=undrew hb0;clear hb0
    have ti0:sl a 25 = .string (((strB WD) ++ ⟨#[32]⟩) ++ (strB (Lib.decDigits r))):=hp 5 (by decide)
    refine ite_y rfl (wp_val (.string ((((strB WD) ++ ⟨#[32]⟩) ++ (strB (Lib.decDigits r))) ++ ⟨#[47]⟩)) ?_ ?_)
    ·simp only [execOp,eval_tmp,eval_const,ti0];simp [go_sem,strB_size] <;> omega
    ·exact ⟨_,rfl,Below.refl _ _,rfl⟩
   ·intro a W hb0 hs hp hi;have hb:=undrew hb0;clear hb0
    have t1:sl a 1 = .pointer (some ⟨w.heap.size,0,none⟩):=hi 1 (by decide)
    refine ite_y rfl (wp_val (.pointer (some ⟨w.heap.size,0,none⟩)) ?_ ?_)
    ·simp only [execOp,eval_tmp,eval_const,t1];simp [go_sem]
    ·exact ⟨_,rfl,Below.refl _ _,rfl⟩
   ·intro a W hb0 hs hp hi;have hb:=undrew hb0;clear hb0
    have t27:sl a 27 = .pointer (some ⟨w.heap.size,0,none⟩):=hp 7 (by decide)
    refine ite_y rfl (wp_val (.pointer (some ⟨w.heap.size,2,none⟩)) ?_ ?_)
    ·simp only [execOp,eval_tmp,eval_const,t27];simp [go_sem]
    ·exact ⟨_,rfl,Below.refl _ _,rfl⟩
   ·intro a W hb0 hs hp hi;have hb:=undrew hb0;clear hb0
    have tt:sl a 28 = .pointer (some ⟨w.heap.size,2,none⟩):=hp 8 (by decide)
    have dd:=(hb.cell (p:=⟨w.heap.size,2,none⟩) (lt_of_cell c2)).trans c2
    refine ite_y rfl (wp_val (.int .i64 (k:Nat)) ?_ ?_)
    ·simp only [execOp,eval_tmp,tt];simp [go_sem,dd]
    ·exact ⟨_,rfl,Below.refl _ _,rfl⟩
   ·intro a W hb0 hs hp hi;have hb:=undrew hb0;clear hb0
    have t29:sl a 29 = .int .i64 (k:Nat):=hp 9 (by decide)
    refine ite_y rfl (wp_enter 91 #[.int .i64 (k:Nat)] ?_ (Itoa_any k hk W (HT1.out.keep hb)) ?_)
    ·simp only [execOp,resolve,List.map_toArray,List.map,eval_tmp,eval_func,eval_const,t29];simp [go_sem]
    ·rintro e W' ⟨rfl,hw⟩;exact ⟨_,rfl,_,rfl,hw,rfl⟩
   ·intro a W hb0 hs hp hi;have hb:=undrew hb0;clear hb0
    have ti0:sl a 26 = .string ((((strB WD) ++ ⟨#[32]⟩) ++ (strB (Lib.decDigits r))) ++ ⟨#[47]⟩):=hp 6 (by decide)
    have ti1:sl a 30 = .string (strB (Lib.decDigits k)):=hp 10 (by decide)
    refine ite_y rfl (wp_val (.string (((((strB WD) ++ ⟨#[32]⟩) ++ (strB (Lib.decDigits r))) ++ ⟨#[47]⟩) ++ (strB (Lib.decDigits k)))) ?_ ?_)
    ·simp only [execOp,eval_tmp,eval_const,ti0,ti1];simp [go_sem,strB_size] <;> omega
    ·exact ⟨_,rfl,Below.refl _ _,rfl⟩
   ·intro a W hb0 hs hp hi;have hb:=undrew hb0;clear hb0
    have ti0:sl a 31 = .string (((((strB WD) ++ ⟨#[32]⟩) ++ (strB (Lib.decDigits r))) ++ ⟨#[47]⟩) ++ (strB (Lib.decDigits k))):=hp 11 (by decide)
    refine ite_y rfl (wp_val (.string ((((((strB WD) ++ ⟨#[32]⟩) ++ (strB (Lib.decDigits r))) ++ ⟨#[47]⟩) ++ (strB (Lib.decDigits k))) ++ ⟨#[32]⟩)) ?_ ?_)
    ·simp only [execOp,eval_tmp,eval_const,ti0];simp [go_sem,strB_size] <;> omega
    ·exact ⟨_,rfl,Below.refl _ _,rfl⟩
   ·intro a W hb0 hs hp hi;have hb:=undrew hb0;clear hb0
    have t1:sl a 1 = .pointer (some ⟨w.heap.size,0,none⟩):=hi 1 (by decide)
    refine ite_y rfl (wp_val (.pointer (some ⟨w.heap.size,6,none⟩)) ?_ ?_)
    ·simp only [execOp,eval_tmp,eval_const,t1];simp [go_sem]
    ·exact ⟨_,rfl,Below.refl _ _,rfl⟩
   ·intro a W hb0 hs hp hi;have hb:=undrew hb0;clear hb0
    have tt:sl a 33 = .pointer (some ⟨w.heap.size,6,none⟩):=hp 13 (by decide)
    have dd:=(hb.cell (p:=⟨w.heap.size,6,none⟩) (lt_of_cell c6)).trans c6
    refine ite_y rfl (wp_val (.int .i64 (n:Nat)) ?_ ?_)
    ·simp only [execOp,eval_tmp,tt];simp [go_sem,dd]
    ·exact ⟨_,rfl,Below.refl _ _,rfl⟩
   ·intro a W hb0 hs hp hi;have hb:=undrew hb0;clear hb0
    have t34:sl a 34 = .int .i64 (n:Nat):=hp 14 (by decide)
    refine ite_y rfl (wp_enter 91 #[.int .i64 (n:Nat)] ?_ (Itoa_any n hn W (HT1.out.keep hb)) ?_)
    ·simp only [execOp,resolve,List.map_toArray,List.map,eval_tmp,eval_func,eval_const,t34];simp [go_sem]
    ·rintro e W' ⟨rfl,hw⟩;exact ⟨_,rfl,_,rfl,hw,rfl⟩
   ·intro a W hb0 hs hp hi;have hb:=undrew hb0;clear hb0
    have ti0:sl a 32 = .string ((((((strB WD) ++ ⟨#[32]⟩) ++ (strB (Lib.decDigits r))) ++ ⟨#[47]⟩) ++ (strB (Lib.decDigits k))) ++ ⟨#[32]⟩):=hp 12 (by decide)
    have ti1:sl a 35 = .string (strB (Lib.decDigits n)):=hp 15 (by decide)
    refine ite_y rfl (wp_val (.string (((((((strB WD) ++ ⟨#[32]⟩) ++ (strB (Lib.decDigits r))) ++ ⟨#[47]⟩) ++ (strB (Lib.decDigits k))) ++ ⟨#[32]⟩) ++ (strB (Lib.decDigits n)))) ?_ ?_)
    ·simp only [execOp,eval_tmp,eval_const,ti0,ti1];simp [go_sem,strB_size] <;> omega
    ·exact ⟨_,rfl,Below.refl _ _,rfl⟩
   ·intro a W hb0 hs hp hi;have hb:=undrew hb0;clear hb0
    have ti0:sl a 36 = .string (((((((strB WD) ++ ⟨#[32]⟩) ++ (strB (Lib.decDigits r))) ++ ⟨#[47]⟩) ++ (strB (Lib.decDigits k))) ++ ⟨#[32]⟩) ++ (strB (Lib.decDigits n))):=hp 16 (by decide)
    refine ite_y rfl (wp_val (.string ((((((((strB WD) ++ ⟨#[32]⟩) ++ (strB (Lib.decDigits r))) ++ ⟨#[47]⟩) ++ (strB (Lib.decDigits k))) ++ ⟨#[32]⟩) ++ (strB (Lib.decDigits n))) ++ ⟨#[32]⟩)) ?_ ?_)
    ·simp only [execOp,eval_tmp,eval_const,ti0];simp [go_sem,strB_size] <;> omega
    ·exact ⟨_,rfl,Below.refl _ _,rfl⟩
   ·intro a W hb0 hs hp hi;have hb:=undrew hb0;clear hb0
    have t1:sl a 1 = .pointer (some ⟨w.heap.size,0,none⟩):=hi 1 (by decide)
    refine ite_y rfl (wp_val (.pointer (some ⟨w.heap.size,7,none⟩)) ?_ ?_)
    ·simp only [execOp,eval_tmp,eval_const,t1];simp [go_sem]
    ·exact ⟨_,rfl,Below.refl _ _,rfl⟩
   ·intro a W hb0 hs hp hi;have hb:=undrew hb0;clear hb0
    have tt:sl a 38 = .pointer (some ⟨w.heap.size,7,none⟩):=hp 18 (by decide)
    have dd:=(hb.cell (p:=⟨w.heap.size,7,none⟩) (lt_of_cell c7)).trans c7
    refine ite_y rfl (wp_val (.int .i64 (m:Nat)) ?_ ?_)
    ·simp only [execOp,eval_tmp,tt];simp [go_sem,dd]
    ·exact ⟨_,rfl,Below.refl _ _,rfl⟩
   ·intro a W hb0 hs hp hi;have hb:=undrew hb0;clear hb0
    have t39:sl a 39 = .int .i64 (m:Nat):=hp 19 (by decide)
    refine ite_y rfl (wp_enter 91 #[.int .i64 (m:Nat)] ?_ (Itoa_any m hm W (HT1.out.keep hb)) ?_)
    ·simp only [execOp,resolve,List.map_toArray,List.map,eval_tmp,eval_func,eval_const,t39];simp [go_sem]
    ·rintro e W' ⟨rfl,hw⟩;exact ⟨_,rfl,_,rfl,hw,rfl⟩
   ·intro a W hb0 hs hp hi;have hb:=undrew hb0;clear hb0
    have ti0:sl a 37 = .string ((((((((strB WD) ++ ⟨#[32]⟩) ++ (strB (Lib.decDigits r))) ++ ⟨#[47]⟩) ++ (strB (Lib.decDigits k))) ++ ⟨#[32]⟩) ++ (strB (Lib.decDigits n))) ++ ⟨#[32]⟩):=hp 17 (by decide)
    have ti1:sl a 40 = .string (strB (Lib.decDigits m)):=hp 20 (by decide)
    refine ite_y rfl (wp_val (.string (((((((((strB WD) ++ ⟨#[32]⟩) ++ (strB (Lib.decDigits r))) ++ ⟨#[47]⟩) ++ (strB (Lib.decDigits k))) ++ ⟨#[32]⟩) ++ (strB (Lib.decDigits n))) ++ ⟨#[32]⟩) ++ (strB (Lib.decDigits m)))) ?_ ?_)
    ·simp only [execOp,eval_tmp,eval_const,ti0,ti1];simp [go_sem,strB_size] <;> omega
    ·exact ⟨_,rfl,Below.refl _ _,rfl⟩
   ·intro a W hb0 hs hp hi;have hb:=undrew hb0;clear hb0
    have t41:sl a 41 = .string (((((((((strB WD) ++ ⟨#[32]⟩) ++ (strB (Lib.decDigits r))) ++ ⟨#[47]⟩) ++ (strB (Lib.decDigits k))) ++ ⟨#[32]⟩) ++ (strB (Lib.decDigits n))) ++ ⟨#[32]⟩) ++ (strB (Lib.decDigits m))):=hp 21 (by decide)
    exact ite_y rfl (wp_val (sl a 41) rfl ⟨_,rfl,Below.refl _ _,t41⟩)
  intro a w2 hb hs hd hI ht
  have ha:=act_is [20,21,22,23,24,25,26,27,28,29,30,31,32,33,34,35,36,37,38,39,40,41,2] hs hd ht (by decide)
  have t2:sl a 2 = .string (((((((((strB WD) ++ ⟨#[32]⟩) ++ (strB (Lib.decDigits r))) ++ ⟨#[47]⟩) ++ (strB (Lib.decDigits k))) ++ ⟨#[32]⟩) ++ (strB (Lib.decDigits n))) ++ ⟨#[32]⟩) ++ (strB (Lib.decDigits m))):=hI 22 (by decide)
  simp only [List.foldl,t2] at ha
  generalize sl a 20 = u20 at ha
  generalize sl a 21 = u21 at ha
  generalize sl a 22 = u22 at ha
  generalize sl a 23 = u23 at ha
  generalize sl a 24 = u24 at ha
  generalize sl a 25 = u25 at ha
  generalize sl a 26 = u26 at ha
  generalize sl a 27 = u27 at ha
  generalize sl a 28 = u28 at ha
  generalize sl a 29 = u29 at ha
  generalize sl a 30 = u30 at ha
  generalize sl a 31 = u31 at ha
  generalize sl a 32 = u32 at ha
  generalize sl a 33 = u33 at ha
  generalize sl a 34 = u34 at ha
  generalize sl a 35 = u35 at ha
  generalize sl a 36 = u36 at ha
  generalize sl a 37 = u37 at ha
  generalize sl a 38 = u38 at ha
  generalize sl a 39 = u39 at ha
  generalize sl a 40 = u40 at ha
  generalize sl a 41 = u41 at ha
  simp only [Act.put,List.setIfInBounds_toArray,List.set_cons_zero,List.set_cons_succ] at ha
  rw [ha]
  clear ha hI ht
  have HB2:Hid (Below w.heap.size w w2):=bl HB.out hb HB.out.size
  clear hb
  clear c0 c1 c2 c3 c5 c6 c7
  have e1':=Lib.hid e1
  have e2':=Lib.hid e2
  clear e1 e2 e3
  go_wp2
  go_ret
  refine ⟨?_,HB2.out⟩
  unfold viewT
  rw [← HWD.out]
  simp only [← txt_app,← e1'.out,← e2'.out]
  rfl
 ·obtain ⟨WD,hWD⟩:∃ WD,WD = wordV 1:=⟨_,rfl⟩
  have e3:(⟨#[100,111,110,101]⟩:ByteArray) = strB WD:=by rw [hWD];rfl
  have zw:WD.length≤12:=by rw [hWD];decide
  have HWD:=Lib.hid hWD
  clear hWD
  go_enter Tryz.func39,Tryz.ntmps39
  go_upto_region 5 with (fail)
  have hv0:VwB (w.alloc (.cells #[.int .i64 (L:Nat),.int .i64 (t:Nat),.int .i64 (k:Nat),.int .u32 (D:Nat),.int .i64 1,.int .i64 (r:Nat),.int .i64 (n:Nat),.int .i64 (m:Nat)] 63 (0,0))) w.heap.size L t k D 1 r n m:=hnew rfl
  have ba:Below (w.alloc (.cells #[.int .i64 (L:Nat),.int .i64 (t:Nat),.int .i64 (k:Nat),.int .u32 (D:Nat),.int .i64 1,.int .i64 (r:Nat),.int .i64 (n:Nat),.int .i64 (m:Nat)] 63 (0,0))).heap.size (w.alloc (.cells #[.int .i64 (L:Nat),.int .i64 (t:Nat),.int .i64 (k:Nat),.int .u32 (D:Nat),.int .i64 1,.int .i64 (r:Nat),.int .i64 (n:Nat),.int .i64 (m:Nat)] 63 (0,0))) ((w.alloc (.cells #[.int .i64 (L:Nat),.int .i64 (t:Nat),.int .i64 (k:Nat),.int .u32 (D:Nat),.int .i64 1,.int .i64 (r:Nat),.int .i64 (n:Nat),.int .i64 (m:Nat)] 63 (0,0))).alloc (.cells #[.string ⟨#[112,101,110,100,105,110,103]⟩,.string (strB WD),.string ⟨#[105,110,99,111,110,115,105,115,116,101,110,116]⟩] 169 (0,0))):=al (Below.refl _ _) (Nat.le_refl _)
  have hv1:VwB ((w.alloc (.cells #[.int .i64 (L:Nat),.int .i64 (t:Nat),.int .i64 (k:Nat),.int .u32 (D:Nat),.int .i64 1,.int .i64 (r:Nat),.int .i64 (n:Nat),.int .i64 (m:Nat)] 63 (0,0))).alloc (.cells #[.string ⟨#[112,101,110,100,105,110,103]⟩,.string (strB WD),.string ⟨#[105,110,99,111,110,115,105,115,116,101,110,116]⟩] 169 (0,0))) w.heap.size L t k D 1 r n m:=(ba.block _ (lt_of_block hv0)).trans hv0
  have HB:Hid (Below w.heap.size w ((w.alloc (.cells #[.int .i64 (L:Nat),.int .i64 (t:Nat),.int .i64 (k:Nat),.int .u32 (D:Nat),.int .i64 1,.int .i64 (r:Nat),.int .i64 (n:Nat),.int .i64 (m:Nat)] 63 (0,0))).alloc (.cells #[.string ⟨#[112,101,110,100,105,110,103]⟩,.string (strB WD),.string ⟨#[105,110,99,111,110,115,105,115,116,101,110,116]⟩] 169 (0,0)))):=al (al (Below.refl _ _) (Nat.le_refl _)) (by simp)
  clear hv0 ba
  generalize (w.alloc (.cells #[.int .i64 (L:Nat),.int .i64 (t:Nat),.int .i64 (k:Nat),.int .u32 (D:Nat),.int .i64 1,.int .i64 (r:Nat),.int .i64 (n:Nat),.int .i64 (m:Nat)] 63 (0,0))).alloc (.cells #[.string ⟨#[112,101,110,100,105,110,103]⟩,.string (strB WD),.string ⟨#[105,110,99,111,110,115,105,115,116,101,110,116]⟩] 169 (0,0)) = w1 at *
  have HT1:=Lib.hid (HT.out.keep HB.out)
  obtain ⟨c0,c1,c2,c3,c4,c5,c6,c7⟩:=cells_eight hv1
  clear hv1 c4
  refine wp_region_shapes (fun ix=>([.val (.string (strB WD)),.val (.string ((strB WD) ++ ⟨#[32]⟩)),.val (.pointer (some ⟨w.heap.size,5,none⟩)),.val (.int .i64 (r:Nat)),.val (.string (strB (Lib.decDigits r))),.val (.string (((strB WD) ++ ⟨#[32]⟩) ++ (strB (Lib.decDigits r)))),.val (.string ((((strB WD) ++ ⟨#[32]⟩) ++ (strB (Lib.decDigits r))) ++ ⟨#[47]⟩)),.val (.pointer (some ⟨w.heap.size,0,none⟩)),.val (.pointer (some ⟨w.heap.size,2,none⟩)),.val (.int .i64 (k:Nat)),.val (.string (strB (Lib.decDigits k))),.val (.string (((((strB WD) ++ ⟨#[32]⟩) ++ (strB (Lib.decDigits r))) ++ ⟨#[47]⟩) ++ (strB (Lib.decDigits k)))),.val (.string ((((((strB WD) ++ ⟨#[32]⟩) ++ (strB (Lib.decDigits r))) ++ ⟨#[47]⟩) ++ (strB (Lib.decDigits k))) ++ ⟨#[32]⟩)),.val (.pointer (some ⟨w.heap.size,6,none⟩)),.val (.int .i64 (n:Nat)),.val (.string (strB (Lib.decDigits n))),.val (.string (((((((strB WD) ++ ⟨#[32]⟩) ++ (strB (Lib.decDigits r))) ++ ⟨#[47]⟩) ++ (strB (Lib.decDigits k))) ++ ⟨#[32]⟩) ++ (strB (Lib.decDigits n)))),.val (.string ((((((((strB WD) ++ ⟨#[32]⟩) ++ (strB (Lib.decDigits r))) ++ ⟨#[47]⟩) ++ (strB (Lib.decDigits k))) ++ ⟨#[32]⟩) ++ (strB (Lib.decDigits n))) ++ ⟨#[32]⟩)),.val (.pointer (some ⟨w.heap.size,7,none⟩)),.val (.int .i64 (m:Nat)),.val (.string (strB (Lib.decDigits m))),.val (.string (((((((((strB WD) ++ ⟨#[32]⟩) ++ (strB (Lib.decDigits r))) ++ ⟨#[47]⟩) ++ (strB (Lib.decDigits k))) ++ ⟨#[32]⟩) ++ (strB (Lib.decDigits n))) ++ ⟨#[32]⟩) ++ (strB (Lib.decDigits m)))),.val (.string (((((((((strB WD) ++ ⟨#[32]⟩) ++ (strB (Lib.decDigits r))) ++ ⟨#[47]⟩) ++ (strB (Lib.decDigits k))) ++ ⟨#[32]⟩) ++ (strB (Lib.decDigits n))) ++ ⟨#[32]⟩) ++ (strB (Lib.decDigits m))))][ix]?).getD (.any)) 42 rfl (by kernel_rfl) (by decide +kernel) (by decide +kernel) (by decide +kernel) ?_ ?_
  ·refine ⟨?_,?_,?_,?_,?_,?_,?_,?_,?_,?_,?_,?_,?_,?_,?_,?_,?_,?_,?_,?_,?_,?_,?_,trivial⟩
   ·intro a W hb0 hs hp hi;have hb:=undrew hb0;clear hb0
    have t4:sl a 4 = .string (strB WD):=hi 4 (by decide)
    exact ite_y rfl (wp_val (sl a 4) rfl ⟨_,rfl,Below.refl _ _,t4⟩)
   ·intro a W hb0 hs hp hi;have hb:=undrew hb0;clear hb0
    have ti0:sl a 20 = .string (strB WD):=hp 0 (by decide)
    refine ite_y rfl (wp_val (.string ((strB WD) ++ ⟨#[32]⟩)) ?_ ?_)
    ·simp only [execOp,eval_tmp,eval_const,ti0];simp [go_sem,strB_size] <;> omega
    ·exact ⟨_,rfl,Below.refl _ _,rfl⟩
   ·intro a W hb0 hs hp hi;have hb:=undrew hb0;clear hb0
    have t1:sl a 1 = .pointer (some ⟨w.heap.size,0,none⟩):=hi 1 (by decide)
    refine ite_y rfl (wp_val (.pointer (some ⟨w.heap.size,5,none⟩)) ?_ ?_)
    ·simp only [execOp,eval_tmp,eval_const,t1];simp [go_sem]
    ·exact ⟨_,rfl,Below.refl _ _,rfl⟩
   ·intro a W hb0 hs hp hi;have hb:=undrew hb0;clear hb0
    have tt:sl a 22 = .pointer (some ⟨w.heap.size,5,none⟩):=hp 2 (by decide)
    have dd:=(hb.cell (p:=⟨w.heap.size,5,none⟩) (lt_of_cell c5)).trans c5
    refine ite_y rfl (wp_val (.int .i64 (r:Nat)) ?_ ?_)
    ·simp only [execOp,eval_tmp,tt];simp [go_sem,dd]
    ·exact ⟨_,rfl,Below.refl _ _,rfl⟩
   ·intro a W hb0 hs hp hi;have hb:=undrew hb0;clear hb0
    have t23:sl a 23 = .int .i64 (r:Nat):=hp 3 (by decide)
    refine ite_y rfl (wp_enter 91 #[.int .i64 (r:Nat)] ?_ (Itoa_any r hr W (HT1.out.keep hb)) ?_)
    ·simp only [execOp,resolve,List.map_toArray,List.map,eval_tmp,eval_func,eval_const,t23];simp [go_sem]
    ·rintro e W' ⟨rfl,hw⟩;exact ⟨_,rfl,_,rfl,hw,rfl⟩
   ·intro a W hb0 hs hp hi;have hb:=undrew hb0;clear hb0
    have ti0:sl a 21 = .string ((strB WD) ++ ⟨#[32]⟩):=hp 1 (by decide)
    have ti1:sl a 24 = .string (strB (Lib.decDigits r)):=hp 4 (by decide)
    refine ite_y rfl (wp_val (.string (((strB WD) ++ ⟨#[32]⟩) ++ (strB (Lib.decDigits r)))) ?_ ?_)
    ·simp only [execOp,eval_tmp,eval_const,ti0,ti1];simp [go_sem,strB_size] <;> omega
    ·exact ⟨_,rfl,Below.refl _ _,rfl⟩
   ·intro a W hb0 hs hp hi;have hb:=undrew hb0;clear hb0
    have ti0:sl a 25 = .string (((strB WD) ++ ⟨#[32]⟩) ++ (strB (Lib.decDigits r))):=hp 5 (by decide)
    refine ite_y rfl (wp_val (.string ((((strB WD) ++ ⟨#[32]⟩) ++ (strB (Lib.decDigits r))) ++ ⟨#[47]⟩)) ?_ ?_)
    ·simp only [execOp,eval_tmp,eval_const,ti0];simp [go_sem,strB_size] <;> omega
    ·exact ⟨_,rfl,Below.refl _ _,rfl⟩
   ·intro a W hb0 hs hp hi;have hb:=undrew hb0;clear hb0
    have t1:sl a 1 = .pointer (some ⟨w.heap.size,0,none⟩):=hi 1 (by decide)
    refine ite_y rfl (wp_val (.pointer (some ⟨w.heap.size,0,none⟩)) ?_ ?_)
    ·simp only [execOp,eval_tmp,eval_const,t1];simp [go_sem]
    ·exact ⟨_,rfl,Below.refl _ _,rfl⟩
   ·intro a W hb0 hs hp hi;have hb:=undrew hb0;clear hb0
    have t27:sl a 27 = .pointer (some ⟨w.heap.size,0,none⟩):=hp 7 (by decide)
    refine ite_y rfl (wp_val (.pointer (some ⟨w.heap.size,2,none⟩)) ?_ ?_)
    ·simp only [execOp,eval_tmp,eval_const,t27];simp [go_sem]
    ·exact ⟨_,rfl,Below.refl _ _,rfl⟩
   ·intro a W hb0 hs hp hi;have hb:=undrew hb0;clear hb0
    have tt:sl a 28 = .pointer (some ⟨w.heap.size,2,none⟩):=hp 8 (by decide)
    have dd:=(hb.cell (p:=⟨w.heap.size,2,none⟩) (lt_of_cell c2)).trans c2
    refine ite_y rfl (wp_val (.int .i64 (k:Nat)) ?_ ?_)
    ·simp only [execOp,eval_tmp,tt];simp [go_sem,dd]
    ·exact ⟨_,rfl,Below.refl _ _,rfl⟩
   ·intro a W hb0 hs hp hi;have hb:=undrew hb0;clear hb0
    have t29:sl a 29 = .int .i64 (k:Nat):=hp 9 (by decide)
    refine ite_y rfl (wp_enter 91 #[.int .i64 (k:Nat)] ?_ (Itoa_any k hk W (HT1.out.keep hb)) ?_)
    ·simp only [execOp,resolve,List.map_toArray,List.map,eval_tmp,eval_func,eval_const,t29];simp [go_sem]
    ·rintro e W' ⟨rfl,hw⟩;exact ⟨_,rfl,_,rfl,hw,rfl⟩
   ·intro a W hb0 hs hp hi;have hb:=undrew hb0;clear hb0
    have ti0:sl a 26 = .string ((((strB WD) ++ ⟨#[32]⟩) ++ (strB (Lib.decDigits r))) ++ ⟨#[47]⟩):=hp 6 (by decide)
    have ti1:sl a 30 = .string (strB (Lib.decDigits k)):=hp 10 (by decide)
    refine ite_y rfl (wp_val (.string (((((strB WD) ++ ⟨#[32]⟩) ++ (strB (Lib.decDigits r))) ++ ⟨#[47]⟩) ++ (strB (Lib.decDigits k)))) ?_ ?_)
    ·simp only [execOp,eval_tmp,eval_const,ti0,ti1];simp [go_sem,strB_size] <;> omega
    ·exact ⟨_,rfl,Below.refl _ _,rfl⟩
   ·intro a W hb0 hs hp hi;have hb:=undrew hb0;clear hb0
    have ti0:sl a 31 = .string (((((strB WD) ++ ⟨#[32]⟩) ++ (strB (Lib.decDigits r))) ++ ⟨#[47]⟩) ++ (strB (Lib.decDigits k))):=hp 11 (by decide)
    refine ite_y rfl (wp_val (.string ((((((strB WD) ++ ⟨#[32]⟩) ++ (strB (Lib.decDigits r))) ++ ⟨#[47]⟩) ++ (strB (Lib.decDigits k))) ++ ⟨#[32]⟩)) ?_ ?_)
    ·simp only [execOp,eval_tmp,eval_const,ti0];simp [go_sem,strB_size] <;> omega
    ·exact ⟨_,rfl,Below.refl _ _,rfl⟩
   ·intro a W hb0 hs hp hi;have hb:=undrew hb0;clear hb0
    have t1:sl a 1 = .pointer (some ⟨w.heap.size,0,none⟩):=hi 1 (by decide)
    refine ite_y rfl (wp_val (.pointer (some ⟨w.heap.size,6,none⟩)) ?_ ?_)
    ·simp only [execOp,eval_tmp,eval_const,t1];simp [go_sem]
    ·exact ⟨_,rfl,Below.refl _ _,rfl⟩
   ·intro a W hb0 hs hp hi;have hb:=undrew hb0;clear hb0
    have tt:sl a 33 = .pointer (some ⟨w.heap.size,6,none⟩):=hp 13 (by decide)
    have dd:=(hb.cell (p:=⟨w.heap.size,6,none⟩) (lt_of_cell c6)).trans c6
    refine ite_y rfl (wp_val (.int .i64 (n:Nat)) ?_ ?_)
    ·simp only [execOp,eval_tmp,tt];simp [go_sem,dd]
    ·exact ⟨_,rfl,Below.refl _ _,rfl⟩
   ·intro a W hb0 hs hp hi;have hb:=undrew hb0;clear hb0
    have t34:sl a 34 = .int .i64 (n:Nat):=hp 14 (by decide)
    refine ite_y rfl (wp_enter 91 #[.int .i64 (n:Nat)] ?_ (Itoa_any n hn W (HT1.out.keep hb)) ?_)
    ·simp only [execOp,resolve,List.map_toArray,List.map,eval_tmp,eval_func,eval_const,t34];simp [go_sem]
    ·rintro e W' ⟨rfl,hw⟩;exact ⟨_,rfl,_,rfl,hw,rfl⟩
   ·intro a W hb0 hs hp hi;have hb:=undrew hb0;clear hb0
    have ti0:sl a 32 = .string ((((((strB WD) ++ ⟨#[32]⟩) ++ (strB (Lib.decDigits r))) ++ ⟨#[47]⟩) ++ (strB (Lib.decDigits k))) ++ ⟨#[32]⟩):=hp 12 (by decide)
    have ti1:sl a 35 = .string (strB (Lib.decDigits n)):=hp 15 (by decide)
    refine ite_y rfl (wp_val (.string (((((((strB WD) ++ ⟨#[32]⟩) ++ (strB (Lib.decDigits r))) ++ ⟨#[47]⟩) ++ (strB (Lib.decDigits k))) ++ ⟨#[32]⟩) ++ (strB (Lib.decDigits n)))) ?_ ?_)
    ·simp only [execOp,eval_tmp,eval_const,ti0,ti1];simp [go_sem,strB_size] <;> omega
    ·exact ⟨_,rfl,Below.refl _ _,rfl⟩
   ·intro a W hb0 hs hp hi;have hb:=undrew hb0;clear hb0
    have ti0:sl a 36 = .string (((((((strB WD) ++ ⟨#[32]⟩) ++ (strB (Lib.decDigits r))) ++ ⟨#[47]⟩) ++ (strB (Lib.decDigits k))) ++ ⟨#[32]⟩) ++ (strB (Lib.decDigits n))):=hp 16 (by decide)
    refine ite_y rfl (wp_val (.string ((((((((strB WD) ++ ⟨#[32]⟩) ++ (strB (Lib.decDigits r))) ++ ⟨#[47]⟩) ++ (strB (Lib.decDigits k))) ++ ⟨#[32]⟩) ++ (strB (Lib.decDigits n))) ++ ⟨#[32]⟩)) ?_ ?_)
    ·simp only [execOp,eval_tmp,eval_const,ti0];simp [go_sem,strB_size] <;> omega
    ·exact ⟨_,rfl,Below.refl _ _,rfl⟩
   ·intro a W hb0 hs hp hi;have hb:=undrew hb0;clear hb0
    have t1:sl a 1 = .pointer (some ⟨w.heap.size,0,none⟩):=hi 1 (by decide)
    refine ite_y rfl (wp_val (.pointer (some ⟨w.heap.size,7,none⟩)) ?_ ?_)
    ·simp only [execOp,eval_tmp,eval_const,t1];simp [go_sem]
    ·exact ⟨_,rfl,Below.refl _ _,rfl⟩
   ·intro a W hb0 hs hp hi;have hb:=undrew hb0;clear hb0
    have tt:sl a 38 = .pointer (some ⟨w.heap.size,7,none⟩):=hp 18 (by decide)
    have dd:=(hb.cell (p:=⟨w.heap.size,7,none⟩) (lt_of_cell c7)).trans c7
    refine ite_y rfl (wp_val (.int .i64 (m:Nat)) ?_ ?_)
    ·simp only [execOp,eval_tmp,tt];simp [go_sem,dd]
    ·exact ⟨_,rfl,Below.refl _ _,rfl⟩
   ·intro a W hb0 hs hp hi;have hb:=undrew hb0;clear hb0
    have t39:sl a 39 = .int .i64 (m:Nat):=hp 19 (by decide)
    refine ite_y rfl (wp_enter 91 #[.int .i64 (m:Nat)] ?_ (Itoa_any m hm W (HT1.out.keep hb)) ?_)
    ·simp only [execOp,resolve,List.map_toArray,List.map,eval_tmp,eval_func,eval_const,t39];simp [go_sem]
    ·rintro e W' ⟨rfl,hw⟩;exact ⟨_,rfl,_,rfl,hw,rfl⟩
   ·intro a W hb0 hs hp hi;have hb:=undrew hb0;clear hb0
    have ti0:sl a 37 = .string ((((((((strB WD) ++ ⟨#[32]⟩) ++ (strB (Lib.decDigits r))) ++ ⟨#[47]⟩) ++ (strB (Lib.decDigits k))) ++ ⟨#[32]⟩) ++ (strB (Lib.decDigits n))) ++ ⟨#[32]⟩):=hp 17 (by decide)
    have ti1:sl a 40 = .string (strB (Lib.decDigits m)):=hp 20 (by decide)
    refine ite_y rfl (wp_val (.string (((((((((strB WD) ++ ⟨#[32]⟩) ++ (strB (Lib.decDigits r))) ++ ⟨#[47]⟩) ++ (strB (Lib.decDigits k))) ++ ⟨#[32]⟩) ++ (strB (Lib.decDigits n))) ++ ⟨#[32]⟩) ++ (strB (Lib.decDigits m)))) ?_ ?_)
    ·simp only [execOp,eval_tmp,eval_const,ti0,ti1];simp [go_sem,strB_size] <;> omega
    ·exact ⟨_,rfl,Below.refl _ _,rfl⟩
   ·intro a W hb0 hs hp hi;have hb:=undrew hb0;clear hb0
    have t41:sl a 41 = .string (((((((((strB WD) ++ ⟨#[32]⟩) ++ (strB (Lib.decDigits r))) ++ ⟨#[47]⟩) ++ (strB (Lib.decDigits k))) ++ ⟨#[32]⟩) ++ (strB (Lib.decDigits n))) ++ ⟨#[32]⟩) ++ (strB (Lib.decDigits m))):=hp 21 (by decide)
    exact ite_y rfl (wp_val (sl a 41) rfl ⟨_,rfl,Below.refl _ _,t41⟩)
  intro a w2 hb hs hd hI ht
  have ha:=act_is [20,21,22,23,24,25,26,27,28,29,30,31,32,33,34,35,36,37,38,39,40,41,2] hs hd ht (by decide)
  have t2:sl a 2 = .string (((((((((strB WD) ++ ⟨#[32]⟩) ++ (strB (Lib.decDigits r))) ++ ⟨#[47]⟩) ++ (strB (Lib.decDigits k))) ++ ⟨#[32]⟩) ++ (strB (Lib.decDigits n))) ++ ⟨#[32]⟩) ++ (strB (Lib.decDigits m))):=hI 22 (by decide)
  simp only [List.foldl,t2] at ha
  generalize sl a 20 = u20 at ha
  generalize sl a 21 = u21 at ha
  generalize sl a 22 = u22 at ha
  generalize sl a 23 = u23 at ha
  generalize sl a 24 = u24 at ha
  generalize sl a 25 = u25 at ha
  generalize sl a 26 = u26 at ha
  generalize sl a 27 = u27 at ha
  generalize sl a 28 = u28 at ha
  generalize sl a 29 = u29 at ha
  generalize sl a 30 = u30 at ha
  generalize sl a 31 = u31 at ha
  generalize sl a 32 = u32 at ha
  generalize sl a 33 = u33 at ha
  generalize sl a 34 = u34 at ha
  generalize sl a 35 = u35 at ha
  generalize sl a 36 = u36 at ha
  generalize sl a 37 = u37 at ha
  generalize sl a 38 = u38 at ha
  generalize sl a 39 = u39 at ha
  generalize sl a 40 = u40 at ha
  generalize sl a 41 = u41 at ha
  simp only [Act.put,List.setIfInBounds_toArray,List.set_cons_zero,List.set_cons_succ] at ha
  rw [ha]
  clear ha hI ht
  have HB2:Hid (Below w.heap.size w w2):=bl HB.out hb HB.out.size
  clear hb
  clear c0 c1 c2 c3 c5 c6 c7
  have e1':=Lib.hid e1
  have e2':=Lib.hid e2
  clear e1 e2 e3
  go_wp2
  go_ret
  refine ⟨?_,HB2.out⟩
  unfold viewT
  rw [← HWD.out]
  simp only [← txt_app,← e1'.out,← e2'.out]
  rfl
 ·obtain ⟨WD,hWD⟩:∃ WD,WD = wordV 2:=⟨_,rfl⟩
  have e3:(⟨#[105,110,99,111,110,115,105,115,116,101,110,116]⟩:ByteArray) = strB WD:=by rw [hWD];rfl
  have zw:WD.length≤12:=by rw [hWD];decide
  have HWD:=Lib.hid hWD
  clear hWD
  go_enter Tryz.func39,Tryz.ntmps39
  go_upto_region 5 with (fail)
  have hv0:VwB (w.alloc (.cells #[.int .i64 (L:Nat),.int .i64 (t:Nat),.int .i64 (k:Nat),.int .u32 (D:Nat),.int .i64 2,.int .i64 (r:Nat),.int .i64 (n:Nat),.int .i64 (m:Nat)] 63 (0,0))) w.heap.size L t k D 2 r n m:=hnew rfl
  have ba:Below (w.alloc (.cells #[.int .i64 (L:Nat),.int .i64 (t:Nat),.int .i64 (k:Nat),.int .u32 (D:Nat),.int .i64 2,.int .i64 (r:Nat),.int .i64 (n:Nat),.int .i64 (m:Nat)] 63 (0,0))).heap.size (w.alloc (.cells #[.int .i64 (L:Nat),.int .i64 (t:Nat),.int .i64 (k:Nat),.int .u32 (D:Nat),.int .i64 2,.int .i64 (r:Nat),.int .i64 (n:Nat),.int .i64 (m:Nat)] 63 (0,0))) ((w.alloc (.cells #[.int .i64 (L:Nat),.int .i64 (t:Nat),.int .i64 (k:Nat),.int .u32 (D:Nat),.int .i64 2,.int .i64 (r:Nat),.int .i64 (n:Nat),.int .i64 (m:Nat)] 63 (0,0))).alloc (.cells #[.string ⟨#[112,101,110,100,105,110,103]⟩,.string ⟨#[100,111,110,101]⟩,.string (strB WD)] 169 (0,0))):=al (Below.refl _ _) (Nat.le_refl _)
  have hv1:VwB ((w.alloc (.cells #[.int .i64 (L:Nat),.int .i64 (t:Nat),.int .i64 (k:Nat),.int .u32 (D:Nat),.int .i64 2,.int .i64 (r:Nat),.int .i64 (n:Nat),.int .i64 (m:Nat)] 63 (0,0))).alloc (.cells #[.string ⟨#[112,101,110,100,105,110,103]⟩,.string ⟨#[100,111,110,101]⟩,.string (strB WD)] 169 (0,0))) w.heap.size L t k D 2 r n m:=(ba.block _ (lt_of_block hv0)).trans hv0
  have HB:Hid (Below w.heap.size w ((w.alloc (.cells #[.int .i64 (L:Nat),.int .i64 (t:Nat),.int .i64 (k:Nat),.int .u32 (D:Nat),.int .i64 2,.int .i64 (r:Nat),.int .i64 (n:Nat),.int .i64 (m:Nat)] 63 (0,0))).alloc (.cells #[.string ⟨#[112,101,110,100,105,110,103]⟩,.string ⟨#[100,111,110,101]⟩,.string (strB WD)] 169 (0,0)))):=al (al (Below.refl _ _) (Nat.le_refl _)) (by simp)
  clear hv0 ba
  generalize (w.alloc (.cells #[.int .i64 (L:Nat),.int .i64 (t:Nat),.int .i64 (k:Nat),.int .u32 (D:Nat),.int .i64 2,.int .i64 (r:Nat),.int .i64 (n:Nat),.int .i64 (m:Nat)] 63 (0,0))).alloc (.cells #[.string ⟨#[112,101,110,100,105,110,103]⟩,.string ⟨#[100,111,110,101]⟩,.string (strB WD)] 169 (0,0)) = w1 at *
  have HT1:=Lib.hid (HT.out.keep HB.out)
  obtain ⟨c0,c1,c2,c3,c4,c5,c6,c7⟩:=cells_eight hv1
  clear hv1 c4
  refine wp_region_shapes (fun ix=>([.val (.string (strB WD)),.val (.string ((strB WD) ++ ⟨#[32]⟩)),.val (.pointer (some ⟨w.heap.size,5,none⟩)),.val (.int .i64 (r:Nat)),.val (.string (strB (Lib.decDigits r))),.val (.string (((strB WD) ++ ⟨#[32]⟩) ++ (strB (Lib.decDigits r)))),.val (.string ((((strB WD) ++ ⟨#[32]⟩) ++ (strB (Lib.decDigits r))) ++ ⟨#[47]⟩)),.val (.pointer (some ⟨w.heap.size,0,none⟩)),.val (.pointer (some ⟨w.heap.size,2,none⟩)),.val (.int .i64 (k:Nat)),.val (.string (strB (Lib.decDigits k))),.val (.string (((((strB WD) ++ ⟨#[32]⟩) ++ (strB (Lib.decDigits r))) ++ ⟨#[47]⟩) ++ (strB (Lib.decDigits k)))),.val (.string ((((((strB WD) ++ ⟨#[32]⟩) ++ (strB (Lib.decDigits r))) ++ ⟨#[47]⟩) ++ (strB (Lib.decDigits k))) ++ ⟨#[32]⟩)),.val (.pointer (some ⟨w.heap.size,6,none⟩)),.val (.int .i64 (n:Nat)),.val (.string (strB (Lib.decDigits n))),.val (.string (((((((strB WD) ++ ⟨#[32]⟩) ++ (strB (Lib.decDigits r))) ++ ⟨#[47]⟩) ++ (strB (Lib.decDigits k))) ++ ⟨#[32]⟩) ++ (strB (Lib.decDigits n)))),.val (.string ((((((((strB WD) ++ ⟨#[32]⟩) ++ (strB (Lib.decDigits r))) ++ ⟨#[47]⟩) ++ (strB (Lib.decDigits k))) ++ ⟨#[32]⟩) ++ (strB (Lib.decDigits n))) ++ ⟨#[32]⟩)),.val (.pointer (some ⟨w.heap.size,7,none⟩)),.val (.int .i64 (m:Nat)),.val (.string (strB (Lib.decDigits m))),.val (.string (((((((((strB WD) ++ ⟨#[32]⟩) ++ (strB (Lib.decDigits r))) ++ ⟨#[47]⟩) ++ (strB (Lib.decDigits k))) ++ ⟨#[32]⟩) ++ (strB (Lib.decDigits n))) ++ ⟨#[32]⟩) ++ (strB (Lib.decDigits m)))),.val (.string (((((((((strB WD) ++ ⟨#[32]⟩) ++ (strB (Lib.decDigits r))) ++ ⟨#[47]⟩) ++ (strB (Lib.decDigits k))) ++ ⟨#[32]⟩) ++ (strB (Lib.decDigits n))) ++ ⟨#[32]⟩) ++ (strB (Lib.decDigits m))))][ix]?).getD (.any)) 42 rfl (by kernel_rfl) (by decide +kernel) (by decide +kernel) (by decide +kernel) ?_ ?_
  ·refine ⟨?_,?_,?_,?_,?_,?_,?_,?_,?_,?_,?_,?_,?_,?_,?_,?_,?_,?_,?_,?_,?_,?_,?_,trivial⟩
   ·intro a W hb0 hs hp hi;have hb:=undrew hb0;clear hb0
    have t4:sl a 4 = .string (strB WD):=hi 4 (by decide)
    exact ite_y rfl (wp_val (sl a 4) rfl ⟨_,rfl,Below.refl _ _,t4⟩)
   ·intro a W hb0 hs hp hi;have hb:=undrew hb0;clear hb0
    have ti0:sl a 20 = .string (strB WD):=hp 0 (by decide)
    refine ite_y rfl (wp_val (.string ((strB WD) ++ ⟨#[32]⟩)) ?_ ?_)
    ·simp only [execOp,eval_tmp,eval_const,ti0];simp [go_sem,strB_size] <;> omega
    ·exact ⟨_,rfl,Below.refl _ _,rfl⟩
   ·intro a W hb0 hs hp hi;have hb:=undrew hb0;clear hb0
    have t1:sl a 1 = .pointer (some ⟨w.heap.size,0,none⟩):=hi 1 (by decide)
    refine ite_y rfl (wp_val (.pointer (some ⟨w.heap.size,5,none⟩)) ?_ ?_)
    ·simp only [execOp,eval_tmp,eval_const,t1];simp [go_sem]
    ·exact ⟨_,rfl,Below.refl _ _,rfl⟩
   ·intro a W hb0 hs hp hi;have hb:=undrew hb0;clear hb0
    have tt:sl a 22 = .pointer (some ⟨w.heap.size,5,none⟩):=hp 2 (by decide)
    have dd:=(hb.cell (p:=⟨w.heap.size,5,none⟩) (lt_of_cell c5)).trans c5
    refine ite_y rfl (wp_val (.int .i64 (r:Nat)) ?_ ?_)
    ·simp only [execOp,eval_tmp,tt];simp [go_sem,dd]
    ·exact ⟨_,rfl,Below.refl _ _,rfl⟩
   ·intro a W hb0 hs hp hi;have hb:=undrew hb0;clear hb0
    have t23:sl a 23 = .int .i64 (r:Nat):=hp 3 (by decide)
    refine ite_y rfl (wp_enter 91 #[.int .i64 (r:Nat)] ?_ (Itoa_any r hr W (HT1.out.keep hb)) ?_)
    ·simp only [execOp,resolve,List.map_toArray,List.map,eval_tmp,eval_func,eval_const,t23];simp [go_sem]
    ·rintro e W' ⟨rfl,hw⟩;exact ⟨_,rfl,_,rfl,hw,rfl⟩
   ·intro a W hb0 hs hp hi;have hb:=undrew hb0;clear hb0
    have ti0:sl a 21 = .string ((strB WD) ++ ⟨#[32]⟩):=hp 1 (by decide)
    have ti1:sl a 24 = .string (strB (Lib.decDigits r)):=hp 4 (by decide)
    refine ite_y rfl (wp_val (.string (((strB WD) ++ ⟨#[32]⟩) ++ (strB (Lib.decDigits r)))) ?_ ?_)
    ·simp only [execOp,eval_tmp,eval_const,ti0,ti1];simp [go_sem,strB_size] <;> omega
    ·exact ⟨_,rfl,Below.refl _ _,rfl⟩
   ·intro a W hb0 hs hp hi;have hb:=undrew hb0;clear hb0
    have ti0:sl a 25 = .string (((strB WD) ++ ⟨#[32]⟩) ++ (strB (Lib.decDigits r))):=hp 5 (by decide)
    refine ite_y rfl (wp_val (.string ((((strB WD) ++ ⟨#[32]⟩) ++ (strB (Lib.decDigits r))) ++ ⟨#[47]⟩)) ?_ ?_)
    ·simp only [execOp,eval_tmp,eval_const,ti0];simp [go_sem,strB_size] <;> omega
    ·exact ⟨_,rfl,Below.refl _ _,rfl⟩
   ·intro a W hb0 hs hp hi;have hb:=undrew hb0;clear hb0
    have t1:sl a 1 = .pointer (some ⟨w.heap.size,0,none⟩):=hi 1 (by decide)
    refine ite_y rfl (wp_val (.pointer (some ⟨w.heap.size,0,none⟩)) ?_ ?_)
    ·simp only [execOp,eval_tmp,eval_const,t1];simp [go_sem]
    ·exact ⟨_,rfl,Below.refl _ _,rfl⟩
   ·intro a W hb0 hs hp hi;have hb:=undrew hb0;clear hb0
    have t27:sl a 27 = .pointer (some ⟨w.heap.size,0,none⟩):=hp 7 (by decide)
    refine ite_y rfl (wp_val (.pointer (some ⟨w.heap.size,2,none⟩)) ?_ ?_)
    ·simp only [execOp,eval_tmp,eval_const,t27];simp [go_sem]
    ·exact ⟨_,rfl,Below.refl _ _,rfl⟩
   ·intro a W hb0 hs hp hi;have hb:=undrew hb0;clear hb0
    have tt:sl a 28 = .pointer (some ⟨w.heap.size,2,none⟩):=hp 8 (by decide)
    have dd:=(hb.cell (p:=⟨w.heap.size,2,none⟩) (lt_of_cell c2)).trans c2
    refine ite_y rfl (wp_val (.int .i64 (k:Nat)) ?_ ?_)
    ·simp only [execOp,eval_tmp,tt];simp [go_sem,dd]
    ·exact ⟨_,rfl,Below.refl _ _,rfl⟩
   ·intro a W hb0 hs hp hi;have hb:=undrew hb0;clear hb0
    have t29:sl a 29 = .int .i64 (k:Nat):=hp 9 (by decide)
    refine ite_y rfl (wp_enter 91 #[.int .i64 (k:Nat)] ?_ (Itoa_any k hk W (HT1.out.keep hb)) ?_)
    ·simp only [execOp,resolve,List.map_toArray,List.map,eval_tmp,eval_func,eval_const,t29];simp [go_sem]
    ·rintro e W' ⟨rfl,hw⟩;exact ⟨_,rfl,_,rfl,hw,rfl⟩
   ·intro a W hb0 hs hp hi;have hb:=undrew hb0;clear hb0
    have ti0:sl a 26 = .string ((((strB WD) ++ ⟨#[32]⟩) ++ (strB (Lib.decDigits r))) ++ ⟨#[47]⟩):=hp 6 (by decide)
    have ti1:sl a 30 = .string (strB (Lib.decDigits k)):=hp 10 (by decide)
    refine ite_y rfl (wp_val (.string (((((strB WD) ++ ⟨#[32]⟩) ++ (strB (Lib.decDigits r))) ++ ⟨#[47]⟩) ++ (strB (Lib.decDigits k)))) ?_ ?_)
    ·simp only [execOp,eval_tmp,eval_const,ti0,ti1];simp [go_sem,strB_size] <;> omega
    ·exact ⟨_,rfl,Below.refl _ _,rfl⟩
   ·intro a W hb0 hs hp hi;have hb:=undrew hb0;clear hb0
    have ti0:sl a 31 = .string (((((strB WD) ++ ⟨#[32]⟩) ++ (strB (Lib.decDigits r))) ++ ⟨#[47]⟩) ++ (strB (Lib.decDigits k))):=hp 11 (by decide)
    refine ite_y rfl (wp_val (.string ((((((strB WD) ++ ⟨#[32]⟩) ++ (strB (Lib.decDigits r))) ++ ⟨#[47]⟩) ++ (strB (Lib.decDigits k))) ++ ⟨#[32]⟩)) ?_ ?_)
    ·simp only [execOp,eval_tmp,eval_const,ti0];simp [go_sem,strB_size] <;> omega
    ·exact ⟨_,rfl,Below.refl _ _,rfl⟩
   ·intro a W hb0 hs hp hi;have hb:=undrew hb0;clear hb0
    have t1:sl a 1 = .pointer (some ⟨w.heap.size,0,none⟩):=hi 1 (by decide)
    refine ite_y rfl (wp_val (.pointer (some ⟨w.heap.size,6,none⟩)) ?_ ?_)
    ·simp only [execOp,eval_tmp,eval_const,t1];simp [go_sem]
    ·exact ⟨_,rfl,Below.refl _ _,rfl⟩
   ·intro a W hb0 hs hp hi;have hb:=undrew hb0;clear hb0
    have tt:sl a 33 = .pointer (some ⟨w.heap.size,6,none⟩):=hp 13 (by decide)
    have dd:=(hb.cell (p:=⟨w.heap.size,6,none⟩) (lt_of_cell c6)).trans c6
    refine ite_y rfl (wp_val (.int .i64 (n:Nat)) ?_ ?_)
    ·simp only [execOp,eval_tmp,tt];simp [go_sem,dd]
    ·exact ⟨_,rfl,Below.refl _ _,rfl⟩
   ·intro a W hb0 hs hp hi;have hb:=undrew hb0;clear hb0
    have t34:sl a 34 = .int .i64 (n:Nat):=hp 14 (by decide)
    refine ite_y rfl (wp_enter 91 #[.int .i64 (n:Nat)] ?_ (Itoa_any n hn W (HT1.out.keep hb)) ?_)
    ·simp only [execOp,resolve,List.map_toArray,List.map,eval_tmp,eval_func,eval_const,t34];simp [go_sem]
    ·rintro e W' ⟨rfl,hw⟩;exact ⟨_,rfl,_,rfl,hw,rfl⟩
   ·intro a W hb0 hs hp hi;have hb:=undrew hb0;clear hb0
    have ti0:sl a 32 = .string ((((((strB WD) ++ ⟨#[32]⟩) ++ (strB (Lib.decDigits r))) ++ ⟨#[47]⟩) ++ (strB (Lib.decDigits k))) ++ ⟨#[32]⟩):=hp 12 (by decide)
    have ti1:sl a 35 = .string (strB (Lib.decDigits n)):=hp 15 (by decide)
    refine ite_y rfl (wp_val (.string (((((((strB WD) ++ ⟨#[32]⟩) ++ (strB (Lib.decDigits r))) ++ ⟨#[47]⟩) ++ (strB (Lib.decDigits k))) ++ ⟨#[32]⟩) ++ (strB (Lib.decDigits n)))) ?_ ?_)
    ·simp only [execOp,eval_tmp,eval_const,ti0,ti1];simp [go_sem,strB_size] <;> omega
    ·exact ⟨_,rfl,Below.refl _ _,rfl⟩
   ·intro a W hb0 hs hp hi;have hb:=undrew hb0;clear hb0
    have ti0:sl a 36 = .string (((((((strB WD) ++ ⟨#[32]⟩) ++ (strB (Lib.decDigits r))) ++ ⟨#[47]⟩) ++ (strB (Lib.decDigits k))) ++ ⟨#[32]⟩) ++ (strB (Lib.decDigits n))):=hp 16 (by decide)
    refine ite_y rfl (wp_val (.string ((((((((strB WD) ++ ⟨#[32]⟩) ++ (strB (Lib.decDigits r))) ++ ⟨#[47]⟩) ++ (strB (Lib.decDigits k))) ++ ⟨#[32]⟩) ++ (strB (Lib.decDigits n))) ++ ⟨#[32]⟩)) ?_ ?_)
    ·simp only [execOp,eval_tmp,eval_const,ti0];simp [go_sem,strB_size] <;> omega
    ·exact ⟨_,rfl,Below.refl _ _,rfl⟩
   ·intro a W hb0 hs hp hi;have hb:=undrew hb0;clear hb0
    have t1:sl a 1 = .pointer (some ⟨w.heap.size,0,none⟩):=hi 1 (by decide)
    refine ite_y rfl (wp_val (.pointer (some ⟨w.heap.size,7,none⟩)) ?_ ?_)
    ·simp only [execOp,eval_tmp,eval_const,t1];simp [go_sem]
    ·exact ⟨_,rfl,Below.refl _ _,rfl⟩
   ·intro a W hb0 hs hp hi;have hb:=undrew hb0;clear hb0
    have tt:sl a 38 = .pointer (some ⟨w.heap.size,7,none⟩):=hp 18 (by decide)
    have dd:=(hb.cell (p:=⟨w.heap.size,7,none⟩) (lt_of_cell c7)).trans c7
    refine ite_y rfl (wp_val (.int .i64 (m:Nat)) ?_ ?_)
    ·simp only [execOp,eval_tmp,tt];simp [go_sem,dd]
    ·exact ⟨_,rfl,Below.refl _ _,rfl⟩
   ·intro a W hb0 hs hp hi;have hb:=undrew hb0;clear hb0
    have t39:sl a 39 = .int .i64 (m:Nat):=hp 19 (by decide)
    refine ite_y rfl (wp_enter 91 #[.int .i64 (m:Nat)] ?_ (Itoa_any m hm W (HT1.out.keep hb)) ?_)
    ·simp only [execOp,resolve,List.map_toArray,List.map,eval_tmp,eval_func,eval_const,t39];simp [go_sem]
    ·rintro e W' ⟨rfl,hw⟩;exact ⟨_,rfl,_,rfl,hw,rfl⟩
   ·intro a W hb0 hs hp hi;have hb:=undrew hb0;clear hb0
    have ti0:sl a 37 = .string ((((((((strB WD) ++ ⟨#[32]⟩) ++ (strB (Lib.decDigits r))) ++ ⟨#[47]⟩) ++ (strB (Lib.decDigits k))) ++ ⟨#[32]⟩) ++ (strB (Lib.decDigits n))) ++ ⟨#[32]⟩):=hp 17 (by decide)
    have ti1:sl a 40 = .string (strB (Lib.decDigits m)):=hp 20 (by decide)
    refine ite_y rfl (wp_val (.string (((((((((strB WD) ++ ⟨#[32]⟩) ++ (strB (Lib.decDigits r))) ++ ⟨#[47]⟩) ++ (strB (Lib.decDigits k))) ++ ⟨#[32]⟩) ++ (strB (Lib.decDigits n))) ++ ⟨#[32]⟩) ++ (strB (Lib.decDigits m)))) ?_ ?_)
    ·simp only [execOp,eval_tmp,eval_const,ti0,ti1];simp [go_sem,strB_size] <;> omega
    ·exact ⟨_,rfl,Below.refl _ _,rfl⟩
   ·intro a W hb0 hs hp hi;have hb:=undrew hb0;clear hb0
    have t41:sl a 41 = .string (((((((((strB WD) ++ ⟨#[32]⟩) ++ (strB (Lib.decDigits r))) ++ ⟨#[47]⟩) ++ (strB (Lib.decDigits k))) ++ ⟨#[32]⟩) ++ (strB (Lib.decDigits n))) ++ ⟨#[32]⟩) ++ (strB (Lib.decDigits m))):=hp 21 (by decide)
    exact ite_y rfl (wp_val (sl a 41) rfl ⟨_,rfl,Below.refl _ _,t41⟩)
  intro a w2 hb hs hd hI ht
  have ha:=act_is [20,21,22,23,24,25,26,27,28,29,30,31,32,33,34,35,36,37,38,39,40,41,2] hs hd ht (by decide)
  have t2:sl a 2 = .string (((((((((strB WD) ++ ⟨#[32]⟩) ++ (strB (Lib.decDigits r))) ++ ⟨#[47]⟩) ++ (strB (Lib.decDigits k))) ++ ⟨#[32]⟩) ++ (strB (Lib.decDigits n))) ++ ⟨#[32]⟩) ++ (strB (Lib.decDigits m))):=hI 22 (by decide)
  simp only [List.foldl,t2] at ha
  generalize sl a 20 = u20 at ha
  generalize sl a 21 = u21 at ha
  generalize sl a 22 = u22 at ha
  generalize sl a 23 = u23 at ha
  generalize sl a 24 = u24 at ha
  generalize sl a 25 = u25 at ha
  generalize sl a 26 = u26 at ha
  generalize sl a 27 = u27 at ha
  generalize sl a 28 = u28 at ha
  generalize sl a 29 = u29 at ha
  generalize sl a 30 = u30 at ha
  generalize sl a 31 = u31 at ha
  generalize sl a 32 = u32 at ha
  generalize sl a 33 = u33 at ha
  generalize sl a 34 = u34 at ha
  generalize sl a 35 = u35 at ha
  generalize sl a 36 = u36 at ha
  generalize sl a 37 = u37 at ha
  generalize sl a 38 = u38 at ha
  generalize sl a 39 = u39 at ha
  generalize sl a 40 = u40 at ha
  generalize sl a 41 = u41 at ha
  simp only [Act.put,List.setIfInBounds_toArray,List.set_cons_zero,List.set_cons_succ] at ha
  rw [ha]
  clear ha hI ht
  have HB2:Hid (Below w.heap.size w w2):=bl HB.out hb HB.out.size
  clear hb
  clear c0 c1 c2 c3 c5 c6 c7
  have e1':=Lib.hid e1
  have e2':=Lib.hid e2
  clear e1 e2 e3
  go_wp2
  go_ret
  refine ⟨?_,HB2.out⟩
  unfold viewT
  rw [← HWD.out]
  simp only [← txt_app,← e1'.out,← e2'.out]
  rfl
end Go.Proofs.YtccaiiigdfieoaaGreatDoor
namespace Go.Proofs.YtccaiiigdfieoaaGreatDoor
open Go.RowKit Go.By Go.Maps
end Go.Proofs.YtccaiiigdfieoaaGreatDoor
namespace Go.By
open Go.RowKit
theorem byte_of_wf {a:Int} (h:(Lit.int .u8 a).wf = true):∃ x:UInt8,Value.int .u8 a = B8 x∧a = (x.toNat:Int):=by
 have hb:=bounds_u8 h
 have e:a = ((UInt8.ofNat a.toNat).toNat:Int):=by simp;omega
 exact ⟨UInt8.ofNat a.toNat,B8_congr e,e⟩
theorem sl_of_row {w:World} {a:Option Addr} {len cap:Nat} {zs:List Int}
  (h:(a = none∧len = 0∧cap = 0∧zs = [])∨∃ x,a = some x∧len≤cap∧cap≤maxLen∧zs.length = cap∧(∀ i,i < zs.length→w.cell? (x.add i) = some (.int .u8 (zs.getD i 0)))∧∀ n ∈ zs,(Lit.int .u8 n).wf = true) :
  ∃ xs,Sl B8 w a len cap xs:=by
 rcases h with ⟨rfl,rfl,rfl,_⟩ | ⟨x,rfl,hl,hm,hz,hc,hw⟩
 ·exact ⟨[],Sl.nil0 _ _⟩
 ·refine ⟨(zs.take len).map fun z=>UInt8.ofNat z.toNat,⟨by simp;omega,hl,hm,fun h=>by simp at h,?_⟩⟩
  intro i hi
  have hi':i < zs.length:=by simp at hi;omega
  obtain ⟨b,o,hx,hc'⟩:=ints_at hc (by omega)
  refine ⟨b,o,by rw [hx],?_⟩
  have hh:=hc i hi'
  rw [hx,Addr.add_lit] at hh
  rw [hh]
  have e:zs.getD i 0 = zs[i]:=by simp [hi']
  rw [e]
  have hb:=bounds_u8 (hw _ (List.getElem_mem hi'))
  simp
  omega
end Go.By
namespace Go.Proofs.YtccaiiigdfieoaaGreatDoor
open Go.RowKit Go.By Go.ChangeShapes Go.WideShapes Go.Deep
section
variable {H:Type} {enc:TypeId × Value→H} {P:Program} {w:World} {base:Nat} {held:Bool}
theorem open_bytes1 {t q:TypeId} {fuel:Nat} {c4:Value} {x:DataW H × List MemPlace} (h4:P.underlying t = some (.slice q)) (hq:P.underlying q = some (.int .u8)) (cq:P.cellsOf q = 1) (g4:DataW.trod enc P w base (fun _=>true) held fuel t [c4] = some x):∃ p m c bs,c4 = .slice p m c∧Sl B8 w p m c bs:=by
 rcases open_ints h4 hq cq g4 with ⟨hcs,_⟩ | ⟨x,l,c,zs,hcs,_,hl,hm,hz,_,hcell,hwz⟩
 ·simp at hcs
  exact ⟨none,0,0,[],hcs,Sl.nil0 _ _⟩
 ·simp at hcs
  obtain ⟨xs,hx⟩:=sl_of_row (.inr ⟨_,rfl,hl,hm,by simpa using hz,hcell,hwz⟩)
  exact ⟨_,_,_,xs,hcs,hx⟩
end
end Go.Proofs.YtccaiiigdfieoaaGreatDoor
namespace Go.By
open Go.RowKit
structure SrcD where
 m:UInt8
 xs:List UInt8
 s:Nat
structure SlS (w:World) (p:Option Addr) (n c:Nat) (by_:List SrcD):Prop where
 len:by_.length = n
 max:c≤maxLen
 le:n≤c
 rs:∀ k a,by_[k]? = some a→∃ b o q j c',p = some ⟨b,o,none⟩∧w.cell? ⟨b,o + k * 3,none⟩ = some (B8 a.m)∧w.cell? ⟨b,o + k * 3 + 1,none⟩ = some (.slice q j c')∧w.cell? ⟨b,o + k * 3 + 2,none⟩ = some (.int .u64 (a.s:Nat))∧Sl B8 w q j c' a.xs∧a.s < 18446744073709551616
theorem SlS.keep {w w':World} {p:Option Addr} {n c:Nat} {l:List SrcD} (h:SlS w p n c l) (hb:Below w.heap.size w w'):SlS w' p n c l :=
 ⟨h.len,h.max,h.le,fun k a hk=>by
  obtain ⟨b,o,q,j,c',hp,h0,h1,h2,h3,h4⟩:=h.rs k a hk
  have hlt:=lt_of_cell h0
  exact ⟨b,o,q,j,c',hp,(hb.cell (p:=⟨b,o + k * 3,none⟩) hlt).trans h0,(hb.cell (p:=⟨b,o + k * 3 + 1,none⟩) hlt).trans h1,(hb.cell (p:=⟨b,o + k * 3 + 2,none⟩) hlt).trans h2,h3.keep hb,h4⟩⟩
theorem SlS.bound {w:World} {p:Option Addr} {n c:Nat} {l:List SrcD} (h:SlS w p n c l):n≤9223372036854775807:=by have:=h.le;have:=h.max;unfold maxLen at this;omega
theorem SlS.at {w:World} {p:Option Addr} {n c:Nat} {l:List SrcD} (h:SlS w p n c l) {i:Nat} (hi:i < n):∃ b o q j c' a,p = some ⟨b,o,none⟩∧Hid (l[i]? = some a)∧w.cell? ⟨b,o + i * 3,none⟩ = some (B8 a.m)∧w.cell? ⟨b,o + i * 3 + 1,none⟩ = some (.slice q j c')∧w.cell? ⟨b,o + i * 3 + 2,none⟩ = some (.int .u64 (a.s:Nat))∧Sl B8 w q j c' a.xs∧a.s < 18446744073709551616:=by
 have e:l[i]? = some (l[i]'(by rw [h.len];exact hi)):=List.getElem?_eq_getElem _
 obtain ⟨b,o,q,j,c',hp,r⟩:=h.rs i _ e
 exact ⟨b,o,q,j,c',_,hp,e,r⟩
end Go.By
namespace Go.Proofs.YtccaiiigdfieoaaGreatDoor
open Go.RowKit Go.By Go.ChangeShapes Go.WideShapes Go.Deep
section
variable {H:Type} {enc:TypeId × Value→H} {P:Program} {w:World} {base:Nat} {held:Bool}
theorem trod_struct3 {t:TypeId} {f0 f1 f2:Field} {fuel:Nat} {cs:List Value} {x:DataW H × List MemPlace} {spare:Nat→Bool} (ht:P.underlying t = some (.struct #[f0,f1,f2])) (h:DataW.trod enc P w base spare held fuel t cs = some x) :
  ∃ y0 y1 y2 n,cs.length = P.cellsOf t∧DataW.trod enc P w base spare held n f0.type ((cs.drop f0.offset).take (P.cellsOf f0.type)) = some y0 ∧
   DataW.trod enc P w base spare held n f1.type ((cs.drop f1.offset).take (P.cellsOf f1.type)) = some y1∧DataW.trod enc P w base spare held n f2.type ((cs.drop f2.offset).take (P.cellsOf f2.type)) = some y2:=by
 obtain ⟨xs,n,_,rfl,hl,hlen,hf⟩:=DataW.trod_struct ht h
 match xs,hlen with
 | [y0,y1,y2],_=>exact ⟨y0,y1,y2,n,hl,by simpa using hf 0 f0 rfl,by simpa using hf 1 f1 rfl,by simpa using hf 2 f2 rfl⟩
theorem list3 {α:Type} {cs:List α} (h:cs.length = 3):∃ c0 c1 c2,cs = [c0,c1,c2]:=by
 match cs,h with
 | [c0,c1,c2],_=>exact ⟨c0,c1,c2,rfl⟩
theorem open_src {t q:TypeId} {f0 f1 f2:Field} {fuel:Nat} {cs:List Value} {x:DataW H × List MemPlace} (ht:P.underlying t = some (.struct #[f0,f1,f2])) (hone:oneCellFields P #[f0,f1,f2] = true) (hC:P.cellsOf t = 3)
  (h0:P.underlying f0.type = some (.int .u8)) (h1:P.underlying f1.type = some (.slice q)) (h2:P.underlying f2.type = some (.int .u64)) (hq:P.underlying q = some (.int .u8)) (cq:P.cellsOf q = 1)
  (h:DataW.trod enc P w base (fun _=>true) held fuel t cs = some x) :
  ∃ (a:SrcD) (p:Option Addr) (m c:Nat),cs = [B8 a.m,.slice p m c,.int .u64 (a.s:Nat)]∧Sl B8 w p m c a.xs∧a.s < 18446744073709551616:=by
 obtain ⟨y0,y1,y2,n,hl,g0,g1,g2⟩:=trod_struct3 ht h
 obtain ⟨c0,c1,c2,rfl⟩:=list3 (hl.trans hC)
 obtain ⟨o0,k0⟩:=hone_of hone 0 f0 rfl
 obtain ⟨o1,k1⟩:=hone_of hone 1 f1 rfl
 obtain ⟨o2,k2⟩:=hone_of hone 2 f2 rfl
 rw [o0,k0] at g0;rw [o1,k1] at g1;rw [o2,k2] at g2
 obtain ⟨d,e0,-,w0⟩:=DataW.trod_int h0 g0
 obtain ⟨p,m,c,bs,e1,hs⟩:=open_bytes1 h1 hq cq g1
 obtain ⟨s,e2,-,w2⟩:=DataW.trod_int h2 g2
 have b0:0≤d∧d≤255:=by
  simp [Lit.wf,IntKind.min,IntKind.max,IntKind.signed,IntKind.bits] at w0
  omega
 have b2:0≤s∧s≤18446744073709551615:=by
  simp [Lit.wf,IntKind.min,IntKind.max,IntKind.signed,IntKind.bits] at w2
  omega
 obtain ⟨sn,rfl⟩:=Int.eq_ofNat_of_zero_le b2.1
 obtain ⟨xd,hxd,-⟩:=byte_of_wf w0
 simp at e0 e2
 subst e0;subst e1;subst e2
 exact ⟨⟨xd,bs,sn⟩,p,m,c,by show [_,_,_] = [B8 xd,_,_];rw [hxd],hs,by show sn < 18446744073709551616;have:=b2.2;omega⟩
theorem open_srcs {t e q:TypeId} {f0 f1 f2:Field} {fuel:Nat} {cs:List Value} {x:DataW H × List MemPlace} (ht:P.underlying t = some (.slice e)) (he:P.underlying e = some (.struct #[f0,f1,f2])) (hone:oneCellFields P #[f0,f1,f2] = true) (hC:P.cellsOf e = 3)
  (h0:P.underlying f0.type = some (.int .u8)) (h1:P.underlying f1.type = some (.slice q)) (h2:P.underlying f2.type = some (.int .u64)) (hq:P.underlying q = some (.int .u8)) (cq:P.cellsOf q = 1)
  (h:DataW.trod enc P w base (fun _=>true) held fuel t cs = some x):∃ p n c l,cs = [.slice p n c]∧SlS w p n c l:=by
 rcases open_slice ht h with ⟨hcs,_⟩ | ⟨a,len,cap,m,n,D,Pl,rfl,hb,hl,hm,hmm,rfl,hx⟩
 ·exact ⟨none,0,0,[],hcs,⟨rfl,by simp [maxLen],Nat.le_refl _,fun k a hk=>by simp at hk⟩⟩
 simp only [if_true] at hmm
 have hmm':=hmm.symm
 subst hmm'
 have hsp:0 < len→a.spot = none:=fun h=>by
  obtain ⟨cs',hc,htr⟩:=hx 0 (by omega)
  obtain ⟨y,p,m',c',rfl,-⟩:=open_src he hone hC h0 h1 h2 hq cq htr
  obtain ⟨_,_,hcell⟩:=World.cells?_some hc
  have z0:=hcell 0 (by omega)
  simpa [Addr.add] using World.cell?_spot (z0.trans rfl)
 have each:∀ k,k < len→∃ y:SrcD,∃ b o q j c',a = ⟨b,o,none⟩∧w.cell? ⟨b,o + k * 3,none⟩ = some (B8 y.m)∧w.cell? ⟨b,o + k * 3 + 1,none⟩ = some (.slice q j c')∧w.cell? ⟨b,o + k * 3 + 2,none⟩ = some (.int .u64 (y.s:Nat))∧Sl B8 w q j c' y.xs∧y.s < 18446744073709551616:=by
  intro k hk
  obtain ⟨cs',hc,htr⟩:=hx k (by omega)
  obtain ⟨y,p,m',c',rfl,hs,hb1⟩:=open_src he hone hC h0 h1 h2 hq cq htr
  obtain ⟨_,_,hcell⟩:=World.cells?_some hc
  rw [hC] at hcell
  obtain ⟨b,o,spot⟩:=a
  have z0:=hcell 0 (by omega)
  have hspot:spot = none:=hsp (by omega)
  subst hspot
  have z1:=hcell 1 (by omega);have z2:=hcell 2 (by omega)
  simp only [add_plain] at z0 z1 z2
  exact ⟨y,b,o,p,m',c',rfl,z0,z1,z2,hs,hb1⟩
 obtain ⟨f,hf⟩:∃ f:Nat→SrcD,∀ k,k < len→∃ b o q j c',a = ⟨b,o,none⟩∧w.cell? ⟨b,o + k * 3,none⟩ = some (B8 (f k).m)∧w.cell? ⟨b,o + k * 3 + 1,none⟩ = some (.slice q j c')∧w.cell? ⟨b,o + k * 3 + 2,none⟩ = some (.int .u64 ((f k).s:Nat))∧Sl B8 w q j c' (f k).xs∧(f k).s < 18446744073709551616 :=
  ⟨fun k=>if hk:k < len then Classical.choose (each k hk) else ⟨0,[],0⟩,fun k hk=>by simp only [dif_pos hk];exact Classical.choose_spec (each k hk)⟩
 refine ⟨some a,len,cap,(List.range len).map f,rfl,⟨by simp,hm,hl,fun k y hk=>?_⟩⟩
 rw [List.getElem?_map] at hk
 cases hr:(List.range len)[k]? with
 | none=>rw [hr] at hk;simp at hk
 | some k' =>
  rw [hr] at hk
  obtain ⟨hk1,hk2⟩:=List.getElem?_eq_some_iff.1 hr
  simp at hk1 hk2 hk
  subst hk2;subst hk
  obtain ⟨b,o,q,j,c',e,r⟩:=hf k hk1
  exact ⟨b,o,q,j,c',by rw [e],r⟩
end
end Go.Proofs.YtccaiiigdfieoaaGreatDoor
namespace Go.Proofs.YtccaiiigdfieoaaGreatDoor
open Go.RowKit Go.By
def small19 (l s n:Int):Bool:=if checkS l s n = 0 then decide (n≤12) && decide (s≤20) else true
set_option maxRecDepth 100000 in
set_option maxHeartbeats 1000000 in
theorem Small19_any (l s n d:Int) (w:World) (hl2:l≤9223372036854775807) :
  Calls Tryz.prog 26 #[.agg #[.int .i64 l,.int .i64 s,.int .i64 n,.int .u32 d]] w fun e w'=>e = .returned (.bool (small19 l s n))∧Below w.heap.size w w':=by
 have HC:=Lib.hid (fun w=>Check_any l s n d w hl2)
 have HS:Hid (small19 l s n = if checkS l s n = 0 then decide (n≤12) && decide (s≤20) else true):=rfl
 generalize small19 l s n = R at *
 generalize checkS l s n = C at *
 by_cases hc:C = 0
 ·subst hc
  by_cases hn:n≤12
  ·by_cases hs:s≤20
   ·have HR:Hid (R = true):=by show _ = _;rw [HS.out,if_pos rfl,decide_eq_true hn,decide_eq_true hs];rfl
    clear HS
    go_enter Tryz.func26,Tryz.ntmps26
    go_wp2_with fail
    refine Calls.mono (HC.out _) ?_
    rintro e w1 ⟨rfl,hb⟩
    obtain ⟨hb1,h1,hsz⟩:=one_of hb
    obtain ⟨c0,c1,c2,c3⟩:=cells_four h1
    have HB:=Lib.hid hb1
    clear hb hb1
    go_wp2
    go_ret
    exact ⟨by rw [HR.out];first | rfl | (simp only [decide_eq_true hs];rfl),HB.out⟩
   ·have hs':¬ s≤20:=by omega
    have HR:Hid (R = false):=by show _ = _;rw [HS.out,if_pos rfl,decide_eq_true hn,decide_eq_false hs'];rfl
    clear HS
    go_enter Tryz.func26,Tryz.ntmps26
    go_wp2_with fail
    refine Calls.mono (HC.out _) ?_
    rintro e w1 ⟨rfl,hb⟩
    obtain ⟨hb1,h1,hsz⟩:=one_of hb
    obtain ⟨c0,c1,c2,c3⟩:=cells_four h1
    have HB:=Lib.hid hb1
    clear hb hb1
    go_wp2
    go_ret
    exact ⟨by rw [HR.out];first | rfl | (simp only [show decide (s≤20) = false from decide_eq_false (by omega)];rfl),HB.out⟩
  ·have HR:Hid (R = false):=by show _ = _;rw [HS.out,if_pos rfl,decide_eq_false hn];rfl
   clear HS
   go_enter Tryz.func26,Tryz.ntmps26
   go_wp2_with fail
   refine Calls.mono (HC.out _) ?_
   rintro e w1 ⟨rfl,hb⟩
   obtain ⟨hb1,h1,hsz⟩:=one_of hb
   obtain ⟨c0,c1,c2,c3⟩:=cells_four h1
   have HB:=Lib.hid hb1
   clear hb hb1
   go_wp2
   go_ret
   exact ⟨by rw [HR.out];rfl,HB.out⟩
 ·have hz:(C != 0) = true:=bne_iff_ne.2 hc
  have HR:Hid (R = true):=by show _ = _;rw [HS.out,if_neg hc]
  clear HS hc
  go_enter Tryz.func26,Tryz.ntmps26
  go_wp2_with fail
  refine Calls.mono (HC.out _) ?_
  rintro e w1 ⟨rfl,hb⟩
  obtain ⟨hb1,h1,hsz⟩:=one_of hb
  have HB:=Lib.hid hb1
  clear hb hb1
  go_wp2
  go_ret
  exact ⟨by rw [HR.out];rfl,HB.out⟩
end Go.Proofs.YtccaiiigdfieoaaGreatDoor
namespace Go.Proofs.YtccaiiigdfieoaaGreatDoor
open Go.RowKit Go.By Gf Go.Maps
theorem read_roomT {L t k D:Nat} {xs:List UInt8} (hP:POK L t k D) (h:readC k t D xs = 0):xs.length≤140737488355328:=by
 unfold readC at h
 split at h
 ·rename_i hh;exact absurd h hh
 ·split at h
  ·cases h
  ·rename_i hl
   have hl:xs.length = lenP (xs.getD 1 0) k t:=by
    rcases Nat.lt_trichotomy xs.length (lenP (xs.getD 1 0) k t) with g | g | g
    ·exact absurd (Nat.ne_of_lt g) hl
    ·exact g
    ·exact absurd (Nat.ne_of_gt g) hl
   rw [hl]
   unfold lenP widS
   have:=hP.k2;have:=hP.t2
   split
   ·omega
   ·split <;> omega
end Go.Proofs.YtccaiiigdfieoaaGreatDoor
namespace Go.Proofs.YtccaiiigdfieoaaGreatDoor
open Go.RowKit Go.By
end Go.Proofs.YtccaiiigdfieoaaGreatDoor
namespace Go.Proofs.YtccaiiigdfieoaaGreatDoor
open Go.RowKit Go.By
end Go.Proofs.YtccaiiigdfieoaaGreatDoor
namespace Go.By
open Go.RowKit
def Bt (T1:Nat) (w:World) (base:Nat) (v:Value) (xs:List UInt8):Prop:=∃ q m c,v = .slice q m c∧w.ownsRow base T1 1 (.slice q m c) m (xs.map B8)
abbrev Par:=Value × Int × List UInt8
def parOf (t:Par):Value × Int:=(t.1,t.2.1)
def blks (ts:List Par):List Nat:=ts.filterMap fun t=>t.1.ownBlock
structure Pl (TP T1:Nat) (w:World) (base:Nat) (v:Value) (n:Nat) (ts:List Par):Prop where
 len:ts.length = n
 own:w.ownsRow base TP 2 v n (pcs (ts.map parOf))
 row:∀ t,t ∈ ts→Bt T1 w base t.1 t.2.2
 dis:(blks ts).Nodup
section
variable {TP T1:Nat} {w w':World} {base n:Nat} {v:Value} {ts:List Par}
theorem Bt.keep {xs:List UInt8} (h:Bt T1 w base v xs) (hb:Below w.heap.size w w'):Bt T1 w' base v xs:=by
 obtain ⟨q,m,c,rfl,h⟩:=h;exact ⟨q,m,c,rfl,owns_keep h hb⟩
theorem Bt.one {xs:List UInt8} (h:Bt T1 w base v xs):v.oneCell' = true:=by obtain ⟨q,m,c,rfl,h⟩:=h;rfl
theorem Bt.lt {xs:List UInt8} (h:Bt T1 w base v xs):∀ b,v.ownBlock = some b→base≤b∧b < w.heap.size:=by
 obtain ⟨q,m,c,rfl,h⟩:=h;exact h.lt
theorem Bt.grown {xs:List UInt8} {u:Value} {L:List Value} {m:Nat} (h:Bt T1 w base v xs) (hT:T1≠TP) (ho:w.ownsRow base TP 2 u m L) (hg:w.grownBy w' u.ownBlock):Bt T1 w' base v xs:=by
 obtain ⟨q,m,c,rfl,h⟩:=h;exact ⟨q,m,c,rfl,owns_kept h hg (owns_ne h ho hT)⟩
theorem Pl.keep (h:Pl TP T1 w base v n ts) (hb:Below w.heap.size w w'):Pl TP T1 w' base v n ts :=
 ⟨h.len,owns_keepv h.own hb,fun t ht=>(h.row t ht).keep hb,h.dis⟩
theorem blks_append (a b:List Par):blks (a ++ b) = blks a ++ blks b:=by simp [blks]
theorem Pl.blt (h:Pl TP T1 w base v n ts):∀ b,b ∈ blks ts→base≤b∧b < w.heap.size:=by
 intro b hb
 obtain ⟨t,ht,e⟩:=List.mem_filterMap.1 hb
 exact (h.row t ht).lt b e
theorem Pl.push {w1 w2:World} {u x:Value} {k:Int} {xs:List UInt8} (h:Pl TP T1 w1 base v n ts) (hT:T1≠TP) (hx:Bt T1 w2 w1.heap.size x xs) (hbase:base≤w1.heap.size) (hb:Below w1.heap.size w1 w2) (ho:w'.ownsRow base TP 2 u (n + 1) (pcs (ts.map parOf) ++ [x,.int .i64 k])) (hg:w2.grownBy w' v.ownBlock) :
  Pl TP T1 w' base u (n + 1) (ts ++ [(x,k,xs)]):=by
 have h2:=h.keep hb
 have hx2:Bt T1 w2 base x xs:=by obtain ⟨q,m,c,rfl,h⟩:=hx;exact ⟨q,m,c,rfl,owns_mono h hbase⟩
 refine ⟨by simp [h.len],?_,fun t ht=>?_,?_⟩
 ·rw [List.map_append,pcs_append];exact ho
 ·rcases List.mem_append.1 ht with ht | ht
  ·exact (h2.row t ht).grown hT h2.own hg
  ·simp at ht;subst ht;exact hx2.grown hT h2.own hg
 ·rw [blks_append,List.nodup_append]
  refine ⟨h.dis,?_,?_⟩
  ·cases hb:x.ownBlock <;> simp [blks,hb]
  ·intro a ha b hb' e
   subst e
   obtain ⟨t,ht,e⟩:=List.mem_filterMap.1 hb'
   simp at ht;subst ht
   have:=(hx.lt a e).1
   have:=(h.blt a ha).2
   omega
end
end Go.By
namespace Go.Proofs.YtccaiiigdfieoaaGreatDoor
open Go.RowKit Go.By
end Go.Proofs.YtccaiiigdfieoaaGreatDoor
namespace Go.Proofs.YtccaiiigdfieoaaGreatDoor
open Go.RowKit Go.By
def dropAt {α:Type} (ps:List α) (i:Nat):List α:=ps.take i ++ ps.drop (i + 1)
def putAtP {α:Type} (ps:List α) (k:Nat) (p:α):List α:=ps.take k ++ p :: ps.drop k
end Go.Proofs.YtccaiiigdfieoaaGreatDoor
namespace Go.Proofs.YtccaiiigdfieoaaGreatDoor
open Go.RowKit Go.By
end Go.Proofs.YtccaiiigdfieoaaGreatDoor
namespace Go.Proofs.YtccaiiigdfieoaaGreatDoor
open Go.RowKit Go.By
def cutP (p:List UInt8 × Int) (j:Nat):List UInt8 × Int:=if j < p.1.length then (p.1.take j,-1) else p
end Go.Proofs.YtccaiiigdfieoaaGreatDoor
namespace Go.Proofs.YtccaiiigdfieoaaGreatDoor
open Go.RowKit Go.By
def flip (xs:List UInt8) (at':Nat):List UInt8:=xs.set (at' / 8) ((xs.getD (at' / 8) 0) ^^^ UInt8.ofNat (2 ^ (at' % 8)))
def maskF (b j:Nat) (xs:List UInt8):Nat→List UInt8 × Bool
 | 0=>(xs,false)
 | k + 1=>if b.testBit k = true∧(j + k) / 8 < xs.length then (flip (maskF b j xs k).1 (j + k),true) else maskF b j xs k
end Go.Proofs.YtccaiiigdfieoaaGreatDoor
namespace Go.Proofs.YtccaiiigdfieoaaGreatDoor
open Go.RowKit Go.By
def maskP (p:List UInt8 × Int) (b j:Nat):List UInt8 × Int:=((maskF b j p.1 32).1,if (maskF b j p.1 32).2 then -1 else p.2)
end Go.Proofs.YtccaiiigdfieoaaGreatDoor
namespace Go.Proofs.YtccaiiigdfieoaaGreatDoor
open Go.RowKit Go.By
structure ActD where
 d:Int
 i:Int
 j:Int
 b:Nat
 bs:List UInt8
abbrev Pack:=List UInt8 × Int
def stepS (ps:List Pack) (a:ActD):List Pack :=
 if a.d < 0∨6≤a.d∨a.j < 0 then ps
 else if a.d = 5 then ps ++ [(a.bs,-1)]
 else match ps[a.i.toNat]? with
  | none=>ps
  | some p=>if a.i < 0 then ps
   else if a.d = 0 then dropAt ps a.i.toNat
   else if a.d = 1 then ps ++ [p]
   else if a.d = 2 then putAtP (dropAt ps a.i.toNat) (min a.j.toNat (ps.length - 1)) p
   else if a.d = 3 then ps.set a.i.toNat (cutP p a.j.toNat)
   else ps.set a.i.toNat (maskP p a.b a.j.toNat)
end Go.Proofs.YtccaiiigdfieoaaGreatDoor
namespace Go.Proofs.YtccaiiigdfieoaaGreatDoor
open Go.RowKit Go.By Go.ChangeShapes Go.WideShapes Go.Deep
section
variable {H:Type} {enc:TypeId × Value→H} {P:Program} {w:World} {base:Nat} {held:Bool}
instance:Inhabited ActD:=⟨⟨0,0,0,0,[]⟩⟩
end
end Go.Proofs.YtccaiiigdfieoaaGreatDoor
namespace Go.Proofs.YtccaiiigdfieoaaGreatDoor
open Go.RowKit Go.By
end Go.Proofs.YtccaiiigdfieoaaGreatDoor
namespace Go.Proofs.YtccaiiigdfieoaaGreatDoor
open Go.RowKit Go.By
end Go.Proofs.YtccaiiigdfieoaaGreatDoor
namespace Go.Proofs.YtccaiiigdfieoaaGreatDoor
open Go.RowKit Go.By
end Go.Proofs.YtccaiiigdfieoaaGreatDoor
namespace Go.Proofs.YtccaiiigdfieoaaGreatDoor
open Go.RowKit Go.By
end Go.Proofs.YtccaiiigdfieoaaGreatDoor
namespace Go.Proofs.YtccaiiigdfieoaaGreatDoor
open Go.RowKit Go.By
end Go.Proofs.YtccaiiigdfieoaaGreatDoor
namespace Go.Proofs.YtccaiiigdfieoaaGreatDoor
open Go.RowKit Go.By Gf Go.Maps
section
variable {wI w0 w w':World} {gs gt be base L t k D nx N st:Nat} {FX:List (List UInt8)} {v:Value} {K:List Rw}
end
theorem GChg.one {w:World} {g i:Nat} (v:Value):GChg w g (w.setCell ⟨g,i,none⟩ v):=(GChg.of g (Below.refl _ _)).set v
end Go.Proofs.YtccaiiigdfieoaaGreatDoor
namespace Go.By
open Go.RowKit Go.Proofs.YtccaiiigdfieoaaGreatDoor
end Go.By
namespace Go.By
open Go.RowKit Go.Proofs.YtccaiiigdfieoaaGreatDoor
end Go.By
namespace Go.Proofs.YtccaiiigdfieoaaGreatDoor
open Go.RowKit Go.By
end Go.Proofs.YtccaiiigdfieoaaGreatDoor
namespace Go.Proofs.YtccaiiigdfieoaaGreatDoor
open Go.RowKit Go.By
end Go.Proofs.YtccaiiigdfieoaaGreatDoor
namespace Go.Proofs.YtccaiiigdfieoaaGreatDoor
open Go.RowKit Go.By
end Go.Proofs.YtccaiiigdfieoaaGreatDoor
namespace Go.By
open Go.RowKit
end Go.By
namespace Go.By
open Go.RowKit
end Go.By
namespace Go.Proofs.YtccaiiigdfieoaaGreatDoor
open Go.RowKit Go.By
end Go.Proofs.YtccaiiigdfieoaaGreatDoor
namespace Go.By
open Go.RowKit
end Go.By
namespace Go.Proofs.YtccaiiigdfieoaaGreatDoor
open Go.RowKit Go.By
end Go.Proofs.YtccaiiigdfieoaaGreatDoor
namespace Go.By
open Go.RowKit
end Go.By
namespace Go.Proofs.YtccaiiigdfieoaaGreatDoor
open Go.RowKit Go.By
end Go.Proofs.YtccaiiigdfieoaaGreatDoor
namespace Go.Proofs.YtccaiiigdfieoaaGreatDoor
open Go.RowKit Go.By
end Go.Proofs.YtccaiiigdfieoaaGreatDoor
namespace Go.Proofs.YtccaiiigdfieoaaGreatDoor
open Go.RowKit Go.By
end Go.Proofs.YtccaiiigdfieoaaGreatDoor
namespace Go.Proofs.YtccaiiigdfieoaaGreatDoor
open Go.RowKit Go.By
end Go.Proofs.YtccaiiigdfieoaaGreatDoor
namespace Go.By
open Go.RowKit
theorem RwS.take {w:World} {p:Option Addr} {n c j:Nat} {K:List (List UInt8 × List UInt8)} (h:RwS w p n c K) (hj:j≤n):RwS w p j c (K.take j) :=
 ⟨by rw [List.length_take,h.len];omega,Nat.le_trans hj h.le,h.max,fun e=>⟨by have:=h.nil e;omega,(h.nil e).2⟩,fun i k hi=>by
  rw [List.getElem?_take] at hi
  split at hi
  ·exact h.row i k hi
  ·cases hi⟩
end Go.By
namespace Go.Proofs.YtccaiiigdfieoaaGreatDoor
open Go.RowKit Go.By
end Go.Proofs.YtccaiiigdfieoaaGreatDoor
namespace Go.By
open Go.RowKit Go.Proofs.YtccaiiigdfieoaaGreatDoor Gf Go.Maps
section
variable {wI w w':World} {q:Option Addr} {n c:Nat} {X:List Rw}
end
end Go.By
namespace Go.By
open Go.RowKit Go.Proofs.YtccaiiigdfieoaaGreatDoor
end Go.By
namespace Go.Proofs.YtccaiiigdfieoaaGreatDoor
open Go.RowKit Go.By Gf Go.Maps
end Go.Proofs.YtccaiiigdfieoaaGreatDoor
namespace Go.Proofs.YtccaiiigdfieoaaGreatDoor
open Go.RowKit Go.By
end Go.Proofs.YtccaiiigdfieoaaGreatDoor
namespace Go.Proofs.YtccaiiigdfieoaaGreatDoor
open Go.RowKit Go.By
end Go.Proofs.YtccaiiigdfieoaaGreatDoor
namespace Go.Proofs.YtccaiiigdfieoaaGreatDoor
open Go.RowKit Go.By
theorem pok523:POK 5 2 3 7:=⟨by decide,by decide,by decide,by decide,by decide,by decide,by decide⟩
theorem of527:ofS 5 2 7 = .tuple #[PVal 5 2 3 7,.int .i64 0]:=by
 have h:fitS 5 2 = 0:=by decide
 have h2:needS 5 2 = 3:=by decide
 unfold ofS;rw [if_pos h,h2];rfl
end Go.Proofs.YtccaiiigdfieoaaGreatDoor
namespace Go.Proofs.YtccaiiigdfieoaaGreatDoor
open Go.RowKit Go.By Go.Maps
end Go.Proofs.YtccaiiigdfieoaaGreatDoor
namespace Go.Proofs.YtccaiiigdfieoaaGreatDoor
open Go.RowKit Go.By Go.Maps
theorem PrO.at {w:World} {base:Nat} {q:Option Addr} {n c:Nat} {L:List (Nat × Nat)} (h:PrO w base q n c L) {i:Nat} (hi:i < n):∃ g x y,q = some ⟨g,0,none⟩∧w.cell? ⟨g,i * 2,none⟩ = some (.int .i64 ((x:Nat):Int))∧w.cell? ⟨g,i * 2 + 1,none⟩ = some (.int .i64 ((y:Nat):Int))∧Hid (L[i]? = some (x,y)):=by
 obtain ⟨hl,ho⟩:=h
 obtain ⟨g,cur,rfl,hb,hh,h1,h2,h3,h4⟩:=owns2_open ho (by omega)
 obtain ⟨p,hp⟩:∃ p,L[i]? = some p:=⟨_,List.getElem?_eq_getElem (by omega)⟩
 obtain ⟨e1,e2⟩:=prC_at hp
 rw [← h4,List.getElem?_take,if_pos (by omega)] at e1 e2
 exact ⟨g,p.1,p.2,rfl,by rw [cell_arr hh];exact e1,by rw [cell_arr hh];exact e2,hp⟩
theorem PrO.max {w:World} {base:Nat} {q:Option Addr} {n c:Nat} {L:List (Nat × Nat)} (h:PrO w base q n c L):n≤9223372036854775807:=by
 rcases Nat.eq_zero_or_pos n with e | e
 ·omega
 ·obtain ⟨_,_,_,_,_,h1,h2,_⟩:=owns2_open h.2 e
  unfold maxLen at h2;omega
theorem map527:mapT 3 (knS 3 []) = [46,46,46]:=by decide +kernel
theorem cnt527:cntB (knS 3 []) 3 = 0:=by decide +kernel
theorem view527:viewT 0 0 3 3 0 = [112,101,110,100,105,110,103,32,48,47,51,32,51,32,48]:=by decide +kernel
set_option maxRecDepth 100000 in
set_option maxHeartbeats 2000000 in
theorem awake25 (w:World) (hT:Tab10 w):Calls Tryz.prog 34 #[] w fun e w'=>e = .returned (.bool true)∧Below w.heap.size w w':=by
 have HT:=Lib.hid hT
 have HOf:Hid (∀ w,Calls Tryz.prog 44 #[.int .i64 5,.int .i64 2,.int .u32 7] w fun e w'=>e = .returned (.tuple #[PVal 5 2 3 7,.int .i64 0])∧Below w.heap.size w w'):=fun w=>by have:=POf_any 5 2 7 w (by decide);rw [of527] at this;exact this
 clear hT
 go_enter Tryz.func34,Tryz.ntmps34
 go_wp2_with fail
 refine Calls.mono (HOf.out w) ?_
 rintro e w1 ⟨rfl,hb1⟩
 have HB1:=Lib.hid hb1
 clear hb1
 go_wp2_with fail
 have ba:=al (o:=.cells #[.int .i64 5,.int .i64 2,.int .i64 3,.int .u32 7] 27 (0,0)) (Below.refl w1.heap.size w1) (Nat.le_refl _)
 refine Calls.mono (TNew_ok 5 2 3 7 _ pok523) ?_
 rintro e w2 ⟨gt,be,v,rfl,ht,hb⟩
 have HB2:=Lib.hid (bl (bl HB1.out ba HB1.out.size) hb (bl HB1.out ba HB1.out.size).size)
 have hM:Calls _ _ _ _ _:=VMap_any _ gt be 5 2 3 7 0 _ v _ [] 0 w2 ht
 have HO:Hid (∀ W,Below w2.heap.size w2 W→Calls Tryz.prog 35 #[.pointer (some ⟨gt,0,none⟩)] W fun e w'=>e = .returned (VwV 5 2 3 7 0 0 3 0)∧Below W.heap.size W w'):=fun W hW=>by
  have:=VOf_any _ gt be 5 2 3 7 0 _ v _ [] 0 W (ht.keep hW)
  rw [cnt527] at this
  exact this
 rw [map527] at hM
 have HM:=Lib.hid hM
 have hw1:((strB [46,46,46]).toList == [46,46,46]) = true:=by rw [ByteArray.toList_eq,strB_data];rfl
 have hw2:((strB (viewT 0 0 3 3 0)).toList == [112,101,110,100,105,110,103,32,48,47,51,32,51,32,48]) = true:=by rw [view527,ByteArray.toList_eq,strB_data];rfl
 have HX:Hid (∀ W,Tab10 W→Calls Tryz.prog 39 #[VwV 5 2 3 7 0 0 3 0] W fun e w'=>e = .returned (.string (strB (viewT 0 0 3 3 0)))∧Below W.heap.size W w'):=fun W hW=>VText_any 5 2 3 7 0 0 3 0 W hW (.inl rfl) (by decide) (by decide) (by decide) (by decide)
 generalize strB [46,46,46] = X at *
 generalize strB (viewT 0 0 3 3 0) = Y at *
 clear ht hb ba hM
 go_wp2_with fail
 refine Calls.mono HM.out ?_
 rintro e w3 ⟨rfl,hb⟩
 have HB3:=Lib.hid (bl HB2.out hb HB2.out.size)
 have HBx:=Lib.hid hb
 clear hb
 go_wp2_with fail
 refine Calls.mono (HO.out w3 HBx.out) ?_
 rintro e w4 ⟨rfl,hb⟩
 have HB4:=Lib.hid (bl HB3.out hb HB3.out.size)
 clear hb
 go_wp2_with fail
 refine Calls.mono (HX.out w4 (HT.out.keep HB4.out)) ?_
 rintro e w5 ⟨rfl,hb⟩
 have HB5:=Lib.hid (bl HB4.out hb HB4.out.size)
 clear hb
 go_wp2
 go_ret
 exact ⟨rfl,HB5.out⟩
end Go.Proofs.YtccaiiigdfieoaaGreatDoor
namespace Go.Proofs.YtccaiiigdfieoaaGreatDoor
open Go.RowKit Go.By Go.Maps
end Go.Proofs.YtccaiiigdfieoaaGreatDoor
namespace Go.By
open Go.RowKit Go.Maps
end Go.By
namespace Go.Proofs.YtccaiiigdfieoaaGreatDoor
open Go.RowKit Go.By Go.Maps
end Go.Proofs.YtccaiiigdfieoaaGreatDoor
namespace Go.By
open Go.RowKit
end Go.By
namespace Go.By
open Go.RowKit Go.Maps Go.Proofs.YtccaiiigdfieoaaGreatDoor
end Go.By
namespace Go.Proofs.YtccaiiigdfieoaaGreatDoor
open Go.RowKit Go.By Go.Maps
end Go.Proofs.YtccaiiigdfieoaaGreatDoor
namespace Go.By
open Go.RowKit Go.Proofs.YtccaiiigdfieoaaGreatDoor Gf
theorem cntB_succ (f:Nat→Bool) (k:Nat):cntB f (k + 1) = cntB f k + (f k).toNat:=by
 show (if f k = true then cntB f k + 1 else cntB f k) = _
 split
 ·rename_i h;rw [h];rfl
 ·rename_i h;rw [Bool.not_eq_true] at h;rw [h];rfl
theorem toNat_or (a b:Bool):(a || b).toNat≤a.toNat + b.toNat:=by cases a <;> cases b <;> decide
theorem cntB_or (f g:Nat→Bool):∀ k,cntB (fun i=>f i || g i) k≤cntB f k + cntB g k
 | 0=>Nat.le_refl _
 | k + 1=>by
  have h1:=cntB_or f g k
  have h2:=toNat_or (f k) (g k)
  rw [cntB_succ,cntB_succ f,cntB_succ g]
  show _ + (f k || g k).toNat≤_
  omega
theorem cntB_one (a:Nat):∀ k,cntB (fun i=>decide (a = i)) k≤if a < k then 1 else 0
 | 0=>Nat.le_refl _
 | k + 1=>by
  have h:=cntB_one a k
  rw [cntB_succ]
  show _ + (decide (a = k)).toNat≤_
  by_cases e:a = k
  ·rw [if_neg (by omega)] at h
   rw [decide_eq_true e,if_pos (by omega)]
   show _ + 1≤1
   omega
  ·rw [decide_eq_false e]
   show _ + 0≤_
   by_cases h2:a < k
   ·rw [if_pos h2] at h;rw [if_pos (by omega)];exact h
   ·rw [if_neg h2] at h;rw [if_neg (by omega)];exact h
theorem cntB_mono {f g:Nat→Bool} (h:∀ i,f i = true→g i = true):∀ k,cntB f k≤cntB g k
 | 0=>Nat.le_refl _
 | k + 1=>by
  have h1:=cntB_mono h k
  have h2:(f k).toNat≤(g k).toNat:=by
   cases hf:f k with
   | true=>rw [h k hf];exact Nat.le_refl _
   | false=>exact Nat.zero_le _
  rw [cntB_succ,cntB_succ]
  omega
theorem cntB_false:∀ k,cntB (fun _=>false) k = 0
 | 0=>rfl
 | k + 1=>by rw [cntB_succ,cntB_false k];rfl
theorem cntB_true:∀ k,cntB (fun _=>true) k = k
 | 0=>rfl
 | k + 1=>by rw [cntB_succ,cntB_true k];rfl
theorem cntB_any (k:Nat):∀ K:List Rw,cntB (fun i=>K.any fun r=>decide (leadN r = i)) k≤K.length
 | []=>by
  have:(fun i=>([]:List Rw).any fun r=>decide (leadN r = i)) = fun _=>false:=rfl
  rw [this,cntB_false];exact Nat.le_refl _
 | r :: K=>by
  have h1:=cntB_any k K
  have h2:=cntB_or (fun i=>decide (leadN r = i)) (fun i=>K.any fun r=>decide (leadN r = i)) k
  have h3:=cntB_one (leadN r) k
  have e:(fun i=>(r :: K).any fun r=>decide (leadN r = i)) = fun i=>decide (leadN r = i) || K.any fun r=>decide (leadN r = i):=by funext i;rw [List.any_cons]
  rw [e,List.length_cons]
  split at h3 <;> omega
theorem known_row {k:Nat} {K:List Rw} {i:Nat} (h:knS k K i = true):∃ r,r ∈ K∧r.1 = (List.replicate k 0).set i 1∧knP k K i = r.2:=by
 unfold knS at h;unfold knP
 unfold knownS at h ⊢
 split at h
 ·cases h
 ·rename_i hu
  rw [if_neg hu]
  cases hf:K.find? (fun r=>decide (r.1 = (unitS k i).1)) with
  | none=>rw [hf] at h;cases h
  | some r =>
   have h1:=List.find?_some hf
   have h2:=of_decide_eq_true h1
   refine ⟨r,List.mem_of_find?_eq_some hf,?_,rfl⟩
   rw [h2]
   unfold unitS at hu ⊢
   split
   ·rename_i h3;rw [if_pos h3] at hu;exact absurd (by decide) hu
   ·simp
theorem lead_unit {k i:Nat} (hi:i < k):leadS ((List.replicate k (0:UInt8)).set i 1) = (i:Int):=by
 refine idxf_found (x:=1) ?_ (by decide) ?_
 ·rw [List.getElem?_set];simp;omega
 ·intro j y hj hy
  rw [List.getElem?_set,if_neg (by omega),List.getElem?_replicate] at hy
  split at hy
  ·cases hy;decide
  ·cases hy
theorem cntB_rows (k:Nat) (K:List Rw):cntB (knS k K) k≤K.length:=by
 have h1:cntB (knS k K) k = cntB (fun i=>decide (i < k) && knS k K i) k:=cntB_congr fun j hj=>by rw [decide_eq_true hj];rfl
 rw [h1]
 refine Nat.le_trans (cntB_mono (g:=fun i=>K.any fun r=>decide (leadN r = i)) (fun i hi=>?_) k) (cntB_any k K)
 rw [Bool.and_eq_true] at hi
 have hik:=of_decide_eq_true hi.1
 obtain ⟨r,hr,h2,-⟩:=known_row hi.2
 rw [List.any_eq_true]
 refine ⟨r,hr,decide_eq_true ?_⟩
 unfold leadN
 rw [h2,lead_unit hik]
 rfl
theorem known_all {k t:Nat} {K:List Rw} (h:Red k t K) (hl:K.length = k) (hk:k≤65536) {i:Nat} (hi:i < k):knS k K i = true:=by
 unfold knS
 rw [known_full h hl hk (List.getElem?_eq_getElem (by omega))]
theorem _root_.Go.Proofs.YtccaiiigdfieoaaGreatDoor.OneObj.known {k t:Nat} {FX:List (List UInt8)} {X K:List Rw} (h:OneObj k t FX X K) (hF:∀ x,x ∈ FX→x.length = t) (hk:FX.length = k) {i:Nat} (hi:i < k) (hn:knS k K i = true):knP k K i = FX.getD i []:=by
 obtain ⟨r,hr,hu,hp⟩:=known_row hn
 obtain ⟨hfit,hc⟩:=h.rows r hr
 have hf:FX[i]? = some (FX.getD i []):=by rw [List.getD_eq_getElem?_getD,List.getElem?_eq_getElem (by omega)];rfl
 rw [hp]
 refine vf_inj (by rw [hfit.2,hF _ (List.mem_of_getElem? hf)]) fun j hj=>?_
 have h1:=hc j
 rw [vR_right hfit] at h1
 rw [h1,mulV_congr (v:=unit i) (fun a ha=>?_),mulV_unit (b:=vf (FX.getD i [])) (by rw [List.length_map,hk]) (by rw [List.getElem?_map,hf];rfl)]
 rw [vR_left hfit ha,hu]
 unfold vf unit
 rw [List.getD_eq_getElem?_getD,List.getElem?_set]
 by_cases e:i = a
 ·subst e;rw [if_pos rfl,if_pos (by simpa using hi),if_pos rfl];rfl
 ·rw [if_neg e,if_neg e,List.getElem?_replicate,if_pos ha];rfl
def Sep (f:Nat→Bool) (M:Nat):Nat→List (Nat × Nat)→Prop
 | _,[]=>True
 | a,p :: G=>a≤p.1∧p.1≤p.2∧p.2≤M∧(∀ x,a≤x→x < p.1→f x = true)∧Sep f M p.2 G
def endA:Nat→List (Nat × Nat)→Nat
 | a,[]=>a
 | _,p :: G=>endA p.2 G
theorem endA_snoc:∀ (G:List (Nat × Nat)) (a:Nat) (p:Nat × Nat),endA a (G ++ [p]) = p.2
 | [],_,_=>rfl
 | _ :: G,_,p=>endA_snoc G _ p
theorem sep_snoc {f:Nat→Bool} {M:Nat}:∀ {G:List (Nat × Nat)} {a:Nat} {p:Nat × Nat},Sep f M a (G ++ [p])↔Sep f M a G∧endA a G≤p.1∧p.1≤p.2∧p.2≤M∧(∀ x,endA a G≤x→x < p.1→f x = true)
 | [],a,p=>by simp only [List.nil_append,Sep,endA,true_and,and_true]
 | q :: G,a,p=>by
  simp only [List.cons_append,Sep,endA]
  rw [sep_snoc (G:=G)]
  simp only [and_assoc]
theorem Sep.mono {f:Nat→Bool} {M N:Nat} (hMN:M≤N):∀ {G:List (Nat × Nat)} {a:Nat},Sep f M a G→Sep f N a G
 | [],_,_=>trivial
 | _ :: _,_,⟨h1,h2,h3,h4,h5⟩=>⟨h1,h2,Nat.le_trans h3 hMN,h4,h5.mono hMN⟩
theorem gaps_sep (f:Nat→Bool):∀ n,Sep f n 0 (gapsF f n)∧endA 0 (gapsF f n)≤n∧∀ x,endA 0 (gapsF f n)≤x→x < n→f x = true
 | 0=>⟨trivial,Nat.le_refl _,fun x _ h=>by omega⟩
 | n + 1=>by
  obtain ⟨h1,h2,h3⟩:=gaps_sep f n
  have h1':=h1.mono (Nat.le_succ n)
  cases hf:f n with
  | true =>
   rw [gapsF_yes hf]
   refine ⟨h1',by omega,fun x a b=>?_⟩
   by_cases e:x = n
   ·rw [e,hf]
   ·exact h3 x a (by omega)
  | false =>
   by_cases h0:0 < n∧f (n - 1) = false
   ·obtain ⟨P,a,hP,ha⟩:=gapsF_last h0.1 h0.2
    rw [gapsF_more hf h0.1 h0.2 hP]
    rw [hP,sep_snoc] at h1'
    obtain ⟨s1,s2,s3,s4,s5⟩:=h1'
    refine ⟨sep_snoc.2 ⟨s1,s2,by show a≤n + 1;omega,Nat.le_refl _,s5⟩,by rw [endA_snoc];exact Nat.le_refl _,fun x h4 h5=>?_⟩
    rw [endA_snoc] at h4
    exact absurd h4 (by show ¬ n + 1≤x;omega)
   ·rw [gapsF_new hf h0]
    refine ⟨sep_snoc.2 ⟨h1',h2,Nat.le_succ n,Nat.le_refl _,h3⟩,by rw [endA_snoc];exact Nat.le_refl _,fun x h4 h5=>?_⟩
    rw [endA_snoc] at h4
    exact absurd h4 (by show ¬ n + 1≤x;omega)
theorem gaps_all {f:Nat→Bool}:∀ {n:Nat},(∀ x,x < n→f x = true)→gapsF f n = []
 | 0,_=>rfl
 | n + 1,h=>by rw [gapsF_yes (h n (by omega))];exact gaps_all fun x hx=>h x (by omega)
def gapsE (f:Nat→Bool) (n:Nat):List (Nat × Nat):=gapsF f n ++ [(n,n)]
theorem gapsE_sep (f:Nat→Bool) (n:Nat):Sep f n 0 (gapsE f n):=by
 obtain ⟨h1,h2,h3⟩:=gaps_sep f n
 exact sep_snoc.2 ⟨h1,h2,Nat.le_refl _,Nat.le_refl _,h3⟩
theorem sep_at {f:Nat→Bool} {M:Nat}:∀ {G:List (Nat × Nat)} {a j:Nat} {p:Nat × Nat},Sep f M a G→G[j]? = some p→endA a (G.take j)≤p.1∧p.1≤p.2∧p.2≤M∧(∀ x,endA a (G.take j)≤x→x < p.1→f x = true)∧endA a (G.take (j + 1)) = p.2
 | [],_,_,_,_,h=>by simp at h
 | q :: G,a,0,p,⟨h1,h2,h3,h4,h5⟩,h=>by
  obtain rfl:q = p:=by simpa using h
  exact ⟨h1,h2,h3,h4,rfl⟩
 | q :: G,a,j + 1,p,⟨h1,h2,h3,h4,h5⟩,h=>by
  have:=sep_at (j:=j) h5 (by simpa using h)
  simpa [endA] using this
theorem piece_at {o:List UInt8} {t a:Nat} (ht:1≤t) (ha:a < o.length):(pieceS o t (a / t)).getD (a % t) 0 = o.getD a 0:=by
 unfold pieceS fillC
 have h1:a % t < t:=Nat.mod_lt _ (by omega)
 have h2:a / t * t + a % t = a:=by rw [Nat.mul_comm];exact Nat.div_add_mod a t
 rw [List.getD_eq_getElem?_getD,List.getElem?_append_left (by simp;omega),List.getElem?_take,List.length_replicate,if_pos h1,List.getElem?_drop,h2,List.getD_eq_getElem?_getD]
theorem some_part {k t L:Nat} {o:List UInt8} {X K:List Rw} (h:OneObj k t ((List.range k).map (pieceS o t)) X K) (ht:1≤t) (hL:o.length = L) (hlm:L≤k * t) {a b:Nat} (hb:b≤L) (hk:∀ x,a≤x→x < b→knS k K (x / t) = true):((objL L t (knP k K) (knS k K)).take b).drop a = (o.take b).drop a:=by
 refine List.ext_getElem? fun i=>?_
 rw [List.getElem?_drop,List.getElem?_drop,List.getElem?_take,List.getElem?_take]
 by_cases hi:a + i < b
 ·rw [if_pos hi,if_pos hi,objL_at,if_pos (by omega)]
  have hn:=hk (a + i) (by omega) hi
  have hd:(a + i) / t < k:=(Nat.div_lt_iff_lt_mul (by omega)).2 (by omega)
  unfold objF
  rw [if_pos hn,h.known pieces_len.1 pieces_len.2 hd hn]
  have e:((List.range k).map (pieceS o t)).getD ((a + i) / t) [] = pieceS o t ((a + i) / t):=by
   rw [List.getD_eq_getElem?_getD,List.getElem?_map,List.getElem?_range hd];rfl
  rw [e,piece_at ht (by omega),List.getD_eq_getElem?_getD,List.getElem?_eq_getElem (by omega)]
  rfl
 ·rw [if_neg hi,if_neg hi]
end Go.By
namespace Go.Proofs.YtccaiiigdfieoaaGreatDoor
open Go.RowKit Go.By Gf Go.Maps
theorem slice_partC {q:Option Addr} {n c a b:Nat} {o:List UInt8} {w:World} (h:Sl B8 w q n c o) (hab:a≤b) (hb:b≤n):∃ q' c',(∀ W,(Instr.sliceAt 22 (.slice q n c) (some (.int .i64 (a:Int))) (some (.int .i64 (b:Int))) none).run Tryz.prog W = .ok (.slice q' (b - a) c') W)∧Sl B8 w q' (b - a) c' ((o.take b).drop a):=by
 have hel:Tryz.prog.underlying 22 = some (.slice (Tryz.prog.elem 22)):=by simp [Program.elem,Tryz.underlying22]
 have hle:=h.le
 refine ⟨if c = a then q else q.map (·.add a),c - a,fun W=>?_,?_⟩
 ·rw [run_sliceAt_slice (h:=hel),run_slice_lh (ht:=hel) (h0:=by omega) (h1:=by omega) (h2:=by omega)]
  clear hel
  go_simp
 ·by_cases hc:c = a
  ·rw [if_pos hc]
   have e:(o.take b).drop a = []:=List.drop_eq_nil_of_le (by rw [List.length_take,h.len];omega)
   have e2:b - a = 0:=by omega
   rw [e,e2]
   refine ⟨rfl,by omega,by have:=h.max;omega,fun hq=>⟨rfl,?_⟩,fun i hi=>absurd hi (by simp)⟩
   have:=h.nil hq;omega
  ·rw [if_neg hc]
   cases q with
   | none =>
    obtain ⟨e1,e2⟩:=h.nil rfl
    omega
   | some ad =>
    refine ⟨by rw [List.length_drop,List.length_take,h.len];omega,by omega,by have:=h.max;omega,fun hq=>(by cases hq),fun i hi=>?_⟩
    rw [List.length_drop,List.length_take,h.len] at hi
    obtain ⟨b',o',e,hc'⟩:=h.rs (a + i) (by rw [h.len];omega)
    have e':ad = ⟨b',o',none⟩:=by simpa using e
    subst e'
    refine ⟨b',o' + a,by simp [Addr.add_lit],?_⟩
    rw [show o' + a + i = o' + (a + i) by omega,hc']
    simp
section
variable {wI w0 w w':World} {gs gt be base L t k D nx N st:Nat} {FX:List (List UInt8)} {v:Value} {K:List Rw}
theorem ST_of (h:ST wI w0 w gs gt be base L t k D FX nx N v K st):Calls Tryz.prog 35 #[.pointer (some ⟨gt,0,none⟩)] w fun e w'=>e = .returned (VwV L t k D st K.length (if st = 0 then k - K.length else 0) (cntB (knS k K) k))∧Below w.heap.size w w':=by
 obtain ⟨M,C,h1⟩:=h.tk
 exact VOf_any base gt be L t k D N M v C K st w h1
theorem ST_some (h:ST wI w0 w gs gt be base L t k D FX nx N v K st) (hL:L≤1000000) (hf:(∀ i:Nat,i < k→i * t≤L)∧L≤k * t):Calls Tryz.prog 48 #[.pointer (some ⟨gt,0,none⟩)] w fun e w'=>∃ q1 c1 q2 c2,e = .returned (.tuple #[.slice q1 L c1,.slice q2 L c2])∧Sl B8 w' q1 L c1 (objL L t (knP k K) (knS k K))∧Below w.heap.size w w':=by
 obtain ⟨M,C,h1⟩:=h.tk
 refine (TSome_any base gt be L t k D N M v C K st w h1 hL hf.1 hf.2).mono ?_
 rintro e w' ⟨g1,g2,rfl,-,-,h2,-,hb⟩
 exact ⟨_,_,_,_,rfl,sl_block _ L h2 rfl (by simp [objL]) (by unfold maxLen;omega),hb⟩
theorem ST_gaps (h:ST wI w0 w gs gt be base L t k D FX nx N v K st) (hL:L≤1000000) (hf:(∀ i:Nat,i < k→i * t≤L)∧L≤k * t):Calls Tryz.prog 37 #[.pointer (some ⟨gt,0,none⟩)] w (RetPr w (gapsF (fun a=>knS k K (a / t)) L)):=by
 obtain ⟨M,C,h1⟩:=h.tk
 exact VGaps_any base gt be L t k D N M v C K st w h1 hL hf.1 hf.2
end
end Go.Proofs.YtccaiiigdfieoaaGreatDoor
namespace Go.By
open Go.RowKit Go.Maps Go.Proofs.YtccaiiigdfieoaaGreatDoor
theorem pok_fit {L t k D:Nat} (hP:POK L t k D):(∀ i:Nat,i < k→i * t≤L)∧L≤k * t:=by
 have hk:=(checkS_okC hP.chk).2.2.2.1
 have ht:=hP.t1
 unfold needS at hk
 by_cases h0:L = 0
 ·subst h0
  rw [if_pos (by simp)] at hk
  have:k = 1:=by omega
  subst this
  exact ⟨fun i hi => by have : i = 0 := by omega
                        subst this;simp,by omega⟩
 ·rw [if_neg (by omega)] at hk
  have e:((L:Int) - 1) / (t:Int) = (((L - 1) / t:Nat):Int):=by
   rw [show ((L:Int) - 1) = ((L - 1:Nat):Int) by omega];simp
  rw [e] at hk
  have hk':k = (L - 1) / t + 1:=by omega
  have hd:=Nat.div_add_mod (L - 1) t
  have hm:=Nat.mod_lt (L - 1) (show 0 < t by omega)
  have hc:t * ((L - 1) / t) = (L - 1) / t * t:=Nat.mul_comm _ _
  rw [hk']
  refine ⟨fun i hi=>?_,by rw [Nat.succ_mul];omega⟩
  have:i * t≤(L - 1) / t * t:=Nat.mul_le_mul_right t (by omega)
  omega
end Go.By
namespace Go.Proofs.YtccaiiigdfieoaaGreatDoor
open Go.RowKit Go.By Go.Maps
theorem pok_small {L t k D:Nat} (hP:POK L t k D) (hk:k≤12) (ht:t≤20):L≤1000000:=Nat.le_trans (pok_fit hP).2 (Nat.le_trans (Nat.mul_le_mul hk ht) (by decide))
end Go.Proofs.YtccaiiigdfieoaaGreatDoor
namespace Go.By
open Go.RowKit Go.Proofs.YtccaiiigdfieoaaGreatDoor Gf
theorem need_st (K:List Rw) (k:Nat):(if stF K k = 0 then k - K.length else 0) = k - K.length:=by
 unfold stF
 by_cases h:K.length = k
 ·rw [if_pos h,if_neg (by decide)];omega
 ·rw [if_neg h,if_pos rfl]
theorem wrap_sum {a b k:Nat} (h:a + b = k) (hk:k≤1000000):wrap64 ((a:Int) + (b:Int)) = (k:Int):=by unfold wrap64;omega
theorem wrap_need {n0 nd a b k:Nat} (h0:n0 = k - b) (h1:nd = k - a) (hb:b≤k) (ha:a≤k) (hk:k≤1000000):wrap64 ((n0:Int) - wrap64 ((a:Int) - (b:Int))) = (nd:Int):=by
 have e1:wrap64 ((a:Int) - (b:Int)) = (a:Int) - (b:Int):=by unfold wrap64;omega
 rw [e1];unfold wrap64;omega
end Go.By
namespace Go.Proofs.YtccaiiigdfieoaaGreatDoor
open Go.RowKit Go.By Gf Go.Maps
theorem Eq_part {p1 p2:Option Addr} {n c1 c2:Nat} {xs:List UInt8} {w:World} (h1:Sl B8 w p1 n c1 xs) (h2:Sl B8 w p2 n c2 xs):Calls Tryz.prog 49 #[.slice p1 n c1,.slice p2 n c2] w fun e w'=>e = .returned (.bool true)∧Below w.heap.size w w':=by
 refine Calls.mono (EqualB_d p1 p2 n n c1 c2 xs xs w h1 h2) ?_
 rintro e w' ⟨rfl,q,rfl⟩
 rw [decide_eq_true rfl]
 exact ⟨rfl,below_drewN w q⟩
set_option maxRecDepth 1000000 in
set_option maxHeartbeats 8000000 in
theorem ViewRight_core (L t k D:Nat) (q0:Option Addr) (c0:Nat) (o:List UInt8) (p1:Option Addr) (n1 c1:Nat) (srcs:List SrcD) (w:World) (hO:ObjP L t k D) (h0:Sl B8 w q0 L c0 o) (h1:SlS w p1 n1 c1 srcs) (hT:HalfT w) (hX:Tab10 w)
  (hk12:k≤12) (ht20:t≤20) (hn1:n1≤20) (hof:ofS (L:Int) (t:Int) (D:Int) = .tuple #[PVal L t k D,.int .i64 0]) (hsm:small19 L t k = true) :
  Calls Tryz.prog 6 #[.slice q0 L c0,.int .i64 (t:Nat),.int .u32 (D:Nat),.slice p1 n1 c1] w fun e w'=>e = .returned (.bool true)∧Below w.heap.size w w':=by
 have HT:=Lib.hid hT
 have HOB:=Lib.hid hO
 have H0:=Lib.hid h0
 have H1:=Lib.hid h1
 have HOf:Hid (∀ w,Calls Tryz.prog 44 #[.int .i64 (L:Nat),.int .i64 (t:Nat),.int .u32 (D:Nat)] w fun e w'=>e = .returned (.tuple #[PVal L t k D,.int .i64 0])∧Below w.heap.size w w'):=fun w=>by
  have:=POf_any (L:Int) (t:Int) (D:Int) w hO.ok.l
  rw [hof] at this;exact this
 have HSm:Hid (∀ w,Calls Tryz.prog 26 #[PVal L t k D] w fun e w'=>e = .returned (.bool true)∧Below w.heap.size w w'):=fun w=>by have:=Small19_any L t k D w hO.ok.l;rw [hsm] at this;exact this
 have hn1':¬ (20:Int) < (n1:Int):=by omega
 have hk1:=hO.ok.k1
 have ht1:=hO.ok.t1
 have hLb:=h0.bound
 have hLm:=pok_small hO.ok hk12 ht20
 have HFT:Hid ((∀ i:Nat,i < k→i * t≤L)∧L≤k * t):=pok_fit hO.ok
 have HTX:=Lib.hid hX
 clear hT hO h0 h1 hof hsm hX
 go_enter Tryz.func6,Tryz.ntmps6
 go_wp2_with fail
 refine Calls.mono (awake25 _ HTX.out) ?_
 rintro e wa ⟨rfl,hb⟩
 have HBa:=Lib.hid hb
 clear hb
 go_wp2_with fail
 refine Calls.mono (HOf.out _) ?_
 rintro e wb ⟨rfl,hb⟩
 have HBb:=Lib.hid (bl HBa.out hb HBa.out.size)
 clear hb HBa
 go_wp2_with fail
 refine Calls.mono (HSm.out _) ?_
 rintro e wc ⟨rfl,hb⟩
 obtain ⟨hb1,kp,hs1⟩:=one_of hb
 have HBc:=Lib.hid (bl HBb.out hb1 HBb.out.size)
 clear hb hb1 hs1 HBb
 obtain ⟨z0,z1,z2,z3⟩:=cells_four kp
 obtain ⟨gp,hgp⟩:∃ gp,gp = wb.heap.size:=⟨_,rfl⟩
 rw [← hgp] at kp z0 z1 z2 z3 ⊢
 clear hgp
 go_wp2_with fail
 refine Calls.mono (SNew_ok L t k D q0 L c0 o wc HOB.out.ok (H0.out.keep HBc.out) HOB.out.fit rfl) ?_
 rintro e w0 ⟨gs,rfl,hgs,hsn,hb⟩
 have HSn:=Lib.hid hsn
 have HB0:=Lib.hid (bl HBc.out hb HBc.out.size)
 have HGS:Hid (w.heap.size≤gs):=Nat.le_trans HBc.out.size hgs
 have kp0:=(hb.block _ (lt_of_block kp)).trans kp
 clear hb hgs hsn kp z0 z1 z2 z3 HBc
 obtain ⟨z0,z1,z2,z3⟩:=cells_four kp0
 go_wp2_with fail
 refine Calls.mono (TNew_ok L t k D w0 HOB.out.ok) ?_
 rintro e w1 ⟨gt,be,v0,rfl,ht,hb⟩
 have hst:=ST.start HB0.out HGS.out HSn.out ht hb
 obtain ⟨base,hbase⟩:∃ base,base = w0.heap.size:=⟨_,rfl⟩
 rw [← hbase] at hst
 obtain ⟨FX,hFX⟩:∃ FX,FX = (List.range k).map (pieceS o t):=⟨_,rfl⟩
 have HFXe:=Lib.hid hFX
 have HFl:Hid (∀ x,x ∈ FX→x.length = t):=by rw [hFX];exact pieces_len.1
 have HFk:Hid (FX.length = k):=by rw [hFX];exact pieces_len.2
 rw [← hFX] at hst
 have HS1:=Lib.hid hst
 have kp1:=(hb.block _ (lt_of_block kp0)).trans kp0
 have HP1:=Lib.hid kp1
 clear hb ht hst HSn kp0 HB0 HGS hFX hbase HOf HSm z0 z1 z2 z3
 obtain ⟨z0,z1,z2,z3⟩:=cells_four kp1
 clear kp1
 go_wp2
 clear z0 z1 z2 z3
 go_loopw [14,69] (fun nv iv wr=>∃ (i nx N:Nat) (v:Value) (X K:List Rw),i≤n1∧iv = .int .i64 (i:Nat)∧nv = .int .i64 ((k - K.length:Nat))∧nx≤i∧N≤i∧K.length≤k∧Hid (ST w w0 wr gs gt be base L t k D FX nx N v K (stF K k))∧Hid (OneObj k t FX X K)∧Hid (wr.heap[gp]? = some (.cells #[.int .i64 (L:Nat),.int .i64 (t:Nat),.int .i64 (k:Nat),.int .u32 (D:Nat)] 27 (0,0)))) (fun _ iv _=>n1 - (intOf iv).toNat)
 case atStart=>exact ⟨0,0,0,_,[],[],Nat.zero_le _,rfl,rfl,Nat.le_refl _,Nat.le_refl _,Nat.zero_le _,by rw [show stF ([]:List Rw) k = 0 from if_neg (by show ¬ 0 = k;omega)];exact HS1.out,OneObj.nil _ _ _,HP1.out⟩
 case round =>
  obtain ⟨i,nx,N,v,X,K,hi,rfl,rfl,hnx,hN,hKk,HR,HO,HP⟩:=hrel
  clear HS1 HP1
  obtain ⟨n0,hn0⟩:∃ n0,n0 = k - K.length:=⟨_,rfl⟩
  rw [← hn0]
  have HN0:=Lib.hid hn0
  clear hn0
  by_cases hlt:i < n1
  ·obtain ⟨b,ob,q,j,c',a,rfl,hga,f0,f1,f2,hs,hs64⟩:=H1.out.at hlt
   have x0:=(HR.out.bel.cell (p:=⟨b,ob + i * 3,none⟩) (lt_of_cell f0)).trans f0
   have x1:=(HR.out.bel.cell (p:=⟨b,ob + i * 3 + 1,none⟩) (lt_of_cell f1)).trans f1
   have x2:=(HR.out.bel.cell (p:=⟨b,ob + i * 3 + 2,none⟩) (lt_of_cell f2)).trans f2
   have hlt':(i:Int) < (n1:Int):=by omega
   have HLT:=Lib.hid hlt
   have HSX:=Lib.hid hs
   have hjl:=hs.len
   have hjb:=hs.bound
   clear f0 f1 f2 hs hlt
   by_cases hj:j≤100
   ·have hj':¬ (100:Int) < (j:Int):=by omega
    have ba:Below wr.heap.size wr (wr.alloc (.cells #[B8 a.m,.slice q j c',.int .u64 (a.s:Nat)] 83 (0,0))):=al (Below.refl _ _) (Nat.le_refl _)
    have HRa:=Lib.hid (HR.out.keep ba)
    have HSa:=Lib.hid ((HSX.out.keep HR.out.bel).keep ba)
    have HPa:Hid ((wr.alloc (.cells #[B8 a.m,.slice q j c',.int .u64 (a.s:Nat)] 83 (0,0))).heap[gp]? = some (.cells #[.int .i64 (L:Nat),.int .i64 (t:Nat),.int .i64 (k:Nat),.int .u32 (D:Nat)] 27 (0,0))):=(ba.block _ (lt_of_block HP.out)).trans HP.out
    have hjr:Room j:=show j≤140737488355328 by omega
    by_cases hm:srcC a.m j k = 0
    ·have hsend:=ST_send HRa.out HT.out (by omega) hm HSa.out hjr (s:=a.s)
     obtain ⟨hrd,heq⟩:=sent_eq (k:=k) (t:=t) (D:=D) (n:=nx) (s:=a.s) (m:=a.m) (xs:=a.xs) HFl.out HFk.out hk1 (by rw [hjl];exact hm) hs64 HOB.out.ok.d (by omega)
     have hvl:=vecS_len (s:=a.s) hm hjl
     have hroom:=read_roomT HOB.out.ok hrd
     obtain ⟨hO2,hSt2⟩:=HO.out.takeV HFl.out HFk.out hrd heq hvl
     have HO2:=Lib.hid hO2
     have HSt2:=Lib.hid hSt2
     have HSD:=Lib.hid hsend
     have HRO:=Lib.hid hroom
     clear hrd heq hvl hroom hO2 hSt2 hsend ba hs64
     generalize rowC t FX (vecS a.m a.xs a.s k) = rx at *
     generalize pktB a.m D nx a.xs a.s (combS (vecS a.m a.xs a.s k) FX).1 = xa at *
     go_wp2_with fail
     refine Calls.mono HSD.out ?_
     rintro e wd ⟨ql,nl,cl,rfl,hf,hS,hK⟩
     have HSd:=Lib.hid hS
     have HFd:=Lib.hid hf.sl
     have HPd:=Lib.hid (hK.blk os_plan HPa.out)
     have hnl:nl≤140737488355328:=by have:=HRO.out;rw [hf.sl.len] at this;exact this
     clear hf hS hK x0 x1 x2 HR HRa HSD HPa HP HSa HO HRO
     go_wp2_with fail
     refine Calls.mono (ST_rank HSd.out) ?_
     rintro e wq ⟨rfl,rfl⟩
     go_wp2_with fail
     refine Calls.mono (ST_take HSd.out HT.out (by omega) HFd.out hnl) ?_
     rintro e we ⟨rfl,v2,hS,hK⟩
     rw [HSt2.out] at hS
     have HSe:=Lib.hid hS
     have HPe:=Lib.hid (hK.blk os_plan HPd.out)
     clear hS hK HSd HFd HPd HSt2 hnl
     generalize takeK k t D K (stF K k) xa = K2 at *
     generalize readC k t D xa = code at *
     have hr2:K2.length≤k:=by obtain ⟨M,C,h1⟩:=HSe.out.tk;exact Red.le h1.red
     have hkn:cntB (knS k K2) k≤K2.length:=cntB_rows k K2
     have HNE:=Lib.hid (need_st K2 k)
     have hof:=ST_of HSe.out
     rw [need_st] at hof
     unfold VwV at hof
     have HOf:=Lib.hid hof
     have HSm:=Lib.hid (fun W (hW:Below we.heap.size we W)=>ST_some (HSe.out.keep hW) hLm HFT.out)
     have HGp:=Lib.hid (fun W (hW:Below we.heap.size we W)=>ST_gaps (HSe.out.keep hW) hLm HFT.out)
     have HPart:Hid (∀ a b,b≤L→(∀ x,a≤x→x < b→knS k K2 (x / t) = true)→((objL L t (knP k K2) (knS k K2)).take b).drop a = (o.take b).drop a):=fun a b h1 h2=>by
      have:=HO2.out
      rw [HFXe.out] at this
      exact some_part this ht1 H0.out.len HFT.out.2 h1 h2
     have HFull:Hid (K2.length = k→∀ i,i < k→knS k K2 i = true):=fun h i hi=>known_all HO2.out.red h (by omega) hi
     obtain ⟨m,hmm⟩:∃ m,m = cntB (knS k K2) k:=⟨_,rfl⟩
     have HMk:Hid (K2.length = k→m = k):=fun h=>by
      rw [hmm,cntB_congr (g:=fun _=>true) (HFull.out h),cntB_true]
     rw [← hmm] at hkn HOf
     obtain ⟨SO,hSO⟩:∃ SO,SO = objL L t (knP k K2) (knS k K2):=⟨_,rfl⟩
     rw [← hSO] at HPart HSm
     have HGf:Hid (K2.length = k→gapsF (fun a=>knS k K2 (a / t)) L = []):=fun h=>gaps_all fun x hx=>HFull.out h _ ((Nat.div_lt_iff_lt_mul (by omega)).2 (Nat.lt_of_lt_of_le hx HFT.out.2))
     have HSep:=Lib.hid (gapsE_sep (fun a=>knS k K2 (a / t)) L)
     have hGl:=gapsF_len (fun a=>knS k K2 (a / t)) L
     have HGE:Hid (gapsE (fun a=>knS k K2 (a / t)) L = gapsF (fun a=>knS k K2 (a / t)) L ++ [(L,L)]):=rfl
     obtain ⟨st2,hst2⟩:∃ s,s = stF K2 k:=⟨_,rfl⟩
     have HST2:=Lib.hid hst2
     rw [← hst2] at HOf
     clear hof hmm hSO hst2 HFull HNE
     generalize gapsE (fun a=>knS k K2 (a / t)) L = GE at *
     generalize gapsF (fun a=>knS k K2 (a / t)) L = GF at *
     obtain ⟨nd,hnd⟩:∃ nd,nd = k - K2.length:=⟨_,rfl⟩
     rw [← hnd] at HOf
     go_wp2_with fail
     refine Calls.mono HOf.out ?_
     rintro e wf ⟨rfl,hb⟩
     have HBf:=Lib.hid hb
     have HPf:=Lib.hid ((hb.block _ (lt_of_block HPe.out)).trans HPe.out)
     clear hb HOf
     have hq2:¬ (K2.length:Int) < (m:Int):=by omega
     have hq4:((st2:Int) == 2) = false:=by
      have:=HST2.out
      unfold stF at this
      rw [beq_eq_false_iff_ne]
      split at this <;> omega
     have hn0l:n0≤12:=by have:=HN0.out;omega
     have hk1m:k≤1000000:=by omega
     have hsum:nd + K2.length = k:=by omega
     have hq3:=wrap_sum hsum hk1m
     have hq1:=wrap_need HN0.out hnd hKk hr2 hk1m
     clear hsum hk1m
     obtain ⟨z0,z1,z2,z3⟩:=cells_four HPf.out
     have hz2:∀ o,(wf.alloc o).cell? ⟨gp,2,none⟩ = some (.int .i64 (k:Nat)):=fun _=>calloc z2
     clear z0 z1 z2 z3
     have HND:=Lib.hid hnd
     clear hnd
     have ba:Below wf.heap.size wf (wf.alloc (.cells #[.int .i64 (L:Nat),.int .i64 (t:Nat),.int .i64 (k:Nat),.int .u32 (D:Nat),.int .i64 (st2:Nat),.int .i64 (K2.length:Nat),.int .i64 (nd:Nat),.int .i64 (m:Nat)] 63 (0,0))):=al (Below.refl _ _) (Nat.le_refl _)
     have hv:(wf.alloc (.cells #[.int .i64 (L:Nat),.int .i64 (t:Nat),.int .i64 (k:Nat),.int .u32 (D:Nat),.int .i64 (st2:Nat),.int .i64 (K2.length:Nat),.int .i64 (nd:Nat),.int .i64 (m:Nat)] 63 (0,0))).heap[wf.heap.size]? = some (.cells #[.int .i64 (L:Nat),.int .i64 (t:Nat),.int .i64 (k:Nat),.int .u32 (D:Nat),.int .i64 (st2:Nat),.int .i64 (K2.length:Nat),.int .i64 (nd:Nat),.int .i64 (m:Nat)] 63 (0,0)):=hnew rfl
     have HV9:=Lib.hid hv
     have HB9:=Lib.hid (bl HBf.out ba HBf.out.size)
     clear ba hv HBf HPf
     go_wp2_with fail
     clear hq1 hq2 hq3 hq4 hz2
     obtain ⟨gv,hgv⟩:∃ gv,gv = wf.heap.size:=⟨_,rfl⟩
     rw [← hgv] at HV9 ⊢
     clear hgv
     generalize wf.alloc (.cells #[.int .i64 (L:Nat),.int .i64 (t:Nat),.int .i64 (k:Nat),.int .u32 (D:Nat),.int .i64 (st2:Nat),.int .i64 (K2.length:Nat),.int .i64 (nd:Nat),.int .i64 (m:Nat)] 63 (0,0)) = w9 at *
     refine Calls.mono (HSm.out w9 HB9.out) ?_
     rintro e wg ⟨qs,cs,qb,cb,rfl,hso,hb⟩
     have HBg:=Lib.hid (bl HB9.out hb HB9.out.size)
     have HVg:=Lib.hid ((hb.block _ (lt_of_block HV9.out)).trans HV9.out)
     have HSO:=Lib.hid hso
     clear hb hso HB9 HV9 HSm
     go_wp2_with fail
     have hgvl:=lt_of_block HVg.out
     have hwg:=HBg.out.size
     refine Calls.mono (HGp.out wg HBg.out) ?_
     rintro e wh ⟨qg,ng,cg,rfl,hpo,hb⟩
     have HBh:=Lib.hid (bl HBg.out hb HBg.out.size)
     have HVh:=Lib.hid ((hb.block _ (lt_of_block HVg.out)).trans HVg.out)
     have HBgh:=Lib.hid hb
     have HPO:=Lib.hid hpo
     have hng:GF.length = ng:=hpo.1
     have hgs:=hb.size
     clear hb hpo HBg HVg
     obtain ⟨r0,hr0,hrz,hr1,hr2'⟩:=info_parts info_pair
     have HOA:Hid (∀ o,(wh.alloc o).ownsRow wg.heap.size 74 2 (.slice qg ng cg) ng (prC GF)):=fun o=>HPO.out.2.alloc o
     go_wp2_with (at_builtin;refine wpList_append_own _ rfl _ _ 65 rfl wg.heap.size 74 r0 _ 2 16 Tryz.underlying65 hr0 hrz hr1 hr2' rfl (by omega) _ ng (prC GF) rfl (HOA.out _) ⟨wh.heap.size,0,none⟩ 1 1 [.int .i64 (L:Nat),.int .i64 (L:Nat)] rfl rfl ?c1 ?c2 ?c3 ?c4 ?c5 ?_)
     case c1 =>
      intro j' y hj'
      rw [Addr.add_lit,Nat.zero_add,cell_of_row _ _ j' _ _ _ (hnew rfl)]
      match j' with
      | 0=>exact hj'
      | 1=>exact hj'
      | j' + 2=>simp at hj'
     case c2=>intro y hy;simp at hy;rcases hy with rfl | rfl <;> rfl
     case c3=>unfold maxLen;omega
     case c4=>omega
     case c5=>simp;omega
     intro v6 w6 ho6 hg6 _
     obtain ⟨qe,ce,rfl⟩:=owns_shape ho6
     have hbA:Below wg.heap.size wh w6:=(al (Below.refl _ _) hgs).grown hg6 (by simp;omega) (fun kk hk=>(HPO.out.2.lt kk hk).1)
     have HPE:Hid (PrO w6 wg.heap.size qe (ng + 1) ce GE):=by
      have:=PrO.snoc HPO.out.1 ho6 (p:=(L,L))
      rw [HGE.out];exact this
     have HB6:Hid (Below we.heap.size we w6):=HBh.out.trans ⟨hbA.os,hbA.tape,hbA.output,hbA.size,fun i hi=>hbA.block i (Nat.lt_of_lt_of_le hi hwg)⟩
     have HV6:=Lib.hid ((hbA.block _ hgvl).trans HVh.out)
     have HSO6:=Lib.hid (HSO.out.keep (HBgh.out.trans hbA))
     have hngb:ng + 1≤9223372036854775807:=HPE.out.max
     clear ho6 hg6 hbA HPO HOA HBh HVh HBgh HSO hgs hwg hgvl r0 hr0 hrz hr1 hr2' HGE hGl hng
     go_wp2
     go_loopw [23,140] (fun av jv wr=>∃ (j a0:Nat),j≤ng + 1∧jv = .int .i64 (j:Nat)∧av = .int .i64 (a0:Nat)∧Hid (a0 = endA 0 (GE.take j))∧Hid (Below w6.heap.size w6 wr)) (fun _ jv _=>ng + 1 - (intOf jv).toNat)
     case atStart=>exact ⟨0,0,Nat.zero_le _,rfl,rfl,rfl,Below.refl _ _⟩
     case round =>
      obtain ⟨j9,a0,hj9,rfl,rfl,HA,HBl⟩:=hrel
      have HBw:=Lib.hid (bl HB6.out HBl.out HB6.out.size)
      by_cases hlt9:j9 < ng + 1
      ·obtain ⟨g9,x,y,rfl,hc1,hc2,hx⟩:=(HPE.out.keep HBl.out).at hlt9
       obtain ⟨s1,s2,s3,s4,s5⟩:=sep_at HSep.out hx.out
       change endA 0 (List.take j9 GE)≤x at s1
       change x≤y at s2
       change y≤L at s3
       change ∀ z,endA 0 (List.take j9 GE)≤z→z < x→_ at s4
       change endA 0 (List.take (j9 + 1) GE) = y at s5
       rw [← HA.out] at s1 s4
       have hxL:x≤L:=Nat.le_trans s2 s3
       obtain ⟨qa,ca,hsl1,hsx1⟩:=slice_partC (HSO6.out.keep HBl.out) s1 hxL
       obtain ⟨qb,cb,hsl2,hsx2⟩:=slice_partC (H0.out.keep (bl HSe.out.bel HBw.out HSe.out.bel.size)) s1 hxL
       rw [HPart.out a0 x hxL s4] at hsx1
       obtain ⟨w8,hw8⟩:∃ w8,w8 = wr.alloc (.cells #[.int .i64 (x:Nat),.int .i64 (y:Nat)] 74 (0,0)):=⟨_,rfl⟩
       have HB8:Hid (Below wr.heap.size wr w8):=by rw [hw8];exact al (Below.refl _ _) (Nat.le_refl _)
       have hv8:w8.heap[wr.heap.size]? = some (.cells #[.int .i64 (x:Nat),.int .i64 (y:Nat)] 74 (0,0)):=by rw [hw8];exact hnew rfl
       have HEQ:Hid (∀ W,Below w8.heap.size w8 W→Calls Tryz.prog 49 #[.slice qa (x - a0) ca,.slice qb (x - a0) cb] W fun e W'=>e = .returned (.bool true)∧Below W.heap.size W W'):=fun W hW=>Eq_part (hsx1.keep (bl HB8.out hW HB8.out.size)) (hsx2.keep (bl HB8.out hW HB8.out.size))
       have hd1:¬ (x:Int) < (a0:Int):=by omega
       have hd2:¬ (L:Int) < (y:Int):=by omega
       have hlt9':(j9:Int) < ((ng + 1:Nat):Int):=by omega
       have HLT9:=Lib.hid hlt9
       have HS5:=Lib.hid s5
       clear s1 s2 s3 s4 s5 hx hxL hsx1 hsx2 hlt9
       have v80:w8.cell? ⟨wr.heap.size,0,none⟩ = some (.int .i64 (x:Nat)):=by rw [cell_of_row _ _ 0 _ _ _ hv8];rfl
       have v81:w8.cell? ⟨wr.heap.size,1,none⟩ = some (.int .i64 (y:Nat)):=by rw [cell_of_row _ _ 1 _ _ _ hv8];rfl
       clear hv8
       rw [hw8] at v80 v81 HB8 HEQ
       clear hw8
       go_upto_region 29 with (fail)
       refine wp_region_shapes (fun ix=>([.val (.pointer (some ⟨wr.heap.size,0,none⟩)),.val (.int .i64 (x:Nat)),.val (.int .i64 (a0:Nat)),.val (.bool false),.val (.bool false),.val (.pointer (some ⟨wr.heap.size,1,none⟩)),.val (.int .i64 (y:Nat)),.val (.slice q0 L c0),.val (.int .i64 (L:Nat)),.val (.bool false),.val (.bool false),.val (.bool false),.val (.slice qs L cs),.val (.int .i64 (L:Nat)),.val (.slice q0 L c0),.val (.int .i64 (L:Nat)),.val (.bool false),.val (.bool false),.val (.bool false),.val (.slice qs L cs),.val (.int .i64 (a0:Nat)),.val (.pointer (some ⟨wr.heap.size,0,none⟩)),.val (.int .i64 (x:Nat)),.val (.slice qa (x - a0) ca),.val (.slice q0 L c0),.val (.int .i64 (a0:Nat)),.val (.pointer (some ⟨wr.heap.size,0,none⟩)),.val (.int .i64 (x:Nat)),.val (.slice qb (x - a0) cb),.val (.bool true),.val (.bool false),.val (.bool false)][ix]?).getD (.any)) 203 rfl (by kernel_rfl) (by decide +kernel) (by decide +kernel) (by decide +kernel) ?_ ?_
       ·refine ⟨?_,?_,?_,?_,?_,?_,?_,?_,?_,?_,?_,?_,?_,?_,?_,?_,?_,?_,?_,?_,?_,?_,?_,?_,?_,?_,?_,?_,?_,?_,?_,?_,trivial⟩
        ·intro a W hb0 hs hp hi;have hb:=undrew hb0;clear hb0
         have ti0:sl a 25 = .pointer (some ⟨wr.heap.size,0,none⟩):=hi 25 (by decide)
         refine ite_y rfl (wp_val (.pointer (some ⟨wr.heap.size,0,none⟩)) ?_ ?_)
         ·simp only [execOp,eval_tmp,eval_const,ti0];simp [go_sem,Tryz.underlying74]
         ·exact ⟨_,rfl,Below.refl _ _,rfl⟩
        ·intro a W hb0 hs hp hi;have hb:=undrew hb0;clear hb0
         have tt:sl a 144 = .pointer (some ⟨wr.heap.size,0,none⟩):=hp 0 (by decide)
         have dd:=(hb.cell (p:=⟨wr.heap.size,0,none⟩) (lt_of_cell v80)).trans v80
         refine ite_y rfl (wp_val (.int .i64 (x:Nat)) ?_ ?_)
         ·simp only [execOp,eval_tmp,tt];simp [go_sem,dd]
         ·exact ⟨_,rfl,Below.refl _ _,rfl⟩
        ·intro a W hb0 hs hp hi;have hb:=undrew hb0;clear hb0
         have t23:sl a 23 = .int .i64 (a0:Nat):=hi 23 (by decide)
         exact ite_y rfl (wp_val (sl a 23) rfl ⟨_,rfl,Below.refl _ _,t23⟩)
        ·intro a W hb0 hs hp hi;have hb:=undrew hb0;clear hb0
         have t145:sl a 145 = .int .i64 (x:Nat):=hp 1 (by decide)
         have t146:sl a 146 = .int .i64 (a0:Nat):=hp 2 (by decide)
         refine ite_y rfl (wp_val (.bool false) ?_ ?_)
         ·simp only [execOp,eval_tmp,eval_const,t145,t146];simp [go_sem,hd1]
         ·exact ⟨_,rfl,Below.refl _ _,rfl⟩
        ·intro a W hb0 hs hp hi;have hb:=undrew hb0;clear hb0
         have t147:sl a 147 = .bool false:=hp 3 (by decide)
         exact ite_y rfl (wp_val (sl a 147) rfl ⟨_,rfl,Below.refl _ _,t147⟩)
        ·intro a W hb0 hs hp hi;have hb:=undrew hb0;clear hb0
         have tg:sl a 148 = .bool false:=hp 4 (by decide)
         have ti0:sl a 25 = .pointer (some ⟨wr.heap.size,0,none⟩):=hi 25 (by decide)
         refine ite_y (wanted_yes rfl rfl (by have hz:a.tmps.size = 203:=hs;rw [hz];decide) tg) (wp_val (.pointer (some ⟨wr.heap.size,1,none⟩)) ?_ ?_)
         ·simp only [execOp,eval_tmp,eval_const,ti0];simp [go_sem,Tryz.underlying74]
         ·exact ⟨_,rfl,Below.refl _ _,rfl⟩
        ·intro a W hb0 hs hp hi;have hb:=undrew hb0;clear hb0
         have tg:sl a 148 = .bool false:=hp 4 (by decide)
         have tt:sl a 149 = .pointer (some ⟨wr.heap.size,1,none⟩):=hp 5 (by decide)
         have dd:=(hb.cell (p:=⟨wr.heap.size,1,none⟩) (lt_of_cell v81)).trans v81
         refine ite_y (wanted_yes rfl rfl (by have hz:a.tmps.size = 203:=hs;rw [hz];decide) tg) (wp_val (.int .i64 (y:Nat)) ?_ ?_)
         ·simp only [execOp,eval_tmp,tt];simp [go_sem,dd]
         ·exact ⟨_,rfl,Below.refl _ _,rfl⟩
        ·intro a W hb0 hs hp hi;have hb:=undrew hb0;clear hb0
         have tg:sl a 148 = .bool false:=hp 4 (by decide)
         have t0:sl a 0 = .slice q0 L c0:=hi 0 (by decide)
         exact ite_y (wanted_yes rfl rfl (by have hz:a.tmps.size = 203:=hs;rw [hz];decide) tg) (wp_val (sl a 0) rfl ⟨_,rfl,Below.refl _ _,t0⟩)
        ·intro a W hb0 hs hp hi;have hb:=undrew hb0;clear hb0
         have tg:sl a 148 = .bool false:=hp 4 (by decide)
         have t151:sl a 151 = .slice q0 L c0:=hp 7 (by decide)
         refine ite_y (wanted_yes rfl rfl (by have hz:a.tmps.size = 203:=hs;rw [hz];decide) tg) (wp_val (.int .i64 (L:Nat)) ?_ ?_)
         ·simp only [execOp,resolve,List.map_toArray,List.map,eval_tmp,eval_func,eval_const,t151];simp [go_sem]
         ·exact ⟨_,rfl,Below.refl _ _,rfl⟩
        ·intro a W hb0 hs hp hi;have hb:=undrew hb0;clear hb0
         have tg:sl a 148 = .bool false:=hp 4 (by decide)
         have t150:sl a 150 = .int .i64 (y:Nat):=hp 6 (by decide)
         have t152:sl a 152 = .int .i64 (L:Nat):=hp 8 (by decide)
         refine ite_y (wanted_yes rfl rfl (by have hz:a.tmps.size = 203:=hs;rw [hz];decide) tg) (wp_val (.bool false) ?_ ?_)
         ·simp only [execOp,eval_tmp,eval_const,t150,t152];simp [go_sem,hd2]
         ·exact ⟨_,rfl,Below.refl _ _,rfl⟩
        ·intro a W hb0 hs hp hi;have hb:=undrew hb0;clear hb0
         have t148:sl a 148 = .bool false:=hp 4 (by decide)
         have t153:sl a 153 = .bool false:=hp 9 (by decide)
         refine ite_y rfl (wp_val (.bool false) ?_ ?_)
         ·simp only [execOp,eval_tmp,eval_const,t148,t153];simp [go_sem]
         ·exact ⟨_,rfl,Below.refl _ _,rfl⟩
        ·intro a W hb0 hs hp hi;have hb:=undrew hb0;clear hb0
         have t154:sl a 154 = .bool false:=hp 10 (by decide)
         exact ite_y rfl (wp_val (sl a 154) rfl ⟨_,rfl,Below.refl _ _,t154⟩)
        ·intro a W hb0 hs hp hi;have hb:=undrew hb0;clear hb0
         have tg:sl a 155 = .bool false:=hp 11 (by decide)
         have t21:sl a 21 = .slice qs L cs:=hi 21 (by decide)
         exact ite_y (wanted_yes rfl rfl (by have hz:a.tmps.size = 203:=hs;rw [hz];decide) tg) (wp_val (sl a 21) rfl ⟨_,rfl,Below.refl _ _,t21⟩)
        ·intro a W hb0 hs hp hi;have hb:=undrew hb0;clear hb0
         have tg:sl a 155 = .bool false:=hp 11 (by decide)
         have t156:sl a 156 = .slice qs L cs:=hp 12 (by decide)
         refine ite_y (wanted_yes rfl rfl (by have hz:a.tmps.size = 203:=hs;rw [hz];decide) tg) (wp_val (.int .i64 (L:Nat)) ?_ ?_)
         ·simp only [execOp,resolve,List.map_toArray,List.map,eval_tmp,eval_func,eval_const,t156];simp [go_sem]
         ·exact ⟨_,rfl,Below.refl _ _,rfl⟩
        ·intro a W hb0 hs hp hi;have hb:=undrew hb0;clear hb0
         have tg:sl a 155 = .bool false:=hp 11 (by decide)
         have t0:sl a 0 = .slice q0 L c0:=hi 0 (by decide)
         exact ite_y (wanted_yes rfl rfl (by have hz:a.tmps.size = 203:=hs;rw [hz];decide) tg) (wp_val (sl a 0) rfl ⟨_,rfl,Below.refl _ _,t0⟩)
        ·intro a W hb0 hs hp hi;have hb:=undrew hb0;clear hb0
         have tg:sl a 155 = .bool false:=hp 11 (by decide)
         have t158:sl a 158 = .slice q0 L c0:=hp 14 (by decide)
         refine ite_y (wanted_yes rfl rfl (by have hz:a.tmps.size = 203:=hs;rw [hz];decide) tg) (wp_val (.int .i64 (L:Nat)) ?_ ?_)
         ·simp only [execOp,resolve,List.map_toArray,List.map,eval_tmp,eval_func,eval_const,t158];simp [go_sem]
         ·exact ⟨_,rfl,Below.refl _ _,rfl⟩
        ·intro a W hb0 hs hp hi;have hb:=undrew hb0;clear hb0
         have tg:sl a 155 = .bool false:=hp 11 (by decide)
         have t157:sl a 157 = .int .i64 (L:Nat):=hp 13 (by decide)
         have t159:sl a 159 = .int .i64 (L:Nat):=hp 15 (by decide)
         refine ite_y (wanted_yes rfl rfl (by have hz:a.tmps.size = 203:=hs;rw [hz];decide) tg) (wp_val (.bool false) ?_ ?_)
         ·simp only [execOp,eval_tmp,eval_const,t157,t159];simp [go_sem]
         ·exact ⟨_,rfl,Below.refl _ _,rfl⟩
        ·intro a W hb0 hs hp hi;have hb:=undrew hb0;clear hb0
         have t155:sl a 155 = .bool false:=hp 11 (by decide)
         have t160:sl a 160 = .bool false:=hp 16 (by decide)
         refine ite_y rfl (wp_val (.bool false) ?_ ?_)
         ·simp only [execOp,eval_tmp,eval_const,t155,t160];simp [go_sem]
         ·exact ⟨_,rfl,Below.refl _ _,rfl⟩
        ·intro a W hb0 hs hp hi;have hb:=undrew hb0;clear hb0
         have t161:sl a 161 = .bool false:=hp 17 (by decide)
         exact ite_y rfl (wp_val (sl a 161) rfl ⟨_,rfl,Below.refl _ _,t161⟩)
        ·intro a W hb0 hs hp hi;have hb:=undrew hb0;clear hb0
         have tg:sl a 162 = .bool false:=hp 18 (by decide)
         have t21:sl a 21 = .slice qs L cs:=hi 21 (by decide)
         exact ite_y (wanted_yes rfl rfl (by have hz:a.tmps.size = 203:=hs;rw [hz];decide) tg) (wp_val (sl a 21) rfl ⟨_,rfl,Below.refl _ _,t21⟩)
        ·intro a W hb0 hs hp hi;have hb:=undrew hb0;clear hb0
         have tg:sl a 162 = .bool false:=hp 18 (by decide)
         have t23:sl a 23 = .int .i64 (a0:Nat):=hi 23 (by decide)
         exact ite_y (wanted_yes rfl rfl (by have hz:a.tmps.size = 203:=hs;rw [hz];decide) tg) (wp_val (sl a 23) rfl ⟨_,rfl,Below.refl _ _,t23⟩)
        ·intro a W hb0 hs hp hi;have hb:=undrew hb0;clear hb0
         have tg:sl a 162 = .bool false:=hp 18 (by decide)
         have ti0:sl a 25 = .pointer (some ⟨wr.heap.size,0,none⟩):=hi 25 (by decide)
         refine ite_y (wanted_yes rfl rfl (by have hz:a.tmps.size = 203:=hs;rw [hz];decide) tg) (wp_val (.pointer (some ⟨wr.heap.size,0,none⟩)) ?_ ?_)
         ·simp only [execOp,eval_tmp,eval_const,ti0];simp [go_sem,Tryz.underlying74]
         ·exact ⟨_,rfl,Below.refl _ _,rfl⟩
        ·intro a W hb0 hs hp hi;have hb:=undrew hb0;clear hb0
         have tg:sl a 162 = .bool false:=hp 18 (by decide)
         have tt:sl a 165 = .pointer (some ⟨wr.heap.size,0,none⟩):=hp 21 (by decide)
         have dd:=(hb.cell (p:=⟨wr.heap.size,0,none⟩) (lt_of_cell v80)).trans v80
         refine ite_y (wanted_yes rfl rfl (by have hz:a.tmps.size = 203:=hs;rw [hz];decide) tg) (wp_val (.int .i64 (x:Nat)) ?_ ?_)
         ·simp only [execOp,eval_tmp,tt];simp [go_sem,dd]
         ·exact ⟨_,rfl,Below.refl _ _,rfl⟩
        ·intro a W hb0 hs hp hi;have hb:=undrew hb0;clear hb0
         have tg:sl a 162 = .bool false:=hp 18 (by decide)
         have x1:sl a 163 = .slice qs L cs:=hp 19 (by decide)
         have x2:sl a 164 = .int .i64 (a0:Nat):=hp 20 (by decide)
         have x3:sl a 166 = .int .i64 (x:Nat):=hp 22 (by decide)
         refine ite_y (wanted_yes rfl rfl (by have hz:a.tmps.size = 203:=hs;rw [hz];decide) tg) (wp_val (.slice qa (x - a0) ca) ?_ ?_)
         ·simp only [execOp,eval_tmp,Option.map,x1,x2,x3];first | (simp [hsl1 W,Result.andThen];done) | (simp [Sem.run_bind,hsl1 W,Result.andThen];done) | (rw [Sem.run_bind,hsl1 W];rfl) | (simp [go_sem,hsl1 W];done) | (trace_state;fail)
         ·exact ⟨_,rfl,Below.refl _ _,rfl⟩
        ·intro a W hb0 hs hp hi;have hb:=undrew hb0;clear hb0
         have tg:sl a 162 = .bool false:=hp 18 (by decide)
         have t0:sl a 0 = .slice q0 L c0:=hi 0 (by decide)
         exact ite_y (wanted_yes rfl rfl (by have hz:a.tmps.size = 203:=hs;rw [hz];decide) tg) (wp_val (sl a 0) rfl ⟨_,rfl,Below.refl _ _,t0⟩)
        ·intro a W hb0 hs hp hi;have hb:=undrew hb0;clear hb0
         have tg:sl a 162 = .bool false:=hp 18 (by decide)
         have t23:sl a 23 = .int .i64 (a0:Nat):=hi 23 (by decide)
         exact ite_y (wanted_yes rfl rfl (by have hz:a.tmps.size = 203:=hs;rw [hz];decide) tg) (wp_val (sl a 23) rfl ⟨_,rfl,Below.refl _ _,t23⟩)
        ·intro a W hb0 hs hp hi;have hb:=undrew hb0;clear hb0
         have tg:sl a 162 = .bool false:=hp 18 (by decide)
         have ti0:sl a 25 = .pointer (some ⟨wr.heap.size,0,none⟩):=hi 25 (by decide)
         refine ite_y (wanted_yes rfl rfl (by have hz:a.tmps.size = 203:=hs;rw [hz];decide) tg) (wp_val (.pointer (some ⟨wr.heap.size,0,none⟩)) ?_ ?_)
         ·simp only [execOp,eval_tmp,eval_const,ti0];simp [go_sem,Tryz.underlying74]
         ·exact ⟨_,rfl,Below.refl _ _,rfl⟩
        ·intro a W hb0 hs hp hi;have hb:=undrew hb0;clear hb0
         have tg:sl a 162 = .bool false:=hp 18 (by decide)
         have tt:sl a 170 = .pointer (some ⟨wr.heap.size,0,none⟩):=hp 26 (by decide)
         have dd:=(hb.cell (p:=⟨wr.heap.size,0,none⟩) (lt_of_cell v80)).trans v80
         refine ite_y (wanted_yes rfl rfl (by have hz:a.tmps.size = 203:=hs;rw [hz];decide) tg) (wp_val (.int .i64 (x:Nat)) ?_ ?_)
         ·simp only [execOp,eval_tmp,tt];simp [go_sem,dd]
         ·exact ⟨_,rfl,Below.refl _ _,rfl⟩
        ·intro a W hb0 hs hp hi;have hb:=undrew hb0;clear hb0
         have tg:sl a 162 = .bool false:=hp 18 (by decide)
         have x1:sl a 168 = .slice q0 L c0:=hp 24 (by decide)
         have x2:sl a 169 = .int .i64 (a0:Nat):=hp 25 (by decide)
         have x3:sl a 171 = .int .i64 (x:Nat):=hp 27 (by decide)
         refine ite_y (wanted_yes rfl rfl (by have hz:a.tmps.size = 203:=hs;rw [hz];decide) tg) (wp_val (.slice qb (x - a0) cb) ?_ ?_)
         ·simp only [execOp,eval_tmp,Option.map,x1,x2,x3];first | (simp [hsl2 W,Result.andThen];done) | (simp [Sem.run_bind,hsl2 W,Result.andThen];done) | (rw [Sem.run_bind,hsl2 W];rfl) | (simp [go_sem,hsl2 W];done) | (trace_state;fail)
         ·exact ⟨_,rfl,Below.refl _ _,rfl⟩
        ·intro a W hb0 hs hp hi;have hb:=undrew hb0;clear hb0
         have tg:sl a 162 = .bool false:=hp 18 (by decide)
         have x1:sl a 167 = .slice qa (x - a0) ca:=hp 23 (by decide)
         have x2:sl a 172 = .slice qb (x - a0) cb:=hp 28 (by decide)
         refine ite_y (wanted_yes rfl rfl (by have hz:a.tmps.size = 203:=hs;rw [hz];decide) tg) (wp_enter 49 #[.slice qa (x - a0) ca,.slice qb (x - a0) cb] ?_ (HEQ.out W hb) ?_)
         ·simp only [execOp,resolve,List.map_toArray,List.map,eval_tmp,eval_func,eval_const,x1,x2];simp [go_sem]
         ·rintro e W' ⟨rfl,hw⟩;exact ⟨_,rfl,_,rfl,hw,rfl⟩
        ·intro a W hb0 hs hp hi;have hb:=undrew hb0;clear hb0
         have tg:sl a 162 = .bool false:=hp 18 (by decide)
         have t173:sl a 173 = .bool true:=hp 29 (by decide)
         refine ite_y (wanted_yes rfl rfl (by have hz:a.tmps.size = 203:=hs;rw [hz];decide) tg) (wp_val (.bool false) ?_ ?_)
         ·simp only [execOp,eval_tmp,eval_const,t173];simp [go_sem]
         ·exact ⟨_,rfl,Below.refl _ _,rfl⟩
        ·intro a W hb0 hs hp hi;have hb:=undrew hb0;clear hb0
         have t162:sl a 162 = .bool false:=hp 18 (by decide)
         have t174:sl a 174 = .bool false:=hp 30 (by decide)
         refine ite_y rfl (wp_val (.bool false) ?_ ?_)
         ·simp only [execOp,eval_tmp,eval_const,t162,t174];simp [go_sem]
         ·exact ⟨_,rfl,Below.refl _ _,rfl⟩
       intro a w9 hb hs hd hI ht
       have ha:=act_is [144,145,146,147,148,149,150,151,152,153,154,155,156,157,158,159,160,161,162,163,164,165,166,167,168,169,170,171,172,173,174,175] hs hd ht (by decide)
       have t175:sl a 175 = .bool false:=hI 31 (by decide)
       simp only [List.foldl,t175] at ha
       generalize sl a 144 = u144 at ha
       generalize sl a 145 = u145 at ha
       generalize sl a 146 = u146 at ha
       generalize sl a 147 = u147 at ha
       generalize sl a 148 = u148 at ha
       generalize sl a 149 = u149 at ha
       generalize sl a 150 = u150 at ha
       generalize sl a 151 = u151 at ha
       generalize sl a 152 = u152 at ha
       generalize sl a 153 = u153 at ha
       generalize sl a 154 = u154 at ha
       generalize sl a 155 = u155 at ha
       generalize sl a 156 = u156 at ha
       generalize sl a 157 = u157 at ha
       generalize sl a 158 = u158 at ha
       generalize sl a 159 = u159 at ha
       generalize sl a 160 = u160 at ha
       generalize sl a 161 = u161 at ha
       generalize sl a 162 = u162 at ha
       generalize sl a 163 = u163 at ha
       generalize sl a 164 = u164 at ha
       generalize sl a 165 = u165 at ha
       generalize sl a 166 = u166 at ha
       generalize sl a 167 = u167 at ha
       generalize sl a 168 = u168 at ha
       generalize sl a 169 = u169 at ha
       generalize sl a 170 = u170 at ha
       generalize sl a 171 = u171 at ha
       generalize sl a 172 = u172 at ha
       generalize sl a 173 = u173 at ha
       generalize sl a 174 = u174 at ha
       simp only [Act.put,List.setIfInBounds_toArray,List.set_cons_zero,List.set_cons_succ] at ha
       rw [ha]
       clear ha hI ht
       clear hsl1 hsl2 HEQ hd1 hd2
       have HB9:Hid (Below wr.heap.size wr w9):=bl HB8.out hb HB8.out.size
       have u81:=(hb.cell (p:=⟨wr.heap.size,1,none⟩) (lt_of_cell v81)).trans v81
       clear hb v80 v81 HB8
       go_wp2
       go_roundw
       case rel=>exact ⟨j9 + 1,y,HLT9.out,by go_num,rfl,HS5.out.symm,bl HBl.out HB9.out HBl.out.size⟩
       case measure=>simp [intOf];have:=HLT9.out;omega
      ·obtain rfl:j9 = ng + 1:=by omega
       clear hlt9 HA HPE HSO6 HSep HPart
       have HVr:=Lib.hid ((HBl.out.block _ (lt_of_block HV6.out)).trans HV6.out)
       have HSr:=Lib.hid (HSe.out.keep HBw.out)
       have HPr:=Lib.hid ((HBw.out.block _ (lt_of_block HPe.out)).trans HPe.out)
       have y1:wr.cell? ⟨gv,4,none⟩ = some (.int .i64 (st2:Nat)):=by rw [cell_of_row _ _ 4 _ _ _ HVr.out];rfl
       have y2:wr.cell? ⟨gv,7,none⟩ = some (.int .i64 (m:Nat)):=by rw [cell_of_row _ _ 7 _ _ _ HVr.out];rfl
       by_cases hfull:K2.length = k
       ·have hgf:=HGf.out hfull
        have hm2:=HMk.out hfull
        have hndz:nd = 0:=by have:=HND.out;omega
        have hst1:st2 = 1:=by have:=HST2.out;rw [this];exact if_pos hfull
        have e1:((nd:Int) == 0) = true:=by rw [hndz];rfl
        have e2:((st2:Int) == 1) = true:=by rw [hst1];rfl
        have HGr:=Lib.hid (HGp.out wr HBw.out)
        rw [hgf] at HGr
        clear hndz hst1
        have em:((m:Int) != (k:Int)) = false:=by rw [hm2];simp
        go_wp2_with fail
        refine Calls.mono HGr.out ?_
        rintro e wy ⟨qy,ny,cy,rfl,hpo,hb⟩
        have hny:ny = 0:=by have:=hpo.1;simpa using this.symm
        subst hny
        have y2y:=(hb.cell (p:=⟨gv,7,none⟩) (lt_of_cell y2)).trans y2
        have HPy:=Lib.hid ((hb.block _ (lt_of_block HPr.out)).trans HPr.out)
        have HSy:=Lib.hid (HSr.out.keep hb)
        obtain ⟨_,_,z2,_⟩:=cells_four HPy.out
        clear hb hpo HGr HSr HPr y1 y2 HVr hm2 hgf HGf HMk
        go_wp2
        go_roundw
        case rel=>exact ⟨i + 1,nx + 1,N + 1,v2,X ++ [rx],K2,HLT.out,by go_num,congrArg (fun x:Nat=>Value.int .i64 (x:Int)) HND.out,by omega,by omega,hr2,HSy.out,HO2.out,HPy.out⟩
        case measure=>simp [intOf];have:=HLT.out;omega
       ·have hndz:nd≠0:=by have:=HND.out;omega
        have hst1:st2≠1:=by have:=HST2.out;rw [this];unfold stF;rw [if_neg hfull];decide
        have e1:((nd:Int) == 0) = false:=beq_eq_false_iff_ne.2 (by omega)
        have e2:((st2:Int) == 1) = false:=beq_eq_false_iff_ne.2 (by omega)
        clear hndz hst1
        go_wp2
        go_roundw
        case rel=>exact ⟨i + 1,nx + 1,N + 1,v2,X ++ [rx],K2,HLT.out,by go_num,congrArg (fun x:Nat=>Value.int .i64 (x:Int)) HND.out,by omega,by omega,hr2,HSr.out,HO2.out,HPr.out⟩
        case measure=>simp [intOf];have:=HLT.out;omega
    ·have hz:(srcC a.m j k != 0) = true:=bne_iff_ne.2 hm
     have hsend:=ST_sendA HRa.out HT.out (by omega) HSa.out hjr (m:=a.m) (s:=a.s)
     have hnx2:=nextX_le nx k a.m j
     generalize sentX D nx k FX a.m j a.s a.xs = xa at *
     generalize nextX nx k a.m j = nx' at *
     generalize srcC a.m j k = R at *
     have HSD:=Lib.hid hsend
     clear hsend ba hs64 hm
     go_wp2_with fail
     refine Calls.mono HSD.out ?_
     rintro e wd ⟨ql,nl,cl,rfl,hf,hS,hK⟩
     have HSd:=Lib.hid hS
     have HPd:=Lib.hid (hK.blk os_plan HPa.out)
     clear hf hS hK x0 x1 x2 HR HRa HSD HPa HP HSa
     go_wp2
     go_roundw
     case rel=>exact ⟨i + 1,nx',N,v,X,K,HLT.out,by go_num,congrArg (fun x:Nat=>Value.int .i64 (x:Int)) HN0.out,by omega,by omega,hKk,HSd.out,HO.out,HPd.out⟩
     case measure=>simp [intOf];have:=HLT.out;omega
   ·have hj':(100:Int) < (j:Int):=by omega
    go_wp2
    go_ret
    exact ⟨rfl,al HR.out.bel HR.out.bel.size⟩
  ·obtain rfl:i = n1:=by omega
   clear hlt
   go_wp2
   go_ret
   exact ⟨rfl,HR.out.bel⟩
end Go.Proofs.YtccaiiigdfieoaaGreatDoor
