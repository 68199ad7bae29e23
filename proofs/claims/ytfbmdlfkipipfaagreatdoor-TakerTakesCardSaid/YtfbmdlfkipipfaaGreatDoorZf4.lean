/- Chapter 15: packet.Read of what is one. Chapter 15: packet.Read whole; packet.Equation (of what fits). Chapter 18: gate.New (of a plan that may be); the counts in memory. A region that draws its order,without calls,in which two whole rows are stored: all else is told values. Chapter 18: gate.Look. Chapter 18: gate.Look of a gate that nothing came to. Chapter 18: how often a gate was asked: Seen. The contracts of a grid's parts: blank,row,Width,Height,Same. The contracts of grid.Of,and of the reference's Of; Few. The contracts of grid.Unit and Rows. A slice of rows that the call owns. The walk of the law KernPairs. The contracts of the reference's functions of layer 3,and its inverse. The contracts of the reference's functions of layer 3. The contracts of the reference's Less and Same of layer 3,of the law's helpers,and of Unit. The plain law of VecLeads: what is normed leads with a 1,and so on. Linear algebra over the field of 256 elements: combinations,spans,independence,exchange,elimination. Nothing of the program. Vectors of n places: units,coordinates; products of rows; rows and columns have one rank; what is inverse from the left is from the right. -/
import Derived.Test.YtfbmdlfkipipfaaGreatDoorZf3
import Derived.Maps.RangeWalk
import Derived.Maps.Own
import Derived.Maps.OwnSet
import Derived.Maps.OwnOps
import Derived.Maps.Views
import Derived.Maps.Ext
import Derived.Deep.AppendLies
namespace Go.By
open Go.RowKit
end Go.By
namespace Go.Proofs.YtfbmdlfkipipfaaGreatDoor
open Go.RowKit Go.By
def RdT (T B : Nat) (m : UInt8) (S : Nat) (X : List UInt8) (v : Value) (w : World) : Prop := ∃ q n c,v = .tuple #[SVal m q n c S,.int .i64 0] ∧ Fresh T B w q n c X
def RdV (T B : Nat) (m : UInt8) (S : Nat) (X : List UInt8) (v : Value) (w : World) : Prop := ∃ q n c,v = SVal m q n c S ∧ Fresh T B w q n c X
def ShRdT (T B : Nat) (m : UInt8) (S : Nat) (X : List UInt8) : Shp := ⟨RdT T B m S X,fun _ _ _ ⟨q,n,c,e,h⟩ hb => ⟨q,n,c,e,h.keep hb⟩⟩
def ShRdV (T B : Nat) (m : UInt8) (S : Nat) (X : List UInt8) : Shp := ⟨RdV T B m S X,fun _ _ _ ⟨q,n,c,e,h⟩ hb => ⟨q,n,c,e,h.keep hb⟩⟩
def ShNew (T B : Nat) (cs : Array Value) : Shp := ⟨fun v w => ∃ g,v = .pointer (some ⟨g,0,none⟩) ∧ B ≤ g ∧ w.heap[g]? = some (.cells cs T (0,0)),fun _ _ _ ⟨g,e,h1,h2⟩ hb => ⟨g,e,h1,(hb.block _ (lt_of_block h2)).trans h2⟩⟩
def FrV (T B : Nat) (Y : List UInt8) (v : Value) (w : World) : Prop := ∃ q n c,v = .slice q n c ∧ Fresh T B w q n c Y
def ShFr (T B : Nat) (Y : List UInt8) : Shp := ⟨FrV T B Y,fun _ _ _ ⟨q,n,c,e,h⟩ hb => ⟨q,n,c,e,h.keep hb⟩⟩
def PkV (T B : Nat) (m : UInt8) (O M : Nat) (q8 : Option Addr) (n8 k8 S : Nat) (Y : List UInt8) (v : Value) (w : World) : Prop := ∃ q n c,v = PkVal m O M m q8 n8 k8 S q n c ∧ Fresh T B w q n c Y
def ShPk (T B : Nat) (m : UInt8) (O M : Nat) (q8 : Option Addr) (n8 k8 S : Nat) (Y : List UInt8) : Shp := ⟨PkV T B m O M q8 n8 k8 S Y,fun _ _ _ ⟨q,n,c,e,h⟩ hb => ⟨q,n,c,e,h.keep hb⟩⟩
theorem pkt_ne : 135 ≠ 5 := by decide
def PRet (w : World) (m : UInt8) (O M : Nat) (X : List UInt8) (S : Nat) (Y : List UInt8) (e : Ending) (w' : World) : Prop :=
 ∃ q n c q2 n2 c2,e = .returned (.tuple #[PkVal m O M m q n c S q2 n2 c2,.int .i64 0]) ∧ Fresh 5 w.heap.size w' q n c X ∧ Fresh 5 w.heap.size w' q2 n2 c2 Y ∧ Below w.heap.size w w'
set_option maxRecDepth 100000 in
set_option maxHeartbeats 4000000 in
theorem PRead_ok (L t k D : Nat) (b o : Nat) (n c : Nat) (xs : List UInt8) (w : World) (hP : POK L t k D) (hT : HalfT w) (h : Sl B8 w (some ⟨b,o,none⟩) n c xs) (hr : Room n) (hc : headC xs = 0) (E : Nat) (hn : n = lenP (xs.getD 1 0) k t) (hE : n = E + 4) (hs : get4 ((xs.drop E).take 4) = crcS (xs.take E)) (ho : get4 ((xs.drop 2).take 4) = D) :
  Calls Tryz.prog 110 #[PVal L t k D,.slice (some ⟨b,o,none⟩) n c] w (PRet w (xs.getD 1 0) D (get4 ((xs.drop 6).take 4)) (rdX (xs.getD 1 0) ((xs.drop 10).take (widS (xs.getD 1 0) k))) (rdS (xs.getD 1 0) ((xs.drop 10).take (widS (xs.getD 1 0) k))) ((xs.drop (10 + widS (xs.getD 1 0) k)).take t)) := by
 have HK : Hid (∀ w,Calls Tryz.prog 73 #[PVal L t k D] w fun e w' => e = .returned (.int .i64 0) ∧ Below w.heap.size w w') := PCheck_ok hP
 have hm := headC_mode hc
 have HR : Hid (∀ w,Sl B8 w (some ⟨b,o,none⟩) n c xs → Calls Tryz.prog 170 #[.slice (some ⟨b,o,none⟩) n c] w (HRet w (xs.getD 1 0) (get4 ((xs.drop 2).take 4)) (get4 ((xs.drop 6).take 4)) 0)) := fun w h => by have := HRead_any (some ⟨b,o,none⟩) n c xs w h hr; rw [if_pos hc] at this; exact this
 have HN : Hid (∀ w,Calls Tryz.prog 96 #[PVal L t k D,B8 (xs.getD 1 0)] w fun e w' => e = .returned (.tuple #[.int .i64 (n : Nat),.int .i64 0]) ∧ Below w.heap.size w w') := fun w => by rw [hn]; exact PLength_ok L t k D _ w hP hm
 have H := Lib.hid h
 have HT := Lib.hid hT
 have hle := h.le
 have hmx := h.max
 unfold maxLen at hmx
 have HE : Hid (E + 4 ≤ n) := by show E + 4 ≤ n; omega
 have HE' : Hid (E ≤ n) := by show E ≤ n; omega
 have eE : (n : Int) - 4 = (E : Int) := by omega
 have eN : n - E = 4 := by omega
 have eC : ¬ (c = E) := by omega
 have eb1 : (E : Int) ≤ (n : Int) := by omega
 have eb2 : (E : Int) ≤ (c : Int) := by omega
 obtain ⟨G,hG⟩ : ∃ G,get4 ((xs.drop E).take 4) = G := ⟨_,rfl⟩
 have HG := Lib.hid hG
 obtain ⟨C,hC⟩ : ∃ C,crcS ([xs.take E].flatten) = C := ⟨_,rfl⟩
 have HC := Lib.hid hC
 have e0 : C = G := by rw [hG] at hs; simp at hC; rw [hC] at hs; exact hs.symm
 subst e0
 have hV2 : n = 10 + widS (xs.getD 1 0) k + t + 4 := hn
 obtain ⟨V,hV⟩ : ∃ V,widS (xs.getD 1 0) k = V := ⟨_,rfl⟩
 obtain ⟨X,hX⟩ : ∃ X,rdX (xs.getD 1 0) ((xs.drop 10).take V) = X := ⟨_,rfl⟩
 obtain ⟨S,hS⟩ : ∃ S,rdS (xs.getD 1 0) ((xs.drop 10).take V) = S := ⟨_,rfl⟩
 obtain ⟨Y,hY⟩ : ∃ Y,(xs.drop (10 + V)).take t = Y := ⟨_,rfl⟩
 have HRD : Hid (∀ w,Sl B8 w (some ⟨b,o + 10,none⟩) V (c - 10) ((xs.drop 10).take V) → Calls Tryz.prog 172 #[B8 (xs.getD 1 0),.int .i64 (k : Nat),.slice (some ⟨b,o + 10,none⟩) V (c - 10)] w fun e w' => ∃ q n' c',e = .returned (.tuple #[SVal (xs.getD 1 0) q n' c' S,.int .i64 0]) ∧ Fresh 5 w.heap.size w' q n' c' X ∧ Below w.heap.size w w') := fun w h => by
  have := RRead_any (xs.getD 1 0) k _ _ _ _ w hm hP.k1 hP.k2 h hV.symm
  rw [hX,hS] at this; exact this
 have HY := Lib.hid hY
 have HRt : Hid (Room t) := by have := hP.t2; show t ≤ 140737488355328; omega
 rw [hV] at hV2
 rw [hV,hX,hS,hY]
 obtain ⟨A,hA⟩ : ∃ A,A = 10 + V := ⟨_,rfl⟩
 have HAV := Lib.hid hA
 have eA : (E : Int) - (t : Int) = (A : Int) := by omega
 have HV : Hid (10 + V ≤ n) := by show 10 + V ≤ n; omega
 have HVt : Hid (10 + V + t ≤ n) := by show 10 + V + t ≤ n; omega
 have HEt : Hid (E = A + t) := by show E = A + t; omega
 have ea1 : (10 : Int) ≤ (A : Int) := by omega
 have ea2 : (A : Int) ≤ (c : Int) := by omega
 have ea3 : A - 10 = V := by omega
 have ea4 : ¬ (c = 10) := by omega
 have ea5 : (A : Int) ≤ (n : Int) := by omega
 generalize xs.getD 1 0 = m at *
 rw [ho] at HR
 generalize get4 ((xs.drop 6).take 4) = M at *
 clear hP h hr hc hm hn hs ho hT hG hC hE hV hV2 hX hS hY hA
 go_enter Tryz.func110,Tryz.ntmps110
 go_wp2_with fail
 refine Calls.mono (HK.out _) ?_
 rintro e w1 ⟨rfl,hb⟩
 obtain ⟨hb1,h1,h2,hs⟩ := two_of hb
 have HB := Lib.hid hb1
 clear hb hb1
 go_wp2_with fail
 refine Calls.mono (HR.out _ (H.out.keep HB.out)) ?_
 rintro e w2 ⟨q0,n0,k0,rfl,hb⟩
 have h1' := (hb.block _ (by omega)).trans h1
 have h2' := (hb.block _ (by omega)).trans h2
 have hs2 : w.heap.size + 2 ≤ w2.heap.size := Nat.le_trans hs hb.size
 have HB2 := Lib.hid (bl HB.out hb HB.out.size)
 clear hb h1 h2 hs
 have c0 : ∀ o',(w2.alloc o').cell? ⟨w.heap.size,0,none⟩ = _ := fun _ => calloc (cells_four h1').1
 have c1 : ∀ o',(w2.alloc o').cell? ⟨w.heap.size,1,none⟩ = _ := fun _ => calloc (cells_four h1').2.1
 have c2 : ∀ o',(w2.alloc o').cell? ⟨w.heap.size,2,none⟩ = _ := fun _ => calloc (cells_four h1').2.2.1
 have c3 : ∀ o',(w2.alloc o').cell? ⟨w.heap.size,3,none⟩ = _ := fun _ => calloc (cells_four h1').2.2.2
 go_wp2_with fail
 refine Calls.mono (HN.out _) ?_
 rintro e w3 ⟨rfl,hb⟩
 obtain ⟨hb3,h3,hs3⟩ := one_of hb
 have h1 := (hb3.block _ (by omega)).trans h1'
 have h2 := (hb3.block _ (by omega)).trans h2'
 have HB3 := Lib.hid (bl HB2.out hb3 HB2.out.size)
 have HX : Hid (w.heap.size + 2 ≤ w2.heap.size) := hs2
 clear hb hb3 h1' h2' c0 c1 c2 c3
 go_wp2_with fail
 refine Calls.mono (SGet_any _ _ _ _ _ (Sl.part (k := E) (m := 4) (H.out.keep HB3.out) HE.out)) ?_
 rintro e w4 ⟨rfl,hb⟩
 rw [if_pos rfl,HG.out]
 have h1' := (hb.block _ (by omega)).trans h1
 have h2' := (hb.block _ (by omega)).trans h2
 have h3' := (hb.block _ (by omega)).trans h3
 have hs4 : w2.heap.size + 1 ≤ w4.heap.size := Nat.le_trans hs3 hb.size
 have HB4 := Lib.hid (bl HB3.out hb HB3.out.size)
 clear hb h1 h2 h3 hs3
 go_wp2_with fail
 refine Calls.mono (SOf_any _ _ _ [xs.take E] _ (sl2_one (hnew rfl) ((Sl.front' (H.out.keep HB4.out) HE'.out).keep (al (Below.refl _ _) (Nat.le_refl _)))) (HT.out.keep (al HB4.out HB4.out.size))) ?_
 rintro e w5 ⟨rfl,hb⟩
 obtain ⟨hb5,-,hs5'⟩ := one_of hb
 have h1 := (hb5.block _ (by omega)).trans h1'
 have h2 := (hb5.block _ (by omega)).trans h2'
 have h3 := (hb5.block _ (by omega)).trans h3'
 have hs5 : w2.heap.size + 1 ≤ w5.heap.size := by omega
 have HB5 := Lib.hid (bl HB4.out hb5 HB4.out.size)
 clear hb hb5 h1' h2' h3' hs5' hs4
 rw [HC.out]
 obtain ⟨c0,c1,c2,c3⟩ := cells_four h1
 obtain ⟨d0,d1,d2⟩ := cells_three h3
 go_wp2_with fail
 refine wp_region_slip (fun ix => ([.val (.pointer (some ⟨w2.heap.size,0,none⟩)),.val (B8 m),.val (.pointer (some ⟨w.heap.size,2,none⟩)),.val (.int .i64 (k : Nat)),.val (.slice (some ⟨b,o,none⟩) n c),.val (.int .i64 (A : Nat)),.val (.slice (some ⟨b,o + 10,none⟩) V (c - 10)),(ShRdT 5 w5.heap.size m S X),(ShRdT 5 w5.heap.size m S X),(ShRdV 5 w5.heap.size m S X),(.val (.int .i64 0)),(ShNew 66 w5.heap.size #[.int .u8 0,.slice none 0 0,.int .u64 0]),.any,.any][ix]?).getD (.any)) 101 12 10 78 88 (.int .i64 0) rfl (by kernel_rfl) (by decide) (by decide) (by decide) _ rfl rfl rfl (by decide) rfl (fun a x w h => run_extract_two _ rfl h) (by decide) ?_ ?_
 ·refine ⟨?_,?_,?_,?_,?_,?_,?_,?_,?_,?_,?_,?_,trivial⟩
  ·intro a W hb0 hs hp hi; have hb := undrew hb0; clear hb0
   have t7 : sl a 7 = .pointer (some ⟨w2.heap.size,0,none⟩) := hi 7 (by decide)
   refine ite_y rfl (wp_val (.pointer (some ⟨w2.heap.size,0,none⟩)) ?_ ?_)
   ·simp only [execOp,eval_tmp,eval_const,t7]; simp [go_sem]
   ·exact ⟨_,rfl,Below.refl _ _,rfl⟩
  ·intro a W hb0 hs hp hi; have hb := undrew hb0; clear hb0
   have tt : sl a 79 = .pointer (some ⟨w2.heap.size,0,none⟩) := hp 0 (by decide)
   have dd := (hb.cell (p := ⟨w2.heap.size,0,none⟩) (lt_of_cell d0)).trans d0
   refine ite_y rfl (wp_val (B8 m) ?_ ?_)
   ·simp only [execOp,eval_tmp,tt]; simp [go_sem,dd]
   ·exact ⟨_,rfl,Below.refl _ _,rfl⟩
  ·intro a W hb0 hs hp hi; have hb := undrew hb0; clear hb0
   have t2 : sl a 2 = .pointer (some ⟨w.heap.size,0,none⟩) := hi 2 (by decide)
   refine ite_y rfl (wp_val (.pointer (some ⟨w.heap.size,2,none⟩)) ?_ ?_)
   ·simp only [execOp,eval_tmp,eval_const,t2]; simp [go_sem]
   ·exact ⟨_,rfl,Below.refl _ _,rfl⟩
  ·intro a W hb0 hs hp hi; have hb := undrew hb0; clear hb0
   have tt : sl a 81 = .pointer (some ⟨w.heap.size,2,none⟩) := hp 2 (by decide)
   have dd := (hb.cell (p := ⟨w.heap.size,2,none⟩) (lt_of_cell c2)).trans c2
   refine ite_y rfl (wp_val (.int .i64 (k : Nat)) ?_ ?_)
   ·simp only [execOp,eval_tmp,tt]; simp [go_sem,dd]
   ·exact ⟨_,rfl,Below.refl _ _,rfl⟩
  ·intro a W hb0 hs hp hi; have hb := undrew hb0; clear hb0
   have t1 : sl a 1 = .slice (some ⟨b,o,none⟩) n c := hi 1 (by decide)
   exact ite_y rfl (wp_val (sl a 1) rfl ⟨_,rfl,Below.refl _ _,t1⟩)
  ·intro a W hb0 hs hp hi; have hb := undrew hb0; clear hb0
   have t13 : sl a 13 = .int .i64 (A : Nat) := hi 13 (by decide)
   exact ite_y rfl (wp_val (sl a 13) rfl ⟨_,rfl,Below.refl _ _,t13⟩)
  ·intro a W hb0 hs hp hi; have hb := undrew hb0; clear hb0
   have t83 : sl a 83 = .slice (some ⟨b,o,none⟩) n c := hp 4 (by decide)
   have t84 : sl a 84 = .int .i64 (A : Nat) := hp 5 (by decide)
   have v84 : a.tmps[84]?.getD undef = sl a 84 := by simp [sl]
   rw [t84] at v84
   refine ite_y rfl (wp_val (.slice (some ⟨b,o + 10,none⟩) V (c - 10)) ?_ ?_)
   ·simp only [execOp,eval_tmp,eval_const,t83,t84]; simp [go_sem,v84,ea1,ea2,ea3,ea4,ea5]
   ·exact ⟨_,rfl,Below.refl _ _,rfl⟩
  ·intro a W hb0 hs hp hi; have hb := undrew hb0; clear hb0
   have t80 : sl a 80 = B8 m := hp 1 (by decide)
   have t82 : sl a 82 = .int .i64 (k : Nat) := hp 3 (by decide)
   have t85 : sl a 85 = .slice (some ⟨b,o + 10,none⟩) V (c - 10) := hp 6 (by decide)
   refine ite_y rfl (wp_enter 172 #[B8 m,.int .i64 (k : Nat),.slice (some ⟨b,o + 10,none⟩) V (c - 10)] ?_ (HRD.out _ ((Sl.part (k := 10) (m := V) (H.out.keep HB5.out) HV.out).keep hb)) ?_)
   ·simp only [execOp,resolve,List.map_toArray,List.map,eval_tmp,eval_func,eval_const,t80,t82,t85]; simp [go_sem]
   ·rintro e W' ⟨q5,n5,g5,rfl,o5,hw⟩; exact ⟨_,rfl,_,rfl,hw,q5,n5,g5,rfl,o5.mono hb.size⟩
  ·intro a W hb0 hs hp hi; have hb := undrew hb0; clear hb0
   exact ite_y rfl (wp_val (sl a 86) rfl ⟨_,rfl,Below.refl _ _,hp 7 (by decide)⟩)
  ·intro a W hb0 hs hp hi; have hb := undrew hb0; clear hb0
   have tt : RdT 5 w5.heap.size m S X (sl a 78) W := hp 8 (by decide)
   obtain ⟨q5,n5,g5,tt,z5⟩ := tt
   refine ite_y rfl (wp_val (SVal m q5 n5 g5 S) ?_ ?_)
   ·simp only [execOp,eval_tmp,tt]; rfl
   ·exact ⟨_,rfl,Below.refl _ _,q5,n5,g5,rfl,z5⟩
  ·intro a W hb0 hs hp hi; have hb := undrew hb0; clear hb0
   have tt : RdT 5 w5.heap.size m S X (sl a 78) W := hp 8 (by decide)
   obtain ⟨q5,n5,g5,tt,z5⟩ := tt
   refine ite_y rfl (wp_val (.int .i64 0) ?_ ?_)
   ·simp only [execOp,eval_tmp,tt]; rfl
   ·exact ⟨_,rfl,Below.refl _ _,rfl⟩
  ·intro a W hb0 hs hp hi; have hb := undrew hb0; clear hb0
   refine ite_y rfl (wp_val' (w' := W.alloc (.cells #[.int .u8 0,.slice none 0 0,.int .u64 0] 66)) (.pointer (some ⟨W.heap.size,0,none⟩)) ?_ ?_)
   ·simp only [execOp]; simp [go_sem]
   ·exact ⟨_,rfl,al (Below.refl _ _) (Nat.le_refl _),_,rfl,hb.size,hnew rfl⟩
 intro a w9 o ho hb hs hd hI ht
 simp at ho; subst ho
 have y14 := hI 11 (by decide) (by decide)
 obtain ⟨g14,t14,hg14,hh14⟩ := y14
 have y87 := hI 9 (by decide) (by decide)
 obtain ⟨q8,n8,k8,t87,z87⟩ := y87
 have y78 := hI 8 (by decide) (by decide)
 obtain ⟨_,_,_,t78,_⟩ := y78
 refine ⟨⟨_,t78⟩,?_⟩
 refine wp_store_row 66 (.tmp 14) (.tmp 87) rfl g14 #[B8 m,.slice q8 n8 k8,.int .u64 (S : Nat)] (by rw [eval_tmp]; exact t14) (by rw [eval_tmp]; exact t87) _ _ hh14 info_source rfl (by simp [Value.oneCell']) ?_
 refine ⟨rfl,fun ab hbs hbd hbt hbu => ?_⟩
 have ha := act_is [79,80,81,82,83,84,85,86,78,87,88,14,9] hbs hbd (fun t h => (hbt t (fun e => by subst e; revert h; decide)).trans (ht t h)) (by decide)
 have s14 := (hbt 14 (by decide)).trans t14
 simp only [List.foldl,hbu,s14] at ha
 generalize sl ab 79 = u79 at ha
 generalize sl ab 80 = u80 at ha
 generalize sl ab 81 = u81 at ha
 generalize sl ab 82 = u82 at ha
 generalize sl ab 83 = u83 at ha
 generalize sl ab 84 = u84 at ha
 generalize sl ab 85 = u85 at ha
 generalize sl ab 86 = u86 at ha
 generalize sl ab 78 = u78 at ha
 generalize sl ab 87 = u87 at ha
 generalize sl ab 9 = u9 at ha
 simp only [Act.put,List.setIfInBounds_toArray,List.set_cons_zero,List.set_cons_succ] at ha
 rw [ha]; clear ha hbu hbt hbs hbd hI ht hs hd s14
 simp only [List.drop_succ_cons,List.drop_zero]
 have hl2 := lt_of_block h2
 have hl5 := hb.size
 have Z := Lib.hid (z87.row (cs := #[B8 m,.slice q8 n8 k8,.int .u64 (S : Nat)]) hh14 src_ne)
 have HB6 := Lib.hid (below_row (cs := #[B8 m,.slice q8 n8 k8,.int .u64 (S : Nat)]) (g := g14) (bl HB5.out hb HB5.out.size) (Nat.le_trans HB5.out.size hg14))
 have k1 := hro (cs := #[B8 m,.slice q8 n8 k8,.int .u64 (S : Nat)]) (g := g14) ((hb.block _ (by omega)).trans h1) (by omega)
 have k2 := hro (cs := #[B8 m,.slice q8 n8 k8,.int .u64 (S : Nat)]) (g := g14) ((hb.block _ (by omega)).trans h2) (by omega)
 have k3 := hro (cs := #[B8 m,.slice q8 n8 k8,.int .u64 (S : Nat)]) (g := g14) ((hb.block _ (by omega)).trans h3) (by omega)
 have k4 := hrs (cs := #[B8 m,.slice q8 n8 k8,.int .u64 (S : Nat)]) hh14
 have hs6 : w5.heap.size ≤ (w9.setRow g14 #[B8 m,.slice q8 n8 k8,.int .u64 (S : Nat)]).heap.size := by simp [World.setRow]; exact hl5
 have HSZ : Hid (w.heap.size ≤ w5.heap.size) := HB5.out.size
 clear hb h1 h2 h3 z87 hh14 t14 t87 t78 c0 c1 c2 c3 d0 d1 d2 hl2 hl5
 generalize w9.setRow g14 #[B8 m,.slice q8 n8 k8,.int .u64 (S : Nat)] = w6 at *
 obtain ⟨d0,d1,d2⟩ := cells_three k3
 obtain ⟨f0,f1,f2⟩ := cells_three k4
 have ec1 : (A : Int) ≤ (E : Int) := by have := HEt.out; omega
 have ec2 : E - A = t := by have := HEt.out; omega
 have ec3 : ¬ (c = A) := by have := HEt.out; omega
 have ec4 : (E : Int) ≤ (c : Int) := by omega
 have HAt : Hid (A + t ≤ n) := by have := HEt.out; have := HE.out; show A + t ≤ n; omega
 rw [← HAV.out] at HY
 go_wp2_with fail
 refine wp_region_tail (fun ix => ([.val (.agg #[B8 m,.int .u32 (D : Nat),.int .u32 (M : Nat)]),.val (.agg #[B8 m,.slice q8 n8 k8,.int .u64 (S : Nat)]),.val (.slice (some ⟨b,o,none⟩) n c),.val (.int .i64 (A : Nat)),.val (.int .i64 (E : Nat)),.val (.slice (some ⟨b,o + A,none⟩) t (c - A)),(ShFr 5 w6.heap.size Y),(ShPk 5 w6.heap.size m D M q8 n8 k8 S Y),.any,.any][ix]?).getD (.any)) 101 8 rfl (by kernel_rfl) (by decide) (by decide) (by decide) (by decide) ?_ ?_
 ·refine ⟨?_,?_,?_,?_,?_,?_,?_,?_,trivial⟩
  ·intro a W hb0 hs hp hi; have hb := undrew hb0; clear hb0
   have tt : sl a 7 = .pointer (some ⟨w2.heap.size,0,none⟩) := hi 7 (by decide)
   have dd0 := (hb.cell (p := ⟨w2.heap.size,0,none⟩) (lt_of_cell d0)).trans d0
   have dd1 := (hb.cell (p := ⟨w2.heap.size,1,none⟩) (lt_of_cell d1)).trans d1
   have dd2 := (hb.cell (p := ⟨w2.heap.size,2,none⟩) (lt_of_cell d2)).trans d2
   refine ite_y rfl (wp_val (.agg #[B8 m,.int .u32 (D : Nat),.int .u32 (M : Nat)]) ?_ ?_)
   ·simp only [execOp,eval_tmp,tt]; simp [go_sem,dd0,dd1,dd2]
   ·exact ⟨_,rfl,Below.refl _ _,rfl⟩
  ·intro a W hb0 hs hp hi; have hb := undrew hb0; clear hb0
   have tt : sl a 14 = .pointer (some ⟨g14,0,none⟩) := hi 14 (by decide)
   have dd0 := (hb.cell (p := ⟨g14,0,none⟩) (lt_of_cell f0)).trans f0
   have dd1 := (hb.cell (p := ⟨g14,1,none⟩) (lt_of_cell f1)).trans f1
   have dd2 := (hb.cell (p := ⟨g14,2,none⟩) (lt_of_cell f2)).trans f2
   refine ite_y rfl (wp_val (.agg #[B8 m,.slice q8 n8 k8,.int .u64 (S : Nat)]) ?_ ?_)
   ·simp only [execOp,eval_tmp,tt]; simp [go_sem,dd0,dd1,dd2]
   ·exact ⟨_,rfl,Below.refl _ _,rfl⟩
  ·intro a W hb0 hs hp hi; have hb := undrew hb0; clear hb0
   have t1 : sl a 1 = .slice (some ⟨b,o,none⟩) n c := hi 1 (by decide)
   exact ite_y rfl (wp_val (sl a 1) rfl ⟨_,rfl,Below.refl _ _,t1⟩)
  ·intro a W hb0 hs hp hi; have hb := undrew hb0; clear hb0
   have t13 : sl a 13 = .int .i64 (A : Nat) := hi 13 (by decide)
   exact ite_y rfl (wp_val (sl a 13) rfl ⟨_,rfl,Below.refl _ _,t13⟩)
  ·intro a W hb0 hs hp hi; have hb := undrew hb0; clear hb0
   have t11 : sl a 11 = .int .i64 (E : Nat) := hi 11 (by decide)
   exact ite_y rfl (wp_val (sl a 11) rfl ⟨_,rfl,Below.refl _ _,t11⟩)
  ·intro a W hb0 hs hp hi; have hb := undrew hb0; clear hb0
   have t95 : sl a 95 = .slice (some ⟨b,o,none⟩) n c := hp 2 (by decide)
   have t96 : sl a 96 = .int .i64 (A : Nat) := hp 3 (by decide)
   have t97 : sl a 97 = .int .i64 (E : Nat) := hp 4 (by decide)
   have v96 : a.tmps[96]?.getD undef = sl a 96 := by simp [sl]
   rw [t96] at v96
   have v97 : a.tmps[97]?.getD undef = sl a 97 := by simp [sl]
   rw [t97] at v97
   refine ite_y rfl (wp_val (.slice (some ⟨b,o + A,none⟩) t (c - A)) ?_ ?_)
   ·simp only [execOp,eval_tmp,eval_const,t95,t96,t97]; simp [go_sem,v96,v97,eb1,eb2,ec1,ec2,ec3,ec4]
   ·exact ⟨_,rfl,Below.refl _ _,rfl⟩
  ·intro a W hb0 hs hp hi; have hb := undrew hb0; clear hb0
   have t98 : sl a 98 = .slice (some ⟨b,o + A,none⟩) t (c - A) := hp 5 (by decide)
   refine ite_y rfl (wp_enter 150 #[.slice (some ⟨b,o + A,none⟩) t (c - A)] ?_ (BClone_any _ _ _ _ _ ((Sl.part (k := A) (m := t) (H.out.keep HB6.out) HAt.out).keep hb) HRt.out) ?_)
   ·simp only [execOp,resolve,List.map_toArray,List.map,eval_tmp,eval_func,eval_const,t98]; simp [go_sem]
   ·rintro e W' ⟨q5,g5,rfl,o5,hw⟩; exact ⟨_,rfl,_,rfl,hw,q5,_,g5,rfl,by rw [← HY.out]; exact (Fresh.of_owns o5).mono hb.size⟩
  ·intro a W hb0 hs hp hi; have hb := undrew hb0; clear hb0
   have t93 : sl a 93 = .agg #[B8 m,.int .u32 (D : Nat),.int .u32 (M : Nat)] := hp 0 (by decide)
   have t94 : sl a 94 = .agg #[B8 m,.slice q8 n8 k8,.int .u64 (S : Nat)] := hp 1 (by decide)
   have t99 := hp 6 (by decide)
   obtain ⟨q5,n5,g5,t99,z99⟩ := t99
   have v93 : a.tmps[93]?.getD undef = sl a 93 := by simp [sl]
   rw [t93] at v93
   have v94 : a.tmps[94]?.getD undef = sl a 94 := by simp [sl]
   rw [t94] at v94
   have v99 : a.tmps[99]?.getD undef = sl a 99 := by simp [sl]
   rw [t99] at v99
   refine ite_y rfl (wp_val (PkVal m D M m q8 n8 k8 S q5 n5 g5) ?_ ?_)
   ·simp only [execOp,eval_tmp,t93,t94,t99]; simp [go_sem,v93,v94,v99,Tryz.underlying133,Tryz.underlying66,Tryz.underlying135]
   ·exact ⟨_,rfl,Below.refl _ _,q5,n5,g5,rfl,z99⟩
 intro a w10 hb hs hd hI ht
 have ha := act_is [93,94,95,96,97,98,99,100,5] hs hd ht (by decide)
 have y100 := hI 7 (by decide)
 obtain ⟨q9,n9,c9,t100,z100⟩ := y100
 simp only [List.foldl,t100] at ha
 generalize sl a 93 = u93 at ha
 generalize sl a 94 = u94 at ha
 generalize sl a 95 = u95 at ha
 generalize sl a 96 = u96 at ha
 generalize sl a 97 = u97 at ha
 generalize sl a 98 = u98 at ha
 generalize sl a 99 = u99 at ha
 generalize sl a 5 = u5 at ha
 simp only [Act.put,List.setIfInBounds_toArray,List.set_cons_zero,List.set_cons_succ] at ha
 rw [ha]; clear ha hI ht hs hd
 simp only [List.drop_succ_cons,List.drop_zero]
 have k2' := (hb.block _ (by have := lt_of_block k2; omega)).trans k2
 have Z2 := Lib.hid (Z.out.keep hb)
 have HB7 := Lib.hid (bl HB6.out hb HB6.out.size)
 have ZZ := Lib.hid z100
 clear hb k1 k2 k3 k4 d0 d1 d2 f0 f1 f2 z100
 go_wp2_with (refine wpList_store_row (o := ⟨none,.store 135 (.tmp 4) (.tmp 100),_,_,_,_⟩) rfl 135 (.tmp 4) (.tmp 100) rfl (w.heap.size + 1) #[B8 m,.int .u32 (D : Nat),.int .u32 (M : Nat),B8 m,.slice q8 n8 k8,.int .u64 (S : Nat),.slice q9 n9 c9] rfl rfl _ _ k2' info_packet rfl (by simp [Value.oneCell']) ?_)
 refine bodyPost_ret (res_ct rfl _ _ _ 135 #[B8 m,.int .u32 (D : Nat),.int .u32 (M : Nat),B8 m,.slice q8 n8 k8,.int .u64 (S : Nat),.slice q9 n9 c9] (0,0) _ (.int .i64 0) rfl (hrs k2') rfl Tryz.underlying135 rfl info_packet) rfl ?_
 exact ⟨q8,n8,k8,q9,n9,c9,rfl,(Z2.out.mono HSZ.out).row k2' pkt_ne,(ZZ.out.mono (Nat.le_trans HSZ.out hs6)).row k2' pkt_ne,below_row HB7.out (by omega)⟩
end Go.Proofs.YtfbmdlfkipipfaaGreatDoor
namespace Go.By
open Go.RowKit
theorem three_of {w w1 : World} {A B C : Obj} (hb : Below (((w.alloc A).alloc B).alloc C).heap.size (((w.alloc A).alloc B).alloc C) w1) : Below w.heap.size w w1 ∧ w1.heap[w.heap.size]? = some A ∧ w1.heap[w.heap.size + 1]? = some B ∧ w1.heap[w.heap.size + 2]? = some C ∧ w.heap.size + 3 ≤ w1.heap.size :=
 ⟨(al (al (al (Below.refl _ _) (Nat.le_refl _)) (by simp)) (by simp; omega)).trans (hb.mono (by simp; omega)),(hb.block _ (by simp; omega)).trans (hal (hal (hnew rfl))),(hb.block _ (by simp)).trans (hal (hnew (by simp))),(hb.block _ (by simp)).trans (hnew (by simp)),by have := hb.size; simp at this; omega⟩
end Go.By
namespace Go.Proofs.YtfbmdlfkipipfaaGreatDoor
open Go.RowKit Go.By
def readC (k t D : Nat) (xs : List UInt8) : Int := if headC xs ≠ 0 then headC xs else if xs.length ≠ lenP (xs.getD 1 0) k t then 4 else if get4 ((xs.drop (xs.length - 4)).take 4) ≠ crcS (xs.take (xs.length - 4)) then 10 else if get4 ((xs.drop 2).take 4) ≠ D then 9 else 0
def pktM (xs : List UInt8) : UInt8 := xs.getD 1 0
def pktN (xs : List UInt8) : Nat := get4 ((xs.drop 6).take 4)
def pktX (k : Nat) (xs : List UInt8) : List UInt8 := rdX (xs.getD 1 0) ((xs.drop 10).take (widS (xs.getD 1 0) k))
def pktS (k : Nat) (xs : List UInt8) : Nat := rdS (xs.getD 1 0) ((xs.drop 10).take (widS (xs.getD 1 0) k))
def pktY (k t : Nat) (xs : List UInt8) : List UInt8 := (xs.drop (10 + widS (xs.getD 1 0) k)).take t
theorem PRead_any (L t k D : Nat) (p : Option Addr) (n c : Nat) (xs : List UInt8) (w : World) (hP : POK L t k D) (hT : HalfT w) (h : Sl B8 w p n c xs) (hr : Room n) :
  Calls Tryz.prog 110 #[PVal L t k D,.slice p n c] w (if readC k t D xs = 0 then PRet w (pktM xs) D (pktN xs) (pktX k xs) (pktS k xs) (pktY k t xs) else PZero w (readC k t D xs)) := by
 have hl := h.len
 by_cases hc : headC xs = 0
 ·by_cases hn : n = lenP (xs.getD 1 0) k t
  ·have hn4 : 14 ≤ n := by rw [hn]; unfold lenP; omega
   obtain ⟨b,o,rfl,_⟩ := h.has (by omega)
   by_cases hs : get4 ((xs.drop (n - 4)).take 4) = crcS (xs.take (n - 4))
   ·by_cases ho : get4 ((xs.drop 2).take 4) = D
    ·have e : readC k t D xs = 0 := by unfold readC; rw [hl,if_neg (Classical.not_not.2 hc),if_neg (Classical.not_not.2 hn),if_neg (Classical.not_not.2 hs),if_neg (Classical.not_not.2 ho)]
     rw [e,if_pos rfl]
     exact PRead_ok L t k D b o n c xs w hP hT h hr hc (n - 4) hn (by omega) hs ho
    ·have e : readC k t D xs = 9 := by unfold readC; rw [hl,if_neg (Classical.not_not.2 hc),if_neg (Classical.not_not.2 hn),if_neg (Classical.not_not.2 hs),if_pos ho]
     rw [e,if_neg (by decide)]
     exact PRead_obj L t k D b o n c xs w hP hT h hr hc (n - 4) hn (by omega) hs ho
   ·have e : readC k t D xs = 10 := by unfold readC; rw [hl,if_neg (Classical.not_not.2 hc),if_neg (Classical.not_not.2 hn),if_pos hs]
    rw [e,if_neg (by decide)]
    exact PRead_sum L t k D b o n c xs w hP hT h hr hc (n - 4) hn (by omega) hs
  ·have e : readC k t D xs = 4 := by unfold readC; rw [hl,if_neg (Classical.not_not.2 hc),if_pos hn]
   rw [e,if_neg (by decide)]
   exact PRead_len L t k D p n c xs w hP h hr hc hn
 ·have e : readC k t D xs = headC xs := by unfold readC; rw [if_pos hc]
  rw [e,if_neg hc]
  exact PRead_head L t k D p n c xs w hP h hr hc
theorem headC_cases (xs : List UInt8) : headC xs = 0 ∨ headC xs = 6 ∨ headC xs = 7 ∨ headC xs = 8 := by
 unfold headC
 split
 ·simp
 ·split
  ·simp
  ·rcases modeC_range (xs.getD 1 0) with h | h <;> rw [h] <;> simp
theorem readC_cases (k t D : Nat) (xs : List UInt8) : readC k t D xs = 0 ∨ readC k t D xs = 6 ∨ readC k t D xs = 7 ∨ readC k t D xs = 8 ∨ readC k t D xs = 4 ∨ readC k t D xs = 10 ∨ readC k t D xs = 9 := by
 unfold readC
 split
 ·rename_i h
  rcases headC_cases xs with g | g | g | g
  ·exact absurd g h
  all_goals rw [g]; simp
 ·split
  ·simp
  ·split
   ·simp
   ·split <;> simp
theorem read_fits {k t D : Nat} {xs : List UInt8} (h : readC k t D xs = 0) : modeC (pktM xs) = 0 ∧ (pktM xs = 0 → (pktX k xs).length = k) ∧ (pktY k t xs).length = t := by
 unfold readC at h
 split at h
 ·rename_i hc; exact absurd h hc
 ·rename_i hc
  have hc0 : headC xs = 0 := by simpa using hc
  split at h
  ·cases h
  ·rename_i hn
   have hn' : xs.length = 10 + widS (xs.getD 1 0) k + t + 4 := by simpa [lenP] using hn
   refine ⟨headC_mode hc0,fun h0 => ?_,?_⟩
   ·unfold pktM at h0
    unfold pktX rdX
    rw [if_pos h0]
    have : widS (xs.getD 1 0) k = k := by unfold widS; rw [if_pos h0]
    rw [this] at hn' ⊢
    simp; omega
   ·unfold pktY
    generalize widS (xs.getD 1 0) k = V at *
    rw [List.length_take,List.length_drop]; omega
theorem info_eqrow : (Tryz.prog.info? 139).map (·.size) = some 2 := by kernel_rfl
theorem eqrow_ne : 139 ≠ 5 := by decide
def EqRet (w : World) (v d : List UInt8) (e : Ending) (w' : World) : Prop :=
 ∃ q n c q2 n2 c2,e = .returned (.tuple #[.agg #[.slice q n c,.slice q2 n2 c2],.int .i64 0]) ∧ Fresh 5 w.heap.size w' q n c v ∧ Fresh 5 w.heap.size w' q2 n2 c2 d ∧ Below w.heap.size w w'
set_option maxRecDepth 100000 in
set_option maxHeartbeats 2000000 in
theorem PEquation_ok (L t k D n : Nat) (m : UInt8) (p : Option Addr) (j c s : Nat) (q : Option Addr) (d : Nat) (xs ys : List UInt8) (w : World) (hP : POK L t k D) (hm : modeC m = 0) (hj : m = 0 → j = k) (hr : Room j) (h1 : Sl B8 w p j c xs) (h2 : Sl B8 w q t d ys) :
  Calls Tryz.prog 63 #[PkVal m D n m p j c s q t d,PVal L t k D] w (EqRet w (vecS m xs s k) ys) := by
 have HF : Hid (∀ w,Calls Tryz.prog 111 #[PkVal m D n m p j c s q t d,PVal L t k D] w fun e w' => e = .returned (.int .i64 0) ∧ Below w.heap.size w w') := fun w => PFits_ok L t k D n m p j c s q d w hP hm hj
 have hsc : srcC m j k = 0 := by
  unfold srcC
  by_cases h0 : m = 0
  ·rw [if_pos h0,if_pos (hj h0)]
  ·rw [if_neg h0,hm]
 have HS : Hid (∀ w,Sl B8 w p j c xs → Calls Tryz.prog 32 #[SVal m p j c s,.int .i64 (k : Nat)] w (SRet w (vecS m xs s k) 0)) := fun w h => by have := SVector_any m p j c s k xs hP.k1 hP.k2 w h hr; rw [hsc,if_pos rfl] at this; exact this
 have HV : Hid (Room (vecS m xs s k).length) := by
  show _ ≤ _
  have := hP.k2
  unfold vecS
  split
  ·rw [h1.len]; exact hr
  ·rw [mixRow_len]; omega
 have HRt : Hid (Room t) := by have := hP.t2; show t ≤ 140737488355328; omega
 have H1 := Lib.hid h1
 have H2 := Lib.hid h2
 obtain ⟨V,hV⟩ : ∃ V,vecS m xs s k = V := ⟨_,rfl⟩
 rw [hV] at HS HV ⊢
 clear hP hm hj hr h1 h2 hsc hV
 go_enter Tryz.func63,Tryz.ntmps63
 go_wp2_with fail
 refine Calls.mono (HF.out _) ?_
 rintro e w1 ⟨rfl,hb⟩
 obtain ⟨hb1,h1,h2,h3,hs⟩ := three_of hb
 have HB := Lib.hid hb1
 obtain ⟨c0,c1,c2,c3,c4,c5,c6⟩ := cells_seven h1
 obtain ⟨d0,d1,d2,d3⟩ := cells_four h2
 clear hb hb1
 go_wp2_with fail
 refine Calls.mono (HS.out _ (H1.out.keep HB.out)) ?_
 rintro e w2 ⟨q1,n1,k1,rfl,hq,hb⟩
 have h1' := (hb.block _ (by omega)).trans h1
 have h3' := (hb.block _ (by omega)).trans h3
 have hs2 := hb.size
 have HB2 := Lib.hid (bl HB.out hb HB.out.size)
 have HQ := Lib.hid hq
 have HV' : Hid (Room n1) := by rw [← HQ.out.len]; exact HV.out
 clear hb hq h1 h2 h3 c0 c1 c2 c3 c4 c5 c6 d0 d1 d2 d3
 obtain ⟨c0,c1,c2,c3,c4,c5,c6⟩ := cells_seven h1'
 go_wp2_with fail
 refine Calls.mono (Of_any _ _ _ _ _ _ _ _ _ HQ.out (H2.out.keep HB2.out) HV'.out HRt.out) ?_
 rintro e w3 ⟨q5,m5,g5,q6,m6,g6,e5,e6,rfl,o5,o6,hb⟩
 have h3 := (hb.block _ (by omega)).trans h3'
 have HB3 := Lib.hid (bl HB2.out hb HB2.out.size)
 have F5 := Lib.hid ((Fresh.of_owns o5).mono HB2.out.size)
 have F6 := Lib.hid ((Fresh.of_owns o6).mono HB2.out.size)
 clear hb e5 e6 o5 o6 h1' h3' c0 c1 c2 c3 c4 c5 c6
 go_wp2_with (refine wpList_store_row (o := ⟨none,.store 139 (.tmp 4) (.tmp 31),_,_,_,_⟩) rfl 139 (.tmp 4) (.tmp 31) rfl (w.heap.size + 2) #[.slice q5 m5 g5,.slice q6 m6 g6] rfl rfl _ _ h3 info_eqrow rfl (by simp [Value.oneCell']) ?_)
 refine bodyPost_ret (res_ct rfl _ _ _ 139 #[.slice q5 m5 g5,.slice q6 m6 g6] (0,0) _ (.int .i64 0) rfl (hrs h3) rfl Tryz.underlying139 rfl info_eqrow) rfl ?_
 exact ⟨q5,m5,g5,q6,m6,g6,rfl,F5.out.row h3 eqrow_ne,F6.out.row h3 eqrow_ne,below_row HB3.out (by omega)⟩
end Go.Proofs.YtfbmdlfkipipfaaGreatDoor
namespace Go.Proofs.YtfbmdlfkipipfaaGreatDoor
open Go.RowKit Go.By Go.Maps
abbrev GVal (L t k D : Nat) (M : Value) : Value := .agg #[.int .i64 (L : Nat),.int .i64 (t : Nat),.int .i64 (k : Nat),.int .u32 (D : Nat),M]
theorem info_gate : (Tryz.prog.info? 105).map (·.size) = some 5 := by kernel_rfl
set_option maxRecDepth 100000 in
set_option maxHeartbeats 1000000 in
theorem GNew_ok (L t k D : Nat) (w : World) (hP : POK L t k D) :
  Calls Tryz.prog 57 #[PVal L t k D] w fun e w' => e = .returned (.tuple #[GVal L t k D (.map none),.int .i64 0]) ∧ Below w.heap.size w w' := by
 have HK : Hid (∀ w,Calls Tryz.prog 73 #[PVal L t k D] w fun e w' => e = .returned (.int .i64 0) ∧ Below w.heap.size w w') := PCheck_ok hP
 clear hP
 go_enter Tryz.func57,Tryz.ntmps57
 go_wp2_with fail
 refine Calls.mono (HK.out _) ?_
 rintro e w1 ⟨rfl,hb⟩
 obtain ⟨hb1,h1,h2,hs⟩ := two_of hb
 have HB := Lib.hid hb1
 obtain ⟨c0,c1,c2,c3⟩ := cells_four h1
 clear hb hb1
 go_wp2_with (refine wpList_store_row (o := ⟨none,.store 105 (.tmp 2) (.tmp 12),_,_,_,_⟩) rfl 105 (.tmp 2) (.tmp 12) rfl (w.heap.size + 1) #[.int .i64 (L : Nat),.int .i64 (t : Nat),.int .i64 (k : Nat),.int .u32 (D : Nat),.map none] rfl rfl _ _ h2 info_gate rfl (by simp [Value.oneCell']) ?_)
 refine bodyPost_ret (res_ct rfl _ _ _ 105 #[.int .i64 (L : Nat),.int .i64 (t : Nat),.int .i64 (k : Nat),.int .u32 (D : Nat),.map none] (0,0) _ (.int .i64 0) rfl (hrs h2) rfl Tryz.underlying105 rfl info_gate) rfl ?_
 exact ⟨rfl,below_row HB.out (by omega)⟩
def getN (C : DataW Unit) (x : Int) : Int := match C.atKey (.int .i64 x) (.lit (.int .i64 0)) with
 | .lit (.int _ c) => c
 | _ => 0
structure CntM (w : World) (M : Value) (N : Nat) (C : DataW Unit) : Prop where
 at_ : (M = .map none ∧ C = .map []) ∨ ∃ b,M = .map (some b) ∧ w.ownsMap Tryz.prog 35 (plainElem Tryz.prog 3) b N C
 small : ∀ x,0 ≤ getN C x ∧ getN C x ≤ N
theorem CntM.keep {w w' : World} {M : Value} {N : Nat} {C : DataW Unit} (h : CntM w M N C) (hb : Below w.heap.size w w') : CntM w' M N C := by
 refine ⟨?_,h.small⟩
 rcases h.at_ with h1 | ⟨b,e,ho⟩
 ·exact .inl h1
 ·refine .inr ⟨b,e,?_⟩
  have hlt := ho.lt
  obtain ⟨es,clock,h1,F,hs,hD⟩ := ho
  exact ⟨es,clock,(hb.block _ hlt).trans h1,F,hs,hD⟩
theorem keyedG : Keyed Tryz.prog 35 := int_keyed Tryz.underlying35
theorem CntM.none (w : World) (N : Nat) : CntM w (.map none) N (.map []) := ⟨.inl ⟨rfl,rfl⟩,fun x => by have : getN (.map []) x = 0 := rfl; rw [this]; omega⟩
end Go.Proofs.YtfbmdlfkipipfaaGreatDoor
namespace Go.By
open Go.RowKit
structure TwoE (w0 : World) (g1 g2 : Nat) (w : World) : Prop where
 os : w.os = w0.os
 tape : w.tape = w0.tape
 output : w.output = w0.output
 size : w.heap.size = w0.heap.size
 block : ∀ b,b ≠ g1 → b ≠ g2 → w.heap[b]? = w0.heap[b]?
theorem TwoE.row1 {w0 w : World} {g1 g2 : Nat} (h : TwoE w0 g1 g2 w) (cs : Array Value) : TwoE w0 g1 g2 (w.setRow g1 cs) := by
 refine ⟨h.os,h.tape,h.output,by simp [World.setRow]; exact h.size,fun b h1 h2 => ?_⟩
 rw [← h.block b h1 h2]
 simp only [World.setRow,Array.getElem?_modify]
 rw [if_neg (by omega)]
theorem TwoE.row2 {w0 w : World} {g1 g2 : Nat} (h : TwoE w0 g1 g2 w) (cs : Array Value) : TwoE w0 g1 g2 (w.setRow g2 cs) := by
 refine ⟨h.os,h.tape,h.output,by simp [World.setRow]; exact h.size,fun b h1 h2 => ?_⟩
 rw [← h.block b h1 h2]
 simp only [World.setRow,Array.getElem?_modify]
 rw [if_neg (by omega)]
theorem TwoE.cell {w0 w : World} {g1 g2 b o : Nat} {v : Value} (h : TwoE w0 g1 g2 w) (h1 : b ≠ g1) (h2 : b ≠ g2) (hc : w0.cell? ⟨b,o,none⟩ = some v) : w.cell? ⟨b,o,none⟩ = some v :=
 (World.cell?_of_block (a := ⟨b,o,none⟩) (h.block b h1 h2)).trans hc
theorem TwoE.below {w0 w : World} {g1 g2 B : Nat} (h : TwoE w0 g1 g2 w) (h1 : B ≤ g1) (h2 : B ≤ g2) : Below B w0 w := ⟨h.os,h.tape,h.output,by rw [h.size]; exact Nat.le_refl _,fun i hi => h.block i (by omega) (by omega)⟩
def pairB (ops : Array Oper) (n m1 m2 : Nat) : Bool := (List.range ops.size).all fun i => match ops[i]? with
 | some o => o.guard.isNone && (if i == m1 || i == m2 then o.dst.isNone else match o.dst with
  | some d => decide (d < n)
  | none => false)
 | none => false
theorem each_all {P : Program} {ops : Array Oper} {Q : Exit → Act → World → Prop} {a0 : Act} {w0 : World} {E : World → World → Prop} {R : Nat → World → World → Prop} {Inv : Nat → (Nat → Value) → World → Prop} (key : ∀ i o,ops[i]? = some o → StepOf P ops Q a0 w0 E R Inv i o) :
  ∀ (l : List Oper) (k : Nat),(∀ j o,l[j]? = some o → ops[k + j]? = some o) → Each P ops Q a0 w0 E R Inv l k := by
 intro l
 induction l with
 | nil => intro k _; trivial
 | cons x l ih =>
  intro k h
  exact ⟨key k x (by have := h 0 x rfl; simpa using this),ih (k + 1) fun j o hj => by have := h (j + 1) o (by simpa using hj); rwa [show k + 1 + j = k + (j + 1) by omega]⟩
theorem wp_region_pair {P : Program} {ops : Array Oper} {Q : Exit → Act → World → Prop} {id : Nat} {a0 : Act} {w0 : World} (sv : Nat → Value) (n m1 m2 g1 g2 T1 T2 : Nat) (c1 c2 : Array Value) (hn : a0.tmps.size = n) (hm : P.follows .mixedOrders = true) (hback : backB ops = true) (hdist : distB ops = true) (hpair : pairB ops n m1 m2 = true) (hm12 : m1 ≠ m2) (hg12 : g1 ≠ g2)
  (z1 : ∃ old,w0.heap[g1]? = some (.cells old T1 (0,0)) ∧ old.size = c1.size) (z2 : ∃ old,w0.heap[g2]? = some (.cells old T2 (0,0)) ∧ old.size = c2.size)
  (each : ∀ i o,i ≠ m1 → i ≠ m2 → ops[i]? = some o → ∀ a w,TwoE w0 g1 g2 w → a.tmps.size = a0.tmps.size → (∀ k d,k ∈ preds o → k ≠ m1 → k ≠ m2 → dstOf ops k = some d → sl a d = sv k) → (∀ t,initAt ops i t = true → sl a t = sl a0 t) → (execOp a.eval o).run P w = .ok (.value (sv i)) w)
  (st1 : ∀ o,ops[m1]? = some o → ∀ a w,TwoE w0 g1 g2 w → a.tmps.size = a0.tmps.size → (∀ k d,k ∈ preds o → k ≠ m1 → k ≠ m2 → dstOf ops k = some d → sl a d = sv k) → (∀ t,initAt ops m1 t = true → sl a t = sl a0 t) → ∀ old,w.heap[g1]? = some (.cells old T1 (0,0)) → old.size = c1.size → o.wp P a w (fun a' w' => a' = a.put o.dst undef ∧ w' = w.setRow g1 c1) Q)
  (st2 : ∀ o,ops[m2]? = some o → ∀ a w,TwoE w0 g1 g2 w → a.tmps.size = a0.tmps.size → (∀ k d,k ∈ preds o → k ≠ m1 → k ≠ m2 → dstOf ops k = some d → sl a d = sv k) → (∀ t,initAt ops m2 t = true → sl a t = sl a0 t) → ∀ old,w.heap[g2]? = some (.cells old T2 (0,0)) → old.size = c2.size → o.wp P a w (fun a' w' => a' = a.put o.dst undef ∧ w' = w.setRow g2 c2) Q)
  (hs1 : m1 < ops.size) (hs2 : m2 < ops.size)
  (fin : ∀ a w,TwoE w0 g1 g2 w → w.heap[g1]? = some (.cells c1 T1 (0,0)) → w.heap[g2]? = some (.cells c2 T2 (0,0)) → a.tmps.size = a0.tmps.size → a.defers = a0.defers → (∀ j d,j < ops.size → j ≠ m1 → j ≠ m2 → dstOf ops j = some d → sl a d = sv j) → (∀ t,(ops.toList.all fun o => o.dst != some t) = true → sl a t = sl a0 t) → Q .normal a w) :
  (Code.region id ops true).wp P Q a0 w0 := by
 have hp : ∀ i o,ops[i]? = some o → o.guard = none ∧ (i ≠ m1 → i ≠ m2 → ∃ d,o.dst = some d ∧ d < n) ∧ (i = m1 ∨ i = m2 → o.dst = none) := fun i o ho => by
  have h0 := List.all_eq_true.1 hpair i (List.mem_range.2 (Array.getElem?_eq_some_iff.1 ho).1)
  rw [ho] at h0
  simp only [Bool.and_eq_true] at h0
  refine ⟨by cases hg : o.guard <;> simp [hg] at h0 ⊢,fun h1 h2 => ?_,fun h => ?_⟩
  ·have h3 := h0.2
   rw [if_neg (by simp [h1,h2])] at h3
   cases hd : o.dst with
   | none => rw [hd] at h3; cases h3
   | some d => rw [hd] at h3; exact ⟨d,rfl,of_decide_eq_true h3⟩
  ·have h3 := h0.2
   rw [if_pos (by rcases h with h | h <;> simp [h])] at h3
   cases hd : o.dst <;> simp [hd] at h3 ⊢
 refine wp_region_each hm hback (fun _ w => TwoE w0 g1 g2 w ∧ (∃ old,w.heap[g1]? = some (.cells old T1 (0,0)) ∧ old.size = c1.size) ∧ ∃ old,w.heap[g2]? = some (.cells old T2 (0,0)) ∧ old.size = c2.size)
  (fun i w w' => if i = m1 then w' = w.setRow g1 c1 else if i = m2 then w' = w.setRow g2 c2 else w' = w)
  (fun j σ w => if j = m1 then w.heap[g1]? = some (.cells c1 T1 (0,0)) else if j = m2 then w.heap[g2]? = some (.cells c2 T2 (0,0)) else ∀ d,dstOf ops j = some d → σ d = sv j) ?_ ?_ ?_ ?_ ?_
 ·exact ⟨⟨rfl,rfl,rfl,rfl,fun _ _ _ => rfl⟩,z1,z2⟩
 ·intro i w w' hE hR
  obtain ⟨hE,⟨o1,h1,e1⟩,⟨o2,h2,e2⟩⟩ := hE
  by_cases hi1 : i = m1
  ·rw [if_pos hi1] at hR
   subst hR
   exact ⟨hE.row1 _,⟨c1,hrs h1,rfl⟩,o2,hro h2 (by omega),e2⟩
  ·rw [if_neg hi1] at hR
   by_cases hi2 : i = m2
   ·rw [if_pos hi2] at hR
    subst hR
    exact ⟨hE.row2 _,⟨o1,hro h1 (by omega),e1⟩,c2,hrs h2,rfl⟩
   ·rw [if_neg hi2] at hR
    subst hR
    exact ⟨hE,⟨o1,h1,e1⟩,o2,h2,e2⟩
 ·intro i j oi oj σ σ' w w' hij hoi hoj _ hI hR hσ _ _
  by_cases hj1 : j = m1
  ·subst hj1
   rw [if_pos rfl] at hI ⊢
   rw [if_neg hij] at hR
   by_cases hi2 : i = m2
   ·rw [if_pos hi2] at hR; subst hR; exact hro hI (by omega)
   ·rw [if_neg hi2] at hR; subst hR; exact hI
  ·rw [if_neg hj1] at hI ⊢
   by_cases hj2 : j = m2
   ·subst hj2
    rw [if_pos rfl] at hI ⊢
    by_cases hi1 : i = m1
    ·rw [if_pos hi1] at hR; subst hR; exact hro hI (by omega)
    ·rw [if_neg hi1,if_neg hij] at hR; subst hR; exact hI
   ·rw [if_neg hj2] at hI ⊢
    intro d hd
    have hne : oi.dst ≠ some d := by
     intro e
     have hi' : i < ops.size := (Array.getElem?_eq_some_iff.1 hoi).1
     have hj' : j < ops.size := (Array.getElem?_eq_some_iff.1 hoj).1
     have := List.all_eq_true.1 (List.all_eq_true.1 hdist i (List.mem_range.2 hi')) j (List.mem_range.2 hj')
     rw [hoi,hoj] at this
     have hdj' : oj.dst = some d := by simpa [dstOf,hoj] using hd
     simp [e,hdj',hij] at this
    rw [hσ d hne]
    exact hI d hd
 ·have key : ∀ i o,ops[i]? = some o → StepOf P ops Q a0 w0.drew (fun _ w => TwoE w0 g1 g2 w ∧ (∃ old,w.heap[g1]? = some (.cells old T1 (0,0)) ∧ old.size = c1.size) ∧ ∃ old,w.heap[g2]? = some (.cells old T2 (0,0)) ∧ old.size = c2.size)
    (fun i w w' => if i = m1 then w' = w.setRow g1 c1 else if i = m2 then w' = w.setRow g2 c2 else w' = w)
    (fun j σ w => if j = m1 then w.heap[g1]? = some (.cells c1 T1 (0,0)) else if j = m2 then w.heap[g2]? = some (.cells c2 T2 (0,0)) else ∀ d,dstOf ops j = some d → σ d = sv j) i o := by
   intro i o ho a w hE hs hpr hin
   obtain ⟨hE,⟨o1,h1,e1⟩,⟨o2,h2,e2⟩⟩ := hE
   obtain ⟨hg,hd,hd2⟩ := hp i o ho
   rw [if_pos (by simp [Region.wanted,hg])]
   have hpr' : ∀ k d,k ∈ preds o → k ≠ m1 → k ≠ m2 → dstOf ops k = some d → sl a d = sv k := fun k d hk k1 k2 hdk => by
    have := hpr k hk
    dsimp only at this
    rw [if_neg k1,if_neg k2] at this
    exact this d hdk
   by_cases hi1 : i = m1
   ·subst hi1
    refine Oper.wp_mono (fun a' w' hq => ?_) (st1 o ho a w hE hs hpr' hin o1 h1 e1)
    obtain ⟨rfl,rfl⟩ := hq
    exact ⟨undef,rfl,by dsimp only; rw [if_pos rfl],by dsimp only; rw [if_pos rfl]; exact hrs h1⟩
   ·by_cases hi2 : i = m2
    ·subst hi2
     refine Oper.wp_mono (fun a' w' hq => ?_) (st2 o ho a w hE hs hpr' hin o2 h2 e2)
     obtain ⟨rfl,rfl⟩ := hq
     exact ⟨undef,rfl,by dsimp only; rw [if_neg hi1,if_pos rfl],by dsimp only; rw [if_neg hi1,if_pos rfl]; exact hrs h2⟩
    ·have hr := each i o hi1 hi2 ho a w hE hs hpr' hin
     refine wp_val (sv i) hr ⟨sv i,rfl,by dsimp only; rw [if_neg hi1,if_neg hi2],?_⟩
     dsimp only
     rw [if_neg hi1,if_neg hi2]
     intro d hdd
     obtain ⟨d',hd',hdn⟩ := hd hi1 hi2
     have : d' = d := by
      have : o.dst = some d := by simpa [dstOf,ho] using hdd
      rw [hd'] at this; exact Option.some.inj this
     subst this
     rw [hd']
     exact put_same _ _ _ (by rw [hs,hn]; exact hdn)
  exact each_all key ops.toList 0 fun j o hj => by simpa using hj
 ·intro a w hE hs hd hI ht
  obtain ⟨hE,_,_⟩ := hE
  have i1 := hI m1 hs1
  rw [if_pos rfl] at i1
  have i2 := hI m2 hs2
  rw [if_neg (Ne.symm hm12),if_pos rfl] at i2
  refine fin a w hE i1 i2 hs hd (fun j d hj j1 j2 hdj => ?_) ht
  have := hI j hj
  rw [if_neg j1,if_neg j2] at this
  exact this d hdj
end Go.By
namespace Go.By
open Go.RowKit Go.Maps
theorem res_cct {P : Program} {fn : Func} {p q u : Tmp} {ty ty2 : TypeId} (h : fn.results = #[.cell p ty,.cell q ty2,.tmp u]) (tmps : Array Value) (w : World) (g g2 : Nat) (t t2 : TypeId) (cs cs2 : Array Value) (fr fr2 : Nat × Nat) (d d2 : TypeDesc) (v : Value)
  (hp : tmps.getD p undef = .pointer (some ⟨g,0,none⟩)) (hg : w.heap[g]? = some (.cells cs t fr)) (hq : tmps.getD q undef = .pointer (some ⟨g2,0,none⟩)) (hg2 : w.heap[g2]? = some (.cells cs2 t2 fr2)) (hv : tmps.getD u undef = v)
  (hu : P.underlying ty = some d) (hd : (match d with | .struct _ | .array _ _ => true | _ => false) = true) (hi : (P.info? ty).map (·.size) = some cs.size) (hu2 : P.underlying ty2 = some d2) (hd2 : (match d2 with | .struct _ | .array _ _ => true | _ => false) = true) (hi2 : (P.info? ty2).map (·.size) = some cs2.size) :
  (results fn tmps).run P w = .ok (.tuple #[.agg cs,.agg cs2,v]) w := by
 have hp' : tmps[p]?.getD undef = .pointer (some ⟨g,0,none⟩) := by simpa using hp
 have hq' : tmps[q]?.getD undef = .pointer (some ⟨g2,0,none⟩) := by simpa using hq
 have hv' : tmps[u]?.getD undef = v := by simpa using hv
 simp [results,h,hp',hq',hv',asAddr,run_loadVar_row w g t ty cs fr d hg hu hd hi,run_loadVar_row w g2 t2 ty2 cs2 fr2 d2 hg2 hu2 hd2 hi2]
theorem Fresh.two {T T1 T2 : TypeId} {B g1 g2 : Nat} {w w' : World} {q : Option Addr} {n c : Nat} {xs : List UInt8} {o1 o2 : Array Value} {f1 f2 : Nat × Nat} (h : Fresh T B w q n c xs) (hE : TwoE w g1 g2 w') (h1 : w.heap[g1]? = some (.cells o1 T1 f1)) (h2 : w.heap[g2]? = some (.cells o2 T2 f2)) (n1 : T1 ≠ T) (n2 : T2 ≠ T) : Fresh T B w' q n c xs := by
 have hd : ∀ a,q = some a → a.block ≠ g1 ∧ a.block ≠ g2 := fun a ha => by
  obtain ⟨cs,fr,e⟩ := h.ty a ha
  refine ⟨fun e1 => ?_,fun e1 => ?_⟩
  ·rw [e1,h1] at e; injection e with e; injection e with _ e _; exact n1 e
  ·rw [e1,h2] at e; injection e with e; injection e with _ e _; exact n2 e
 refine ⟨⟨h.sl.len,h.sl.le,h.sl.max,h.sl.nil,fun i hi => ?_⟩,h.new,fun a ha => ?_⟩
 ·obtain ⟨b,o,e,hc⟩ := h.sl.rs i hi
  exact ⟨b,o,e,hE.cell (hd _ e).1 (hd _ e).2 hc⟩
 ·obtain ⟨cs,fr,e⟩ := h.ty a ha
  exact ⟨cs,fr,(hE.block _ (hd a ha).1 (hd a ha).2).trans e⟩
structure IsRow (w : World) (g : Nat) (cs : Array Value) (w' : World) : Prop where
 eq : w' = w.setRow g cs
theorem wpList_store_rowS {P : Program} {ops : Array Oper} {rest : List Oper} {o : Oper} {a : Act} {w : World} {Q : Exit → Act → World → Prop} (hgd : o.guard = none) (ty : TypeId) (x y : Operand) (ho : o.op = .store ty x y)
  (g : Nat) (cells : Array Value) (hx : a.eval x = .pointer (some ⟨g,0,none⟩)) (hy : a.eval y = .agg cells)
  (t : TypeId) (old : Array Value) (hg : w.heap[g]? = some (.cells old t (0,0))) (hi : (P.info? ty).map (·.size) = some cells.size)
  (hold : old.size = cells.size) (h1 : cells.all (·.oneCell') = true)
  (h : ∀ w',IsRow w g cells w' → wpList P ops Q rest (a.put o.dst undef) w') : wpList P ops Q (o :: rest) a w :=
 wpList_store_row hgd ty x y ho g cells hx hy t old hg hi hold h1 (h _ ⟨rfl⟩)
theorem ownsMap_keep {P : Program} {k : TypeId} {R : Value → Option (DataW Unit × List MemPlace)} {w w' : World} {b n : Nat} {D : DataW Unit} (h : w.ownsMap P k R b n D) (hb : Below w.heap.size w w') : w'.ownsMap P k R b n D := by
 have hlt := h.lt
 obtain ⟨es,clock,h1,F,hs,hD⟩ := h
 exact ⟨es,clock,(hb.block _ hlt).trans h1,F,hs,hD⟩
theorem run_makeMapN {P : Program} {t k e : TypeId} (ht : P.underlying t = some (.map k e)) (x : Int) (w : World) : (Instr.makeMap t (some (.int .i64 x))).run P w = .ok (.map (some w.heap.size)) (w.alloc (.map #[] 0)) := by
 simp [Instr.makeMap,run_underlying ht,asInt,asIntOf]
theorem ownsMap_size {P : Program} {k : TypeId} {R : Value → Option (DataW Unit × List MemPlace)} {w : World} {b n : Nat} {D : DataW Unit} (h : w.ownsMap P k R b n D) : Maps.size D ≤ n := by
 obtain ⟨es,clock,h1,F,hs,rfl⟩ := h
 simpa [Maps.size,length_sorted] using hs
end Go.By
namespace Go.Proofs.YtfbmdlfkipipfaaGreatDoor
open Go.RowKit Go.By Go.Maps
theorem zeroI (W : World) : (zeroValue 3).run Tryz.prog W = .ok (.int .i64 0) W := by simp [Tryz.underlying3]
theorem keyE (k t D : Nat) (xs : List UInt8) : keyOf Tryz.prog 35 (.int .i64 (readC k t D xs)) = some (.int .i64 (readC k t D xs)) := by
 refine keyOf_int_mk Tryz.underlying35 ?_
 rcases readC_cases k t D xs with h | h | h | h | h | h | h <;> rw [h] <;> decide
def PkC (w : World) (B k t D : Nat) (xs : List UInt8) (v0 v1 v2 v3 v4 v5 v6 : Value) : Prop :=
 (v0.oneCell' = true ∧ v1.oneCell' = true ∧ v2.oneCell' = true ∧ v3.oneCell' = true ∧ v4.oneCell' = true ∧ v5.oneCell' = true ∧ v6.oneCell' = true) ∧
 (readC k t D xs = 0 → ∃ q n c q2 n2 c2,v0 = B8 (pktM xs) ∧ v1 = .int .u32 (D : Nat) ∧ v2 = .int .u32 (pktN xs : Nat) ∧ v3 = B8 (pktM xs) ∧ v4 = .slice q n c ∧ v5 = .int .u64 (pktS k xs : Nat) ∧ v6 = .slice q2 n2 c2 ∧ Fresh 5 B w q n c (pktX k xs) ∧ Fresh 5 B w q2 n2 c2 (pktY k t xs))
theorem PkC.keep {w w' : World} {B k t D : Nat} {xs : List UInt8} {v0 v1 v2 v3 v4 v5 v6 : Value} (h : PkC w B k t D xs v0 v1 v2 v3 v4 v5 v6) (hb : Below w.heap.size w w') : PkC w' B k t D xs v0 v1 v2 v3 v4 v5 v6 :=
 ⟨h.1,fun hc => by obtain ⟨q,n,c,q2,n2,c2,e0,e1,e2,e3,e4,e5,e6,f1,f2⟩ := h.2 hc; exact ⟨q,n,c,q2,n2,c2,e0,e1,e2,e3,e4,e5,e6,f1.keep hb,f2.keep hb⟩⟩
theorem PkC.mono {w : World} {B B' k t D : Nat} {xs : List UInt8} {v0 v1 v2 v3 v4 v5 v6 : Value} (h : PkC w B k t D xs v0 v1 v2 v3 v4 v5 v6) (hb : B' ≤ B) : PkC w B' k t D xs v0 v1 v2 v3 v4 v5 v6 :=
 ⟨h.1,fun hc => by obtain ⟨q,n,c,q2,n2,c2,e0,e1,e2,e3,e4,e5,e6,f1,f2⟩ := h.2 hc; exact ⟨q,n,c,q2,n2,c2,e0,e1,e2,e3,e4,e5,e6,f1.mono hb,f2.mono hb⟩⟩
theorem PkC.row {w : World} {B k t D : Nat} {xs : List UInt8} {v0 v1 v2 v3 v4 v5 v6 : Value} (h : PkC w B k t D xs v0 v1 v2 v3 v4 v5 v6) {T g : Nat} {cs old : Array Value} {fr : Nat × Nat} (hg : w.heap[g]? = some (.cells old T fr)) (hne : T ≠ 5) : PkC (w.setRow g cs) B k t D xs v0 v1 v2 v3 v4 v5 v6 :=
 ⟨h.1,fun hc => by obtain ⟨q,n,c,q2,n2,c2,e0,e1,e2,e3,e4,e5,e6,f1,f2⟩ := h.2 hc; exact ⟨q,n,c,q2,n2,c2,e0,e1,e2,e3,e4,e5,e6,f1.row hg hne,f2.row hg hne⟩⟩
theorem PkC.two {w w' : World} {B k t D : Nat} {xs : List UInt8} {v0 v1 v2 v3 v4 v5 v6 : Value} (h : PkC w B k t D xs v0 v1 v2 v3 v4 v5 v6) {T1 T2 g1 g2 : Nat} {o1 o2 : Array Value} {f1 f2 : Nat × Nat} (hE : TwoE w g1 g2 w') (h1 : w.heap[g1]? = some (.cells o1 T1 f1)) (h2 : w.heap[g2]? = some (.cells o2 T2 f2)) (n1 : T1 ≠ 5) (n2 : T2 ≠ 5) : PkC w' B k t D xs v0 v1 v2 v3 v4 v5 v6 :=
 ⟨h.1,fun hc => by obtain ⟨q,n,c,q2,n2',c2,e0,e1,e2,e3,e4,e5,e6,f1,f2⟩ := h.2 hc; exact ⟨q,n,c,q2,n2',c2,e0,e1,e2,e3,e4,e5,e6,f1.two hE h1 h2 n1 n2,f2.two hE h1 h2 n1 n2⟩⟩
theorem gate_ne : 105 ≠ 5 := by decide
theorem getN_put {C : DataW Unit} (hC : IsMap C) {e : Int} (hk : WideAt.IsKeyLit (.int .i64 e)) (c x : Int) : getN (C.put (.int .i64 e) (.lit (.int .i64 c))) x = if x = e then c else getN C x := by
 by_cases h : x = e
 ·subst h
  rw [if_pos rfl]
  unfold getN
  rw [atKey_put_same hC hk]
 ·rw [if_neg h]
  unfold getN
  rw [atKey_put_other (fun e1 => h (by injection e1))]
theorem PRead_gen (L t k D : Nat) (p : Option Addr) (n c : Nat) (xs : List UInt8) (w : World) (hP : POK L t k D) (hT : HalfT w) (h : Sl B8 w p n c xs) (hr : Room n) :
  Calls Tryz.prog 110 #[PVal L t k D,.slice p n c] w fun e w' => ∃ v0 v1 v2 v3 v4 v5 v6,e = .returned (.tuple #[.agg #[v0,v1,v2,v3,v4,v5,v6],.int .i64 (readC k t D xs)]) ∧ PkC w' w.heap.size k t D xs v0 v1 v2 v3 v4 v5 v6 ∧ Below w.heap.size w w' := by
 refine Calls.mono (PRead_any L t k D p n c xs w hP hT h hr) ?_
 intro e w' he
 by_cases hc : readC k t D xs = 0
 ·rw [if_pos hc] at he
  obtain ⟨q,n,c,q2,n2,c2,rfl,f1,f2,hb⟩ := he
  rw [hc]
  exact ⟨_,_,_,_,_,_,_,rfl,⟨⟨rfl,rfl,rfl,rfl,rfl,rfl,rfl⟩,fun _ => ⟨q,n,c,q2,n2,c2,rfl,rfl,rfl,rfl,rfl,rfl,rfl,f1,f2⟩⟩,hb⟩
 ·rw [if_neg hc] at he
  obtain ⟨rfl,hb⟩ := he
  exact ⟨_,_,_,_,_,_,_,rfl,⟨⟨rfl,rfl,rfl,rfl,rfl,rfl,rfl⟩,fun h => absurd h hc⟩,hb⟩
set_option maxRecDepth 100000 in
set_option maxHeartbeats 4000000 in
theorem GLook_own (L t k D b N : Nat) (C : DataW Unit) (p : Option Addr) (n c : Nat) (xs : List UInt8) (w : World) (hP : POK L t k D) (hT : HalfT w) (ho : w.ownsMap Tryz.prog 35 (plainElem Tryz.prog 3) b N C) (hsm : ∀ x,0 ≤ getN C x ∧ getN C x ≤ N) (hN : N < 1000000) (h : Sl B8 w p n c xs) (hr : Room n) :
  Calls Tryz.prog 62 #[GVal L t k D (.map (some b)),.slice p n c] w fun e w' => ∃ b2 v0 v1 v2 v3 v4 v5 v6,e = .returned (.tuple #[GVal L t k D (.map (some b2)),.agg #[v0,v1,v2,v3,v4,v5,v6],.int .i64 (readC k t D xs)]) ∧
   CntM w' (.map (some b2)) (N + 1) (C.put (.int .i64 (readC k t D xs)) (.lit (.int .i64 (getN C (readC k t D xs) + 1)))) ∧ PkC w' w.heap.size k t D xs v0 v1 v2 v3 v4 v5 v6 ∧ Below w.heap.size w w' := by
 have HR : Hid (∀ w,HalfT w → Sl B8 w p n c xs → Calls Tryz.prog 110 #[PVal L t k D,.slice p n c] w fun e w' => ∃ v0 v1 v2 v3 v4 v5 v6,e = .returned (.tuple #[.agg #[v0,v1,v2,v3,v4,v5,v6],.int .i64 (readC k t D xs)]) ∧ PkC w' w.heap.size k t D xs v0 v1 v2 v3 v4 v5 v6 ∧ Below w.heap.size w w') := fun w hT h => PRead_gen L t k D p n c xs w hP hT h hr
 have H := Lib.hid h
 have HT := Lib.hid hT
 have HM := Lib.hid ho
 have HSm := Lib.hid hsm
 clear hP h hr hT ho hsm
 generalize hE : readC k t D xs = E at *
 have HE := Lib.hid hE
 clear hE
 go_enter Tryz.func62,Tryz.ntmps62
 go_wp2_with fail
 refine Calls.mono (HR.out _ (HT.out.keep (by exact al (al (al (Below.refl _ _) (Nat.le_refl _)) (by simp)) (by simp; omega))) (H.out.keep (by exact al (al (al (Below.refl _ _) (Nat.le_refl _)) (by simp)) (by simp; omega)))) ?_
 rintro e w1 ⟨v0,v1,v2,v3,v4,v5,v6,rfl,hpk,hb⟩
 obtain ⟨hb1,h1,h2,h3,hs⟩ := three_of hb
 have HB := Lib.hid hb1
 have HPk := Lib.hid (hpk.mono (B' := w.heap.size) (by simp; omega))
 obtain ⟨o0,o1,o2,o3,o4,o5,o6⟩ := hpk.1
 obtain ⟨c0,c1,c2,c3,c4⟩ := cells_five h1
 have d4 : ∀ o',(w1.alloc o').cell? ⟨w.heap.size,4,none⟩ = _ := fun _ => calloc c4
 clear hb hb1 hpk
 go_wp2_with (refine wpList_store_rowS (o := ⟨none,.store 135 (.tmp 7) (.tmp 17),_,_,_,_⟩) rfl 135 (.tmp 7) (.tmp 17) rfl w1.heap.size #[v0,v1,v2,v3,v4,v5,v6] rfl rfl _ _ (hnew rfl) info_packet rfl (by simp [o0,o1,o2,o3,o4,o5,o6]) ?_)
 intro w2 hr2
 have HB2 : Hid (Below w.heap.size w w2) := by rw [hr2.eq]; exact below_row (al HB.out HB.out.size) HB.out.size
 have h1' : w2.heap[w.heap.size]? = some (.cells #[.int .i64 (L : Nat),.int .i64 (t : Nat),.int .i64 (k : Nat),.int .u32 (D : Nat),.map (some b)] 105 (0,0)) := by rw [hr2.eq]; exact hro (hal h1) (by omega)
 have h2' : w2.heap[w.heap.size + 1]? = some (.cells #[.int .i64 0,.int .i64 0,.int .i64 0,.int .u32 0,.map none] 105 (0,0)) := by rw [hr2.eq]; exact hro (hal h2) (by omega)
 have h3' : w2.heap[w.heap.size + 2]? = some (.cells #[.int .u8 0,.int .u32 0,.int .u32 0,.int .u8 0,.slice none 0 0,.int .u64 0,.slice none 0 0] 135 (0,0)) := by rw [hr2.eq]; exact hro (hal h3) (by omega)
 have h7 : w2.heap[w1.heap.size]? = some (.cells #[v0,v1,v2,v3,v4,v5,v6] 135 (0,0)) := by rw [hr2.eq]; exact hrs (hnew rfl)
 have HPk2 : Hid (PkC w2 w.heap.size k t D xs v0 v1 v2 v3 v4 v5 v6) := by rw [hr2.eq]; exact (HPk.out.keep (al (Below.refl _ _) (Nat.le_refl _))).row (hnew rfl) pkt_ne
 have HM2 := Lib.hid (ownsMap_keep HM.out HB2.out)
 have hs2 : w1.heap.size + 1 ≤ w2.heap.size := by rw [hr2.eq]; simp [World.setRow]
 clear hr2 h1 h2 h3 c0 c1 c2 c3 c4 d4
 generalize hG7 : w1.heap.size = g7 at *
 have HG7 : Hid (w.heap.size + 3 ≤ g7) := hs
 clear hG7
 obtain ⟨c0,c1,c2,c3,c4⟩ := cells_five h1'
 have hmk := fun x => run_makeMapN (P := Tryz.prog) Tryz.underlying103 x w2
 have d4 : ∀ o',(w2.alloc o').cell? ⟨w.heap.size,4,none⟩ = some (.map (some b)) := fun _ => calloc c4
 go_wp2_with (first | (at_len; refine wpList_len_own _ rfl _ 103 rfl 35 3 Tryz.underlying103 _ b N C rfl HM2.out ?_) | (at_range; refine wpList_range_own _ rfl _ 103 rfl 35 3 keyedG Tryz.underlying103 _ b N C rfl (HM2.out.alloc _) ?_))
 intro w3 hrg hg3 hs3
 try go_frame
 have SC : Maps.size C ≤ N := ownsMap_size HM2.out
 have hbl : b < w2.heap.size := HM2.out.lt
 obtain ⟨b2,hb2⟩ : ∃ b2,b2 = w2.heap.size := ⟨_,rfl⟩
 have hm0 : (w2.alloc (.map #[] 0)).ownsMap Tryz.prog 35 (plainElem Tryz.prog 3) b2 0 (.map [] : DataW Unit) := by rw [hb2]; exact World.ownsMap_made _ _ _ _
 rw [← hb2] at hrg hs3 ⊢
 have HRG := Lib.hid hrg
 have HM3 := Lib.hid (hm0.kept hg3 (by simp))
 have HBL : Hid (b < b2) := by rw [hb2]; exact hbl
 have HB3 : Hid (Below w2.heap.size w2 w3) := (al (Below.refl _ _) (Nat.le_refl _)).grown hg3 (by simp) (fun r hr' => by cases hr')
 have HZ : Hid (b2 = w2.heap.size) := hb2
 have HSC : Hid (Maps.size C ≤ N) := SC
 clear hrg hm0 hbl hg3 hs3 hmk d4 SC hb2 c0 c1 c2 c3 c4
 go_wp2_with fail
 go_loopw [10] (fun _ wr => ∃ left cnt j C2,Hid (wr.ranges Tryz.prog 35 (plainElem Tryz.prog 3) b (b2 + 1) N C left cnt) ∧ Hid (wr.ownsMap Tryz.prog 35 (plainElem Tryz.prog 3) b2 j C2) ∧ Hid (Agree C2 C left) ∧ Hid (j + cnt ≤ N) ∧ Hid (Below w2.heap.size w2 wr)) (fun _ wr => wr.rangeLeft b (b2 + 1))
 case atStart => exact ⟨_,_,0,_,HRG.out,HM3.out,agree_start C,by rw [Nat.zero_add]; exact HSC.out,HB3.out⟩
 case round =>
  clear HRG HM3 HB3
  obtain ⟨left,cnt,j,C2,R1,R2,R3,R4,R5⟩ := hrel
  go_wp2_with (at_next; refine wpList_next_ranges_ii _ rfl _ rfl 35 3 .i64 .i64 keyedG Tryz.underlying35 Tryz.underlying3 b (b2 + 1) N _ _ _ rfl R1.out ?_ ?_)
  ·intro hc0 hl0
   have eC : C2 = C := agree_end R3.out hl0 (R2.out.canon keyedG) (R1.out.owns.canon keyedG)
   subst eC
   have HJ : Hid (j ≤ N) := by have := R4.out; show j ≤ N; omega
   have hkE := keyE k t D xs
   rw [HE.out] at hkE
   have HKE := Lib.hid hkE
   have HBW := Lib.hid (bl HB2.out R5.out HB2.out.size)
   have q1 := (R5.out.block _ (by have := lt_of_block h1'; omega)).trans h1'
   have q2 := (R5.out.block _ (by have := lt_of_block h2'; omega)).trans h2'
   have q3 := (R5.out.block _ (by have := lt_of_block h3'; omega)).trans h3'
   have q7 := (R5.out.block _ (by have := lt_of_block h7; omega)).trans h7
   have HPk3 := Lib.hid (HPk2.out.keep R5.out)
   have HL2 : Hid (g7 < w2.heap.size) := lt_of_block h7
   clear h1' h2' h3' h7 hc0 hl0 R1 R3 R4 hkE
   go_wp2_with (first | (at_lookup; refine wpList_lookup_own_int _ rfl _ _ 103 rfl 35 3 .i64 keyedG Tryz.underlying103 Tryz.underlying3 (zeroI _) b2 j _ rfl R2.out _ _ rfl HKE.out ?_) | (at_mapUpdate; fail) | fail)
   intro cc hat hwc
   have eN : cc = getN C2 E := by unfold getN; rw [hat]
   have hsmE := HSm.out E
   rw [← eN] at hsmE
   have ec : wrap64 (cc + 1) = cc + 1 := by unfold wrap64; omega
   have hw1 : (Lit.int .i64 (cc + 1)).wf = true := by simp [Lit.wf,IntKind.min,IntKind.max,IntKind.signed,IntKind.bits]; omega
   have HEN := Lib.hid eN
   clear hat eN
   go_wp2_with (first | (at_mapUpdate; refine wpList_mapUpdate_own _ rfl _ _ _ 103 rfl 35 3 keyedG Tryz.underlying103 (plainElem Tryz.prog 3) b2 j C2 rfl R2.out (by have := HJ.out; unfold maxLen; omega) _ _ (.int .i64 E) rfl rfl HKE.out (.lit (.int .i64 (cc + 1))) [] (plainElem_int Tryz.underlying3 hw1) ?_) | fail)
   intro w5 hown5 hg5
   have HO5 := Lib.hid hown5
   have HSZ2 := HZ.out
   have B5 := R5.out.grown hg5 R5.out.size (fun r hr => by cases hr; omega)
   have hx5 := B5.size
   have HB5 := Lib.hid (bl HB2.out B5 HB2.out.size)
   have p1 := (hg5.block _ (lt_of_block q1) (by have := HL2.out; have := HG7.out; simp; omega)).trans q1
   have p2 := (hg5.block _ (lt_of_block q2) (by have := HL2.out; have := HG7.out; simp; omega)).trans q2
   have p3 := (hg5.block _ (lt_of_block q3) (by have := HL2.out; have := HG7.out; simp; omega)).trans q3
   have p7 := (hg5.block _ (lt_of_block q7) (by have := HL2.out; simp; omega)).trans q7
   have HPk5 := Lib.hid (HPk2.out.keep B5)
   have HE1 := Lib.hid ec
   have hne7 : g7 ≠ w.heap.size + 1 ∧ g7 ≠ w.heap.size + 2 := by have := HG7.out; omega
   clear hown5 hg5 B5 q1 q2 q3 q7 ec hw1 hsmE hwc HSZ2 hx5
   obtain ⟨c0,c1,c2,c3,c4⟩ := cells_five p1
   obtain ⟨e0,e1,e2,e3,e4,e5,e6⟩ := cells_seven p7
   go_wp2_with fail
   refine wp_region_pair (fun ix => ([.pointer (some ⟨w.heap.size,0,none⟩),PVal L t k D,.map (some b2),.agg #[.int .i64 (L : Nat),.int .i64 (t : Nat),.int .i64 (k : Nat),.int .u32 (D : Nat),.map (some b2)],.agg #[v0,v1,v2,v3,v4,v5,v6],.int .i64 E,undef,undef,.int .i64 E][ix]?).getD undef) 45 6 7 (w.heap.size + 1) (w.heap.size + 1 + 1) 105 135 #[.int .i64 (L : Nat),.int .i64 (t : Nat),.int .i64 (k : Nat),.int .u32 (D : Nat),.map (some b2)] #[v0,v1,v2,v3,v4,v5,v6] rfl (by kernel_rfl) (by decide) (by decide) (by decide) (by decide) (by omega) ⟨_,p2,rfl⟩ ⟨_,p3,rfl⟩ ?_ ?_ ?_ (by decide) (by decide) ?_
   ·intro i o h1 h2 ho a W hE hs hp hi
    match i,h1,h2,ho with
    | 0,_,_,ho =>
     simp at ho; subst ho
     have t2 : sl a 2 = .pointer (some ⟨w.heap.size,0,none⟩) := hi 2 (by decide)
     simp only [execOp,eval_tmp,t2]; simp [go_sem]
    | 1,_,_,ho =>
     simp at ho; subst ho
     have t39 : sl a 39 = .pointer (some ⟨w.heap.size,0,none⟩) := hp 0 39 (by decide) (by decide) (by decide) rfl
     have f0 := hE.cell (by omega) (by omega) c0; have f1 := hE.cell (by omega) (by omega) c1; have f2 := hE.cell (by omega) (by omega) c2; have f3 := hE.cell (by omega) (by omega) c3
     simp only [execOp,eval_tmp,t39]; simp [go_sem,f0,f1,f2,f3]
    | 2,_,_,ho =>
     simp at ho; subst ho
     have t9 : sl a 9 = .map (some b2) := hi 9 (by decide)
     simp only [execOp,eval_tmp,t9]; rfl
    | 3,_,_,ho =>
     simp at ho; subst ho
     have t40 : sl a 40 = PVal L t k D := hp 1 40 (by decide) (by decide) (by decide) rfl
     have t41 : sl a 41 = .map (some b2) := hp 2 41 (by decide) (by decide) (by decide) rfl
     have u40 : a.tmps[40]?.getD undef = sl a 40 := by simp [sl]
     have u41 : a.tmps[41]?.getD undef = sl a 41 := by simp [sl]
     rw [t40] at u40; rw [t41] at u41
     simp only [execOp,eval_tmp,t40,t41]; simp [go_sem,u40,u41,Tryz.underlying105,Tryz.underlying27]
    | 4,_,_,ho =>
     simp at ho; subst ho
     have t7 : sl a 7 = .pointer (some ⟨g7,0,none⟩) := hi 7 (by decide)
     have f0 := hE.cell hne7.1 hne7.2 e0; have f1 := hE.cell hne7.1 hne7.2 e1; have f2 := hE.cell hne7.1 hne7.2 e2; have f3 := hE.cell hne7.1 hne7.2 e3; have f4 := hE.cell hne7.1 hne7.2 e4; have f5 := hE.cell hne7.1 hne7.2 e5; have f6 := hE.cell hne7.1 hne7.2 e6
     simp only [execOp,eval_tmp,t7]; simp [go_sem,f0,f1,f2,f3,f4,f5,f6]
    | 5,_,_,ho =>
     simp at ho; subst ho
     have t8 : sl a 8 = .int .i64 E := hi 8 (by decide)
     simp only [execOp,eval_tmp,t8]; rfl
    | 8,_,_,ho =>
     simp at ho; subst ho
     have t44 : sl a 44 = .int .i64 E := hp 5 44 (by decide) (by decide) (by decide) rfl
     simp only [execOp,eval_tmp,t44]; rfl
    | 6,h,_,_ => exact absurd rfl h
    | 7,_,h,_ => exact absurd rfl h
    | j + 9,_,_,ho => simp at ho
   ·intro o ho a W hE hs hp hi old hold hsz
    simp at ho; subst ho
    have t4 : sl a 4 = .pointer (some ⟨w.heap.size + 1,0,none⟩) := hi 4 (by decide)
    have t42 : sl a 42 = .agg #[.int .i64 (L : Nat),.int .i64 (t : Nat),.int .i64 (k : Nat),.int .u32 (D : Nat),.map (some b2)] := hp 3 42 (by decide) (by decide) (by decide) rfl
    exact wp_store_row 105 (.tmp 4) (.tmp 42) rfl (w.heap.size + 1) #[.int .i64 (L : Nat),.int .i64 (t : Nat),.int .i64 (k : Nat),.int .u32 (D : Nat),.map (some b2)] (by rw [eval_tmp]; exact t4) (by rw [eval_tmp]; exact t42) _ old hold info_gate hsz (by simp [Value.oneCell']) ⟨rfl,rfl⟩
   ·intro o ho a W hE hs hp hi old hold hsz
    simp at ho; subst ho
    have t5 : sl a 5 = .pointer (some ⟨w.heap.size + 1 + 1,0,none⟩) := hi 5 (by decide)
    have t43 : sl a 43 = .agg #[v0,v1,v2,v3,v4,v5,v6] := hp 4 43 (by decide) (by decide) (by decide) rfl
    exact wp_store_row 135 (.tmp 5) (.tmp 43) rfl (w.heap.size + 1 + 1) #[v0,v1,v2,v3,v4,v5,v6] (by rw [eval_tmp]; exact t5) (by rw [eval_tmp]; exact t43) _ old hold info_packet hsz (by simp [o0,o1,o2,o3,o4,o5,o6]) ⟨rfl,rfl⟩
   ·intro a W hE i1 i2 hs hd hI ht
    have ha := act_is [39,40,41,42,43,44,6] hs hd ht (by decide)
    have t6 : sl a 6 = .int .i64 E := hI 8 6 (by decide) (by decide) (by decide) rfl
    simp only [List.foldl,t6] at ha
    generalize sl a 39 = u39 at ha
    generalize sl a 40 = u40 at ha
    generalize sl a 41 = u41 at ha
    generalize sl a 42 = u42 at ha
    generalize sl a 43 = u43 at ha
    generalize sl a 44 = u44 at ha
    simp only [Act.put,List.setIfInBounds_toArray,List.set_cons_zero,List.set_cons_succ] at ha
    rw [ha]
    clear ha hI ht hs hd t6 c0 c1 c2 c3 c4 e0 e1 e2 e3 e4 e5 e6
    have hW := hE.size
    have HO6 : Hid (W.ownsMap Tryz.prog 35 (plainElem Tryz.prog 3) b2 (j + 1) (C2.put (.int .i64 E) (.lit (.int .i64 (cc + 1))))) := by
     obtain ⟨es,clock,m1,F,m2,m3⟩ := HO5.out
     exact ⟨es,clock,(hE.block b2 (by have := HL2.out; have := HG7.out; have := HZ.out; omega) (by have := HL2.out; have := HG7.out; have := HZ.out; omega)).trans m1,F,m2,m3⟩
    have HPk6 := Lib.hid (HPk5.out.two hE p2 p3 gate_ne pkt_ne)
    have HB6 : Hid (Below w.heap.size w W) := HB5.out.trans (hE.below (by omega) (by omega))
    have HMp : Hid (IsMap C2) := R2.out.isMap
    clear hE p1 p2 p3 p7 hW
    go_wp2
    refine bodyPost_ret (res_cct rfl _ _ _ _ 105 135 #[.int .i64 (L : Nat),.int .i64 (t : Nat),.int .i64 (k : Nat),.int .u32 (D : Nat),.map (some b2)] #[v0,v1,v2,v3,v4,v5,v6] (0,0) (0,0) _ _ (.int .i64 E) rfl i1 rfl i2 rfl Tryz.underlying105 rfl info_gate Tryz.underlying135 rfl info_packet) rfl ?_
    refine ⟨b2,v0,v1,v2,v3,v4,v5,v6,rfl,⟨.inr ⟨b2,rfl,?_⟩,fun x => ?_⟩,HPk6.out,HB6.out⟩
    ·rw [← HEN.out]
     exact HO6.out.mono (by have := HJ.out; omega)
    ·rw [getN_put HMp.out (keyedG.key HKE.out),← HEN.out]
     have g1 := HSm.out x
     have g2 := HSm.out E
     rw [← HEN.out] at g2
     split <;> omega
  ·intro x cc w4 cnt4 hwx hwc hlx hat hrg4 hlt hg4 hs4 hen
   have R2' := Lib.hid (R2.out.kept hg4 (by simp))
   have RG4 := Lib.hid hrg4
   have HAT := Lib.hid hat
   have hkx := keyOf_int_mk (P := Tryz.prog) Tryz.underlying35 hwx
   have HJ : Hid (j < maxLen) := by have := R4.out; show j < maxLen; unfold maxLen; omega
   have R5' := Lib.hid (R5.out.grown hg4 R5.out.size (fun r hr => by have := HZ.out; cases hr; omega))
   clear hrg4 hat hg4 hlx
   go_wp2_with (first | (at_mapUpdate; refine wpList_mapUpdate_own _ rfl _ _ _ 103 rfl 35 3 keyedG Tryz.underlying103 (plainElem Tryz.prog 3) b2 j C2 rfl R2'.out HJ.out _ _ (.int .i64 x) rfl rfl hkx (.lit (.int .i64 cc)) [] (plainElem_int Tryz.underlying3 hwc) ?_) | fail)
   intro w5 hown5 hg5
   have HO5 := Lib.hid hown5
   have RG5 := Lib.hid (RG4.out.kept hg5 (by have := HBL.out; simp; omega) (by simp))
   have R5'' := Lib.hid (R5'.out.grown hg5 R5'.out.size (fun r hr => by have := HZ.out; cases hr; omega))
   have A5 := Lib.hid (agree_step R3.out R2.out.isMap (keyedG.key hkx) HAT.out)
   clear hown5 hg5 hen
   go_wp2
   go_roundw
   case rel => exact ⟨_,cnt4,j + 1,_,RG5.out,HO5.out,A5.out,by have := R4.out; show j + 1 + cnt4 ≤ N; omega,R5''.out⟩
   case measure => rw [RG5.out.left_eq,R1.out.left_eq]; omega
end Go.Proofs.YtfbmdlfkipipfaaGreatDoor
namespace Go.Proofs.YtfbmdlfkipipfaaGreatDoor
open Go.RowKit Go.By Go.Maps
set_option maxRecDepth 100000 in
set_option maxHeartbeats 4000000 in
theorem GLook_nil (L t k D : Nat) (p : Option Addr) (n c : Nat) (xs : List UInt8) (w : World) (hP : POK L t k D) (hT : HalfT w) (h : Sl B8 w p n c xs) (hr : Room n) :
  Calls Tryz.prog 62 #[GVal L t k D (.map none),.slice p n c] w fun e w' => ∃ b2 v0 v1 v2 v3 v4 v5 v6,e = .returned (.tuple #[GVal L t k D (.map (some b2)),.agg #[v0,v1,v2,v3,v4,v5,v6],.int .i64 (readC k t D xs)]) ∧
   CntM w' (.map (some b2)) 1 ((DataW.map [] : DataW Unit).put (.int .i64 (readC k t D xs)) (.lit (.int .i64 (getN (.map []) (readC k t D xs) + 1)))) ∧ PkC w' w.heap.size k t D xs v0 v1 v2 v3 v4 v5 v6 ∧ Below w.heap.size w w' := by
 have HR : Hid (∀ w,HalfT w → Sl B8 w p n c xs → Calls Tryz.prog 110 #[PVal L t k D,.slice p n c] w fun e w' => ∃ v0 v1 v2 v3 v4 v5 v6,e = .returned (.tuple #[.agg #[v0,v1,v2,v3,v4,v5,v6],.int .i64 (readC k t D xs)]) ∧ PkC w' w.heap.size k t D xs v0 v1 v2 v3 v4 v5 v6 ∧ Below w.heap.size w w') := fun w hT h => PRead_gen L t k D p n c xs w hP hT h hr
 have H := Lib.hid h
 have HT := Lib.hid hT
 clear hP h hr hT
 generalize hE : readC k t D xs = E at *
 have HE := Lib.hid hE
 clear hE
 obtain ⟨C2,hC2⟩ : ∃ C2 : DataW Unit,C2 = .map [] := ⟨_,rfl⟩
 have HSm : Hid (∀ x,0 ≤ getN C2 x ∧ getN C2 x ≤ 0) := fun x => by rw [hC2]; exact ⟨Int.le_refl _,Int.le_refl _⟩
 rw [← hC2]
 have HC2 := Lib.hid hC2
 clear hC2
 go_enter Tryz.func62,Tryz.ntmps62
 go_wp2_with fail
 refine Calls.mono (HR.out _ (HT.out.keep (by exact al (al (al (Below.refl _ _) (Nat.le_refl _)) (by simp)) (by simp; omega))) (H.out.keep (by exact al (al (al (Below.refl _ _) (Nat.le_refl _)) (by simp)) (by simp; omega)))) ?_
 rintro e w1 ⟨v0,v1,v2,v3,v4,v5,v6,rfl,hpk,hb⟩
 obtain ⟨hb1,h1,h2,h3,hs⟩ := three_of hb
 have HB := Lib.hid hb1
 have HPk := Lib.hid (hpk.mono (B' := w.heap.size) (by simp; omega))
 obtain ⟨o0,o1,o2,o3,o4,o5,o6⟩ := hpk.1
 obtain ⟨c0,c1,c2,c3,c4⟩ := cells_five h1
 have d4 : ∀ o',(w1.alloc o').cell? ⟨w.heap.size,4,none⟩ = _ := fun _ => calloc c4
 clear hb hb1 hpk
 go_wp2_with (refine wpList_store_rowS (o := ⟨none,.store 135 (.tmp 7) (.tmp 17),_,_,_,_⟩) rfl 135 (.tmp 7) (.tmp 17) rfl w1.heap.size #[v0,v1,v2,v3,v4,v5,v6] rfl rfl _ _ (hnew rfl) info_packet rfl (by simp [o0,o1,o2,o3,o4,o5,o6]) ?_)
 intro w2 hr2
 have HB2 : Hid (Below w.heap.size w w2) := by rw [hr2.eq]; exact below_row (al HB.out HB.out.size) HB.out.size
 have h1' : w2.heap[w.heap.size]? = some (.cells #[.int .i64 (L : Nat),.int .i64 (t : Nat),.int .i64 (k : Nat),.int .u32 (D : Nat),.map none] 105 (0,0)) := by rw [hr2.eq]; exact hro (hal h1) (by omega)
 have h2' : w2.heap[w.heap.size + 1]? = some (.cells #[.int .i64 0,.int .i64 0,.int .i64 0,.int .u32 0,.map none] 105 (0,0)) := by rw [hr2.eq]; exact hro (hal h2) (by omega)
 have h3' : w2.heap[w.heap.size + 2]? = some (.cells #[.int .u8 0,.int .u32 0,.int .u32 0,.int .u8 0,.slice none 0 0,.int .u64 0,.slice none 0 0] 135 (0,0)) := by rw [hr2.eq]; exact hro (hal h3) (by omega)
 have h7 : w2.heap[w1.heap.size]? = some (.cells #[v0,v1,v2,v3,v4,v5,v6] 135 (0,0)) := by rw [hr2.eq]; exact hrs (hnew rfl)
 have HPk2 : Hid (PkC w2 w.heap.size k t D xs v0 v1 v2 v3 v4 v5 v6) := by rw [hr2.eq]; exact (HPk.out.keep (al (Below.refl _ _) (Nat.le_refl _))).row (hnew rfl) pkt_ne
 have hs2 : w1.heap.size + 1 ≤ w2.heap.size := by rw [hr2.eq]; simp [World.setRow]
 clear hr2 h1 h2 h3 c0 c1 c2 c3 c4 d4
 generalize hG7 : w1.heap.size = g7 at *
 have HG7 : Hid (w.heap.size + 3 ≤ g7) := hs
 clear hG7
 obtain ⟨c0,c1,c2,c3,c4⟩ := cells_five h1'
 have hmk := fun x => run_makeMapN (P := Tryz.prog) Tryz.underlying103 x w2
 have d4 : ∀ o',(w2.alloc o').cell? ⟨w.heap.size,4,none⟩ = some (.map none) := fun _ => calloc c4
 have hrn := fun W => run_range_nilMap (P := Tryz.prog) W 103 _ _ Tryz.underlying103
 go_wp2_with fail
 obtain ⟨b2,hb2⟩ : ∃ b2,b2 = w2.heap.size := ⟨_,rfl⟩
 have hm0 : (w2.alloc (.map #[] 0)).ownsMap Tryz.prog 35 (plainElem Tryz.prog 3) b2 0 (.map [] : DataW Unit) := by rw [hb2]; exact World.ownsMap_made _ _ _ _
 have hnx := run_next_nilMap (P := Tryz.prog) (w2.alloc (.map #[] 0)) 0 0 0 #[]
 rw [show (w2.alloc (.map #[] 0)).heap.size = w2.heap.size + 1 by simp] at hnx
 have R2 : Hid (((w2.alloc (.map #[] 0)).alloc (.mapIter none 0 #[] 0)).ownsMap Tryz.prog 35 (plainElem Tryz.prog 3) b2 0 (.map [] : DataW Unit)) := hm0.alloc _
 have R5 : Hid (Below w2.heap.size w2 ((w2.alloc (.map #[] 0)).alloc (.mapIter none 0 #[] 0))) := al (al (Below.refl _ _) (Nat.le_refl _)) (by simp)
 have HZ : Hid (b2 = w2.heap.size) := hb2
 rw [← hb2] at hnx ⊢
 have HNX := Lib.hid hnx
 clear hm0 hnx hmk d4 hb2 hrn c0 c1 c2 c3 c4
 obtain ⟨W3,hW3⟩ : ∃ W3,W3 = (w2.alloc (.map #[] 0)).alloc (.mapIter none 0 #[] 0) := ⟨_,rfl⟩
 rw [← hW3] at R2 R5 HNX ⊢
 clear hW3
 rw [← HC2.out] at R2
 go_loopw [10] (fun _ wr => Hid (wr = W3)) (fun _ _ => 0)
 case atStart => rfl
 case round =>
   have hwr := hrel.out
   subst hwr
   have hnx := HNX.out
   have hkE := keyE k t D xs
   rw [HE.out] at hkE
   have HKE := Lib.hid hkE
   have HBW := Lib.hid (bl HB2.out R5.out HB2.out.size)
   have q1 := (R5.out.block _ (by have := lt_of_block h1'; omega)).trans h1'
   have q2 := (R5.out.block _ (by have := lt_of_block h2'; omega)).trans h2'
   have q3 := (R5.out.block _ (by have := lt_of_block h3'; omega)).trans h3'
   have q7 := (R5.out.block _ (by have := lt_of_block h7; omega)).trans h7
   have HPk3 := Lib.hid (HPk2.out.keep R5.out)
   have HL2 : Hid (g7 < w2.heap.size) := lt_of_block h7
   clear h1' h2' h3' h7 hkE
   go_wp2_with (first | (at_lookup; refine wpList_lookup_own_int _ rfl _ _ 103 rfl 35 3 .i64 keyedG Tryz.underlying103 Tryz.underlying3 (zeroI _) b2 0 _ rfl R2.out _ _ rfl HKE.out ?_) | (at_mapUpdate; fail) | fail)
   intro cc hat hwc
   have eN : cc = getN C2 E := by unfold getN; rw [hat]
   have hsmE := HSm.out E
   rw [← eN] at hsmE
   have ec : wrap64 (cc + 1) = cc + 1 := by unfold wrap64; omega
   have hw1 : (Lit.int .i64 (cc + 1)).wf = true := by simp [Lit.wf,IntKind.min,IntKind.max,IntKind.signed,IntKind.bits]; omega
   have HEN := Lib.hid eN
   clear hat eN
   go_wp2_with (first | (at_mapUpdate; refine wpList_mapUpdate_own _ rfl _ _ _ 103 rfl 35 3 keyedG Tryz.underlying103 (plainElem Tryz.prog 3) b2 0 C2 rfl R2.out (by unfold maxLen; omega) _ _ (.int .i64 E) rfl rfl HKE.out (.lit (.int .i64 (cc + 1))) [] (plainElem_int Tryz.underlying3 hw1) ?_) | fail)
   intro w5 hown5 hg5
   have HO5 := Lib.hid hown5
   have HSZ2 := HZ.out
   have B5 := R5.out.grown hg5 R5.out.size (fun r hr => by cases hr; omega)
   have hx5 := B5.size
   have HB5 := Lib.hid (bl HB2.out B5 HB2.out.size)
   have p1 := (hg5.block _ (lt_of_block q1) (by have := HL2.out; have := HG7.out; simp; omega)).trans q1
   have p2 := (hg5.block _ (lt_of_block q2) (by have := HL2.out; have := HG7.out; simp; omega)).trans q2
   have p3 := (hg5.block _ (lt_of_block q3) (by have := HL2.out; have := HG7.out; simp; omega)).trans q3
   have p7 := (hg5.block _ (lt_of_block q7) (by have := HL2.out; simp; omega)).trans q7
   have HPk5 := Lib.hid (HPk2.out.keep B5)
   have HE1 := Lib.hid ec
   have hne7 : g7 ≠ w.heap.size + 1 ∧ g7 ≠ w.heap.size + 2 := by have := HG7.out; omega
   clear hown5 hg5 B5 q1 q2 q3 q7 ec hw1 hsmE hwc HSZ2 hx5
   obtain ⟨c0,c1,c2,c3,c4⟩ := cells_five p1
   obtain ⟨e0,e1,e2,e3,e4,e5,e6⟩ := cells_seven p7
   go_wp2_with fail
   refine wp_region_pair (fun ix => ([.pointer (some ⟨w.heap.size,0,none⟩),PVal L t k D,.map (some b2),.agg #[.int .i64 (L : Nat),.int .i64 (t : Nat),.int .i64 (k : Nat),.int .u32 (D : Nat),.map (some b2)],.agg #[v0,v1,v2,v3,v4,v5,v6],.int .i64 E,undef,undef,.int .i64 E][ix]?).getD undef) 45 6 7 (w.heap.size + 1) (w.heap.size + 1 + 1) 105 135 #[.int .i64 (L : Nat),.int .i64 (t : Nat),.int .i64 (k : Nat),.int .u32 (D : Nat),.map (some b2)] #[v0,v1,v2,v3,v4,v5,v6] rfl (by kernel_rfl) (by decide) (by decide) (by decide) (by decide) (by omega) ⟨_,p2,rfl⟩ ⟨_,p3,rfl⟩ ?_ ?_ ?_ (by decide) (by decide) ?_
   ·intro i o h1 h2 ho a W hE hs hp hi
    match i,h1,h2,ho with
    | 0,_,_,ho =>
     simp at ho; subst ho
     have t2 : sl a 2 = .pointer (some ⟨w.heap.size,0,none⟩) := hi 2 (by decide)
     simp only [execOp,eval_tmp,t2]; simp [go_sem]
    | 1,_,_,ho =>
     simp at ho; subst ho
     have t39 : sl a 39 = .pointer (some ⟨w.heap.size,0,none⟩) := hp 0 39 (by decide) (by decide) (by decide) rfl
     have f0 := hE.cell (by omega) (by omega) c0; have f1 := hE.cell (by omega) (by omega) c1; have f2 := hE.cell (by omega) (by omega) c2; have f3 := hE.cell (by omega) (by omega) c3
     simp only [execOp,eval_tmp,t39]; simp [go_sem,f0,f1,f2,f3]
    | 2,_,_,ho =>
     simp at ho; subst ho
     have t9 : sl a 9 = .map (some b2) := hi 9 (by decide)
     simp only [execOp,eval_tmp,t9]; rfl
    | 3,_,_,ho =>
     simp at ho; subst ho
     have t40 : sl a 40 = PVal L t k D := hp 1 40 (by decide) (by decide) (by decide) rfl
     have t41 : sl a 41 = .map (some b2) := hp 2 41 (by decide) (by decide) (by decide) rfl
     have u40 : a.tmps[40]?.getD undef = sl a 40 := by simp [sl]
     have u41 : a.tmps[41]?.getD undef = sl a 41 := by simp [sl]
     rw [t40] at u40; rw [t41] at u41
     simp only [execOp,eval_tmp,t40,t41]; simp [go_sem,u40,u41,Tryz.underlying105,Tryz.underlying27]
    | 4,_,_,ho =>
     simp at ho; subst ho
     have t7 : sl a 7 = .pointer (some ⟨g7,0,none⟩) := hi 7 (by decide)
     have f0 := hE.cell hne7.1 hne7.2 e0; have f1 := hE.cell hne7.1 hne7.2 e1; have f2 := hE.cell hne7.1 hne7.2 e2; have f3 := hE.cell hne7.1 hne7.2 e3; have f4 := hE.cell hne7.1 hne7.2 e4; have f5 := hE.cell hne7.1 hne7.2 e5; have f6 := hE.cell hne7.1 hne7.2 e6
     simp only [execOp,eval_tmp,t7]; simp [go_sem,f0,f1,f2,f3,f4,f5,f6]
    | 5,_,_,ho =>
     simp at ho; subst ho
     have t8 : sl a 8 = .int .i64 E := hi 8 (by decide)
     simp only [execOp,eval_tmp,t8]; rfl
    | 8,_,_,ho =>
     simp at ho; subst ho
     have t44 : sl a 44 = .int .i64 E := hp 5 44 (by decide) (by decide) (by decide) rfl
     simp only [execOp,eval_tmp,t44]; rfl
    | 6,h,_,_ => exact absurd rfl h
    | 7,_,h,_ => exact absurd rfl h
    | j + 9,_,_,ho => simp at ho
   ·intro o ho a W hE hs hp hi old hold hsz
    simp at ho; subst ho
    have t4 : sl a 4 = .pointer (some ⟨w.heap.size + 1,0,none⟩) := hi 4 (by decide)
    have t42 : sl a 42 = .agg #[.int .i64 (L : Nat),.int .i64 (t : Nat),.int .i64 (k : Nat),.int .u32 (D : Nat),.map (some b2)] := hp 3 42 (by decide) (by decide) (by decide) rfl
    exact wp_store_row 105 (.tmp 4) (.tmp 42) rfl (w.heap.size + 1) #[.int .i64 (L : Nat),.int .i64 (t : Nat),.int .i64 (k : Nat),.int .u32 (D : Nat),.map (some b2)] (by rw [eval_tmp]; exact t4) (by rw [eval_tmp]; exact t42) _ old hold info_gate hsz (by simp [Value.oneCell']) ⟨rfl,rfl⟩
   ·intro o ho a W hE hs hp hi old hold hsz
    simp at ho; subst ho
    have t5 : sl a 5 = .pointer (some ⟨w.heap.size + 1 + 1,0,none⟩) := hi 5 (by decide)
    have t43 : sl a 43 = .agg #[v0,v1,v2,v3,v4,v5,v6] := hp 4 43 (by decide) (by decide) (by decide) rfl
    exact wp_store_row 135 (.tmp 5) (.tmp 43) rfl (w.heap.size + 1 + 1) #[v0,v1,v2,v3,v4,v5,v6] (by rw [eval_tmp]; exact t5) (by rw [eval_tmp]; exact t43) _ old hold info_packet hsz (by simp [o0,o1,o2,o3,o4,o5,o6]) ⟨rfl,rfl⟩
   ·intro a W hE i1 i2 hs hd hI ht
    have ha := act_is [39,40,41,42,43,44,6] hs hd ht (by decide)
    have t6 : sl a 6 = .int .i64 E := hI 8 6 (by decide) (by decide) (by decide) rfl
    simp only [List.foldl,t6] at ha
    generalize sl a 39 = u39 at ha
    generalize sl a 40 = u40 at ha
    generalize sl a 41 = u41 at ha
    generalize sl a 42 = u42 at ha
    generalize sl a 43 = u43 at ha
    generalize sl a 44 = u44 at ha
    simp only [Act.put,List.setIfInBounds_toArray,List.set_cons_zero,List.set_cons_succ] at ha
    rw [ha]
    clear ha hI ht hs hd t6 c0 c1 c2 c3 c4 e0 e1 e2 e3 e4 e5 e6
    have hW := hE.size
    have HO6 : Hid (W.ownsMap Tryz.prog 35 (plainElem Tryz.prog 3) b2 (0 + 1) (C2.put (.int .i64 E) (.lit (.int .i64 (cc + 1))))) := by
     obtain ⟨es,clock,m1,F,m2,m3⟩ := HO5.out
     exact ⟨es,clock,(hE.block b2 (by have := HL2.out; have := HG7.out; have := HZ.out; omega) (by have := HL2.out; have := HG7.out; have := HZ.out; omega)).trans m1,F,m2,m3⟩
    have HPk6 := Lib.hid (HPk5.out.two hE p2 p3 gate_ne pkt_ne)
    have HB6 : Hid (Below w.heap.size w W) := HB5.out.trans (hE.below (by omega) (by omega))
    have HMp : Hid (IsMap C2) := R2.out.isMap
    clear hE p1 p2 p3 p7 hW
    go_wp2
    refine bodyPost_ret (res_cct rfl _ _ _ _ 105 135 #[.int .i64 (L : Nat),.int .i64 (t : Nat),.int .i64 (k : Nat),.int .u32 (D : Nat),.map (some b2)] #[v0,v1,v2,v3,v4,v5,v6] (0,0) (0,0) _ _ (.int .i64 E) rfl i1 rfl i2 rfl Tryz.underlying105 rfl info_gate Tryz.underlying135 rfl info_packet) rfl ?_
    refine ⟨b2,v0,v1,v2,v3,v4,v5,v6,rfl,⟨.inr ⟨b2,rfl,?_⟩,fun x => ?_⟩,HPk6.out,HB6.out⟩
    ·rw [← HEN.out]
     exact HO6.out
    ·rw [getN_put HMp.out (keyedG.key HKE.out),← HEN.out]
     have g1 := HSm.out x
     have g2 := HSm.out E
     rw [← HEN.out] at g2
     split <;> omega
theorem CntM.mono {w : World} {M : Value} {N N' : Nat} {C : DataW Unit} (h : CntM w M N C) (hN : N ≤ N') : CntM w M N' C := by
 refine ⟨?_,fun x => by have := h.small x; omega⟩
 rcases h.at_ with h1 | ⟨b,e,ho⟩
 ·exact .inl h1
 ·exact .inr ⟨b,e,ho.mono hN⟩
def bump (C : DataW Unit) (x : Int) : DataW Unit := C.put (.int .i64 x) (.lit (.int .i64 (getN C x + 1)))
theorem GLook_any (L t k D N : Nat) (M : Value) (C : DataW Unit) (p : Option Addr) (n c : Nat) (xs : List UInt8) (w : World) (hP : POK L t k D) (hT : HalfT w) (hC : CntM w M N C) (hN : N < 1000000) (h : Sl B8 w p n c xs) (hr : Room n) :
  Calls Tryz.prog 62 #[GVal L t k D M,.slice p n c] w fun e w' => ∃ b2 v0 v1 v2 v3 v4 v5 v6,e = .returned (.tuple #[GVal L t k D (.map (some b2)),.agg #[v0,v1,v2,v3,v4,v5,v6],.int .i64 (readC k t D xs)]) ∧
   CntM w' (.map (some b2)) (N + 1) (bump C (readC k t D xs)) ∧ PkC w' w.heap.size k t D xs v0 v1 v2 v3 v4 v5 v6 ∧ Below w.heap.size w w' := by
 rcases hC.at_ with ⟨rfl,rfl⟩ | ⟨b,rfl,ho⟩
 ·refine Calls.mono (GLook_nil L t k D p n c xs w hP hT h hr) ?_
  rintro e w' ⟨b2,v0,v1,v2,v3,v4,v5,v6,rfl,g1,g2,g3⟩
  exact ⟨b2,v0,v1,v2,v3,v4,v5,v6,rfl,g1.mono (by omega),g2,g3⟩
 ·exact GLook_own L t k D b N C p n c xs w hP hT ho hC.small hN h hr
end Go.Proofs.YtfbmdlfkipipfaaGreatDoor
namespace Go.By
open Go.RowKit Go.Maps
def valG : DataW Unit → Int
 | .lit (.int _ c) => c
 | _ => 0
def sumE (es : List (Lit × DataW Unit)) : Int := (es.map (fun p => valG p.2)).sum
theorem sumE_cons (p : Lit × DataW Unit) (es : List (Lit × DataW Unit)) : sumE (p :: es) = valG p.2 + sumE es := by simp [sumE]
theorem sumE_perm {l l' : List (Lit × DataW Unit)} (h : l.Perm l') : sumE l = sumE l' := by unfold sumE; induction h with
 | nil => rfl
 | cons x _ ih => simp only [List.map_cons,List.sum_cons,ih]
 | swap x y l => simp only [List.map_cons,List.sum_cons]; omega
 | trans _ _ i1 i2 => exact i1.trans i2
def atE (k : Lit) (es : List (Lit × DataW Unit)) : Int := match es.find? (fun p => p.1.sameKey k) with
 | some p => valG p.2
 | none => 0
theorem sumE_strike (k : Lit) : ∀ es : List (Lit × DataW Unit),es.Pairwise (fun p q => p.1 ≠ q.1) → sumE (es.filter (fun p => !p.1.sameKey k)) + atE k es = sumE es
 | [],_ => rfl
 | y :: r,h => by
  obtain ⟨h1,h2⟩ := List.pairwise_cons.1 h
  have ih := sumE_strike k r h2
  cases hy : y.1.sameKey k
  ·have e1 : (y :: r).filter (fun p => !p.1.sameKey k) = y :: r.filter (fun p => !p.1.sameKey k) := by simp [List.filter_cons,hy]
   have e2 : atE k (y :: r) = atE k r := by unfold atE; simp [hy]
   rw [e1,e2,sumE_cons,sumE_cons]; omega
  ·have e1 : (y :: r).filter (fun p => !p.1.sameKey k) = r.filter (fun p => !p.1.sameKey k) := by simp [List.filter_cons,hy]
   have e2 : atE k (y :: r) = valG y.2 := by unfold atE; simp [hy]
   have e3 : atE k r = 0 := by
    unfold atE
    rw [List.find?_eq_none.2]
    intro p hp hpk
    exact h1 p hp ((WideAt.sameKey_eq hy).trans (WideAt.sameKey_eq hpk).symm)
   rw [e1,e2,sumE_cons]; rw [e3] at ih; omega
structure Cnts (C : DataW Unit) (N : Int) : Prop where
 ok : ∃ es,C = .map es ∧ es.Pairwise (fun p q => p.1 ≠ q.1) ∧ (∀ p,p ∈ es → WideAt.IsKeyLit p.1) ∧ sumE es = N
theorem Cnts.nil : Cnts (.map []) 0 := ⟨[],rfl,.nil,fun p h => (by cases h),rfl⟩
theorem getN_at (C : List (Lit × DataW Unit)) (x : Int) : Go.Proofs.YtfbmdlfkipipfaaGreatDoor.getN (.map C) x = atE (.int .i64 x) C := by
 unfold Go.Proofs.YtfbmdlfkipipfaaGreatDoor.getN atE DataW.atKey
 dsimp only
 cases C.find? (fun p => p.1.sameKey (.int .i64 x)) with
 | none => rfl
 | some p => rfl
theorem Cnts.bump {C : DataW Unit} {N : Int} (h : Cnts C N) (x : Int) (hk : WideAt.IsKeyLit (.int .i64 x)) : Cnts (Go.Proofs.YtfbmdlfkipipfaaGreatDoor.bump C x) (N + 1) := by
 obtain ⟨es,rfl,hp,hl,hs⟩ := h.ok
 obtain ⟨es',e',hp'⟩ := (Tidy.put (D := .map es) ⟨es,rfl,hp⟩ hk (.lit (.int .i64 (Go.Proofs.YtfbmdlfkipipfaaGreatDoor.getN (.map es) x + 1))))
 have e2 : es' = DataW.insert (.int .i64 x,.lit (.int .i64 (Go.Proofs.YtfbmdlfkipipfaaGreatDoor.getN (.map es) x + 1))) (es.filter fun p => !p.1.sameKey (.int .i64 x)) := by injection e'.symm
 have hpm := Go.WideShapes.insert_perm (.int .i64 x,(.lit (.int .i64 (Go.Proofs.YtfbmdlfkipipfaaGreatDoor.getN (.map es) x + 1)) : DataW Unit)) (es.filter fun p => !p.1.sameKey (.int .i64 x))
 rw [← e2] at hpm
 refine ⟨es',e',hp',fun p hm => ?_,?_⟩
 ·rcases List.mem_cons.1 (hpm.mem_iff.1 hm) with rfl | hm
  ·exact hk
  ·exact hl p (List.mem_filter.1 hm).1
 ·rw [sumE_perm hpm,sumE_cons,getN_at]
  have := sumE_strike (.int .i64 x) es hp
  show (atE (.int .i64 x) es + 1) + _ = _
  omega
def leftE : DataW Unit → (Lit → Bool) → Int
 | .map es,left => sumE (es.filter (fun p => left p.1))
 | _,_ => 0
theorem leftE_start {C : DataW Unit} {N : Int} (h : Cnts C N) : leftE C (has C) = N := by
 obtain ⟨es,rfl,hp,hl,hs⟩ := h.ok
 show sumE (es.filter (fun p => has (.map es) p.1)) = N
 rw [List.filter_eq_self.2,hs]
 intro p hm
 rw [has_eq,List.any_eq_true]
 exact ⟨p,hm,WideAt.sameKey_self (hl p hm)⟩
theorem leftE_step {C : DataW Unit} {N : Int} (h : Cnts C N) {left : Lit → Bool} {k : Lit} {c : Int} (hl : left k = true) (hat : ∀ zd,C.atKey k zd = .lit (.int .i64 c)) : leftE C left = c + leftE C (fun z => left z && !z.sameKey k) := by
 obtain ⟨es,rfl,hp,_,_⟩ := h.ok
 show sumE (es.filter (fun p => left p.1)) = c + sumE (es.filter (fun p => left p.1 && !p.1.sameKey k))
 have e1 : es.filter (fun p => left p.1 && !p.1.sameKey k) = (es.filter (fun p => left p.1)).filter (fun p => !p.1.sameKey k) := by
  rw [List.filter_filter]
  congr 1
  funext p
  exact Bool.and_comm _ _
 rw [e1,← sumE_strike k (es.filter (fun p => left p.1)) (hp.filter _)]
 have e2 : atE k (es.filter (fun p => left p.1)) = c := by
  unfold atE
  rw [find_filter_keep (g := fun p : Lit × DataW Unit => left p.1) (f := fun p => p.1.sameKey k) (fun p hpk => by rw [WideAt.sameKey_eq hpk]; exact hl)]
  have h1 := hat (.map [])
  unfold DataW.atKey at h1
  dsimp only at h1
  cases hf : es.find? (fun p => p.1.sameKey k) with
  | none => rw [hf] at h1; cases h1
  | some p =>
   rw [hf] at h1
   show valG p.2 = c
   have h2 : p.2 = .lit (.int .i64 c) := h1
   rw [h2]; rfl
 omega
theorem leftE_end (C : DataW Unit) {left : Lit → Bool} (h : ∀ kl,left kl = false) : leftE C left = 0 := by
 cases C <;> try rfl
 rename_i es
 show sumE (es.filter (fun p => left p.1)) = 0
 rw [List.filter_eq_nil_iff.2 (fun p _ => by rw [h]; simp)]; rfl
theorem wrap_add (a c : Int) : wrap64 (wrap64 a + c) = wrap64 (a + c) := by unfold wrap64; omega
end Go.By
namespace Go.Proofs.YtfbmdlfkipipfaaGreatDoor
open Go.RowKit Go.By Go.Maps
set_option maxRecDepth 100000 in
set_option maxHeartbeats 1000000 in
theorem GSeen_own (L t k D : Int) (b N : Nat) (C : DataW Unit) (S : Int) (w : World) (ho : w.ownsMap Tryz.prog 35 (plainElem Tryz.prog 3) b N C) (hC : Cnts C S) :
  Calls Tryz.prog 49 #[.agg #[.int .i64 L,.int .i64 t,.int .i64 k,.int .u32 D,.map (some b)]] w fun e w' => e = .returned (.int .i64 (wrap64 S)) ∧ Below w.heap.size w w' := by
 have HM := Lib.hid ho
 have HC := Lib.hid hC
 clear ho hC
 go_enter Tryz.func49,Tryz.ntmps49
 obtain ⟨g,hg⟩ : ∃ g,g = w.heap.size := ⟨_,rfl⟩
 have ba : Below w.heap.size w (w.alloc (.cells #[.int .i64 L,.int .i64 t,.int .i64 k,.int .u32 D,.map (some b)] 105 (0,0))) := al (Below.refl _ _) (Nat.le_refl _)
 have HMA := Lib.hid (ownsMap_keep HM.out ba)
 have hbl : b < w.heap.size := HM.out.lt
 have HBA := Lib.hid ba
 have kp : (w.alloc (.cells #[.int .i64 L,.int .i64 t,.int .i64 k,.int .u32 D,.map (some b)] 105 (0,0))).heap[w.heap.size]? = some (.cells #[.int .i64 L,.int .i64 t,.int .i64 k,.int .u32 D,.map (some b)] 105 (0,0)) := hnew rfl
 go_wp2_with (at_range; refine wpList_range_own _ rfl _ 103 rfl 35 3 keyedG Tryz.underlying103 _ b N C rfl HMA.out ?_)
 intro w3 hrg hg3 hs3
 try go_frame
 have HRG := Lib.hid hrg
 have HB3 : Hid (Below w.heap.size w w3) := HBA.out.grown hg3 (by simp) (fun r hr' => by cases hr')
 have HBL : Hid (b < w.heap.size) := hbl
 clear hrg hg3 hs3 hbl kp ba
 generalize w.alloc (.cells #[.int .i64 L,.int .i64 t,.int .i64 k,.int .u32 D,.map (some b)] 105 (0,0)) = wa at *
 clear HMA HBA
 go_wp2_with fail
 go_loopw [3,9,10,11,12,13,14,15] (fun sv _ _ _ _ _ _ _ wr => ∃ left cnt,sv = .int .i64 (wrap64 (S - leftE C left)) ∧ Hid (wr.ranges Tryz.prog 35 (plainElem Tryz.prog 3) b (w.heap.size + 1) N C left cnt) ∧ Hid (Below w.heap.size w wr)) (fun _ _ _ _ _ _ _ _ wr => wr.rangeLeft b (w.heap.size + 1))
 case atStart => exact ⟨_,_,by rw [leftE_start HC.out,Int.sub_self,show wrap64 0 = 0 by unfold wrap64; omega],HRG.out,HB3.out⟩
 case round =>
  clear HRG HB3
  obtain ⟨left,cnt,rfl,R1,R5⟩ := hrel
  go_wp2_with (at_next; refine wpList_next_ranges_ii _ rfl _ rfl 35 3 .i64 .i64 keyedG Tryz.underlying35 Tryz.underlying3 b (w.heap.size + 1) N _ _ _ rfl R1.out ?_ ?_)
  ·intro hc0 hl0
   have HE : Hid (wrap64 (S - leftE C left) = wrap64 S) := by show _ = _; rw [leftE_end C hl0,Int.sub_zero]
   clear hc0 hl0 R1
   go_wp2
   go_ret
   exact ⟨congrArg (fun z => Ending.returned (.int .i64 z)) HE.out,R5.out⟩
  ·intro x cc w4 cnt4 hwx hwc hlx hat hrg4 hlt hg4 hs4 hen
   have RG4 := Lib.hid hrg4
   have HE : Hid (wrap64 (wrap64 (S - leftE C left) + cc) = wrap64 (S - leftE C (fun z => left z && !z.sameKey (.int .i64 x)))) := by
    show _ = _
    rw [wrap_add,leftE_step HC.out hlx hat]
    congr 1; omega
   have R5' := Lib.hid (R5.out.grown hg4 R5.out.size (fun r hr => by cases hr; omega))
   have HLT := Lib.hid hlt
   clear hrg4 hat hg4 hlx hlt
   go_wp2
   go_roundw
   case rel => exact ⟨_,cnt4,by rw [HE.out],RG4.out,R5'.out⟩
   case measure => rw [RG4.out.left_eq,R1.out.left_eq]; exact HLT.out
end Go.Proofs.YtfbmdlfkipipfaaGreatDoor
namespace Go.By
open Go.RowKit
theorem cells3 {w : World} {b T : Nat} {u v x : Value} (h : w.heap[b]? = some (.cells #[u,v,x] T (0,0))) : w.cell? ⟨b,0,none⟩ = some u ∧ w.cell? ⟨b,1,none⟩ = some v ∧ w.cell? ⟨b,2,none⟩ = some x :=
 ⟨cell_of_row _ _ 0 _ _ _ h,cell_of_row _ _ 1 _ _ _ h,cell_of_row _ _ 2 _ _ _ h⟩
theorem Sl.mid {α : Type} {enc : α → Value} {w : World} {b o n c k m : Nat} {xs : List α} (h : Sl enc w (some ⟨b,o,none⟩) n c xs) (hk : k + m ≤ n) : Sl enc w (some ⟨b,o + k,none⟩) m (c - k) ((xs.drop k).take m) := by
 have h1 := h.len; have h2 := h.le; have h3 := h.max
 refine ⟨by rw [List.length_take,List.length_drop]; omega,by omega,by omega,fun e => (by cases e),?_⟩
 intro i hi
 have hi' : k + i < xs.length := by rw [List.length_take,List.length_drop] at hi; omega
 obtain ⟨b',o',hp,hc⟩ := h.rs (k + i) hi'
 cases hp
 exact ⟨b,o + k,rfl,by rw [show o + k + i = o + (k + i) by omega,hc]; simp⟩
end Go.By
namespace Go.Proofs.YtfbmdlfkipipfaaGreatDoor
open Go.RowKit Go.By
end Go.Proofs.YtfbmdlfkipipfaaGreatDoor
namespace Go.Proofs.YtfbmdlfkipipfaaGreatDoor
open Go.RowKit Go.By
end Go.Proofs.YtfbmdlfkipipfaaGreatDoor
namespace Go.By
end Go.By
namespace Go.Proofs.YtfbmdlfkipipfaaGreatDoor
open Go.RowKit Go.By
theorem info_rows : (Tryz.prog.info? 22).map (fun i => (i.zero,i.size,i.bytes)) = some (some (.slice none 0 0),1,24) := by kernel_rfl
end Go.Proofs.YtfbmdlfkipipfaaGreatDoor
namespace Go.By
open Go.RowKit
def fl2 (vs : List (Value × Value)) : List Value := vs.flatMap fun u => [u.1,u.2]
theorem fl2_append (a b : List (Value × Value)) : fl2 (a ++ b) = fl2 a ++ fl2 b := by simp [fl2]
theorem fl2_length (vs : List (Value × Value)) : (fl2 vs).length = vs.length * 2 := by
 induction vs with
 | nil => rfl
 | cons u vs ih => show (u.1 :: u.2 :: fl2 vs).length = _; simp only [List.length_cons,ih]; omega
theorem fl2_at : ∀ {vs : List (Value × Value)} {i : Nat} {u : Value × Value},vs[i]? = some u → (fl2 vs)[i * 2]? = some u.1 ∧ (fl2 vs)[i * 2 + 1]? = some u.2
 | v :: vs, 0, u, h => by obtain rfl : v = u := by simpa using h
                          exact ⟨rfl,rfl⟩
 | v :: vs,i + 1,u,h => by
  have ih := fl2_at (vs := vs) (i := i) (u := u) (by simpa using h)
  have e : fl2 (v :: vs) = v.1 :: v.2 :: fl2 vs := rfl
  rw [e,show (i + 1) * 2 = i * 2 + 2 by omega]
  exact ⟨by simpa using ih.1,by simpa using ih.2⟩
def Bw (T1 : TypeId) (w : World) (base : Nat) (v : Value) (xs : List UInt8) : Prop := ∃ q m c,v = .slice q m c ∧ xs.length = m ∧ w.ownsRow base T1 1 (.slice q m c) m (xs.map B8)
def RwL (T2 T1 : TypeId) (w : World) (base : Nat) (v : Value) (n : Nat) (K : List (List UInt8 × List UInt8)) : Prop :=
 ∃ vs : List (Value × Value),vs.length = n ∧ K.length = n ∧ w.ownsRow base T2 2 v n (fl2 vs) ∧ ∀ (j : Nat) (u : Value × Value),vs[j]? = some u → ∃ k,K[j]? = some k ∧ Bw T1 w base u.1 k.1 ∧ Bw T1 w base u.2 k.2
section
variable {T2 T1 : TypeId} {w w' : World} {base n : Nat} {v : Value} {K : List (List UInt8 × List UInt8)}
theorem Bw.keep {xs : List UInt8} (h : Bw T1 w base v xs) (hb : Below w.heap.size w w') : Bw T1 w' base v xs := by
 obtain ⟨q,m,c,e,l,o⟩ := h; exact ⟨q,m,c,e,l,owns_keep o hb⟩
theorem Bw.sl {xs : List UInt8} (h : Bw T1 w base v xs) : ∃ q m c,v = .slice q m c ∧ Sl B8 w q m c xs := by
 obtain ⟨q,m,c,e,l,o⟩ := h; exact ⟨q,m,c,e,Sl.of_owns o⟩
theorem Bw.grown {xs : List UInt8} {u : Value} {L : List Value} {m : Nat} (h : Bw T1 w base v xs) (hT : T1 ≠ T2) (ho : w.ownsRow base T2 2 u m L) (hg : w.grownBy w' u.ownBlock) : Bw T1 w' base v xs := by
 obtain ⟨q,m,c,e,l,o⟩ := h; exact ⟨q,m,c,e,l,owns_kept o hg (owns_ne o ho hT)⟩
theorem RwL.nil (T2 T1 : TypeId) (w : World) (base : Nat) : RwL T2 T1 w base (.slice none 0 0) 0 [] := ⟨[],rfl,rfl,World.ownsRow_nil _ _ _ _,fun j u h => by simp at h⟩
theorem RwL.keep (h : RwL T2 T1 w base v n K) (hb : Below w.heap.size w w') : RwL T2 T1 w' base v n K := by
 obtain ⟨vs,a,b,o,r⟩ := h
 exact ⟨vs,a,b,owns_keepv o hb,fun j u hj => by obtain ⟨k,hk,g1,g2⟩ := r j u hj; exact ⟨k,hk,g1.keep hb,g2.keep hb⟩⟩
theorem RwL.len (h : RwL T2 T1 w base v n K) : K.length = n := by obtain ⟨vs,a,b,o,r⟩ := h; exact b
theorem RwL.shape (h : RwL T2 T1 w base v n K) : ∃ q c,v = .slice q n c := by obtain ⟨vs,a,b,o,r⟩ := h; exact owns_shape o
theorem RwL.at {q : Option Addr} {c : Nat} (h : RwL T2 T1 w base (.slice q n c) n K) {j : Nat} (hj : j < n) : ∃ g k q1 m1 c1 q2 m2 c2,q = some ⟨g,0,none⟩ ∧ w.cell? ⟨g,j * 2,none⟩ = some (.slice q1 m1 c1) ∧ w.cell? ⟨g,j * 2 + 1,none⟩ = some (.slice q2 m2 c2) ∧
  Hid (K[j]? = some k) ∧ Sl B8 w q1 m1 c1 k.1 ∧ Sl B8 w q2 m2 c2 k.2 := by
 obtain ⟨vs,a,b,o,r⟩ := h
 obtain ⟨u,hu⟩ : ∃ u,vs[j]? = some u := ⟨_,List.getElem?_eq_getElem (by omega)⟩
 obtain ⟨k,hk,g1,g2⟩ := r j u hu
 obtain ⟨q1,m1,c1,e1,s1⟩ := g1.sl
 obtain ⟨q2,m2,c2,e2,s2⟩ := g2.sl
 rcases o.2 with ⟨hv,_⟩ | ⟨g,cap,cur,hv,_⟩
 ·simp at hv; omega
 ·obtain ⟨rfl,rfl⟩ : q = some ⟨g,0,none⟩ ∧ c = cap := by simpa using hv
  obtain ⟨f1,f2⟩ := fl2_at hu
  refine ⟨g,k,q1,m1,c1,q2,m2,c2,rfl,?_,?_,hk,s1,s2⟩
  ·rw [o.cellAt _ (by omega),f1,e1]
  ·rw [o.cellAt _ (by omega),f2,e2]
theorem RwL.lt (h : RwL T2 T1 w base v n K) : ∀ k,v.ownBlock = some k → base ≤ k ∧ k < w.heap.size := by
 obtain ⟨vs,a,b,o,r⟩ := h; exact fun k hk => o.lt k hk
theorem Bw.set {xs : List UInt8} {g o : Nat} {u : Value} (h : Bw T1 w base v xs) (hne : ∀ k,v.ownBlock = some k → k ≠ g) (hg : w.grownBy w' (some g)) : Bw T1 w' base v xs := by
 obtain ⟨q,m,c,rfl,l,ho⟩ := h; exact ⟨q,m,c,rfl,l,owns_kept ho hg (fun k hk e => hne k hk (by injection e))⟩
theorem RwL.set {g TX : Nat} {cs : Array Value} {fr : Nat × Nat} (h : RwL T2 T1 w base v n K) (hX : w.heap[g]? = some (.cells cs TX fr)) (h1 : T1 ≠ TX) (h2 : v.ownBlock ≠ some g) (hg : w.grownBy w' (some g)) : RwL T2 T1 w' base v n K := by
 obtain ⟨vs,a,b,o,r⟩ := h
 have hB : ∀ (u : Value) (xs : List UInt8),Bw T1 w base u xs → Bw T1 w' base u xs := fun u xs hu => by
  refine hu.set (g := g) (o := 0) (u := u) (fun k hk e => ?_) hg
  obtain ⟨q,m,c,rfl,l,ho⟩ := hu
  rcases ho.2 with ⟨hv,_⟩ | ⟨g',cap,cur,hv,_,hh,_⟩
  ·rw [hv] at hk; simp [Value.ownBlock] at hk
  ·rw [hv] at hk; simp [Value.ownBlock] at hk
   rw [e] at hk; rw [hk,hX] at hh
   injection hh with hh; injection hh with _ hh _; exact h1 hh.symm
 exact ⟨vs,a,b,owns_kept o hg (fun k hk e => h2 (by rw [hk,e])),fun j u hj => by obtain ⟨k,hk,g1,g2⟩ := r j u hj; exact ⟨k,hk,hB _ _ g1,hB _ _ g2⟩⟩
theorem RwL.push {w1 : World} {v' : Value} {u1 u2 : Value} {k : List UInt8 × List UInt8} {vs : List (Value × Value)} (a : vs.length = n) (b : K.length = n) (o : w.ownsRow base T2 2 v n (fl2 vs))
  (r : ∀ (j : Nat) (u : Value × Value),vs[j]? = some u → ∃ k,K[j]? = some k ∧ Bw T1 w base u.1 k.1 ∧ Bw T1 w base u.2 k.2) (hT : T1 ≠ T2) (h1 : Bw T1 w base u1 k.1) (h2 : Bw T1 w base u2 k.2)
  (ho : w1.ownsRow base T2 2 v' (n + 1) (fl2 vs ++ [u1,u2])) (hg : w.grownBy w1 v.ownBlock) : RwL T2 T1 w1 base v' (n + 1) (K ++ [k]) := by
 refine ⟨vs ++ [(u1,u2)],by simp [a],by simp [b],by rw [fl2_append]; exact ho,?_⟩
 intro j u hj
 by_cases hjn : j < vs.length
 ·rw [List.getElem?_append_left hjn] at hj
  obtain ⟨k',hk,g1,g2⟩ := r j u hj
  exact ⟨k',by rw [List.getElem?_append_left (by omega)]; exact hk,g1.grown hT o hg,g2.grown hT o hg⟩
 ·have hj2 := (List.getElem?_eq_some_iff.1 hj).1
  rw [List.length_append,List.length_singleton] at hj2
  obtain rfl : j = vs.length := by omega
  rw [List.getElem?_append_right (Nat.le_refl _),Nat.sub_self] at hj
  have hu : (u1,u2) = u := by simpa using hj
  subst hu
  exact ⟨k,by rw [a,← b,List.getElem?_append_right (Nat.le_refl _),Nat.sub_self]; rfl,h1.grown hT o hg,h2.grown hT o hg⟩
end
end Go.By
namespace Go.Proofs.YtfbmdlfkipipfaaGreatDoor
open Go.RowKit Go.By
end Go.Proofs.YtfbmdlfkipipfaaGreatDoor
namespace Go.Proofs.YtfbmdlfkipipfaaGreatDoor
open Go.RowKit Go.By
def invOf (a : UInt8) : UInt8 := if a = 0 then 0 else Gf.ginv a
theorem inv_unique {a b : UInt8} (h : Gf.gmul a b = 1) : b = invOf a := by
 have ha : a ≠ 0 := by rintro rfl; rw [Gf.zero_gmul] at h; exact absurd h (by decide)
 rw [invOf,if_neg ha]
 have := congrArg (Gf.gmul (Gf.ginv a)) h
 rwa [← Gf.gmul_assoc,Gf.ginv_gmul a ha,Gf.one_gmul,Gf.gmul_one] at this
theorem inv_none {a : UInt8} (h : ∀ j : Nat,1 ≤ j → j < 256 → Gf.gmul a (UInt8.ofNat j) ≠ 1) : invOf a = 0 := by
 by_cases ha : a = 0
 ·simp [invOf,ha]
 ·exfalso
  have h1 := Gf.ginv_ne a ha
  refine h (Gf.ginv a).toNat ?_ (Gf.ginv a).toNat_lt ?_
  ·have : (Gf.ginv a).toNat ≠ 0 := fun e => h1 (UInt8.toNat_inj.1 e)
   omega
  ·rw [UInt8.ofNat_toNat]; exact Gf.gmul_ginv a ha
set_option maxRecDepth 100000 in
set_option maxHeartbeats 400000 in
theorem RInv_any (a : UInt8) (w : World) : Calls Tryz.prog 191 #[B8 a] w fun e w' => e = .returned (B8 (invOf a)) ∧ w = w' := by
 go_enter Tryz.func191,Tryz.ntmps191
 go_wp2
 go_loop [3] (fun i => ∃ k : Nat,1 ≤ k ∧ k ≤ 256 ∧ i = .int .i64 k ∧ Hid (∀ j : Nat,1 ≤ j → j < k → Gf.gmul a (UInt8.ofNat j) ≠ 1)) (fun i => 256 - (intOf i).toNat)
 case atStart => exact ⟨1,by omega,by omega,rfl,fun j h1 h2 => by omega⟩
 case round =>
  obtain ⟨k,hk1,hk,rfl,hj⟩ := hrel
  by_cases hlt : k < 256
  ·have C := fun W => RefMul_any a (UInt8.ofNat k) W
   rw [← byte_nat hlt] at C
   have HC := Lib.hid C; clear C
   by_cases h1 : Gf.gmul a (UInt8.ofNat k) = 1
   ·have HU := Lib.hid (inv_unique h1)
    rw [h1] at HC
    clear h1
    go_wp2_with fail
    refine (HC.out _).mono ?_; rintro e w' ⟨rfl,rfl⟩
    go_wp2
    go_ret
    refine ⟨?_,rfl⟩
    rw [← HU.out,← byte_nat hlt]; rfl
   ·have ht : (((Gf.gmul a (UInt8.ofNat k)).toNat : Int) == 1) = false := by
     rw [beq_eq_false_iff_ne]; intro e; exact h1 (UInt8.toNat_inj.1 (by have : (1 : UInt8).toNat = 1 := rfl; omega))
    have HN := Lib.hid h1; clear h1
    generalize Gf.gmul a (UInt8.ofNat k) = g at HC ht
    go_wp2_with fail
    refine (HC.out _).mono ?_; rintro e w' ⟨rfl,rfl⟩
    go_wp2
    go_round
    case rel => exact ⟨k + 1,by omega,by omega,by go_num,fun j h1 h2 => by
     by_cases e : j = k
     ·subst e; exact HN.out
     ·exact hj.out j h1 (by omega)⟩
    case measure => simp [intOf]; omega
  ·go_wp2
   go_ret
   exact ⟨by rw [inv_none (fun j h1 h2 => hj.out j h1 (by omega))]; rfl,rfl⟩
end Go.Proofs.YtfbmdlfkipipfaaGreatDoor
namespace Go.Proofs.YtfbmdlfkipipfaaGreatDoor
open Go.RowKit Go.By
set_option maxHeartbeats 400000 in
theorem RLead_any (p : Option Addr) (n c : Nat) (v : List UInt8) (w : World) (h : Sl B8 w p n c v) :
  Calls Tryz.prog 105 #[.slice p n c] w fun e w' => e = .returned (.int .i64 (leadS v)) ∧ w = w' := by
 have hb := h.bound
 have H := Lib.hid h; clear h
 go_enter Tryz.func105,Tryz.ntmps105
 go_wp2
 go_loop [3] (fun i => ∃ k : Nat,k ≤ n ∧ i = .int .i64 k ∧ Hid (∀ j y,j < k → v[j]? = some y → decide (y ≠ 0) = false)) (fun i => n - (intOf i).toNat)
 case atStart => exact ⟨0,Nat.zero_le _,rfl,fun j y hj => by omega⟩
 case round =>
  obtain ⟨k,hk,rfl,hj⟩ := hrel
  by_cases hlt : k < n
  ·obtain ⟨b,o,x,rfl,hc,hx⟩ := H.out.at k hlt
   have ht := nat_ne_zero x
   by_cases h0 : x = 0
   ·rw [decide_eq_false (by simpa using h0)] at ht
    have H0 := Lib.hid h0; clear h0
    go_wp2
    go_round
    case rel => exact ⟨k + 1,by omega,by go_num,fun j y hj' hy => by
     by_cases e : j = k
     ·subst e; have := hx.out.symm.trans hy; cases this; simp [H0.out]
     ·exact hj.out j y (by omega) hy⟩
    case measure => simp [intOf]; omega
   ·rw [decide_eq_true (by simpa using h0)] at ht
    have H0 := Lib.hid h0; clear h0
    go_wp2
    go_ret
    exact ⟨by rw [leadS,idxf_found hx.out (by simpa using H0.out) hj.out]; rfl,rfl⟩
  ·go_wp2
   go_ret
   exact ⟨by rw [leadS,idxf_none (k := k) (by have := H.out.len; omega) hj.out]; rfl,rfl⟩
theorem leadS_cases (v : List UInt8) : (leadS v = -1 ∧ atS v (leadS v) = 0 ∧ ∀ x,x ∈ v → x = 0) ∨ ∃ (k : Nat) (x : UInt8),leadS v = (k : Int) ∧ v[k]? = some x ∧ x ≠ 0 ∧ atS v (leadS v) = x ∧ ∀ (j : Nat) (y : UInt8),j < k → v[j]? = some y → y = 0 := by
 unfold leadS idxf
 cases h : v.findIdx? (fun b => decide (b ≠ 0)) with
 | none =>
  left
  refine ⟨rfl,by simp [atS],?_⟩
  rw [List.findIdx?_eq_none_iff] at h
  intro x hx
  have := h x hx
  simpa using this
 | some i =>
  right
  obtain ⟨hi,hf,hb⟩ := List.findIdx?_eq_some_iff_getElem.1 h
  refine ⟨i,v[i],rfl,List.getElem?_eq_getElem hi,by simpa using hf,by simp [atS,List.getD,hi],?_⟩
  intro j y hj hy
  obtain ⟨hj',e⟩ := List.getElem?_eq_some_iff.1 hy
  have := hb j hj
  rw [e] at this
  simpa using this
theorem info_ref : (Tryz.prog.info? 187).map (·.size) = some 2 := by kernel_rfl
def RetS (w : World) (r : List UInt8 × List UInt8) (e : Ending) (w' : World) : Prop :=
 ∃ q1 m1 c1 q2 m2 c2,e = .returned (.agg #[.slice q1 m1 c1,.slice q2 m2 c2]) ∧ Sl B8 w' q1 m1 c1 r.1 ∧ Sl B8 w' q2 m2 c2 r.2 ∧ Below w.heap.size w w'
set_option maxRecDepth 100000 in
set_option maxHeartbeats 1000000 in
theorem RNorm_any (p1 p2 : Option Addr) (n1 c1 n2 c2 : Nat) (v d : List UInt8) (w : World) (h1 : Sl B8 w p1 n1 c1 v) (h2 : Sl B8 w p2 n2 c2 d) (r1 : Room n1) (r2 : Room n2) :
  Calls Tryz.prog 161 #[.agg #[.slice p1 n1 c1,.slice p2 n2 c2]] w (RetS w (normS (v,d))) := by
 have hi := info_ref
 have H1 := Lib.hid h1; have H2 := Lib.hid h2
 have b1 := h1.bound
 have hB : ∀ o1 o2,Below w.heap.size w ((w.alloc o1).alloc o2) := fun o1 o2 => al (al (Below.refl _ _) (Nat.le_refl _)) (by simp)
 rcases leadS_cases v with ⟨e1,e2,-⟩ | ⟨k,x,e1,e2,e3,e4,-⟩
 ·have HN : Hid (normS (v,d) = (v,d)) := if_pos e2
  have CL := Lib.hid (fun W a => RLead_any p1 n1 c1 v W a)
  rw [e1] at CL
  clear h1 h2 e1 e2
  go_enter Tryz.func161,Tryz.ntmps161
  go_wp2_with fail
  refine (CL.out _ (H1.out.keep (hB _ _))).mono ?_; rintro e w' ⟨rfl,rfl⟩
  go_wp2
  rw [HN.out]
  refine bodyPost_ret (results_cell_row rfl _ _ _ 187 #[.slice p1 n1 c1,.slice p2 n2 c2] (0,0) _ rfl (hnew (by simp)) Tryz.underlying187 rfl hi) rfl ⟨p1,n1,c1,p2,n2,c2,rfl,H1.out.keep (hB _ _),H2.out.keep (hB _ _),hB _ _⟩
 ·have HN : Hid (normS (v,d) = (v.map (Gf.gmul (invOf x)),d.map (Gf.gmul (invOf x)))) := by
   show _ = _
   simp only [normS,e4,if_neg e3,invOf]
  have CL := Lib.hid (fun W a => RLead_any p1 n1 c1 v W a)
  rw [e1] at CL
  have hk : k < n1 := by have := (List.getElem?_eq_some_iff.1 e2).1; rw [h1.len] at this; exact this
  obtain ⟨b,o,x',rfl,hc,hx⟩ := h1.at k hk
  have hxx : x' = x := Option.some.inj (hx.out.symm.trans e2)
  subst hxx
  have hcc : ∀ o1 o2,((w.alloc o1).alloc o2).cell? ⟨b,o + k,none⟩ = some (B8 x') := fun o1 o2 => calloc (calloc hc)
  have kp : ¬ ((k : Int) < 0) := by omega
  have kn : (k : Int) < (n1 : Int) := by omega
  have HI := Lib.hid (fun W => RInv_any x' W)
  generalize invOf x' = g at *
  clear h1 h2 e1 e2 e3 e4 hx hc
  go_enter Tryz.func161,Tryz.ntmps161
  go_wp2_with fail
  refine (CL.out _ (H1.out.keep (hB _ _))).mono ?_; rintro e w' ⟨rfl,rfl⟩
  go_wp2_with fail
  refine (HI.out _).mono ?_; rintro e w' ⟨rfl,rfl⟩
  have hB' := hB (.cells #[.slice (some ⟨b,o,none⟩) n1 c1,.slice p2 n2 c2] 187) (.cells #[.slice none 0 0,.slice none 0 0] 187)
  have e1 : ((w.alloc (.cells #[.slice (some ⟨b,o,none⟩) n1 c1,.slice p2 n2 c2] 187)).alloc (.cells #[.slice none 0 0,.slice none 0 0] 187)).heap[w.heap.size]? = some (.cells #[.slice (some ⟨b,o,none⟩) n1 c1,.slice p2 n2 c2] 187 (0,0)) := hal (hnew rfl)
  have e2 : ((w.alloc (.cells #[.slice (some ⟨b,o,none⟩) n1 c1,.slice p2 n2 c2] 187)).alloc (.cells #[.slice none 0 0,.slice none 0 0] 187)).heap[w.heap.size + 1]? = some (.cells #[.slice none 0 0,.slice none 0 0] 187 (0,0)) := hnew (w := w.alloc _) (by simp)
  have esz : w.heap.size + 2 ≤ ((w.alloc (.cells #[.slice (some ⟨b,o,none⟩) n1 c1,.slice p2 n2 c2] 187)).alloc (.cells #[.slice none 0 0,.slice none 0 0] 187)).heap.size := by simp
  clear hB hcc
  go_wp2_with fail
  generalize (w.alloc (.cells #[.slice (some ⟨b,o,none⟩) n1 c1,.slice p2 n2 c2] 187)).alloc (.cells #[.slice none 0 0,.slice none 0 0] 187) = W at *
  have R0 : ∀ W',Below (w.heap.size + 2) W W' → W'.cell? ⟨w.heap.size,0,none⟩ = some (.slice (some ⟨b,o,none⟩) n1 c1) := fun W' h => cell_of_row _ _ 0 _ _ _ ((h.block _ (by omega)).trans e1)
  have R1 : ∀ W',Below (w.heap.size + 2) W W' → W'.cell? ⟨w.heap.size,1,none⟩ = some (.slice p2 n2 c2) := fun W' h => cell_of_row _ _ 1 _ _ _ ((h.block _ (by omega)).trans e1)
  have R2 : ∀ W',Below (w.heap.size + 2) W W' → W'.cell? ⟨w.heap.size + 1,0,none⟩ = some (.slice none 0 0) := fun W' h => cell_of_row _ _ 0 _ _ _ ((h.block _ (by omega)).trans e2)
  have R3 : ∀ W',Below (w.heap.size + 2) W W' → W'.cell? ⟨w.heap.size + 1,1,none⟩ = some (.slice none 0 0) := fun W' h => cell_of_row _ _ 1 _ _ _ ((h.block _ (by omega)).trans e2)
  have Z2 : ∀ W',Below (w.heap.size + 2) W W' → W'.frozen? ⟨w.heap.size + 1,0,none⟩ = false := fun W' h => frozen_of_row _ _ 0 _ _ ((h.block _ (by omega)).trans e2)
  have Z3 : ∀ W',Below (w.heap.size + 2) W W' → W'.frozen? ⟨w.heap.size + 1,1,none⟩ = false := fun W' h => frozen_of_row _ _ 1 _ _ ((h.block _ (by omega)).trans e2)
  have E2 := Lib.hid e2
  clear e1 e2
  have hd : Below (w.heap.size + 2) W W.drew := (Below.refl _ _).drew
  have C1 : Hid (∀ W',Below (w.heap.size + 2) W W' → Calls Tryz.prog 192 #[B8 g,.slice (some ⟨b,o,none⟩) n1 c1] W' (RetB1 5 W' (v.map (Gf.gmul g)))) := fun W' h => RScale_any g _ n1 c1 v W' (H1.out.keep (hB'.trans (h.mono (by omega)))) r1
  have C2 : Hid (∀ W',Below (w.heap.size + 2) W W' → Calls Tryz.prog 192 #[B8 g,.slice p2 n2 c2] W' (RetB1 5 W' (d.map (Gf.gmul g)))) := fun W' h => RScale_any g p2 n2 c2 d W' (H2.out.keep (hB'.trans (h.mono (by omega)))) r2
  have hB2 := Lib.hid hB'
  clear hB'
  go_region_with (first
   | (go_at_call 192; (with_reducible refine Calls.mono (C1.out _ (by assumption)) ?_); rintro e w1 ⟨q1,m1,c1',hm1,rfl,ho1,hb1⟩; have hw1 := stp (by assumption) hb1 rfl esz)
   | (go_at_call 192; (with_reducible refine Calls.mono (C2.out _ (by assumption)) ?_); rintro e w2 ⟨q2,m2,c2',hm2,rfl,ho2,hb2⟩; have hw2 := stp (by assumption) hb2 rfl esz))
  all_goals go_wp2
  all_goals rw [HN.out]
  all_goals first
   | (refine bodyPost_ret (results_cell_row rfl _ _ _ 187 #[.slice q1 m1 c1',.slice q2 m2 c2'] (0,0) _ rfl (hss (hss ((hw2.block _ (by omega)).trans E2.out))) Tryz.underlying187 rfl hi) rfl ⟨q1,m1,c1',q2,m2,c2',rfl,Sl.of_owns (owns_set (owns_set (owns_keep ho1 hb2) (show w.heap.size + 1 < _ by have := hw1.size; simp; omega)) (show w.heap.size + 1 < _ by have := hw1.size; simp; omega)),Sl.of_owns (owns_set (owns_set ho2 (show w.heap.size + 1 < _ by have := hw1.size; simp; omega)) (show w.heap.size + 1 < _ by have := hw1.size; simp; omega)),((hB2.out.trans (hw2.mono (by omega))).setCell (by simp) _).setCell (by simp) _⟩)
   | (refine bodyPost_ret (results_cell_row rfl _ _ _ 187 #[.slice q1 m1 c1',.slice q2 m2 c2'] (0,0) _ rfl (hss (hss ((hw1.block _ (by omega)).trans E2.out))) Tryz.underlying187 rfl hi) rfl ⟨q1,m1,c1',q2,m2,c2',rfl,Sl.of_owns (owns_set (owns_set ho1 (show w.heap.size + 1 < _ by have := hw2.size; simp; omega)) (show w.heap.size + 1 < _ by have := hw2.size; simp; omega)),Sl.of_owns (owns_set (owns_set (owns_keep ho2 hb1) (show w.heap.size + 1 < _ by have := hw2.size; simp; omega)) (show w.heap.size + 1 < _ by have := hw2.size; simp; omega)),((hB2.out.trans (hw1.mono (by omega))).setCell (by simp) _).setCell (by simp) _⟩)
end Go.Proofs.YtfbmdlfkipipfaaGreatDoor
namespace Go.Proofs.YtfbmdlfkipipfaaGreatDoor
open Go.RowKit Go.By
theorem comb_axpy (c : UInt8) (r o : List UInt8) : combS [1,c] [r,o] = axpyS c o r := by
 unfold combS axpyS
 rw [if_pos (show [1,c].length = [r,o].length from rfl)]
 by_cases h : o.length = r.length
 ·rw [if_pos h,noughtS_of (x0 := r) (m := r.length) rfl rfl (by intro zs hz; simp at hz; rcases hz with rfl | rfl <;> simp [h])]
  simp only [if_true]
  congr 1
  have e1 : axpy 1 r (List.replicate r.length 0) = r := by
   apply List.ext_getElem?
   intro j
   simp only [axpy,List.getElem?_zipWith]
   by_cases hj : j < r.length
   ·simp [hj,Gf.one_gmul]
   ·simp [show r.length ≤ j by omega]
  simp only [combF,List.zip,List.zipWith,List.foldl,e1]
 ·rw [if_neg h,noughtS_not (x0 := r) (x := o) rfl (by simp) h]
  simp
set_option maxRecDepth 100000 in
set_option maxHeartbeats 1000000 in
theorem RLess_any (p1 p2 p3 p4 : Option Addr) (n1 c1 n2 c2 n3 c3 n4 c4 : Nat) (v d x y : List UInt8) (c : UInt8) (w : World) (h1 : Sl B8 w p1 n1 c1 v) (h2 : Sl B8 w p2 n2 c2 d) (h3 : Sl B8 w p3 n3 c3 x) (h4 : Sl B8 w p4 n4 c4 y) (r1 : Room n1) (r2 : Room n2) (r3 : Room n3) (r4 : Room n4) :
  Calls Tryz.prog 104 #[.agg #[.slice p1 n1 c1,.slice p2 n2 c2],B8 c,.agg #[.slice p3 n3 c3,.slice p4 n4 c4]] w (RetR2 5 w (lessS (v,d) c (x,y)).1 (lessS (v,d) c (x,y)).2) := by
 have hi := info_ref
 have H1 := Lib.hid h1; have H2 := Lib.hid h2; have H3 := Lib.hid h3; have H4 := Lib.hid h4
 have hB : ∀ o1 o2 o3,Below w.heap.size w (((w.alloc o1).alloc o2).alloc o3) := fun o1 o2 o3 => al (al (al (Below.refl _ _) (Nat.le_refl _)) (by simp)) (by simp; omega)
 have F : ∀ (w1 : World),(Below (w.heap.size + 3) (((w.alloc (.cells #[.slice p1 n1 c1,.slice p2 n2 c2] 187)).alloc (.cells #[.slice p3 n3 c3,.slice p4 n4 c4] 187)).alloc (.cells #[.slice none 0 0,.slice none 0 0] 187)) w1) →
   w1.heap[w.heap.size]? = some (.cells #[.slice p1 n1 c1,.slice p2 n2 c2] 187 (0,0)) ∧ w1.heap[w.heap.size + 1]? = some (.cells #[.slice p3 n3 c3,.slice p4 n4 c4] 187 (0,0)) ∧ w1.heap[w.heap.size + 1 + 1]? = some (.cells #[.slice none 0 0,.slice none 0 0] 187 (0,0)) := fun w1 h =>
  ⟨(h.block _ (by omega)).trans (hal (hal (hnew rfl))),(h.block _ (by omega)).trans (hal (hnew (by simp))),(h.block _ (by omega)).trans (hnew (by simp))⟩
 have hr1 : ∀ zs,zs ∈ [v,x] → Room zs.length := fun zs hz => by
  simp at hz; rcases hz with rfl | rfl
  ·rw [h1.len]; exact r1
  ·rw [h3.len]; exact r3
 have hr2 : ∀ zs,zs ∈ [d,y] → Room zs.length := fun zs hz => by
  simp at hz; rcases hz with rfl | rfl
  ·rw [h2.len]; exact r2
  ·rw [h4.len]; exact r4
 have d1 := fun p p' k k' W a b => RComb_any p p' 2 2 k k' [1,c] [v,x] W a b hr1
 have d2 := fun p p' k k' W a b => RComb_any p p' 2 2 k k' [1,c] [d,y] W a b hr2
 rw [comb_axpy] at d1 d2
 have D1 := Lib.hid d1; have D2 := Lib.hid d2
 have HF := Lib.hid F
 have L1 := Lib.hid h1.len; have L2 := Lib.hid h2.len; have L3 := Lib.hid h3.len; have L4 := Lib.hid h4.len
 clear F h1 h2 h3 h4 d1 d2 hr1 hr2
 have cA := show axpyS c x v = (axpy c x v,0) ∨ axpyS c x v = ([],4) by unfold axpyS; split <;> simp
 have cB := show axpyS c y d = (axpy c y d,0) ∨ axpyS c y d = ([],4) by unfold axpyS; split <;> simp
 have HR : Hid (lessS (v,d) c (x,y) = if (axpyS c x v).2 = 0 ∧ (axpyS c y d).2 = 0 then (((axpyS c x v).1,(axpyS c y d).1),0) else (([],[]),4)) := by
  show _ = _
  unfold lessS axpyS
  by_cases e1 : x.length = v.length <;> by_cases e2 : y.length = d.length <;> simp [e1,e2]
 have CA := Lib.hid cA; have CB := Lib.hid cB; clear cA cB
 generalize axpyS c x v = A at *
 generalize axpyS c y d = B at *
 go_enter Tryz.func104,Tryz.ntmps104
 go_wp2_with fail
 refine Calls.mono (D1.out _ _ _ _ _ ?_ ?_) ?_
 ·exact sl_block [1,c] 2 (hal (hnew (by simp))) rfl rfl (by simp [maxLen])
 ·exact sl2_pair (hnew (by simp)) (H1.out.keep (al (al (hB _ _ _) (by simp; omega)) (by simp; omega))) (H3.out.keep (al (al (hB _ _ _) (by simp; omega)) (by simp; omega)))
 rintro e w1 ⟨q1,m1,k1,g1,rfl,ho1,hb1⟩
 have HO1 := Lib.hid ho1; clear ho1
 have kb : Below (w.heap.size + 3) (((w.alloc (.cells #[.slice p1 n1 c1,.slice p2 n2 c2] 187)).alloc (.cells #[.slice p3 n3 c3,.slice p4 n4 c4] 187)).alloc (.cells #[.slice none 0 0,.slice none 0 0] 187)) w1 := bl (al (al (Below.refl _ _) (by simp)) (by simp)) hb1 (by simp)
 obtain ⟨f0,f1,f2⟩ := HF.out w1 kb
 have l0 : w1.cell? ⟨w.heap.size,1,none⟩ = some (.slice p2 n2 c2) := cell_of_row _ _ 1 _ _ _ f0
 have l1 : w1.cell? ⟨w.heap.size + 1,1,none⟩ = some (.slice p4 n4 c4) := cell_of_row _ _ 1 _ _ _ f1
 have l0' : ∀ o1,(w1.alloc o1).cell? ⟨w.heap.size,1,none⟩ = some (.slice p2 n2 c2) := fun o1 => calloc l0
 have l1' : ∀ o1,(w1.alloc o1).cell? ⟨w.heap.size + 1,1,none⟩ = some (.slice p4 n4 c4) := fun o1 => calloc l1
 have hw1 : Below w.heap.size w w1 := bl (al (al (hB _ _ _) (by simp; omega)) (by simp; omega)) hb1 (by simp; omega)
 have hs1 : w.heap.size + 5 ≤ w1.heap.size := by have := hb1.size; simp at this; omega
 clear f0 f1 f2 hB
 go_wp2_with fail
 refine Calls.mono (D2.out _ _ _ _ _ ?_ ?_) ?_
 ·exact sl_block [1,c] 2 (hal (hnew (by simp))) rfl rfl (by simp [maxLen])
 ·exact sl2_pair (hnew (by simp)) (H2.out.keep (al (al hw1 hw1.size) (by have := hw1.size; simp; omega))) (H4.out.keep (al (al hw1 hw1.size) (by have := hw1.size; simp; omega)))
 rintro e w2 ⟨q2,m2,k2,g2,rfl,ho2,hb2⟩
 have HO2 := Lib.hid ho2; clear ho2
 have hx2 : Below w1.heap.size w1 w2 := bl (al (al (Below.refl _ _) (Nat.le_refl _)) (by simp)) hb2 (by simp; omega)
 have kb2 := kb.trans (hx2.mono (by omega))
 have hw2 := bl hw1 hx2 hw1.size
 obtain ⟨_,_,f2⟩ := HF.out w2 kb2
 have t0 : w2.cell? ⟨w.heap.size + 1 + 1,0,none⟩ = some (.slice none 0 0) := cell_of_row _ _ 0 _ _ _ f2
 have t1 : w2.cell? ⟨w.heap.size + 1 + 1,1,none⟩ = some (.slice none 0 0) := cell_of_row _ _ 1 _ _ _ f2
 have z0 : w2.frozen? ⟨w.heap.size + 1 + 1,0,none⟩ = false := frozen_of_row _ _ 0 _ _ f2
 have z1 : w2.frozen? ⟨w.heap.size + 1 + 1,1,none⟩ = false := frozen_of_row _ _ 1 _ _ f2
 have E2 := Lib.hid f2; clear f2 kb kb2
 have O1 : Hid (w2.ownsRow (w.heap.size + 3) 5 1 (.slice q1 m1 k1) m1 (A.1.map B8)) := owns_mono (owns_keep HO1.out hx2) (by simp)
 have O2 : Hid (w2.ownsRow (w.heap.size + 3) 5 1 (.slice q2 m2 k2) m2 (B.1.map B8)) := owns_mono HO2.out (by simp; omega)
 clear HO1 HO2 hb1 hb2
 have hwb := Lib.hid hw2
 rcases CA.out with eA | eA <;> rcases CB.out with eB | eB
 ·rw [eA,eB] at HR; rw [eA] at O1 g1; rw [eB] at O2 g2
  rw [eA,eB]
  go_wp2
  rw [HR.out]
  exact bodyPost_ret (results_cell_tmp rfl _ _ _ 187 #[.slice q1 m1 k1,.slice q2 m2 k2] (0,0) _ (.int .i64 0) rfl (hss (hss E2.out)) rfl Tryz.underlying187 rfl hi) rfl ⟨q1,m1,k1,q2,m2,k2,g1,g2,rfl,owns_mono (owns_set (owns_set O1.out (by omega)) (by omega)) (by omega),owns_mono (owns_set (owns_set O2.out (by omega)) (by omega)) (by omega),(hwb.out.setCell (by simp; omega) _).setCell (by simp; omega) _⟩
 all_goals
  rw [eA,eB] at HR
  rw [eA,eB]
  go_wp2
  rw [HR.out]
  exact bodyPost_ret (results_cell_tmp rfl _ _ _ 187 #[.slice none 0 0,.slice none 0 0] (0,0) _ (.int .i64 4) rfl (hss (hss E2.out)) rfl Tryz.underlying187 rfl hi) rfl ⟨none,0,0,none,0,0,rfl,rfl,rfl,World.ownsRow_nil _ _ _ _,World.ownsRow_nil _ _ _ _,(hwb.out.setCell (by simp; omega) _).setCell (by simp; omega) _⟩
end Go.Proofs.YtfbmdlfkipipfaaGreatDoor
namespace Go.Proofs.YtfbmdlfkipipfaaGreatDoor
open Go.By
theorem lead_is {v : List UInt8} {k : Nat} {x : UInt8} (h : v[k]? = some x) (hx : x ≠ 0) (hj : ∀ (j : Nat) (y : UInt8),j < k → v[j]? = some y → y = 0) : leadS v = (k : Int) := by
 rcases leadS_cases v with ⟨_,_,h3⟩ | ⟨k',x',e,h1,h2,_,h4⟩
 ·exact absurd (h3 x (List.mem_of_getElem? h)) hx
 ·rw [e]
  rcases Nat.lt_trichotomy k' k with g | g | g
  ·exact absurd (hj k' x' g h1) h2
  ·rw [g]
  ·exact absurd (h4 k x g h) hx
theorem norm_cases (v d : List UInt8) : (leadS v = -1 ∧ normS (v,d) = (v,d)) ∨
  ∃ (k : Nat) (x : UInt8),leadS v = (k : Int) ∧ x ≠ 0 ∧ v[k]? = some x ∧ (∀ (j : Nat) (y : UInt8),j < k → v[j]? = some y → y = 0) ∧ normS (v,d) = (v.map (Gf.gmul (Gf.ginv x)),d.map (Gf.gmul (Gf.ginv x))) := by
 rcases leadS_cases v with ⟨h1,h2,_⟩ | ⟨k,x,e,h1,h2,h3,h4⟩
 ·exact .inl ⟨h1,if_pos h2⟩
 ·right
  refine ⟨k,x,e,h2,h1,h4,?_⟩
  unfold normS
  simp only [h3,if_neg h2]
theorem norm_lead (v d : List UInt8) : leadS (normS (v,d)).1 = leadS v := by
 rcases norm_cases v d with ⟨_,h⟩ | ⟨k,x,e,hx,hk,hj,h⟩
 ·rw [h]
 ·rw [h,e]
  refine lead_is (x := 1) ?_ (by decide) ?_
  ·simp [List.getElem?_map,hk,Gf.ginv_gmul x hx]
  ·intro j y hjk hy
   simp only [List.getElem?_map,Option.map_eq_some_iff] at hy
   obtain ⟨z,hz,rfl⟩ := hy
   rw [hj j z hjk hz,Gf.gmul_zero]
theorem at_of {v : List UInt8} {k : Nat} {x : UInt8} (h : v[k]? = some x) : atS v (k : Int) = x := by
 simp [atS,List.getD_eq_getElem?_getD,h]
end Go.Proofs.YtfbmdlfkipipfaaGreatDoor
namespace Gf
abbrev V := Nat → UInt8
def comb : List UInt8 → List V → V
 | c :: cs,a :: az => fun j => gmul c (a j) ^^^ comb cs az j
 | _,_ => fun _ => 0
theorem comb_nil (c : List UInt8) (j : Nat) : comb c [] j = 0 := by cases c <;> rfl
theorem comb_nil' (A : List V) (j : Nat) : comb [] A j = 0 := by cases A <;> rfl
theorem comb_cons (c : UInt8) (cs : List UInt8) (a : V) (az : List V) (j : Nat) : comb (c :: cs) (a :: az) j = gmul c (a j) ^^^ comb cs az j := rfl
theorem comb_append (c2 : List UInt8) (A2 : List V) (j : Nat) : ∀ (c1 : List UInt8) (A1 : List V),c1.length = A1.length → comb (c1 ++ c2) (A1 ++ A2) j = comb c1 A1 j ^^^ comb c2 A2 j
 | [],[],_ => by simp [comb_nil',zero_xor]
 | c :: cs,a :: az,h => by
  simp only [List.cons_append,comb_cons]
  rw [comb_append c2 A2 j cs az (by simpa using h),xor_assoc]
theorem comb_add (j : Nat) : ∀ (c d : List UInt8) (A : List V),c.length = d.length → comb (List.zipWith (· ^^^ ·) c d) A j = comb c A j ^^^ comb d A j
 | [],[],A,_ => by simp [comb_nil',xor_self]
 | c :: cs,d :: ds,[],_ => by simp [comb_nil,xor_self]
 | c :: cs,d :: ds,a :: az,h => by
  simp only [List.zipWith_cons_cons,comb_cons]
  rw [comb_add j cs ds az (by simpa using h),gmul_xor_left,xor4]
theorem comb_scale (x : UInt8) (j : Nat) : ∀ (c : List UInt8) (A : List V),comb (c.map (gmul x)) A j = gmul x (comb c A j)
 | [],A => by simp [comb_nil',gmul_zero]
 | c :: cs,[] => by simp [comb_nil,gmul_zero]
 | c :: cs,a :: az => by
  simp only [List.map_cons,comb_cons]
  rw [comb_scale x j cs az,gmul_assoc,gmul_xor_right]
theorem comb_zeros (j : Nat) : ∀ (n : Nat) (A : List V),comb (List.replicate n 0) A j = 0
 | 0,A => by simp [comb_nil']
 | n + 1,[] => by simp [comb_nil]
 | n + 1,a :: az => by simp only [List.replicate_succ,comb_cons]; rw [comb_zeros j n az,zero_gmul,xor_self]
theorem comb_at_zero (j : Nat) : ∀ (c : List UInt8) (A : List V),(∀ a,a ∈ A → a j = 0) → comb c A j = 0
 | [],A,_ => comb_nil' _ _
 | c :: cs,[],_ => comb_nil _ _
 | c :: cs,a :: az,h => by rw [comb_cons,h a (by simp),gmul_zero,zero_xor,comb_at_zero j cs az (fun b hb => h b (by simp [hb]))]
def Sp (B : List V) (v : V) : Prop := ∃ c : List UInt8,c.length = B.length ∧ v = comb c B
theorem Sp.zero (B : List V) : Sp B (fun _ => 0) := ⟨List.replicate B.length 0,by simp,by funext j; rw [comb_zeros]⟩
theorem Sp.add {B : List V} {u v : V} (h : Sp B u) (g : Sp B v) : Sp B (fun j => u j ^^^ v j) := by
 obtain ⟨c,hc,rfl⟩ := h; obtain ⟨d,hd,rfl⟩ := g
 exact ⟨List.zipWith (· ^^^ ·) c d,by simp [hc,hd],by funext j; rw [comb_add j c d B (by rw [hc,hd])]⟩
theorem Sp.scale {B : List V} {u : V} (x : UInt8) (h : Sp B u) : Sp B (fun j => gmul x (u j)) := by
 obtain ⟨c,hc,rfl⟩ := h
 exact ⟨c.map (gmul x),by simp [hc],by funext j; rw [comb_scale]⟩
theorem Sp.cons {B : List V} {u : V} (b : V) (h : Sp B u) : Sp (b :: B) u := by
 obtain ⟨c,hc,rfl⟩ := h
 exact ⟨0 :: c,by simp [hc],by funext j; rw [comb_cons,zero_gmul,zero_xor]⟩
theorem Sp.mem {a : V} : ∀ {B : List V},a ∈ B → Sp B a
 | b :: B,h => by
  rcases List.mem_cons.1 h with rfl | h
  ·exact ⟨1 :: List.replicate B.length 0,by simp,by funext j; rw [comb_cons,one_gmul,comb_zeros,xor_zero]⟩
  ·exact (Sp.mem h).cons b
theorem Sp.comb {B : List V} : ∀ (c : List UInt8) (A : List V),(∀ a,a ∈ A → Sp B a) → Sp B (Gf.comb c A)
 | [], A, _ => by have : Gf.comb [] A = fun _ => 0 := by funext j; exact comb_nil' A j
                  rw [this]; exact Sp.zero B
 | c :: cs,[],_ => Sp.zero B
 | c :: cs,a :: az,h => Sp.add (Sp.scale c (h a (by simp))) (Sp.comb cs az (fun b hb => h b (by simp [hb])))
theorem Sp.trans {A B : List V} {v : V} (h : ∀ a,a ∈ A → Sp B a) (g : Sp A v) : Sp B v := by
 obtain ⟨c,_,rfl⟩ := g; exact Sp.comb c A h
theorem Sp.sub {A B : List V} {v : V} (h : ∀ a,a ∈ A → a ∈ B) (g : Sp A v) : Sp B v := Sp.trans (fun a ha => Sp.mem (h a ha)) g
theorem Sp.at_zero {A : List V} {v : V} {j : Nat} (h : Sp A v) (hz : ∀ a,a ∈ A → a j = 0) : v j = 0 := by
 obtain ⟨c,_,rfl⟩ := h; exact comb_at_zero j c A hz
def Ind (A : List V) : Prop := ∀ c : List UInt8,c.length = A.length → (∀ j,comb c A j = 0) → ∀ x,x ∈ c → x = 0
theorem Ind.nil : Ind [] := fun c hc _ x hx => by
 have : c = [] := List.length_eq_zero_iff.1 hc
 subst this; simp at hx
def dot : List UInt8 → List UInt8 → UInt8
 | c :: cs,t :: ts => gmul c t ^^^ dot cs ts
 | _,_ => 0
theorem comb_shift (a0 : V) (f : V → UInt8) (j : Nat) : ∀ (c : List UInt8) (L : List V),c.length = L.length → comb c (L.map (fun a j => a j ^^^ gmul (f a) (a0 j))) j = comb c L j ^^^ gmul (dot c (L.map f)) (a0 j)
 | [],[],_ => by simp [comb_nil',dot,zero_gmul,xor_self]
 | c :: cs,a :: az,h => by
  simp only [List.map_cons,comb_cons,dot]
  rw [comb_shift a0 f j cs az (by simpa using h),gmul_xor_left,gmul_xor_right,gmul_assoc,xor4]
theorem exchange : ∀ (W A : List V),Ind A → (∀ a,a ∈ A → Sp W a) → A.length ≤ W.length
 | [],A,hA,hS => by
  cases A with
  | nil => simp
  | cons a az =>
   exfalso
   obtain ⟨c,hc,ha⟩ := hS a (by simp)
   have h1 := hA (1 :: List.replicate az.length 0) (by simp) (fun j => by rw [comb_cons,comb_zeros,ha,comb_nil]; rw [gmul_zero,xor_zero]) 1 (by simp)
   exact absurd h1 (by decide)
 | w :: W,A,hA,hS => by
  by_cases hall : ∀ a,a ∈ A → Sp W a
  ·exact Nat.le_succ_of_le (exchange W A hA hall)
  ·have hex : ∃ a0,a0 ∈ A ∧ ¬ Sp W a0 := by
    apply Classical.byContradiction
    intro hn
    exact hall (fun a ha => Classical.byContradiction fun h => hn ⟨a,ha,h⟩)
   obtain ⟨a0,ha0,hn0⟩ := hex
   obtain ⟨A1,A2,rfl⟩ := List.append_of_mem ha0
   have part : ∀ a,Sp (w :: W) a → ∃ (x : UInt8) (r : V),Sp W r ∧ ∀ j,a j = gmul x (w j) ^^^ r j := by
    rintro a ⟨c,hc,rfl⟩
    cases c with
    | nil => simp at hc
    | cons x cs => exact ⟨x,Gf.comb cs W,⟨cs,by simpa using hc,rfl⟩,fun j => rfl⟩
   obtain ⟨x0,r0,hr0,e0⟩ := part a0 (hS a0 ha0)
   have hx0 : x0 ≠ 0 := fun h => hn0 (by
    have : a0 = r0 := by funext j; rw [e0 j,h,zero_gmul,zero_xor]
    rw [this]; exact hr0)
   have ht : ∀ a,a ∈ A1 ++ A2 → ∃ t : UInt8,Sp W (fun j => a j ^^^ gmul t (a0 j)) := by
    intro a ha
    obtain ⟨x,r,hr,e⟩ := part a (hS a (by simp at ha ⊢; rcases ha with h | h <;> simp [h]))
    refine ⟨gmul x (ginv x0),?_⟩
    have : (fun j => a j ^^^ gmul (gmul x (ginv x0)) (a0 j)) = fun j => r j ^^^ gmul (gmul x (ginv x0)) (r0 j) := by
     funext j
     rw [e j,e0 j,gmul_xor_right,← gmul_assoc,gmul_assoc x (ginv x0) x0,ginv_gmul x0 hx0,gmul_one,xor4,xor_self,zero_xor]
    rw [this]; exact Sp.add hr (Sp.scale _ hr0)
   obtain ⟨f,hf⟩ : ∃ f : V → UInt8,∀ a,a ∈ A1 ++ A2 → Sp W (fun j => a j ^^^ gmul (f a) (a0 j)) :=
    ⟨fun a => Classical.epsilon fun t => Sp W (fun j => a j ^^^ gmul t (a0 j)),fun a ha => Classical.epsilon_spec (ht a ha)⟩
   have hind : Ind ((A1 ++ A2).map (fun a j => a j ^^^ gmul (f a) (a0 j))) := by
    intro c hc hz x hx
    rw [List.length_map] at hc
    have hsplit : c = c.take A1.length ++ c.drop A1.length := (List.take_append_drop _ _).symm
    have l1 : (c.take A1.length).length = A1.length := by rw [List.length_take,hc,List.length_append]; omega
    have h2 := hA (c.take A1.length ++ dot c ((A1 ++ A2).map f) :: c.drop A1.length) (by
     rw [List.length_append,List.length_append,List.length_cons,List.length_cons,l1,List.length_drop,hc,List.length_append]; omega) (fun j => by
     rw [comb_append _ _ _ _ _ l1,comb_cons]
     have h3 := hz j
     rw [comb_shift a0 f j c (A1 ++ A2) hc] at h3
     have h4 : comb c (A1 ++ A2) j = comb (c.take A1.length) A1 j ^^^ comb (c.drop A1.length) A2 j := by
      conv => lhs; rw [hsplit]
      exact comb_append _ _ _ _ _ l1
     rw [h4] at h3
     rw [← h3,xor_assoc]; congr 1; exact xor_comm _ _)
    refine h2 x ?_
    rw [hsplit] at hx
    rcases List.mem_append.1 hx with h | h
    ·exact List.mem_append_left _ h
    ·exact List.mem_append_right _ (List.mem_cons_of_mem _ h)
   have := exchange W _ hind (fun a ha => by
    obtain ⟨b,hb,rfl⟩ := List.mem_map.1 ha
    exact hf b hb)
   rw [List.length_map,List.length_append] at this
   rw [List.length_append,List.length_cons,List.length_cons]; omega
def Rk (A : List V) (r : Nat) : Prop := ∃ B,Ind B ∧ B.length = r ∧ (∀ b,b ∈ B → Sp A b) ∧ ∀ a,a ∈ A → Sp B a
theorem Rk.le {A C : List V} {r s : Nat} (h : Rk A r) (g : Rk C s) (hs : ∀ a,a ∈ A → Sp C a) : r ≤ s := by
 obtain ⟨B,b1,rfl,b3,b4⟩ := h; obtain ⟨D,d1,rfl,d3,d4⟩ := g
 exact exchange D B b1 (fun b hb => Sp.trans d4 (Sp.trans hs (b3 b hb)))
theorem Rk.unique {A : List V} {r s : Nat} (h : Rk A r) (g : Rk A s) : r = s :=
 Nat.le_antisymm (h.le g fun _ ha => Sp.mem ha) (g.le h fun _ ha => Sp.mem ha)
theorem Rk.same {A C : List V} {r s : Nat} (h : Rk A r) (g : Rk C s) (h1 : ∀ a,a ∈ A → Sp C a) (h2 : ∀ c,c ∈ C → Sp A c) : r = s := Nat.le_antisymm (h.le g h1) (g.le h h2)
def Tri : List (V × Nat) → Prop
 | [] => True
 | (v,l) :: K => v l = 1 ∧ (∀ p,p ∈ K → p.1 l = 0) ∧ Tri K
theorem Tri.comb_zero : ∀ {K : List (V × Nat)} {c : List UInt8},Tri K → c.length = K.length → (∀ p,p ∈ K → comb c (K.map (·.1)) p.2 = 0) → ∀ x,x ∈ c → x = 0
 | [],[],_,_,_ => by simp
 | (v,l) :: K,c :: cs,h,hc,hz => by
  obtain ⟨h1,h2,h3⟩ := h
  have hK : ∀ a,a ∈ K.map (·.1) → a l = 0 := fun a ha => by obtain ⟨p,hp,rfl⟩ := List.mem_map.1 ha; exact h2 p hp
  have c0 : c = 0 := by
   have := hz (v,l) (by simp)
   simp only [List.map_cons,comb_cons] at this
   rw [comb_at_zero l cs _ hK,h1,gmul_one,xor_zero] at this
   exact this
  subst c0
  have ih := Tri.comb_zero (c := cs) h3 (by simpa using hc) (fun p hp => by
   have := hz p (by simp [hp])
   simpa only [List.map_cons,comb_cons,zero_gmul,zero_xor] using this)
  intro x hx
  rcases List.mem_cons.1 hx with rfl | hx
  ·rfl
  ·exact ih x hx
theorem Tri.ind {K : List (V × Nat)} (h : Tri K) : Ind (K.map (·.1)) := fun c hc hz => h.comb_zero (by simpa using hc) (fun _ _ => hz _)
theorem Tri.span_zero {K : List (V × Nat)} {v : V} (h : Tri K) (hs : Sp (K.map (·.1)) v) (hz : ∀ p,p ∈ K → v p.2 = 0) : ∀ j,v j = 0 := by
 obtain ⟨c,hc,rfl⟩ := hs
 have := h.comb_zero (by simpa using hc) hz
 have e : c = List.replicate c.length 0 := List.eq_replicate_of_mem this
 intro j
 rw [e]; exact comb_zeros j _ _
def red (K : List (V × Nat)) (x : V) : V := K.foldl (fun x p j => x j ^^^ gmul (x p.2) (p.1 j)) x
theorem red_cons (p : V × Nat) (K : List (V × Nat)) (x : V) : red (p :: K) x = red K (fun j => x j ^^^ gmul (x p.2) (p.1 j)) := rfl
theorem red_span : ∀ (K : List (V × Nat)) (x : V),Sp (K.map (·.1)) (fun j => x j ^^^ red K x j)
 | [], x => by have : (fun j => x j ^^^ red [] x j) = fun _ => 0 := by funext j; exact xor_self _
               rw [this]; exact Sp.zero _
 | p :: K,x => by
  have h1 := (red_span K (fun j => x j ^^^ gmul (x p.2) (p.1 j))).cons p.1
  have h2 : Sp (p.1 :: K.map (·.1)) (fun j => gmul (x p.2) (p.1 j)) := Sp.scale _ (Sp.mem (by simp))
  have := Sp.add h1 h2
  rw [List.map_cons]
  have e : (fun j => x j ^^^ red (p :: K) x j) = fun j => ((x j ^^^ gmul (x p.2) (p.1 j)) ^^^ red K (fun j => x j ^^^ gmul (x p.2) (p.1 j)) j) ^^^ gmul (x p.2) (p.1 j) := by
   funext j
   rw [red_cons,xor_assoc (x j),xor_comm (gmul _ _) (red _ _ _),← xor_assoc (x j),xor_cancel]
  rw [e]; exact this
theorem red_keeps_zero {l : Nat} : ∀ {K : List (V × Nat)} {x : V},(∀ p,p ∈ K → p.1 l = 0) → x l = 0 → red K x l = 0
 | [],x,_,h => h
 | p :: K,x,hK,h => by
  rw [red_cons]
  exact red_keeps_zero (fun q hq => hK q (by simp [hq])) (by rw [h,hK p (by simp),gmul_zero,xor_self])
theorem red_at : ∀ {K : List (V × Nat)} {x : V},Tri K → ∀ p,p ∈ K → red K x p.2 = 0
 | (v,l) :: K,x,⟨h1,h2,h3⟩,p,hp => by
  rw [red_cons]
  rcases List.mem_cons.1 hp with rfl | hp
  ·exact red_keeps_zero h2 (by simp only [h1,gmul_one,xor_self])
  ·exact red_at h3 p hp
theorem red_zero {K : List (V × Nat)} {x : V} (h : Tri K) : (∀ j,red K x j = 0) ↔ Sp (K.map (·.1)) x := by
 constructor
 ·intro hz
  have := red_span K x
  have e : (fun j => x j ^^^ red K x j) = x := by funext j; rw [hz j,xor_zero]
  rwa [e] at this
 ·intro hs
  have h1 := Sp.add hs (red_span K x)
  have e : (fun j => x j ^^^ (x j ^^^ red K x j)) = red K x := by funext j; rw [← xor_assoc,xor_self,zero_xor]
  rw [e] at h1
  exact h.span_zero h1 (red_at h)
theorem Tri.snoc : ∀ {K : List (V × Nat)} {y : V} {l : Nat},Tri K → (∀ p,p ∈ K → y p.2 = 0) → y l = 1 → Tri (K ++ [(y,l)])
 | [],y,l,_,_,h1 => ⟨h1,by simp,trivial⟩
 | (v,l0) :: K,y,l,⟨h1,h2,h3⟩,hz,hy => by
  refine ⟨h1,?_,h3.snoc (fun p hp => hz p (by simp [hp])) hy⟩
  intro p hp
  rcases List.mem_append.1 hp with h | h
  ·exact h2 p h
  ·simp at h; subst h; exact hz (v,l0) (by simp)
theorem Tri.append : ∀ {K L : List (V × Nat)},Tri K → Tri L → (∀ p,p ∈ K → ∀ q,q ∈ L → q.1 p.2 = 0) → Tri (K ++ L)
 | [],L,_,h,_ => h
 | (v,l0) :: K,L,⟨h1,h2,h3⟩,hL,hz => by
  refine ⟨h1,?_,h3.append hL (fun p hp => hz p (by simp [hp]))⟩
  intro p hp
  rcases List.mem_append.1 hp with h | h
  ·exact h2 p h
  ·exact hz (v,l0) (by simp) p h
theorem Tri.left : ∀ {K L : List (V × Nat)},Tri (K ++ L) → Tri K
 | [],L,_ => trivial
 | (v,l0) :: K,L,⟨h1,h2,h3⟩ => ⟨h1,fun p hp => h2 p (by simp [hp]),h3.left⟩
theorem Tri.right : ∀ {K L : List (V × Nat)},Tri (K ++ L) → Tri L
 | [],L,h => h
 | (v,l0) :: K,L,⟨_,_,h3⟩ => h3.right
end Gf
namespace Gf
theorem Ind.cons {A : List V} {v : V} (h : Ind A) (hv : ¬ Sp A v) : Ind (v :: A) := by
 intro c hc hz
 cases c with
 | nil => simp
 | cons x cs =>
  have hx : x = 0 := by
   apply Classical.byContradiction
   intro hx
   apply hv
   have : v = fun j => gmul (ginv x) (comb cs A j) := by
    funext j
    have := hz j
    rw [comb_cons] at this
    have e := xor_eq_zero this
    rw [← e,← gmul_assoc,ginv_gmul x hx,one_gmul]
   rw [this]
   exact Sp.scale _ ⟨cs,by simpa using hc,rfl⟩
  subst hx
  have := h cs (by simpa using hc) (fun j => by have := hz j; rwa [comb_cons,zero_gmul,zero_xor] at this)
  intro y hy
  rcases List.mem_cons.1 hy with rfl | hy
  ·rfl
  ·exact this y hy
theorem Rk.ind {A : List V} {r : Nat} (h : Rk A r) (hr : A.length = r) : Ind A := by
 obtain ⟨B,b1,rfl,b3,b4⟩ := h
 apply Classical.byContradiction
 intro hn
 have hex : ∃ c : List UInt8,c.length = A.length ∧ (∀ j,comb c A j = 0) ∧ ∃ x,x ∈ c ∧ x ≠ 0 := by
  apply Classical.byContradiction
  intro hne
  apply hn
  intro c hc hz x hx
  apply Classical.byContradiction
  intro hx0
  exact hne ⟨c,hc,hz,x,hx,hx0⟩
 obtain ⟨c,hc,hz,x,hx,hx0⟩ := hex
 obtain ⟨c1,c2,rfl⟩ := List.append_of_mem hx
 have hl : c1.length < A.length := by rw [← hc]; simp
 have hA : A = A.take c1.length ++ A[c1.length] :: A.drop (c1.length + 1) := by
  rw [← List.drop_eq_getElem_cons hl,List.take_append_drop]
 obtain ⟨a,ha⟩ : ∃ a,a = A[c1.length] := ⟨_,rfl⟩
 rw [← ha] at hA
 obtain ⟨A1,hA1⟩ : ∃ A1,A1 = A.take c1.length := ⟨_,rfl⟩
 obtain ⟨A2,hA2⟩ : ∃ A2,A2 = A.drop (c1.length + 1) := ⟨_,rfl⟩
 have l1 : c1.length = A1.length := by rw [hA1,List.length_take]; omega
 have l2 : c2.length = A2.length := by rw [hA2,List.length_drop]; simp at hc; omega
 rw [← hA1,← hA2] at hA
 have e : a = fun j => gmul (ginv x) (comb c1 A1 j ^^^ comb c2 A2 j) := by
  funext j
  have := hz j
  rw [hA,comb_append _ _ _ _ _ l1,comb_cons] at this
  have e2 : gmul x (a j) = comb c1 A1 j ^^^ comb c2 A2 j := by
   apply xor_eq_zero
   rw [← this,xor_left_comm,← xor_assoc]
  rw [← e2,← gmul_assoc,ginv_gmul x hx0,one_gmul]
 have hs : Sp (A1 ++ A2) a := by
  rw [e]
  refine Sp.scale _ ⟨c1 ++ c2,by simp [l1,l2],?_⟩
  funext j
  rw [comb_append _ _ _ _ _ l1]
 have := exchange (A1 ++ A2) B b1 (fun b hb => by
  refine Sp.trans ?_ (b3 b hb)
  intro y hy
  rw [hA] at hy
  rcases List.mem_append.1 hy with h | h
  ·exact Sp.mem (by simp [h])
  ·rcases List.mem_cons.1 h with rfl | h
   ·exact hs
   ·exact Sp.mem (by simp [h]))
 have hl2 := congrArg List.length hA
 rw [List.length_append,List.length_cons] at hl2
 rw [List.length_append] at this
 omega
end Gf
