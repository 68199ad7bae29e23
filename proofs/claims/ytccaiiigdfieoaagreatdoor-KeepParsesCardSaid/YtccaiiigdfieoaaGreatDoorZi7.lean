/- Chapter 15: packet.Read of what is one. Chapter 15: packet.Read whole; packet.Equation (of what fits). Chapter 18: gate.New (of a plan that may be); the counts in memory. A region that draws its order,without calls,in which two whole rows are stored: all else is told values. Chapter 18: gate.Look. Chapter 18: gate.Look of a gate that nothing came to. The rows of Inverse in memory: one block of n rows. The contracts of the reference's Same of layer 3,and of a law's rows: made,and as the document's. Small parts of chapter 8's law; the reference's rows in one block. A drawn region with one store into a block of its own: a row in new memory. The contract of the reference's Rows of chapter 8: each equation put in by Insert,then cleared in place. The contract of the reference's Rest of chapter 8. The contract of the reference's Put of chapter 8. The contract of the reference's Known of chapter 8. The law's Same and Fit of chapter 8. A system's Rows and Clone. A system's Clone. A system's Solve. What a system's Put leaves as it is; Put of an equation that fits,and the reference's,whatever comes of it. -/
import Derived.Test.YtccaiiigdfieoaaGreatDoorZi6
import Derived.Maps.RangeWalk
import Derived.Maps.Own
import Derived.Maps.OwnSet
import Derived.Maps.OwnOps
import Derived.Maps.Views
import Derived.Maps.Ext
namespace Go.By
open Go.RowKit
end Go.By
namespace Go.Proofs.YtccaiiigdfieoaaGreatDoor
open Go.RowKit Go.By
def RdT (T B:Nat) (m:UInt8) (S:Nat) (X:List UInt8) (v:Value) (w:World):Prop:=∃ q n c,v = .tuple #[SVal m q n c S,.int .i64 0]∧Fresh T B w q n c X
def RdV (T B:Nat) (m:UInt8) (S:Nat) (X:List UInt8) (v:Value) (w:World):Prop:=∃ q n c,v = SVal m q n c S∧Fresh T B w q n c X
def ShRdT (T B:Nat) (m:UInt8) (S:Nat) (X:List UInt8):Shp:=⟨RdT T B m S X,fun _ _ _ ⟨q,n,c,e,h⟩ hb=>⟨q,n,c,e,h.keep hb⟩⟩
def ShRdV (T B:Nat) (m:UInt8) (S:Nat) (X:List UInt8):Shp:=⟨RdV T B m S X,fun _ _ _ ⟨q,n,c,e,h⟩ hb=>⟨q,n,c,e,h.keep hb⟩⟩
def ShNew (T B:Nat) (cs:Array Value):Shp:=⟨fun v w=>∃ g,v = .pointer (some ⟨g,0,none⟩)∧B≤g∧w.heap[g]? = some (.cells cs T (0,0)),fun _ _ _ ⟨g,e,h1,h2⟩ hb=>⟨g,e,h1,(hb.block _ (lt_of_block h2)).trans h2⟩⟩
def FrV (T B:Nat) (Y:List UInt8) (v:Value) (w:World):Prop:=∃ q n c,v = .slice q n c∧Fresh T B w q n c Y
def ShFr (T B:Nat) (Y:List UInt8):Shp:=⟨FrV T B Y,fun _ _ _ ⟨q,n,c,e,h⟩ hb=>⟨q,n,c,e,h.keep hb⟩⟩
def PkV (T B:Nat) (m:UInt8) (O M:Nat) (q8:Option Addr) (n8 k8 S:Nat) (Y:List UInt8) (v:Value) (w:World):Prop:=∃ q n c,v = PkVal m O M m q8 n8 k8 S q n c∧Fresh T B w q n c Y
def ShPk (T B:Nat) (m:UInt8) (O M:Nat) (q8:Option Addr) (n8 k8 S:Nat) (Y:List UInt8):Shp:=⟨PkV T B m O M q8 n8 k8 S Y,fun _ _ _ ⟨q,n,c,e,h⟩ hb=>⟨q,n,c,e,h.keep hb⟩⟩
theorem pkt_ne:122≠5:=by decide
def PRet (w:World) (m:UInt8) (O M:Nat) (X:List UInt8) (S:Nat) (Y:List UInt8) (e:Ending) (w':World):Prop :=
 ∃ q n c q2 n2 c2,e = .returned (.tuple #[PkVal m O M m q n c S q2 n2 c2,.int .i64 0])∧Fresh 5 w.heap.size w' q n c X∧Fresh 5 w.heap.size w' q2 n2 c2 Y∧Below w.heap.size w w'
set_option maxRecDepth 100000 in
set_option maxHeartbeats 4000000 in
theorem PRead_ok (L t k D:Nat) (b o:Nat) (n c:Nat) (xs:List UInt8) (w:World) (hP:POK L t k D) (hT:HalfT w) (h:Sl B8 w (some ⟨b,o,none⟩) n c xs) (hr:Room n) (hc:headC xs = 0) (E:Nat) (hn:n = lenP (xs.getD 1 0) k t) (hE:n = E + 4) (hs:get4 ((xs.drop E).take 4) = crcS (xs.take E)) (ho:get4 ((xs.drop 2).take 4) = D) :
  Calls Tryz.prog 111 #[PVal L t k D,.slice (some ⟨b,o,none⟩) n c] w (PRet w (xs.getD 1 0) D (get4 ((xs.drop 6).take 4)) (rdX (xs.getD 1 0) ((xs.drop 10).take (widS (xs.getD 1 0) k))) (rdS (xs.getD 1 0) ((xs.drop 10).take (widS (xs.getD 1 0) k))) ((xs.drop (10 + widS (xs.getD 1 0) k)).take t)):=by
 have HK:Hid (∀ w,Calls Tryz.prog 79 #[PVal L t k D] w fun e w'=>e = .returned (.int .i64 0)∧Below w.heap.size w w'):=PCheck_ok hP
 have hm:=headC_mode hc
 have HR:Hid (∀ w,Sl B8 w (some ⟨b,o,none⟩) n c xs→Calls Tryz.prog 172 #[.slice (some ⟨b,o,none⟩) n c] w (HRet w (xs.getD 1 0) (get4 ((xs.drop 2).take 4)) (get4 ((xs.drop 6).take 4)) 0)):=fun w h=>by have:=HRead_any (some ⟨b,o,none⟩) n c xs w h hr;rw [if_pos hc] at this;exact this
 have HN:Hid (∀ w,Calls Tryz.prog 173 #[PVal L t k D,B8 (xs.getD 1 0)] w fun e w'=>e = .returned (.tuple #[.int .i64 (n:Nat),.int .i64 0])∧Below w.heap.size w w'):=fun w=>by rw [hn];exact PLength_ok L t k D _ w hP hm
 have H:=Lib.hid h
 have HT:=Lib.hid hT
 have hle:=h.le
 have hmx:=h.max
 unfold maxLen at hmx
 have HE:Hid (E + 4≤n):=by show E + 4≤n;omega
 have HE':Hid (E≤n):=by show E≤n;omega
 have eE:(n:Int) - 4 = (E:Int):=by omega
 have eN:n - E = 4:=by omega
 have eC:¬ (c = E):=by omega
 have eb1:(E:Int)≤(n:Int):=by omega
 have eb2:(E:Int)≤(c:Int):=by omega
 obtain ⟨G,hG⟩:∃ G,get4 ((xs.drop E).take 4) = G:=⟨_,rfl⟩
 have HG:=Lib.hid hG
 obtain ⟨C,hC⟩:∃ C,crcS ([xs.take E].flatten) = C:=⟨_,rfl⟩
 have HC:=Lib.hid hC
 have e0:C = G:=by rw [hG] at hs;simp at hC;rw [hC] at hs;exact hs.symm
 subst e0
 have hV2:n = 10 + widS (xs.getD 1 0) k + t + 4:=hn
 obtain ⟨V,hV⟩:∃ V,widS (xs.getD 1 0) k = V:=⟨_,rfl⟩
 obtain ⟨X,hX⟩:∃ X,rdX (xs.getD 1 0) ((xs.drop 10).take V) = X:=⟨_,rfl⟩
 obtain ⟨S,hS⟩:∃ S,rdS (xs.getD 1 0) ((xs.drop 10).take V) = S:=⟨_,rfl⟩
 obtain ⟨Y,hY⟩:∃ Y,(xs.drop (10 + V)).take t = Y:=⟨_,rfl⟩
 have HRD:Hid (∀ w,Sl B8 w (some ⟨b,o + 10,none⟩) V (c - 10) ((xs.drop 10).take V)→Calls Tryz.prog 175 #[B8 (xs.getD 1 0),.int .i64 (k:Nat),.slice (some ⟨b,o + 10,none⟩) V (c - 10)] w fun e w'=>∃ q n' c',e = .returned (.tuple #[SVal (xs.getD 1 0) q n' c' S,.int .i64 0])∧Fresh 5 w.heap.size w' q n' c' X∧Below w.heap.size w w'):=fun w h=>by
  have:=RRead_any (xs.getD 1 0) k _ _ _ _ w hm hP.k1 hP.k2 h hV.symm
  rw [hX,hS] at this;exact this
 have HY:=Lib.hid hY
 have HRt:Hid (Room t):=by have:=hP.t2;show t≤140737488355328;omega
 rw [hV] at hV2
 rw [hV,hX,hS,hY]
 obtain ⟨A,hA⟩:∃ A,A = 10 + V:=⟨_,rfl⟩
 have HAV:=Lib.hid hA
 have eA:(E:Int) - (t:Int) = (A:Int):=by omega
 have HV:Hid (10 + V≤n):=by show 10 + V≤n;omega
 have HVt:Hid (10 + V + t≤n):=by show 10 + V + t≤n;omega
 have HEt:Hid (E = A + t):=by show E = A + t;omega
 have ea1:(10:Int)≤(A:Int):=by omega
 have ea2:(A:Int)≤(c:Int):=by omega
 have ea3:A - 10 = V:=by omega
 have ea4:¬ (c = 10):=by omega
 have ea5:(A:Int)≤(n:Int):=by omega
 generalize xs.getD 1 0 = m at *
 rw [ho] at HR
 generalize get4 ((xs.drop 6).take 4) = M at *
 clear hP h hr hc hm hn hs ho hT hG hC hE hV hV2 hX hS hY hA
 go_enter Tryz.func111,Tryz.ntmps111
 go_wp2_with fail
 refine Calls.mono (HK.out _) ?_
 rintro e w1 ⟨rfl,hb⟩
 obtain ⟨hb1,h1,h2,hs⟩:=two_of hb
 have HB:=Lib.hid hb1
 clear hb hb1
 go_wp2_with fail
 refine Calls.mono (HR.out _ (H.out.keep HB.out)) ?_
 rintro e w2 ⟨q0,n0,k0,rfl,hb⟩
 have h1':=(hb.block _ (by omega)).trans h1
 have h2':=(hb.block _ (by omega)).trans h2
 have hs2:w.heap.size + 2≤w2.heap.size:=Nat.le_trans hs hb.size
 have HB2:=Lib.hid (bl HB.out hb HB.out.size)
 clear hb h1 h2 hs
 have c0:∀ o',(w2.alloc o').cell? ⟨w.heap.size,0,none⟩ = _:=fun _=>calloc (cells_four h1').1
 have c1:∀ o',(w2.alloc o').cell? ⟨w.heap.size,1,none⟩ = _:=fun _=>calloc (cells_four h1').2.1
 have c2:∀ o',(w2.alloc o').cell? ⟨w.heap.size,2,none⟩ = _:=fun _=>calloc (cells_four h1').2.2.1
 have c3:∀ o',(w2.alloc o').cell? ⟨w.heap.size,3,none⟩ = _:=fun _=>calloc (cells_four h1').2.2.2
 go_wp2_with fail
 refine Calls.mono (HN.out _) ?_
 rintro e w3 ⟨rfl,hb⟩
 obtain ⟨hb3,h3,hs3⟩:=one_of hb
 have h1:=(hb3.block _ (by omega)).trans h1'
 have h2:=(hb3.block _ (by omega)).trans h2'
 have HB3:=Lib.hid (bl HB2.out hb3 HB2.out.size)
 have HX:Hid (w.heap.size + 2≤w2.heap.size):=hs2
 clear hb hb3 h1' h2' c0 c1 c2 c3
 go_wp2_with fail
 refine Calls.mono (SGet_any _ _ _ _ _ (Sl.part (k:=E) (m:=4) (H.out.keep HB3.out) HE.out)) ?_
 rintro e w4 ⟨rfl,hb⟩
 rw [if_pos rfl,HG.out]
 have h1':=(hb.block _ (by omega)).trans h1
 have h2':=(hb.block _ (by omega)).trans h2
 have h3':=(hb.block _ (by omega)).trans h3
 have hs4:w2.heap.size + 1≤w4.heap.size:=Nat.le_trans hs3 hb.size
 have HB4:=Lib.hid (bl HB3.out hb HB3.out.size)
 clear hb h1 h2 h3 hs3
 go_wp2_with fail
 refine Calls.mono (SOf_any _ _ _ [xs.take E] _ (sl2_one (hnew rfl) ((Sl.front' (H.out.keep HB4.out) HE'.out).keep (al (Below.refl _ _) (Nat.le_refl _)))) (HT.out.keep (al HB4.out HB4.out.size))) ?_
 rintro e w5 ⟨rfl,hb⟩
 obtain ⟨hb5,-,hs5'⟩:=one_of hb
 have h1:=(hb5.block _ (by omega)).trans h1'
 have h2:=(hb5.block _ (by omega)).trans h2'
 have h3:=(hb5.block _ (by omega)).trans h3'
 have hs5:w2.heap.size + 1≤w5.heap.size:=by omega
 have HB5:=Lib.hid (bl HB4.out hb5 HB4.out.size)
 clear hb hb5 h1' h2' h3' hs5' hs4
 rw [HC.out]
 obtain ⟨c0,c1,c2,c3⟩:=cells_four h1
 obtain ⟨d0,d1,d2⟩:=cells_three h3
 go_wp2_with fail
 refine wp_region_slip (fun ix=>([.val (.pointer (some ⟨w2.heap.size,0,none⟩)),.val (B8 m),.val (.pointer (some ⟨w.heap.size,2,none⟩)),.val (.int .i64 (k:Nat)),.val (.slice (some ⟨b,o,none⟩) n c),.val (.int .i64 (A:Nat)),.val (.slice (some ⟨b,o + 10,none⟩) V (c - 10)),(ShRdT 5 w5.heap.size m S X),(ShRdT 5 w5.heap.size m S X),(ShRdV 5 w5.heap.size m S X),(.val (.int .i64 0)),(ShNew 83 w5.heap.size #[.int .u8 0,.slice none 0 0,.int .u64 0]),.any,.any][ix]?).getD (.any)) 101 12 10 78 88 (.int .i64 0) rfl (by kernel_rfl) (by decide) (by decide) (by decide) _ rfl rfl rfl (by decide) rfl (fun a x w h=>run_extract_two _ rfl h) (by decide) ?_ ?_
 ·refine ⟨?_,?_,?_,?_,?_,?_,?_,?_,?_,?_,?_,?_,trivial⟩
  ·intro a W hb0 hs hp hi;have hb:=undrew hb0;clear hb0
   have t7:sl a 7 = .pointer (some ⟨w2.heap.size,0,none⟩):=hi 7 (by decide)
   refine ite_y rfl (wp_val (.pointer (some ⟨w2.heap.size,0,none⟩)) ?_ ?_)
   ·simp only [execOp,eval_tmp,eval_const,t7];simp [go_sem]
   ·exact ⟨_,rfl,Below.refl _ _,rfl⟩
  ·intro a W hb0 hs hp hi;have hb:=undrew hb0;clear hb0
   have tt:sl a 79 = .pointer (some ⟨w2.heap.size,0,none⟩):=hp 0 (by decide)
   have dd:=(hb.cell (p:=⟨w2.heap.size,0,none⟩) (lt_of_cell d0)).trans d0
   refine ite_y rfl (wp_val (B8 m) ?_ ?_)
   ·simp only [execOp,eval_tmp,tt];simp [go_sem,dd]
   ·exact ⟨_,rfl,Below.refl _ _,rfl⟩
  ·intro a W hb0 hs hp hi;have hb:=undrew hb0;clear hb0
   have t2:sl a 2 = .pointer (some ⟨w.heap.size,0,none⟩):=hi 2 (by decide)
   refine ite_y rfl (wp_val (.pointer (some ⟨w.heap.size,2,none⟩)) ?_ ?_)
   ·simp only [execOp,eval_tmp,eval_const,t2];simp [go_sem]
   ·exact ⟨_,rfl,Below.refl _ _,rfl⟩
  ·intro a W hb0 hs hp hi;have hb:=undrew hb0;clear hb0
   have tt:sl a 81 = .pointer (some ⟨w.heap.size,2,none⟩):=hp 2 (by decide)
   have dd:=(hb.cell (p:=⟨w.heap.size,2,none⟩) (lt_of_cell c2)).trans c2
   refine ite_y rfl (wp_val (.int .i64 (k:Nat)) ?_ ?_)
   ·simp only [execOp,eval_tmp,tt];simp [go_sem,dd]
   ·exact ⟨_,rfl,Below.refl _ _,rfl⟩
  ·intro a W hb0 hs hp hi;have hb:=undrew hb0;clear hb0
   have t1:sl a 1 = .slice (some ⟨b,o,none⟩) n c:=hi 1 (by decide)
   exact ite_y rfl (wp_val (sl a 1) rfl ⟨_,rfl,Below.refl _ _,t1⟩)
  ·intro a W hb0 hs hp hi;have hb:=undrew hb0;clear hb0
   have t13:sl a 13 = .int .i64 (A:Nat):=hi 13 (by decide)
   exact ite_y rfl (wp_val (sl a 13) rfl ⟨_,rfl,Below.refl _ _,t13⟩)
  ·intro a W hb0 hs hp hi;have hb:=undrew hb0;clear hb0
   have t83:sl a 83 = .slice (some ⟨b,o,none⟩) n c:=hp 4 (by decide)
   have t84:sl a 84 = .int .i64 (A:Nat):=hp 5 (by decide)
   have v84:a.tmps[84]?.getD undef = sl a 84:=by simp [sl]
   rw [t84] at v84
   refine ite_y rfl (wp_val (.slice (some ⟨b,o + 10,none⟩) V (c - 10)) ?_ ?_)
   ·simp only [execOp,eval_tmp,eval_const,t83,t84];simp [go_sem,v84,ea1,ea2,ea3,ea4,ea5]
   ·exact ⟨_,rfl,Below.refl _ _,rfl⟩
  ·intro a W hb0 hs hp hi;have hb:=undrew hb0;clear hb0
   have t80:sl a 80 = B8 m:=hp 1 (by decide)
   have t82:sl a 82 = .int .i64 (k:Nat):=hp 3 (by decide)
   have t85:sl a 85 = .slice (some ⟨b,o + 10,none⟩) V (c - 10):=hp 6 (by decide)
   refine ite_y rfl (wp_enter 175 #[B8 m,.int .i64 (k:Nat),.slice (some ⟨b,o + 10,none⟩) V (c - 10)] ?_ (HRD.out _ ((Sl.part (k:=10) (m:=V) (H.out.keep HB5.out) HV.out).keep hb)) ?_)
   ·simp only [execOp,resolve,List.map_toArray,List.map,eval_tmp,eval_func,eval_const,t80,t82,t85];simp [go_sem]
   ·rintro e W' ⟨q5,n5,g5,rfl,o5,hw⟩;exact ⟨_,rfl,_,rfl,hw,q5,n5,g5,rfl,o5.mono hb.size⟩
  ·intro a W hb0 hs hp hi;have hb:=undrew hb0;clear hb0
   exact ite_y rfl (wp_val (sl a 86) rfl ⟨_,rfl,Below.refl _ _,hp 7 (by decide)⟩)
  ·intro a W hb0 hs hp hi;have hb:=undrew hb0;clear hb0
   have tt:RdT 5 w5.heap.size m S X (sl a 78) W:=hp 8 (by decide)
   obtain ⟨q5,n5,g5,tt,z5⟩:=tt
   refine ite_y rfl (wp_val (SVal m q5 n5 g5 S) ?_ ?_)
   ·simp only [execOp,eval_tmp,tt];rfl
   ·exact ⟨_,rfl,Below.refl _ _,q5,n5,g5,rfl,z5⟩
  ·intro a W hb0 hs hp hi;have hb:=undrew hb0;clear hb0
   have tt:RdT 5 w5.heap.size m S X (sl a 78) W:=hp 8 (by decide)
   obtain ⟨q5,n5,g5,tt,z5⟩:=tt
   refine ite_y rfl (wp_val (.int .i64 0) ?_ ?_)
   ·simp only [execOp,eval_tmp,tt];rfl
   ·exact ⟨_,rfl,Below.refl _ _,rfl⟩
  ·intro a W hb0 hs hp hi;have hb:=undrew hb0;clear hb0
   refine ite_y rfl (wp_val' (w':=W.alloc (.cells #[.int .u8 0,.slice none 0 0,.int .u64 0] 83)) (.pointer (some ⟨W.heap.size,0,none⟩)) ?_ ?_)
   ·simp only [execOp];simp [go_sem]
   ·exact ⟨_,rfl,al (Below.refl _ _) (Nat.le_refl _),_,rfl,hb.size,hnew rfl⟩
 intro a w9 o ho hb hs hd hI ht
 simp at ho;subst ho
 have y14:=hI 11 (by decide) (by decide)
 obtain ⟨g14,t14,hg14,hh14⟩:=y14
 have y87:=hI 9 (by decide) (by decide)
 obtain ⟨q8,n8,k8,t87,z87⟩:=y87
 have y78:=hI 8 (by decide) (by decide)
 obtain ⟨_,_,_,t78,_⟩:=y78
 refine ⟨⟨_,t78⟩,?_⟩
 refine wp_store_row 83 (.tmp 14) (.tmp 87) rfl g14 #[B8 m,.slice q8 n8 k8,.int .u64 (S:Nat)] (by rw [eval_tmp];exact t14) (by rw [eval_tmp];exact t87) _ _ hh14 info_source rfl (by simp [Value.oneCell']) ?_
 refine ⟨rfl,fun ab hbs hbd hbt hbu=>?_⟩
 have ha:=act_is [79,80,81,82,83,84,85,86,78,87,88,14,9] hbs hbd (fun t h=>(hbt t (fun e=>by subst e;revert h;decide)).trans (ht t h)) (by decide)
 have s14:=(hbt 14 (by decide)).trans t14
 simp only [List.foldl,hbu,s14] at ha
 generalize sl ab 79 = u79 at ha
 generalize sl ab 80 = u80 at ha
 generalize sl ab 81 = u81 at ha
 generalize sl ab 82 = u82 at ha
 generalize sl ab 83 = u83 at ha
 generalize sl ab 84 = u84 at ha
 generalize sl ab 85 = u85 at ha
 generalize sl ab 86 = u86 at ha
 generalize sl ab 78 = u78 at ha
 generalize sl ab 87 = u87 at ha
 generalize sl ab 9 = u9 at ha
 simp only [Act.put,List.setIfInBounds_toArray,List.set_cons_zero,List.set_cons_succ] at ha
 rw [ha];clear ha hbu hbt hbs hbd hI ht hs hd s14
 simp only [List.drop_succ_cons,List.drop_zero]
 have hl2:=lt_of_block h2
 have hl5:=hb.size
 have Z:=Lib.hid (z87.row (cs:=#[B8 m,.slice q8 n8 k8,.int .u64 (S:Nat)]) hh14 src_ne)
 have HB6:=Lib.hid (below_row (cs:=#[B8 m,.slice q8 n8 k8,.int .u64 (S:Nat)]) (g:=g14) (bl HB5.out hb HB5.out.size) (Nat.le_trans HB5.out.size hg14))
 have k1:=hro (cs:=#[B8 m,.slice q8 n8 k8,.int .u64 (S:Nat)]) (g:=g14) ((hb.block _ (by omega)).trans h1) (by omega)
 have k2:=hro (cs:=#[B8 m,.slice q8 n8 k8,.int .u64 (S:Nat)]) (g:=g14) ((hb.block _ (by omega)).trans h2) (by omega)
 have k3:=hro (cs:=#[B8 m,.slice q8 n8 k8,.int .u64 (S:Nat)]) (g:=g14) ((hb.block _ (by omega)).trans h3) (by omega)
 have k4:=hrs (cs:=#[B8 m,.slice q8 n8 k8,.int .u64 (S:Nat)]) hh14
 have hs6:w5.heap.size≤(w9.setRow g14 #[B8 m,.slice q8 n8 k8,.int .u64 (S:Nat)]).heap.size:=by simp [World.setRow];exact hl5
 have HSZ:Hid (w.heap.size≤w5.heap.size):=HB5.out.size
 clear hb h1 h2 h3 z87 hh14 t14 t87 t78 c0 c1 c2 c3 d0 d1 d2 hl2 hl5
 generalize w9.setRow g14 #[B8 m,.slice q8 n8 k8,.int .u64 (S:Nat)] = w6 at *
 obtain ⟨d0,d1,d2⟩:=cells_three k3
 obtain ⟨f0,f1,f2⟩:=cells_three k4
 have ec1:(A:Int)≤(E:Int):=by have:=HEt.out;omega
 have ec2:E - A = t:=by have:=HEt.out;omega
 have ec3:¬ (c = A):=by have:=HEt.out;omega
 have ec4:(E:Int)≤(c:Int):=by omega
 have HAt:Hid (A + t≤n):=by have:=HEt.out;have:=HE.out;show A + t≤n;omega
 rw [← HAV.out] at HY
 go_wp2_with fail
 refine wp_region_tail (fun ix=>([.val (.agg #[B8 m,.int .u32 (D:Nat),.int .u32 (M:Nat)]),.val (.agg #[B8 m,.slice q8 n8 k8,.int .u64 (S:Nat)]),.val (.slice (some ⟨b,o,none⟩) n c),.val (.int .i64 (A:Nat)),.val (.int .i64 (E:Nat)),.val (.slice (some ⟨b,o + A,none⟩) t (c - A)),(ShFr 5 w6.heap.size Y),(ShPk 5 w6.heap.size m D M q8 n8 k8 S Y),.any,.any][ix]?).getD (.any)) 101 8 rfl (by kernel_rfl) (by decide) (by decide) (by decide) (by decide) ?_ ?_
 ·refine ⟨?_,?_,?_,?_,?_,?_,?_,?_,trivial⟩
  ·intro a W hb0 hs hp hi;have hb:=undrew hb0;clear hb0
   have tt:sl a 7 = .pointer (some ⟨w2.heap.size,0,none⟩):=hi 7 (by decide)
   have dd0:=(hb.cell (p:=⟨w2.heap.size,0,none⟩) (lt_of_cell d0)).trans d0
   have dd1:=(hb.cell (p:=⟨w2.heap.size,1,none⟩) (lt_of_cell d1)).trans d1
   have dd2:=(hb.cell (p:=⟨w2.heap.size,2,none⟩) (lt_of_cell d2)).trans d2
   refine ite_y rfl (wp_val (.agg #[B8 m,.int .u32 (D:Nat),.int .u32 (M:Nat)]) ?_ ?_)
   ·simp only [execOp,eval_tmp,tt];simp [go_sem,dd0,dd1,dd2]
   ·exact ⟨_,rfl,Below.refl _ _,rfl⟩
  ·intro a W hb0 hs hp hi;have hb:=undrew hb0;clear hb0
   have tt:sl a 14 = .pointer (some ⟨g14,0,none⟩):=hi 14 (by decide)
   have dd0:=(hb.cell (p:=⟨g14,0,none⟩) (lt_of_cell f0)).trans f0
   have dd1:=(hb.cell (p:=⟨g14,1,none⟩) (lt_of_cell f1)).trans f1
   have dd2:=(hb.cell (p:=⟨g14,2,none⟩) (lt_of_cell f2)).trans f2
   refine ite_y rfl (wp_val (.agg #[B8 m,.slice q8 n8 k8,.int .u64 (S:Nat)]) ?_ ?_)
   ·simp only [execOp,eval_tmp,tt];simp [go_sem,dd0,dd1,dd2]
   ·exact ⟨_,rfl,Below.refl _ _,rfl⟩
  ·intro a W hb0 hs hp hi;have hb:=undrew hb0;clear hb0
   have t1:sl a 1 = .slice (some ⟨b,o,none⟩) n c:=hi 1 (by decide)
   exact ite_y rfl (wp_val (sl a 1) rfl ⟨_,rfl,Below.refl _ _,t1⟩)
  ·intro a W hb0 hs hp hi;have hb:=undrew hb0;clear hb0
   have t13:sl a 13 = .int .i64 (A:Nat):=hi 13 (by decide)
   exact ite_y rfl (wp_val (sl a 13) rfl ⟨_,rfl,Below.refl _ _,t13⟩)
  ·intro a W hb0 hs hp hi;have hb:=undrew hb0;clear hb0
   have t11:sl a 11 = .int .i64 (E:Nat):=hi 11 (by decide)
   exact ite_y rfl (wp_val (sl a 11) rfl ⟨_,rfl,Below.refl _ _,t11⟩)
  ·intro a W hb0 hs hp hi;have hb:=undrew hb0;clear hb0
   have t95:sl a 95 = .slice (some ⟨b,o,none⟩) n c:=hp 2 (by decide)
   have t96:sl a 96 = .int .i64 (A:Nat):=hp 3 (by decide)
   have t97:sl a 97 = .int .i64 (E:Nat):=hp 4 (by decide)
   have v96:a.tmps[96]?.getD undef = sl a 96:=by simp [sl]
   rw [t96] at v96
   have v97:a.tmps[97]?.getD undef = sl a 97:=by simp [sl]
   rw [t97] at v97
   refine ite_y rfl (wp_val (.slice (some ⟨b,o + A,none⟩) t (c - A)) ?_ ?_)
   ·simp only [execOp,eval_tmp,eval_const,t95,t96,t97];simp [go_sem,v96,v97,eb1,eb2,ec1,ec2,ec3,ec4]
   ·exact ⟨_,rfl,Below.refl _ _,rfl⟩
  ·intro a W hb0 hs hp hi;have hb:=undrew hb0;clear hb0
   have t98:sl a 98 = .slice (some ⟨b,o + A,none⟩) t (c - A):=hp 5 (by decide)
   refine ite_y rfl (wp_enter 176 #[.slice (some ⟨b,o + A,none⟩) t (c - A)] ?_ (BClone_any _ _ _ _ _ ((Sl.part (k:=A) (m:=t) (H.out.keep HB6.out) HAt.out).keep hb) HRt.out) ?_)
   ·simp only [execOp,resolve,List.map_toArray,List.map,eval_tmp,eval_func,eval_const,t98];simp [go_sem]
   ·rintro e W' ⟨q5,g5,rfl,o5,hw⟩;exact ⟨_,rfl,_,rfl,hw,q5,_,g5,rfl,by rw [← HY.out];exact (Fresh.of_owns o5).mono hb.size⟩
  ·intro a W hb0 hs hp hi;have hb:=undrew hb0;clear hb0
   have t93:sl a 93 = .agg #[B8 m,.int .u32 (D:Nat),.int .u32 (M:Nat)]:=hp 0 (by decide)
   have t94:sl a 94 = .agg #[B8 m,.slice q8 n8 k8,.int .u64 (S:Nat)]:=hp 1 (by decide)
   have t99:=hp 6 (by decide)
   obtain ⟨q5,n5,g5,t99,z99⟩:=t99
   have v93:a.tmps[93]?.getD undef = sl a 93:=by simp [sl]
   rw [t93] at v93
   have v94:a.tmps[94]?.getD undef = sl a 94:=by simp [sl]
   rw [t94] at v94
   have v99:a.tmps[99]?.getD undef = sl a 99:=by simp [sl]
   rw [t99] at v99
   refine ite_y rfl (wp_val (PkVal m D M m q8 n8 k8 S q5 n5 g5) ?_ ?_)
   ·simp only [execOp,eval_tmp,t93,t94,t99];simp [go_sem,v93,v94,v99,Tryz.underlying120,Tryz.underlying83,Tryz.underlying122]
   ·exact ⟨_,rfl,Below.refl _ _,q5,n5,g5,rfl,z99⟩
 intro a w10 hb hs hd hI ht
 have ha:=act_is [93,94,95,96,97,98,99,100,5] hs hd ht (by decide)
 have y100:=hI 7 (by decide)
 obtain ⟨q9,n9,c9,t100,z100⟩:=y100
 simp only [List.foldl,t100] at ha
 generalize sl a 93 = u93 at ha
 generalize sl a 94 = u94 at ha
 generalize sl a 95 = u95 at ha
 generalize sl a 96 = u96 at ha
 generalize sl a 97 = u97 at ha
 generalize sl a 98 = u98 at ha
 generalize sl a 99 = u99 at ha
 generalize sl a 5 = u5 at ha
 simp only [Act.put,List.setIfInBounds_toArray,List.set_cons_zero,List.set_cons_succ] at ha
 rw [ha];clear ha hI ht hs hd
 simp only [List.drop_succ_cons,List.drop_zero]
 have k2':=(hb.block _ (by have:=lt_of_block k2;omega)).trans k2
 have Z2:=Lib.hid (Z.out.keep hb)
 have HB7:=Lib.hid (bl HB6.out hb HB6.out.size)
 have ZZ:=Lib.hid z100
 clear hb k1 k2 k3 k4 d0 d1 d2 f0 f1 f2 z100
 go_wp2_with (refine wpList_store_row (o:=⟨none,.store 122 (.tmp 4) (.tmp 100),_,_,_,_⟩) rfl 122 (.tmp 4) (.tmp 100) rfl (w.heap.size + 1) #[B8 m,.int .u32 (D:Nat),.int .u32 (M:Nat),B8 m,.slice q8 n8 k8,.int .u64 (S:Nat),.slice q9 n9 c9] rfl rfl _ _ k2' info_packet rfl (by simp [Value.oneCell']) ?_)
 refine bodyPost_ret (res_ct rfl _ _ _ 122 #[B8 m,.int .u32 (D:Nat),.int .u32 (M:Nat),B8 m,.slice q8 n8 k8,.int .u64 (S:Nat),.slice q9 n9 c9] (0,0) _ (.int .i64 0) rfl (hrs k2') rfl Tryz.underlying122 rfl info_packet) rfl ?_
 exact ⟨q8,n8,k8,q9,n9,c9,rfl,(Z2.out.mono HSZ.out).row k2' pkt_ne,(ZZ.out.mono (Nat.le_trans HSZ.out hs6)).row k2' pkt_ne,below_row HB7.out (by omega)⟩
end Go.Proofs.YtccaiiigdfieoaaGreatDoor
namespace Go.By
open Go.RowKit
theorem three_of {w w1:World} {A B C:Obj} (hb:Below (((w.alloc A).alloc B).alloc C).heap.size (((w.alloc A).alloc B).alloc C) w1):Below w.heap.size w w1∧w1.heap[w.heap.size]? = some A∧w1.heap[w.heap.size + 1]? = some B∧w1.heap[w.heap.size + 2]? = some C∧w.heap.size + 3≤w1.heap.size :=
 ⟨(al (al (al (Below.refl _ _) (Nat.le_refl _)) (by simp)) (by simp;omega)).trans (hb.mono (by simp;omega)),(hb.block _ (by simp;omega)).trans (hal (hal (hnew rfl))),(hb.block _ (by simp)).trans (hal (hnew (by simp))),(hb.block _ (by simp)).trans (hnew (by simp)),by have:=hb.size;simp at this;omega⟩
end Go.By
namespace Go.Proofs.YtccaiiigdfieoaaGreatDoor
open Go.RowKit Go.By
def readC (k t D:Nat) (xs:List UInt8):Int:=if headC xs≠0 then headC xs else if xs.length≠lenP (xs.getD 1 0) k t then 4 else if get4 ((xs.drop (xs.length - 4)).take 4)≠crcS (xs.take (xs.length - 4)) then 10 else if get4 ((xs.drop 2).take 4)≠D then 9 else 0
def pktM (xs:List UInt8):UInt8:=xs.getD 1 0
def pktN (xs:List UInt8):Nat:=get4 ((xs.drop 6).take 4)
def pktX (k:Nat) (xs:List UInt8):List UInt8:=rdX (xs.getD 1 0) ((xs.drop 10).take (widS (xs.getD 1 0) k))
def pktS (k:Nat) (xs:List UInt8):Nat:=rdS (xs.getD 1 0) ((xs.drop 10).take (widS (xs.getD 1 0) k))
def pktY (k t:Nat) (xs:List UInt8):List UInt8:=(xs.drop (10 + widS (xs.getD 1 0) k)).take t
theorem PRead_any (L t k D:Nat) (p:Option Addr) (n c:Nat) (xs:List UInt8) (w:World) (hP:POK L t k D) (hT:HalfT w) (h:Sl B8 w p n c xs) (hr:Room n) :
  Calls Tryz.prog 111 #[PVal L t k D,.slice p n c] w (if readC k t D xs = 0 then PRet w (pktM xs) D (pktN xs) (pktX k xs) (pktS k xs) (pktY k t xs) else PZero w (readC k t D xs)):=by
 have hl:=h.len
 by_cases hc:headC xs = 0
 ·by_cases hn:n = lenP (xs.getD 1 0) k t
  ·have hn4:14≤n:=by rw [hn];unfold lenP;omega
   obtain ⟨b,o,rfl,_⟩:=h.has (by omega)
   by_cases hs:get4 ((xs.drop (n - 4)).take 4) = crcS (xs.take (n - 4))
   ·by_cases ho:get4 ((xs.drop 2).take 4) = D
    ·have e:readC k t D xs = 0:=by unfold readC;rw [hl,if_neg (Classical.not_not.2 hc),if_neg (Classical.not_not.2 hn),if_neg (Classical.not_not.2 hs),if_neg (Classical.not_not.2 ho)]
     rw [e,if_pos rfl]
     exact PRead_ok L t k D b o n c xs w hP hT h hr hc (n - 4) hn (by omega) hs ho
    ·have e:readC k t D xs = 9:=by unfold readC;rw [hl,if_neg (Classical.not_not.2 hc),if_neg (Classical.not_not.2 hn),if_neg (Classical.not_not.2 hs),if_pos ho]
     rw [e,if_neg (by decide)]
     exact PRead_obj L t k D b o n c xs w hP hT h hr hc (n - 4) hn (by omega) hs ho
   ·have e:readC k t D xs = 10:=by unfold readC;rw [hl,if_neg (Classical.not_not.2 hc),if_neg (Classical.not_not.2 hn),if_pos hs]
    rw [e,if_neg (by decide)]
    exact PRead_sum L t k D b o n c xs w hP hT h hr hc (n - 4) hn (by omega) hs
  ·have e:readC k t D xs = 4:=by unfold readC;rw [hl,if_neg (Classical.not_not.2 hc),if_pos hn]
   rw [e,if_neg (by decide)]
   exact PRead_len L t k D p n c xs w hP h hr hc hn
 ·have e:readC k t D xs = headC xs:=by unfold readC;rw [if_pos hc]
  rw [e,if_neg hc]
  exact PRead_head L t k D p n c xs w hP h hr hc
theorem headC_cases (xs:List UInt8):headC xs = 0∨headC xs = 6∨headC xs = 7∨headC xs = 8:=by
 unfold headC
 split
 ·simp
 ·split
  ·simp
  ·rcases modeC_range (xs.getD 1 0) with h | h <;> rw [h] <;> simp
theorem readC_cases (k t D:Nat) (xs:List UInt8):readC k t D xs = 0∨readC k t D xs = 6∨readC k t D xs = 7∨readC k t D xs = 8∨readC k t D xs = 4∨readC k t D xs = 10∨readC k t D xs = 9:=by
 unfold readC
 split
 ·rename_i h
  rcases headC_cases xs with g | g | g | g
  ·exact absurd g h
  all_goals rw [g];simp
 ·split
  ·simp
  ·split
   ·simp
   ·split <;> simp
theorem read_fits {k t D:Nat} {xs:List UInt8} (h:readC k t D xs = 0):modeC (pktM xs) = 0∧(pktM xs = 0→(pktX k xs).length = k)∧(pktY k t xs).length = t:=by
 unfold readC at h
 split at h
 ·rename_i hc;exact absurd h hc
 ·rename_i hc
  have hc0:headC xs = 0:=by simpa using hc
  split at h
  ·cases h
  ·rename_i hn
   have hn':xs.length = 10 + widS (xs.getD 1 0) k + t + 4:=by simpa [lenP] using hn
   refine ⟨headC_mode hc0,fun h0=>?_,?_⟩
   ·unfold pktM at h0
    unfold pktX rdX
    rw [if_pos h0]
    have:widS (xs.getD 1 0) k = k:=by unfold widS;rw [if_pos h0]
    rw [this] at hn' ⊢
    simp;omega
   ·unfold pktY
    generalize widS (xs.getD 1 0) k = V at *
    rw [List.length_take,List.length_drop];omega
theorem info_eqrow:(Tryz.prog.info? 99).map (·.size) = some 2:=by kernel_rfl
theorem eqrow_ne:99≠5:=by decide
def EqRet (w:World) (v d:List UInt8) (e:Ending) (w':World):Prop :=
 ∃ q n c q2 n2 c2,e = .returned (.tuple #[.agg #[.slice q n c,.slice q2 n2 c2],.int .i64 0])∧Fresh 5 w.heap.size w' q n c v∧Fresh 5 w.heap.size w' q2 n2 c2 d∧Below w.heap.size w w'
set_option maxRecDepth 100000 in
set_option maxHeartbeats 2000000 in
theorem PEquation_ok (L t k D n:Nat) (m:UInt8) (p:Option Addr) (j c s:Nat) (q:Option Addr) (d:Nat) (xs ys:List UInt8) (w:World) (hP:POK L t k D) (hm:modeC m = 0) (hj:m = 0→j = k) (hr:Room j) (h1:Sl B8 w p j c xs) (h2:Sl B8 w q t d ys) :
  Calls Tryz.prog 63 #[PkVal m D n m p j c s q t d,PVal L t k D] w (EqRet w (vecS m xs s k) ys):=by
 have HF:Hid (∀ w,Calls Tryz.prog 112 #[PkVal m D n m p j c s q t d,PVal L t k D] w fun e w'=>e = .returned (.int .i64 0)∧Below w.heap.size w w'):=fun w=>PFits_ok L t k D n m p j c s q d w hP hm hj
 have hsc:srcC m j k = 0:=by
  unfold srcC
  by_cases h0:m = 0
  ·rw [if_pos h0,if_pos (hj h0)]
  ·rw [if_neg h0,hm]
 have HS:Hid (∀ w,Sl B8 w p j c xs→Calls Tryz.prog 97 #[SVal m p j c s,.int .i64 (k:Nat)] w (SRet w (vecS m xs s k) 0)):=fun w h=>by have:=SVector_any m p j c s k xs hP.k1 hP.k2 w h hr;rw [hsc,if_pos rfl] at this;exact this
 have HV:Hid (Room (vecS m xs s k).length):=by
  show _≤_
  have:=hP.k2
  unfold vecS
  split
  ·rw [h1.len];exact hr
  ·rw [mixRow_len];omega
 have HRt:Hid (Room t):=by have:=hP.t2;show t≤140737488355328;omega
 have H1:=Lib.hid h1
 have H2:=Lib.hid h2
 obtain ⟨V,hV⟩:∃ V,vecS m xs s k = V:=⟨_,rfl⟩
 rw [hV] at HS HV ⊢
 clear hP hm hj hr h1 h2 hsc hV
 go_enter Tryz.func63,Tryz.ntmps63
 go_wp2_with fail
 refine Calls.mono (HF.out _) ?_
 rintro e w1 ⟨rfl,hb⟩
 obtain ⟨hb1,h1,h2,h3,hs⟩:=three_of hb
 have HB:=Lib.hid hb1
 obtain ⟨c0,c1,c2,c3,c4,c5,c6⟩:=cells_seven h1
 obtain ⟨d0,d1,d2,d3⟩:=cells_four h2
 clear hb hb1
 go_wp2_with fail
 refine Calls.mono (HS.out _ (H1.out.keep HB.out)) ?_
 rintro e w2 ⟨q1,n1,k1,rfl,hq,hb⟩
 have h1':=(hb.block _ (by omega)).trans h1
 have h3':=(hb.block _ (by omega)).trans h3
 have hs2:=hb.size
 have HB2:=Lib.hid (bl HB.out hb HB.out.size)
 have HQ:=Lib.hid hq
 have HV':Hid (Room n1):=by rw [← HQ.out.len];exact HV.out
 clear hb hq h1 h2 h3 c0 c1 c2 c3 c4 c5 c6 d0 d1 d2 d3
 obtain ⟨c0,c1,c2,c3,c4,c5,c6⟩:=cells_seven h1'
 go_wp2_with fail
 refine Calls.mono (Of_any _ _ _ _ _ _ _ _ _ HQ.out (H2.out.keep HB2.out) HV'.out HRt.out) ?_
 rintro e w3 ⟨q5,m5,g5,q6,m6,g6,e5,e6,rfl,o5,o6,hb⟩
 have h3:=(hb.block _ (by omega)).trans h3'
 have HB3:=Lib.hid (bl HB2.out hb HB2.out.size)
 have F5:=Lib.hid ((Fresh.of_owns o5).mono HB2.out.size)
 have F6:=Lib.hid ((Fresh.of_owns o6).mono HB2.out.size)
 clear hb e5 e6 o5 o6 h1' h3' c0 c1 c2 c3 c4 c5 c6
 go_wp2_with (refine wpList_store_row (o:=⟨none,.store 99 (.tmp 4) (.tmp 31),_,_,_,_⟩) rfl 99 (.tmp 4) (.tmp 31) rfl (w.heap.size + 2) #[.slice q5 m5 g5,.slice q6 m6 g6] rfl rfl _ _ h3 info_eqrow rfl (by simp [Value.oneCell']) ?_)
 refine bodyPost_ret (res_ct rfl _ _ _ 99 #[.slice q5 m5 g5,.slice q6 m6 g6] (0,0) _ (.int .i64 0) rfl (hrs h3) rfl Tryz.underlying99 rfl info_eqrow) rfl ?_
 exact ⟨q5,m5,g5,q6,m6,g6,rfl,F5.out.row h3 eqrow_ne,F6.out.row h3 eqrow_ne,below_row HB3.out (by omega)⟩
end Go.Proofs.YtccaiiigdfieoaaGreatDoor
namespace Go.Proofs.YtccaiiigdfieoaaGreatDoor
open Go.RowKit Go.By Go.Maps
abbrev GVal (L t k D:Nat) (M:Value):Value:=.agg #[.int .i64 (L:Nat),.int .i64 (t:Nat),.int .i64 (k:Nat),.int .u32 (D:Nat),M]
theorem info_gate:(Tryz.prog.info? 111).map (·.size) = some 5:=by kernel_rfl
set_option maxRecDepth 100000 in
set_option maxHeartbeats 1000000 in
theorem GNew_ok (L t k D:Nat) (w:World) (hP:POK L t k D) :
  Calls Tryz.prog 60 #[PVal L t k D] w fun e w'=>e = .returned (.tuple #[GVal L t k D (.map none),.int .i64 0])∧Below w.heap.size w w':=by
 have HK:Hid (∀ w,Calls Tryz.prog 79 #[PVal L t k D] w fun e w'=>e = .returned (.int .i64 0)∧Below w.heap.size w w'):=PCheck_ok hP
 clear hP
 go_enter Tryz.func60,Tryz.ntmps60
 go_wp2_with fail
 refine Calls.mono (HK.out _) ?_
 rintro e w1 ⟨rfl,hb⟩
 obtain ⟨hb1,h1,h2,hs⟩:=two_of hb
 have HB:=Lib.hid hb1
 obtain ⟨c0,c1,c2,c3⟩:=cells_four h1
 clear hb hb1
 go_wp2_with (refine wpList_store_row (o:=⟨none,.store 111 (.tmp 2) (.tmp 12),_,_,_,_⟩) rfl 111 (.tmp 2) (.tmp 12) rfl (w.heap.size + 1) #[.int .i64 (L:Nat),.int .i64 (t:Nat),.int .i64 (k:Nat),.int .u32 (D:Nat),.map none] rfl rfl _ _ h2 info_gate rfl (by simp [Value.oneCell']) ?_)
 refine bodyPost_ret (res_ct rfl _ _ _ 111 #[.int .i64 (L:Nat),.int .i64 (t:Nat),.int .i64 (k:Nat),.int .u32 (D:Nat),.map none] (0,0) _ (.int .i64 0) rfl (hrs h2) rfl Tryz.underlying111 rfl info_gate) rfl ?_
 exact ⟨rfl,below_row HB.out (by omega)⟩
def getN (C:DataW Unit) (x:Int):Int:=match C.atKey (.int .i64 x) (.lit (.int .i64 0)) with
 | .lit (.int _ c)=>c
 | _=>0
structure CntM (w:World) (M:Value) (N:Nat) (C:DataW Unit):Prop where
 at_:(M = .map none∧C = .map [])∨∃ b,M = .map (some b)∧w.ownsMap Tryz.prog 35 (plainElem Tryz.prog 3) b N C
 small:∀ x,0≤getN C x∧getN C x≤N
theorem CntM.keep {w w':World} {M:Value} {N:Nat} {C:DataW Unit} (h:CntM w M N C) (hb:Below w.heap.size w w'):CntM w' M N C:=by
 refine ⟨?_,h.small⟩
 rcases h.at_ with h1 | ⟨b,e,ho⟩
 ·exact .inl h1
 ·refine .inr ⟨b,e,?_⟩
  have hlt:=ho.lt
  obtain ⟨es,clock,h1,F,hs,hD⟩:=ho
  exact ⟨es,clock,(hb.block _ hlt).trans h1,F,hs,hD⟩
theorem keyedG:Keyed Tryz.prog 35:=int_keyed Tryz.underlying35
theorem CntM.none (w:World) (N:Nat):CntM w (.map none) N (.map []):=⟨.inl ⟨rfl,rfl⟩,fun x=>by have:getN (.map []) x = 0:=rfl;rw [this];omega⟩
end Go.Proofs.YtccaiiigdfieoaaGreatDoor
namespace Go.By
open Go.RowKit
structure TwoE (w0:World) (g1 g2:Nat) (w:World):Prop where
 os:w.os = w0.os
 tape:w.tape = w0.tape
 output:w.output = w0.output
 size:w.heap.size = w0.heap.size
 block:∀ b,b≠g1→b≠g2→w.heap[b]? = w0.heap[b]?
theorem TwoE.row1 {w0 w:World} {g1 g2:Nat} (h:TwoE w0 g1 g2 w) (cs:Array Value):TwoE w0 g1 g2 (w.setRow g1 cs):=by
 refine ⟨h.os,h.tape,h.output,by simp [World.setRow];exact h.size,fun b h1 h2=>?_⟩
 rw [← h.block b h1 h2]
 simp only [World.setRow,Array.getElem?_modify]
 rw [if_neg (by omega)]
theorem TwoE.row2 {w0 w:World} {g1 g2:Nat} (h:TwoE w0 g1 g2 w) (cs:Array Value):TwoE w0 g1 g2 (w.setRow g2 cs):=by
 refine ⟨h.os,h.tape,h.output,by simp [World.setRow];exact h.size,fun b h1 h2=>?_⟩
 rw [← h.block b h1 h2]
 simp only [World.setRow,Array.getElem?_modify]
 rw [if_neg (by omega)]
theorem TwoE.cell {w0 w:World} {g1 g2 b o:Nat} {v:Value} (h:TwoE w0 g1 g2 w) (h1:b≠g1) (h2:b≠g2) (hc:w0.cell? ⟨b,o,none⟩ = some v):w.cell? ⟨b,o,none⟩ = some v :=
 (World.cell?_of_block (a:=⟨b,o,none⟩) (h.block b h1 h2)).trans hc
theorem TwoE.below {w0 w:World} {g1 g2 B:Nat} (h:TwoE w0 g1 g2 w) (h1:B≤g1) (h2:B≤g2):Below B w0 w:=⟨h.os,h.tape,h.output,by rw [h.size];exact Nat.le_refl _,fun i hi=>h.block i (by omega) (by omega)⟩
def pairB (ops:Array Oper) (n m1 m2:Nat):Bool:=(List.range ops.size).all fun i=>match ops[i]? with
 | some o=>o.guard.isNone && (if i == m1 || i == m2 then o.dst.isNone else match o.dst with
  | some d=>decide (d < n)
  | none=>false)
 | none=>false
theorem each_all {P:Program} {ops:Array Oper} {Q:Exit→Act→World→Prop} {a0:Act} {w0:World} {E:World→World→Prop} {R:Nat→World→World→Prop} {Inv:Nat→(Nat→Value)→World→Prop} (key:∀ i o,ops[i]? = some o→StepOf P ops Q a0 w0 E R Inv i o) :
  ∀ (l:List Oper) (k:Nat),(∀ j o,l[j]? = some o→ops[k + j]? = some o)→Each P ops Q a0 w0 E R Inv l k:=by
 intro l
 induction l with
 | nil=>intro k _;trivial
 | cons x l ih =>
  intro k h
  exact ⟨key k x (by have:=h 0 x rfl;simpa using this),ih (k + 1) fun j o hj=>by have:=h (j + 1) o (by simpa using hj);rwa [show k + 1 + j = k + (j + 1) by omega]⟩
theorem wp_region_pair {P:Program} {ops:Array Oper} {Q:Exit→Act→World→Prop} {id:Nat} {a0:Act} {w0:World} (sv:Nat→Value) (n m1 m2 g1 g2 T1 T2:Nat) (c1 c2:Array Value) (hn:a0.tmps.size = n) (hm:P.follows .mixedOrders = true) (hback:backB ops = true) (hdist:distB ops = true) (hpair:pairB ops n m1 m2 = true) (hm12:m1≠m2) (hg12:g1≠g2)
  (z1:∃ old,w0.heap[g1]? = some (.cells old T1 (0,0))∧old.size = c1.size) (z2:∃ old,w0.heap[g2]? = some (.cells old T2 (0,0))∧old.size = c2.size)
  (each:∀ i o,i≠m1→i≠m2→ops[i]? = some o→∀ a w,TwoE w0 g1 g2 w→a.tmps.size = a0.tmps.size→(∀ k d,k ∈ preds o→k≠m1→k≠m2→dstOf ops k = some d→sl a d = sv k)→(∀ t,initAt ops i t = true→sl a t = sl a0 t)→(execOp a.eval o).run P w = .ok (.value (sv i)) w)
  (st1:∀ o,ops[m1]? = some o→∀ a w,TwoE w0 g1 g2 w→a.tmps.size = a0.tmps.size→(∀ k d,k ∈ preds o→k≠m1→k≠m2→dstOf ops k = some d→sl a d = sv k)→(∀ t,initAt ops m1 t = true→sl a t = sl a0 t)→∀ old,w.heap[g1]? = some (.cells old T1 (0,0))→old.size = c1.size→o.wp P a w (fun a' w'=>a' = a.put o.dst undef∧w' = w.setRow g1 c1) Q)
  (st2:∀ o,ops[m2]? = some o→∀ a w,TwoE w0 g1 g2 w→a.tmps.size = a0.tmps.size→(∀ k d,k ∈ preds o→k≠m1→k≠m2→dstOf ops k = some d→sl a d = sv k)→(∀ t,initAt ops m2 t = true→sl a t = sl a0 t)→∀ old,w.heap[g2]? = some (.cells old T2 (0,0))→old.size = c2.size→o.wp P a w (fun a' w'=>a' = a.put o.dst undef∧w' = w.setRow g2 c2) Q)
  (hs1:m1 < ops.size) (hs2:m2 < ops.size)
  (fin:∀ a w,TwoE w0 g1 g2 w→w.heap[g1]? = some (.cells c1 T1 (0,0))→w.heap[g2]? = some (.cells c2 T2 (0,0))→a.tmps.size = a0.tmps.size→a.defers = a0.defers→(∀ j d,j < ops.size→j≠m1→j≠m2→dstOf ops j = some d→sl a d = sv j)→(∀ t,(ops.toList.all fun o=>o.dst != some t) = true→sl a t = sl a0 t)→Q .normal a w) :
  (Code.region id ops true).wp P Q a0 w0:=by
 have hp:∀ i o,ops[i]? = some o→o.guard = none∧(i≠m1→i≠m2→∃ d,o.dst = some d∧d < n)∧(i = m1∨i = m2→o.dst = none):=fun i o ho=>by
  have h0:=List.all_eq_true.1 hpair i (List.mem_range.2 (Array.getElem?_eq_some_iff.1 ho).1)
  rw [ho] at h0
  simp only [Bool.and_eq_true] at h0
  refine ⟨by cases hg:o.guard <;> simp [hg] at h0 ⊢,fun h1 h2=>?_,fun h=>?_⟩
  ·have h3:=h0.2
   rw [if_neg (by simp [h1,h2])] at h3
   cases hd:o.dst with
   | none=>rw [hd] at h3;cases h3
   | some d=>rw [hd] at h3;exact ⟨d,rfl,of_decide_eq_true h3⟩
  ·have h3:=h0.2
   rw [if_pos (by rcases h with h | h <;> simp [h])] at h3
   cases hd:o.dst <;> simp [hd] at h3 ⊢
 refine wp_region_each hm hback (fun _ w=>TwoE w0 g1 g2 w∧(∃ old,w.heap[g1]? = some (.cells old T1 (0,0))∧old.size = c1.size)∧∃ old,w.heap[g2]? = some (.cells old T2 (0,0))∧old.size = c2.size)
  (fun i w w'=>if i = m1 then w' = w.setRow g1 c1 else if i = m2 then w' = w.setRow g2 c2 else w' = w)
  (fun j σ w=>if j = m1 then w.heap[g1]? = some (.cells c1 T1 (0,0)) else if j = m2 then w.heap[g2]? = some (.cells c2 T2 (0,0)) else ∀ d,dstOf ops j = some d→σ d = sv j) ?_ ?_ ?_ ?_ ?_
 ·exact ⟨⟨rfl,rfl,rfl,rfl,fun _ _ _=>rfl⟩,z1,z2⟩
 ·intro i w w' hE hR
  obtain ⟨hE,⟨o1,h1,e1⟩,⟨o2,h2,e2⟩⟩:=hE
  by_cases hi1:i = m1
  ·rw [if_pos hi1] at hR
   subst hR
   exact ⟨hE.row1 _,⟨c1,hrs h1,rfl⟩,o2,hro h2 (by omega),e2⟩
  ·rw [if_neg hi1] at hR
   by_cases hi2:i = m2
   ·rw [if_pos hi2] at hR
    subst hR
    exact ⟨hE.row2 _,⟨o1,hro h1 (by omega),e1⟩,c2,hrs h2,rfl⟩
   ·rw [if_neg hi2] at hR
    subst hR
    exact ⟨hE,⟨o1,h1,e1⟩,o2,h2,e2⟩
 ·intro i j oi oj σ σ' w w' hij hoi hoj _ hI hR hσ _ _
  by_cases hj1:j = m1
  ·subst hj1
   rw [if_pos rfl] at hI ⊢
   rw [if_neg hij] at hR
   by_cases hi2:i = m2
   ·rw [if_pos hi2] at hR;subst hR;exact hro hI (by omega)
   ·rw [if_neg hi2] at hR;subst hR;exact hI
  ·rw [if_neg hj1] at hI ⊢
   by_cases hj2:j = m2
   ·subst hj2
    rw [if_pos rfl] at hI ⊢
    by_cases hi1:i = m1
    ·rw [if_pos hi1] at hR;subst hR;exact hro hI (by omega)
    ·rw [if_neg hi1,if_neg hij] at hR;subst hR;exact hI
   ·rw [if_neg hj2] at hI ⊢
    intro d hd
    have hne:oi.dst≠some d:=by
     intro e
     have hi':i < ops.size:=(Array.getElem?_eq_some_iff.1 hoi).1
     have hj':j < ops.size:=(Array.getElem?_eq_some_iff.1 hoj).1
     have:=List.all_eq_true.1 (List.all_eq_true.1 hdist i (List.mem_range.2 hi')) j (List.mem_range.2 hj')
     rw [hoi,hoj] at this
     have hdj':oj.dst = some d:=by simpa [dstOf,hoj] using hd
     simp [e,hdj',hij] at this
    rw [hσ d hne]
    exact hI d hd
 ·have key:∀ i o,ops[i]? = some o→StepOf P ops Q a0 w0.drew (fun _ w=>TwoE w0 g1 g2 w∧(∃ old,w.heap[g1]? = some (.cells old T1 (0,0))∧old.size = c1.size)∧∃ old,w.heap[g2]? = some (.cells old T2 (0,0))∧old.size = c2.size)
    (fun i w w'=>if i = m1 then w' = w.setRow g1 c1 else if i = m2 then w' = w.setRow g2 c2 else w' = w)
    (fun j σ w=>if j = m1 then w.heap[g1]? = some (.cells c1 T1 (0,0)) else if j = m2 then w.heap[g2]? = some (.cells c2 T2 (0,0)) else ∀ d,dstOf ops j = some d→σ d = sv j) i o:=by
   intro i o ho a w hE hs hpr hin
   obtain ⟨hE,⟨o1,h1,e1⟩,⟨o2,h2,e2⟩⟩:=hE
   obtain ⟨hg,hd,hd2⟩:=hp i o ho
   rw [if_pos (by simp [Region.wanted,hg])]
   have hpr':∀ k d,k ∈ preds o→k≠m1→k≠m2→dstOf ops k = some d→sl a d = sv k:=fun k d hk k1 k2 hdk=>by
    have:=hpr k hk
    dsimp only at this
    rw [if_neg k1,if_neg k2] at this
    exact this d hdk
   by_cases hi1:i = m1
   ·subst hi1
    refine Oper.wp_mono (fun a' w' hq=>?_) (st1 o ho a w hE hs hpr' hin o1 h1 e1)
    obtain ⟨rfl,rfl⟩:=hq
    exact ⟨undef,rfl,by dsimp only;rw [if_pos rfl],by dsimp only;rw [if_pos rfl];exact hrs h1⟩
   ·by_cases hi2:i = m2
    ·subst hi2
     refine Oper.wp_mono (fun a' w' hq=>?_) (st2 o ho a w hE hs hpr' hin o2 h2 e2)
     obtain ⟨rfl,rfl⟩:=hq
     exact ⟨undef,rfl,by dsimp only;rw [if_neg hi1,if_pos rfl],by dsimp only;rw [if_neg hi1,if_pos rfl];exact hrs h2⟩
    ·have hr:=each i o hi1 hi2 ho a w hE hs hpr' hin
     refine wp_val (sv i) hr ⟨sv i,rfl,by dsimp only;rw [if_neg hi1,if_neg hi2],?_⟩
     dsimp only
     rw [if_neg hi1,if_neg hi2]
     intro d hdd
     obtain ⟨d',hd',hdn⟩:=hd hi1 hi2
     have:d' = d:=by
      have:o.dst = some d:=by simpa [dstOf,ho] using hdd
      rw [hd'] at this;exact Option.some.inj this
     subst this
     rw [hd']
     exact put_same _ _ _ (by rw [hs,hn];exact hdn)
  exact each_all key ops.toList 0 fun j o hj=>by simpa using hj
 ·intro a w hE hs hd hI ht
  obtain ⟨hE,_,_⟩:=hE
  have i1:=hI m1 hs1
  rw [if_pos rfl] at i1
  have i2:=hI m2 hs2
  rw [if_neg (Ne.symm hm12),if_pos rfl] at i2
  refine fin a w hE i1 i2 hs hd (fun j d hj j1 j2 hdj=>?_) ht
  have:=hI j hj
  rw [if_neg j1,if_neg j2] at this
  exact this d hdj
end Go.By
namespace Go.By
open Go.RowKit Go.Maps
theorem res_cct {P:Program} {fn:Func} {p q u:Tmp} {ty ty2:TypeId} (h:fn.results = #[.cell p ty,.cell q ty2,.tmp u]) (tmps:Array Value) (w:World) (g g2:Nat) (t t2:TypeId) (cs cs2:Array Value) (fr fr2:Nat × Nat) (d d2:TypeDesc) (v:Value)
  (hp:tmps.getD p undef = .pointer (some ⟨g,0,none⟩)) (hg:w.heap[g]? = some (.cells cs t fr)) (hq:tmps.getD q undef = .pointer (some ⟨g2,0,none⟩)) (hg2:w.heap[g2]? = some (.cells cs2 t2 fr2)) (hv:tmps.getD u undef = v)
  (hu:P.underlying ty = some d) (hd:(match d with | .struct _ | .array _ _=>true | _=>false) = true) (hi:(P.info? ty).map (·.size) = some cs.size) (hu2:P.underlying ty2 = some d2) (hd2:(match d2 with | .struct _ | .array _ _=>true | _=>false) = true) (hi2:(P.info? ty2).map (·.size) = some cs2.size) :
  (results fn tmps).run P w = .ok (.tuple #[.agg cs,.agg cs2,v]) w:=by
 have hp':tmps[p]?.getD undef = .pointer (some ⟨g,0,none⟩):=by simpa using hp
 have hq':tmps[q]?.getD undef = .pointer (some ⟨g2,0,none⟩):=by simpa using hq
 have hv':tmps[u]?.getD undef = v:=by simpa using hv
 simp [results,h,hp',hq',hv',asAddr,run_loadVar_row w g t ty cs fr d hg hu hd hi,run_loadVar_row w g2 t2 ty2 cs2 fr2 d2 hg2 hu2 hd2 hi2]
theorem Fresh.two {T T1 T2:TypeId} {B g1 g2:Nat} {w w':World} {q:Option Addr} {n c:Nat} {xs:List UInt8} {o1 o2:Array Value} {f1 f2:Nat × Nat} (h:Fresh T B w q n c xs) (hE:TwoE w g1 g2 w') (h1:w.heap[g1]? = some (.cells o1 T1 f1)) (h2:w.heap[g2]? = some (.cells o2 T2 f2)) (n1:T1≠T) (n2:T2≠T):Fresh T B w' q n c xs:=by
 have hd:∀ a,q = some a→a.block≠g1∧a.block≠g2:=fun a ha=>by
  obtain ⟨cs,fr,e⟩:=h.ty a ha
  refine ⟨fun e1=>?_,fun e1=>?_⟩
  ·rw [e1,h1] at e;injection e with e;injection e with _ e _;exact n1 e
  ·rw [e1,h2] at e;injection e with e;injection e with _ e _;exact n2 e
 refine ⟨⟨h.sl.len,h.sl.le,h.sl.max,h.sl.nil,fun i hi=>?_⟩,h.new,fun a ha=>?_⟩
 ·obtain ⟨b,o,e,hc⟩:=h.sl.rs i hi
  exact ⟨b,o,e,hE.cell (hd _ e).1 (hd _ e).2 hc⟩
 ·obtain ⟨cs,fr,e⟩:=h.ty a ha
  exact ⟨cs,fr,(hE.block _ (hd a ha).1 (hd a ha).2).trans e⟩
structure IsRow (w:World) (g:Nat) (cs:Array Value) (w':World):Prop where
 eq:w' = w.setRow g cs
theorem wpList_store_rowS {P:Program} {ops:Array Oper} {rest:List Oper} {o:Oper} {a:Act} {w:World} {Q:Exit→Act→World→Prop} (hgd:o.guard = none) (ty:TypeId) (x y:Operand) (ho:o.op = .store ty x y)
  (g:Nat) (cells:Array Value) (hx:a.eval x = .pointer (some ⟨g,0,none⟩)) (hy:a.eval y = .agg cells)
  (t:TypeId) (old:Array Value) (hg:w.heap[g]? = some (.cells old t (0,0))) (hi:(P.info? ty).map (·.size) = some cells.size)
  (hold:old.size = cells.size) (h1:cells.all (·.oneCell') = true)
  (h:∀ w',IsRow w g cells w'→wpList P ops Q rest (a.put o.dst undef) w'):wpList P ops Q (o :: rest) a w :=
 wpList_store_row hgd ty x y ho g cells hx hy t old hg hi hold h1 (h _ ⟨rfl⟩)
theorem ownsMap_keep {P:Program} {k:TypeId} {R:Value→Option (DataW Unit × List MemPlace)} {w w':World} {b n:Nat} {D:DataW Unit} (h:w.ownsMap P k R b n D) (hb:Below w.heap.size w w'):w'.ownsMap P k R b n D:=by
 have hlt:=h.lt
 obtain ⟨es,clock,h1,F,hs,hD⟩:=h
 exact ⟨es,clock,(hb.block _ hlt).trans h1,F,hs,hD⟩
theorem run_makeMapN {P:Program} {t k e:TypeId} (ht:P.underlying t = some (.map k e)) (x:Int) (w:World):(Instr.makeMap t (some (.int .i64 x))).run P w = .ok (.map (some w.heap.size)) (w.alloc (.map #[] 0)):=by
 simp [Instr.makeMap,run_underlying ht,asInt,asIntOf]
theorem ownsMap_size {P:Program} {k:TypeId} {R:Value→Option (DataW Unit × List MemPlace)} {w:World} {b n:Nat} {D:DataW Unit} (h:w.ownsMap P k R b n D):Maps.size D≤n:=by
 obtain ⟨es,clock,h1,F,hs,rfl⟩:=h
 simpa [Maps.size,length_sorted] using hs
end Go.By
namespace Go.Proofs.YtccaiiigdfieoaaGreatDoor
open Go.RowKit Go.By Go.Maps
theorem zeroI (W:World):(zeroValue 3).run Tryz.prog W = .ok (.int .i64 0) W:=by simp [Tryz.underlying3]
theorem keyE (k t D:Nat) (xs:List UInt8):keyOf Tryz.prog 35 (.int .i64 (readC k t D xs)) = some (.int .i64 (readC k t D xs)):=by
 refine keyOf_int_mk Tryz.underlying35 ?_
 rcases readC_cases k t D xs with h | h | h | h | h | h | h <;> rw [h] <;> decide
def PkC (w:World) (B k t D:Nat) (xs:List UInt8) (v0 v1 v2 v3 v4 v5 v6:Value):Prop :=
 (v0.oneCell' = true∧v1.oneCell' = true∧v2.oneCell' = true∧v3.oneCell' = true∧v4.oneCell' = true∧v5.oneCell' = true∧v6.oneCell' = true) ∧
 (readC k t D xs = 0→∃ q n c q2 n2 c2,v0 = B8 (pktM xs)∧v1 = .int .u32 (D:Nat)∧v2 = .int .u32 (pktN xs:Nat)∧v3 = B8 (pktM xs)∧v4 = .slice q n c∧v5 = .int .u64 (pktS k xs:Nat)∧v6 = .slice q2 n2 c2∧Fresh 5 B w q n c (pktX k xs)∧Fresh 5 B w q2 n2 c2 (pktY k t xs))
theorem PkC.keep {w w':World} {B k t D:Nat} {xs:List UInt8} {v0 v1 v2 v3 v4 v5 v6:Value} (h:PkC w B k t D xs v0 v1 v2 v3 v4 v5 v6) (hb:Below w.heap.size w w'):PkC w' B k t D xs v0 v1 v2 v3 v4 v5 v6 :=
 ⟨h.1,fun hc=>by obtain ⟨q,n,c,q2,n2,c2,e0,e1,e2,e3,e4,e5,e6,f1,f2⟩:=h.2 hc;exact ⟨q,n,c,q2,n2,c2,e0,e1,e2,e3,e4,e5,e6,f1.keep hb,f2.keep hb⟩⟩
theorem PkC.mono {w:World} {B B' k t D:Nat} {xs:List UInt8} {v0 v1 v2 v3 v4 v5 v6:Value} (h:PkC w B k t D xs v0 v1 v2 v3 v4 v5 v6) (hb:B'≤B):PkC w B' k t D xs v0 v1 v2 v3 v4 v5 v6 :=
 ⟨h.1,fun hc=>by obtain ⟨q,n,c,q2,n2,c2,e0,e1,e2,e3,e4,e5,e6,f1,f2⟩:=h.2 hc;exact ⟨q,n,c,q2,n2,c2,e0,e1,e2,e3,e4,e5,e6,f1.mono hb,f2.mono hb⟩⟩
theorem PkC.row {w:World} {B k t D:Nat} {xs:List UInt8} {v0 v1 v2 v3 v4 v5 v6:Value} (h:PkC w B k t D xs v0 v1 v2 v3 v4 v5 v6) {T g:Nat} {cs old:Array Value} {fr:Nat × Nat} (hg:w.heap[g]? = some (.cells old T fr)) (hne:T≠5):PkC (w.setRow g cs) B k t D xs v0 v1 v2 v3 v4 v5 v6 :=
 ⟨h.1,fun hc=>by obtain ⟨q,n,c,q2,n2,c2,e0,e1,e2,e3,e4,e5,e6,f1,f2⟩:=h.2 hc;exact ⟨q,n,c,q2,n2,c2,e0,e1,e2,e3,e4,e5,e6,f1.row hg hne,f2.row hg hne⟩⟩
theorem PkC.two {w w':World} {B k t D:Nat} {xs:List UInt8} {v0 v1 v2 v3 v4 v5 v6:Value} (h:PkC w B k t D xs v0 v1 v2 v3 v4 v5 v6) {T1 T2 g1 g2:Nat} {o1 o2:Array Value} {f1 f2:Nat × Nat} (hE:TwoE w g1 g2 w') (h1:w.heap[g1]? = some (.cells o1 T1 f1)) (h2:w.heap[g2]? = some (.cells o2 T2 f2)) (n1:T1≠5) (n2:T2≠5):PkC w' B k t D xs v0 v1 v2 v3 v4 v5 v6 :=
 ⟨h.1,fun hc=>by obtain ⟨q,n,c,q2,n2',c2,e0,e1,e2,e3,e4,e5,e6,f1,f2⟩:=h.2 hc;exact ⟨q,n,c,q2,n2',c2,e0,e1,e2,e3,e4,e5,e6,f1.two hE h1 h2 n1 n2,f2.two hE h1 h2 n1 n2⟩⟩
theorem gate_ne:111≠5:=by decide
theorem getN_put {C:DataW Unit} (hC:IsMap C) {e:Int} (hk:WideAt.IsKeyLit (.int .i64 e)) (c x:Int):getN (C.put (.int .i64 e) (.lit (.int .i64 c))) x = if x = e then c else getN C x:=by
 by_cases h:x = e
 ·subst h
  rw [if_pos rfl]
  unfold getN
  rw [atKey_put_same hC hk]
 ·rw [if_neg h]
  unfold getN
  rw [atKey_put_other (fun e1=>h (by injection e1))]
theorem PRead_gen (L t k D:Nat) (p:Option Addr) (n c:Nat) (xs:List UInt8) (w:World) (hP:POK L t k D) (hT:HalfT w) (h:Sl B8 w p n c xs) (hr:Room n) :
  Calls Tryz.prog 111 #[PVal L t k D,.slice p n c] w fun e w'=>∃ v0 v1 v2 v3 v4 v5 v6,e = .returned (.tuple #[.agg #[v0,v1,v2,v3,v4,v5,v6],.int .i64 (readC k t D xs)])∧PkC w' w.heap.size k t D xs v0 v1 v2 v3 v4 v5 v6∧Below w.heap.size w w':=by
 refine Calls.mono (PRead_any L t k D p n c xs w hP hT h hr) ?_
 intro e w' he
 by_cases hc:readC k t D xs = 0
 ·rw [if_pos hc] at he
  obtain ⟨q,n,c,q2,n2,c2,rfl,f1,f2,hb⟩:=he
  rw [hc]
  exact ⟨_,_,_,_,_,_,_,rfl,⟨⟨rfl,rfl,rfl,rfl,rfl,rfl,rfl⟩,fun _=>⟨q,n,c,q2,n2,c2,rfl,rfl,rfl,rfl,rfl,rfl,rfl,f1,f2⟩⟩,hb⟩
 ·rw [if_neg hc] at he
  obtain ⟨rfl,hb⟩:=he
  exact ⟨_,_,_,_,_,_,_,rfl,⟨⟨rfl,rfl,rfl,rfl,rfl,rfl,rfl⟩,fun h=>absurd h hc⟩,hb⟩
set_option maxRecDepth 100000 in
set_option maxHeartbeats 4000000 in
theorem GLook_own (L t k D b N:Nat) (C:DataW Unit) (p:Option Addr) (n c:Nat) (xs:List UInt8) (w:World) (hP:POK L t k D) (hT:HalfT w) (ho:w.ownsMap Tryz.prog 35 (plainElem Tryz.prog 3) b N C) (hsm:∀ x,0≤getN C x∧getN C x≤N) (hN:N < 1000000) (h:Sl B8 w p n c xs) (hr:Room n) :
  Calls Tryz.prog 62 #[GVal L t k D (.map (some b)),.slice p n c] w fun e w'=>∃ b2 v0 v1 v2 v3 v4 v5 v6,e = .returned (.tuple #[GVal L t k D (.map (some b2)),.agg #[v0,v1,v2,v3,v4,v5,v6],.int .i64 (readC k t D xs)]) ∧
   CntM w' (.map (some b2)) (N + 1) (C.put (.int .i64 (readC k t D xs)) (.lit (.int .i64 (getN C (readC k t D xs) + 1))))∧PkC w' w.heap.size k t D xs v0 v1 v2 v3 v4 v5 v6∧Below w.heap.size w w':=by
 have HR:Hid (∀ w,HalfT w→Sl B8 w p n c xs→Calls Tryz.prog 111 #[PVal L t k D,.slice p n c] w fun e w'=>∃ v0 v1 v2 v3 v4 v5 v6,e = .returned (.tuple #[.agg #[v0,v1,v2,v3,v4,v5,v6],.int .i64 (readC k t D xs)])∧PkC w' w.heap.size k t D xs v0 v1 v2 v3 v4 v5 v6∧Below w.heap.size w w'):=fun w hT h=>PRead_gen L t k D p n c xs w hP hT h hr
 have H:=Lib.hid h
 have HT:=Lib.hid hT
 have HM:=Lib.hid ho
 have HSm:=Lib.hid hsm
 clear hP h hr hT ho hsm
 generalize hE:readC k t D xs = E at *
 have HE:=Lib.hid hE
 clear hE
 go_enter Tryz.func62,Tryz.ntmps62
 go_wp2_with fail
 refine Calls.mono (HR.out _ (HT.out.keep (by exact al (al (al (Below.refl _ _) (Nat.le_refl _)) (by simp)) (by simp;omega))) (H.out.keep (by exact al (al (al (Below.refl _ _) (Nat.le_refl _)) (by simp)) (by simp;omega)))) ?_
 rintro e w1 ⟨v0,v1,v2,v3,v4,v5,v6,rfl,hpk,hb⟩
 obtain ⟨hb1,h1,h2,h3,hs⟩:=three_of hb
 have HB:=Lib.hid hb1
 have HPk:=Lib.hid (hpk.mono (B':=w.heap.size) (by simp;omega))
 obtain ⟨o0,o1,o2,o3,o4,o5,o6⟩:=hpk.1
 obtain ⟨c0,c1,c2,c3,c4⟩:=cells_five h1
 have d4:∀ o',(w1.alloc o').cell? ⟨w.heap.size,4,none⟩ = _:=fun _=>calloc c4
 clear hb hb1 hpk
 go_wp2_with (refine wpList_store_rowS (o:=⟨none,.store 122 (.tmp 7) (.tmp 17),_,_,_,_⟩) rfl 122 (.tmp 7) (.tmp 17) rfl w1.heap.size #[v0,v1,v2,v3,v4,v5,v6] rfl rfl _ _ (hnew rfl) info_packet rfl (by simp [o0,o1,o2,o3,o4,o5,o6]) ?_)
 intro w2 hr2
 have HB2:Hid (Below w.heap.size w w2):=by rw [hr2.eq];exact below_row (al HB.out HB.out.size) HB.out.size
 have h1':w2.heap[w.heap.size]? = some (.cells #[.int .i64 (L:Nat),.int .i64 (t:Nat),.int .i64 (k:Nat),.int .u32 (D:Nat),.map (some b)] 111 (0,0)):=by rw [hr2.eq];exact hro (hal h1) (by omega)
 have h2':w2.heap[w.heap.size + 1]? = some (.cells #[.int .i64 0,.int .i64 0,.int .i64 0,.int .u32 0,.map none] 111 (0,0)):=by rw [hr2.eq];exact hro (hal h2) (by omega)
 have h3':w2.heap[w.heap.size + 2]? = some (.cells #[.int .u8 0,.int .u32 0,.int .u32 0,.int .u8 0,.slice none 0 0,.int .u64 0,.slice none 0 0] 122 (0,0)):=by rw [hr2.eq];exact hro (hal h3) (by omega)
 have h7:w2.heap[w1.heap.size]? = some (.cells #[v0,v1,v2,v3,v4,v5,v6] 122 (0,0)):=by rw [hr2.eq];exact hrs (hnew rfl)
 have HPk2:Hid (PkC w2 w.heap.size k t D xs v0 v1 v2 v3 v4 v5 v6):=by rw [hr2.eq];exact (HPk.out.keep (al (Below.refl _ _) (Nat.le_refl _))).row (hnew rfl) pkt_ne
 have HM2:=Lib.hid (ownsMap_keep HM.out HB2.out)
 have hs2:w1.heap.size + 1≤w2.heap.size:=by rw [hr2.eq];simp [World.setRow]
 clear hr2 h1 h2 h3 c0 c1 c2 c3 c4 d4
 generalize hG7:w1.heap.size = g7 at *
 have HG7:Hid (w.heap.size + 3≤g7):=hs
 clear hG7
 obtain ⟨c0,c1,c2,c3,c4⟩:=cells_five h1'
 have hmk:=fun x=>run_makeMapN (P:=Tryz.prog) Tryz.underlying109 x w2
 have d4:∀ o',(w2.alloc o').cell? ⟨w.heap.size,4,none⟩ = some (.map (some b)):=fun _=>calloc c4
 go_wp2_with (first | (at_len;refine wpList_len_own _ rfl _ 109 rfl 35 3 Tryz.underlying109 _ b N C rfl HM2.out ?_) | (at_range;refine wpList_range_own _ rfl _ 109 rfl 35 3 keyedG Tryz.underlying109 _ b N C rfl (HM2.out.alloc _) ?_))
 intro w3 hrg hg3 hs3
 try go_frame
 have SC:Maps.size C≤N:=ownsMap_size HM2.out
 have hbl:b < w2.heap.size:=HM2.out.lt
 obtain ⟨b2,hb2⟩:∃ b2,b2 = w2.heap.size:=⟨_,rfl⟩
 have hm0:(w2.alloc (.map #[] 0)).ownsMap Tryz.prog 35 (plainElem Tryz.prog 3) b2 0 (.map []:DataW Unit):=by rw [hb2];exact World.ownsMap_made _ _ _ _
 rw [← hb2] at hrg hs3 ⊢
 have HRG:=Lib.hid hrg
 have HM3:=Lib.hid (hm0.kept hg3 (by simp))
 have HBL:Hid (b < b2):=by rw [hb2];exact hbl
 have HB3:Hid (Below w2.heap.size w2 w3):=(al (Below.refl _ _) (Nat.le_refl _)).grown hg3 (by simp) (fun r hr'=>by cases hr')
 have HZ:Hid (b2 = w2.heap.size):=hb2
 have HSC:Hid (Maps.size C≤N):=SC
 clear hrg hm0 hbl hg3 hs3 hmk d4 SC hb2 c0 c1 c2 c3 c4
 go_wp2_with fail
 go_loopw [10] (fun _ wr=>∃ left cnt j C2,Hid (wr.ranges Tryz.prog 35 (plainElem Tryz.prog 3) b (b2 + 1) N C left cnt)∧Hid (wr.ownsMap Tryz.prog 35 (plainElem Tryz.prog 3) b2 j C2)∧Hid (Agree C2 C left)∧Hid (j + cnt≤N)∧Hid (Below w2.heap.size w2 wr)) (fun _ wr=>wr.rangeLeft b (b2 + 1))
 case atStart=>exact ⟨_,_,0,_,HRG.out,HM3.out,agree_start C,by rw [Nat.zero_add];exact HSC.out,HB3.out⟩
 case round =>
  clear HRG HM3 HB3
  obtain ⟨left,cnt,j,C2,R1,R2,R3,R4,R5⟩:=hrel
  go_wp2_with (at_next;refine wpList_next_ranges_ii _ rfl _ rfl 35 3 .i64 .i64 keyedG Tryz.underlying35 Tryz.underlying3 b (b2 + 1) N _ _ _ rfl R1.out ?_ ?_)
  ·intro hc0 hl0
   have eC:C2 = C:=agree_end R3.out hl0 (R2.out.canon keyedG) (R1.out.owns.canon keyedG)
   subst eC
   have HJ:Hid (j≤N):=by have:=R4.out;show j≤N;omega
   have hkE:=keyE k t D xs
   rw [HE.out] at hkE
   have HKE:=Lib.hid hkE
   have HBW:=Lib.hid (bl HB2.out R5.out HB2.out.size)
   have q1:=(R5.out.block _ (by have:=lt_of_block h1';omega)).trans h1'
   have q2:=(R5.out.block _ (by have:=lt_of_block h2';omega)).trans h2'
   have q3:=(R5.out.block _ (by have:=lt_of_block h3';omega)).trans h3'
   have q7:=(R5.out.block _ (by have:=lt_of_block h7;omega)).trans h7
   have HPk3:=Lib.hid (HPk2.out.keep R5.out)
   have HL2:Hid (g7 < w2.heap.size):=lt_of_block h7
   clear h1' h2' h3' h7 hc0 hl0 R1 R3 R4 hkE
   go_wp2_with (first | (at_lookup;refine wpList_lookup_own_int _ rfl _ _ 109 rfl 35 3 .i64 keyedG Tryz.underlying109 Tryz.underlying3 (zeroI _) b2 j _ rfl R2.out _ _ rfl HKE.out ?_) | (at_mapUpdate;fail) | fail)
   intro cc hat hwc
   have eN:cc = getN C2 E:=by unfold getN;rw [hat]
   have hsmE:=HSm.out E
   rw [← eN] at hsmE
   have ec:wrap64 (cc + 1) = cc + 1:=by unfold wrap64;omega
   have hw1:(Lit.int .i64 (cc + 1)).wf = true:=by simp [Lit.wf,IntKind.min,IntKind.max,IntKind.signed,IntKind.bits];omega
   have HEN:=Lib.hid eN
   clear hat eN
   go_wp2_with (first | (at_mapUpdate;refine wpList_mapUpdate_own _ rfl _ _ _ 109 rfl 35 3 keyedG Tryz.underlying109 (plainElem Tryz.prog 3) b2 j C2 rfl R2.out (by have:=HJ.out;unfold maxLen;omega) _ _ (.int .i64 E) rfl rfl HKE.out (.lit (.int .i64 (cc + 1))) [] (plainElem_int Tryz.underlying3 hw1) ?_) | fail)
   intro w5 hown5 hg5
   have HO5:=Lib.hid hown5
   have HSZ2:=HZ.out
   have B5:=R5.out.grown hg5 R5.out.size (fun r hr=>by cases hr;omega)
   have hx5:=B5.size
   have HB5:=Lib.hid (bl HB2.out B5 HB2.out.size)
   have p1:=(hg5.block _ (lt_of_block q1) (by have:=HL2.out;have:=HG7.out;simp;omega)).trans q1
   have p2:=(hg5.block _ (lt_of_block q2) (by have:=HL2.out;have:=HG7.out;simp;omega)).trans q2
   have p3:=(hg5.block _ (lt_of_block q3) (by have:=HL2.out;have:=HG7.out;simp;omega)).trans q3
   have p7:=(hg5.block _ (lt_of_block q7) (by have:=HL2.out;simp;omega)).trans q7
   have HPk5:=Lib.hid (HPk2.out.keep B5)
   have HE1:=Lib.hid ec
   have hne7:g7≠w.heap.size + 1∧g7≠w.heap.size + 2:=by have:=HG7.out;omega
   clear hown5 hg5 B5 q1 q2 q3 q7 ec hw1 hsmE hwc HSZ2 hx5
   obtain ⟨c0,c1,c2,c3,c4⟩:=cells_five p1
   obtain ⟨e0,e1,e2,e3,e4,e5,e6⟩:=cells_seven p7
   go_wp2_with fail
   refine wp_region_pair (fun ix=>([.pointer (some ⟨w.heap.size,0,none⟩),PVal L t k D,.map (some b2),.agg #[.int .i64 (L:Nat),.int .i64 (t:Nat),.int .i64 (k:Nat),.int .u32 (D:Nat),.map (some b2)],.agg #[v0,v1,v2,v3,v4,v5,v6],.int .i64 E,undef,undef,.int .i64 E][ix]?).getD undef) 45 6 7 (w.heap.size + 1) (w.heap.size + 1 + 1) 111 122 #[.int .i64 (L:Nat),.int .i64 (t:Nat),.int .i64 (k:Nat),.int .u32 (D:Nat),.map (some b2)] #[v0,v1,v2,v3,v4,v5,v6] rfl (by kernel_rfl) (by decide) (by decide) (by decide) (by decide) (by omega) ⟨_,p2,rfl⟩ ⟨_,p3,rfl⟩ ?_ ?_ ?_ (by decide) (by decide) ?_
   ·intro i o h1 h2 ho a W hE hs hp hi
    match i,h1,h2,ho with
    | 0,_,_,ho =>
     simp at ho;subst ho
     have t2:sl a 2 = .pointer (some ⟨w.heap.size,0,none⟩):=hi 2 (by decide)
     simp only [execOp,eval_tmp,t2];simp [go_sem]
    | 1,_,_,ho =>
     simp at ho;subst ho
     have t39:sl a 39 = .pointer (some ⟨w.heap.size,0,none⟩):=hp 0 39 (by decide) (by decide) (by decide) rfl
     have f0:=hE.cell (by omega) (by omega) c0;have f1:=hE.cell (by omega) (by omega) c1;have f2:=hE.cell (by omega) (by omega) c2;have f3:=hE.cell (by omega) (by omega) c3
     simp only [execOp,eval_tmp,t39];simp [go_sem,f0,f1,f2,f3]
    | 2,_,_,ho =>
     simp at ho;subst ho
     have t9:sl a 9 = .map (some b2):=hi 9 (by decide)
     simp only [execOp,eval_tmp,t9];rfl
    | 3,_,_,ho =>
     simp at ho;subst ho
     have t40:sl a 40 = PVal L t k D:=hp 1 40 (by decide) (by decide) (by decide) rfl
     have t41:sl a 41 = .map (some b2):=hp 2 41 (by decide) (by decide) (by decide) rfl
     have u40:a.tmps[40]?.getD undef = sl a 40:=by simp [sl]
     have u41:a.tmps[41]?.getD undef = sl a 41:=by simp [sl]
     rw [t40] at u40;rw [t41] at u41
     simp only [execOp,eval_tmp,t40,t41];simp [go_sem,u40,u41,Tryz.underlying111,Tryz.underlying27]
    | 4,_,_,ho =>
     simp at ho;subst ho
     have t7:sl a 7 = .pointer (some ⟨g7,0,none⟩):=hi 7 (by decide)
     have f0:=hE.cell hne7.1 hne7.2 e0;have f1:=hE.cell hne7.1 hne7.2 e1;have f2:=hE.cell hne7.1 hne7.2 e2;have f3:=hE.cell hne7.1 hne7.2 e3;have f4:=hE.cell hne7.1 hne7.2 e4;have f5:=hE.cell hne7.1 hne7.2 e5;have f6:=hE.cell hne7.1 hne7.2 e6
     simp only [execOp,eval_tmp,t7];simp [go_sem,f0,f1,f2,f3,f4,f5,f6]
    | 5,_,_,ho =>
     simp at ho;subst ho
     have t8:sl a 8 = .int .i64 E:=hi 8 (by decide)
     simp only [execOp,eval_tmp,t8];rfl
    | 8,_,_,ho =>
     simp at ho;subst ho
     have t44:sl a 44 = .int .i64 E:=hp 5 44 (by decide) (by decide) (by decide) rfl
     simp only [execOp,eval_tmp,t44];rfl
    | 6,h,_,_=>exact absurd rfl h
    | 7,_,h,_=>exact absurd rfl h
    | j + 9,_,_,ho=>simp at ho
   ·intro o ho a W hE hs hp hi old hold hsz
    simp at ho;subst ho
    have t4:sl a 4 = .pointer (some ⟨w.heap.size + 1,0,none⟩):=hi 4 (by decide)
    have t42:sl a 42 = .agg #[.int .i64 (L:Nat),.int .i64 (t:Nat),.int .i64 (k:Nat),.int .u32 (D:Nat),.map (some b2)]:=hp 3 42 (by decide) (by decide) (by decide) rfl
    exact wp_store_row 111 (.tmp 4) (.tmp 42) rfl (w.heap.size + 1) #[.int .i64 (L:Nat),.int .i64 (t:Nat),.int .i64 (k:Nat),.int .u32 (D:Nat),.map (some b2)] (by rw [eval_tmp];exact t4) (by rw [eval_tmp];exact t42) _ old hold info_gate hsz (by simp [Value.oneCell']) ⟨rfl,rfl⟩
   ·intro o ho a W hE hs hp hi old hold hsz
    simp at ho;subst ho
    have t5:sl a 5 = .pointer (some ⟨w.heap.size + 1 + 1,0,none⟩):=hi 5 (by decide)
    have t43:sl a 43 = .agg #[v0,v1,v2,v3,v4,v5,v6]:=hp 4 43 (by decide) (by decide) (by decide) rfl
    exact wp_store_row 122 (.tmp 5) (.tmp 43) rfl (w.heap.size + 1 + 1) #[v0,v1,v2,v3,v4,v5,v6] (by rw [eval_tmp];exact t5) (by rw [eval_tmp];exact t43) _ old hold info_packet hsz (by simp [o0,o1,o2,o3,o4,o5,o6]) ⟨rfl,rfl⟩
   ·intro a W hE i1 i2 hs hd hI ht
    have ha:=act_is [39,40,41,42,43,44,6] hs hd ht (by decide)
    have t6:sl a 6 = .int .i64 E:=hI 8 6 (by decide) (by decide) (by decide) rfl
    simp only [List.foldl,t6] at ha
    generalize sl a 39 = u39 at ha
    generalize sl a 40 = u40 at ha
    generalize sl a 41 = u41 at ha
    generalize sl a 42 = u42 at ha
    generalize sl a 43 = u43 at ha
    generalize sl a 44 = u44 at ha
    simp only [Act.put,List.setIfInBounds_toArray,List.set_cons_zero,List.set_cons_succ] at ha
    rw [ha]
    clear ha hI ht hs hd t6 c0 c1 c2 c3 c4 e0 e1 e2 e3 e4 e5 e6
    have hW:=hE.size
    have HO6:Hid (W.ownsMap Tryz.prog 35 (plainElem Tryz.prog 3) b2 (j + 1) (C2.put (.int .i64 E) (.lit (.int .i64 (cc + 1))))):=by
     obtain ⟨es,clock,m1,F,m2,m3⟩:=HO5.out
     exact ⟨es,clock,(hE.block b2 (by have:=HL2.out;have:=HG7.out;have:=HZ.out;omega) (by have:=HL2.out;have:=HG7.out;have:=HZ.out;omega)).trans m1,F,m2,m3⟩
    have HPk6:=Lib.hid (HPk5.out.two hE p2 p3 gate_ne pkt_ne)
    have HB6:Hid (Below w.heap.size w W):=HB5.out.trans (hE.below (by omega) (by omega))
    have HMp:Hid (IsMap C2):=R2.out.isMap
    clear hE p1 p2 p3 p7 hW
    go_wp2
    refine bodyPost_ret (res_cct rfl _ _ _ _ 111 122 #[.int .i64 (L:Nat),.int .i64 (t:Nat),.int .i64 (k:Nat),.int .u32 (D:Nat),.map (some b2)] #[v0,v1,v2,v3,v4,v5,v6] (0,0) (0,0) _ _ (.int .i64 E) rfl i1 rfl i2 rfl Tryz.underlying111 rfl info_gate Tryz.underlying122 rfl info_packet) rfl ?_
    refine ⟨b2,v0,v1,v2,v3,v4,v5,v6,rfl,⟨.inr ⟨b2,rfl,?_⟩,fun x=>?_⟩,HPk6.out,HB6.out⟩
    ·rw [← HEN.out]
     exact HO6.out.mono (by have:=HJ.out;omega)
    ·rw [getN_put HMp.out (keyedG.key HKE.out),← HEN.out]
     have g1:=HSm.out x
     have g2:=HSm.out E
     rw [← HEN.out] at g2
     split <;> omega
  ·intro x cc w4 cnt4 hwx hwc hlx hat hrg4 hlt hg4 hs4 hen
   have R2':=Lib.hid (R2.out.kept hg4 (by simp))
   have RG4:=Lib.hid hrg4
   have HAT:=Lib.hid hat
   have hkx:=keyOf_int_mk (P:=Tryz.prog) Tryz.underlying35 hwx
   have HJ:Hid (j < maxLen):=by have:=R4.out;show j < maxLen;unfold maxLen;omega
   have R5':=Lib.hid (R5.out.grown hg4 R5.out.size (fun r hr=>by have:=HZ.out;cases hr;omega))
   clear hrg4 hat hg4 hlx
   go_wp2_with (first | (at_mapUpdate;refine wpList_mapUpdate_own _ rfl _ _ _ 109 rfl 35 3 keyedG Tryz.underlying109 (plainElem Tryz.prog 3) b2 j C2 rfl R2'.out HJ.out _ _ (.int .i64 x) rfl rfl hkx (.lit (.int .i64 cc)) [] (plainElem_int Tryz.underlying3 hwc) ?_) | fail)
   intro w5 hown5 hg5
   have HO5:=Lib.hid hown5
   have RG5:=Lib.hid (RG4.out.kept hg5 (by have:=HBL.out;simp;omega) (by simp))
   have R5'':=Lib.hid (R5'.out.grown hg5 R5'.out.size (fun r hr=>by have:=HZ.out;cases hr;omega))
   have A5:=Lib.hid (agree_step R3.out R2.out.isMap (keyedG.key hkx) HAT.out)
   clear hown5 hg5 hen
   go_wp2
   go_roundw
   case rel=>exact ⟨_,cnt4,j + 1,_,RG5.out,HO5.out,A5.out,by have:=R4.out;show j + 1 + cnt4≤N;omega,R5''.out⟩
   case measure=>rw [RG5.out.left_eq,R1.out.left_eq];omega
end Go.Proofs.YtccaiiigdfieoaaGreatDoor
namespace Go.Proofs.YtccaiiigdfieoaaGreatDoor
open Go.RowKit Go.By Go.Maps
set_option maxRecDepth 100000 in
set_option maxHeartbeats 4000000 in
theorem GLook_nil (L t k D:Nat) (p:Option Addr) (n c:Nat) (xs:List UInt8) (w:World) (hP:POK L t k D) (hT:HalfT w) (h:Sl B8 w p n c xs) (hr:Room n) :
  Calls Tryz.prog 62 #[GVal L t k D (.map none),.slice p n c] w fun e w'=>∃ b2 v0 v1 v2 v3 v4 v5 v6,e = .returned (.tuple #[GVal L t k D (.map (some b2)),.agg #[v0,v1,v2,v3,v4,v5,v6],.int .i64 (readC k t D xs)]) ∧
   CntM w' (.map (some b2)) 1 ((DataW.map []:DataW Unit).put (.int .i64 (readC k t D xs)) (.lit (.int .i64 (getN (.map []) (readC k t D xs) + 1))))∧PkC w' w.heap.size k t D xs v0 v1 v2 v3 v4 v5 v6∧Below w.heap.size w w':=by
 have HR:Hid (∀ w,HalfT w→Sl B8 w p n c xs→Calls Tryz.prog 111 #[PVal L t k D,.slice p n c] w fun e w'=>∃ v0 v1 v2 v3 v4 v5 v6,e = .returned (.tuple #[.agg #[v0,v1,v2,v3,v4,v5,v6],.int .i64 (readC k t D xs)])∧PkC w' w.heap.size k t D xs v0 v1 v2 v3 v4 v5 v6∧Below w.heap.size w w'):=fun w hT h=>PRead_gen L t k D p n c xs w hP hT h hr
 have H:=Lib.hid h
 have HT:=Lib.hid hT
 clear hP h hr hT
 generalize hE:readC k t D xs = E at *
 have HE:=Lib.hid hE
 clear hE
 obtain ⟨C2,hC2⟩:∃ C2:DataW Unit,C2 = .map []:=⟨_,rfl⟩
 have HSm:Hid (∀ x,0≤getN C2 x∧getN C2 x≤0):=fun x=>by rw [hC2];exact ⟨Int.le_refl _,Int.le_refl _⟩
 rw [← hC2]
 have HC2:=Lib.hid hC2
 clear hC2
 go_enter Tryz.func62,Tryz.ntmps62
 go_wp2_with fail
 refine Calls.mono (HR.out _ (HT.out.keep (by exact al (al (al (Below.refl _ _) (Nat.le_refl _)) (by simp)) (by simp;omega))) (H.out.keep (by exact al (al (al (Below.refl _ _) (Nat.le_refl _)) (by simp)) (by simp;omega)))) ?_
 rintro e w1 ⟨v0,v1,v2,v3,v4,v5,v6,rfl,hpk,hb⟩
 obtain ⟨hb1,h1,h2,h3,hs⟩:=three_of hb
 have HB:=Lib.hid hb1
 have HPk:=Lib.hid (hpk.mono (B':=w.heap.size) (by simp;omega))
 obtain ⟨o0,o1,o2,o3,o4,o5,o6⟩:=hpk.1
 obtain ⟨c0,c1,c2,c3,c4⟩:=cells_five h1
 have d4:∀ o',(w1.alloc o').cell? ⟨w.heap.size,4,none⟩ = _:=fun _=>calloc c4
 clear hb hb1 hpk
 go_wp2_with (refine wpList_store_rowS (o:=⟨none,.store 122 (.tmp 7) (.tmp 17),_,_,_,_⟩) rfl 122 (.tmp 7) (.tmp 17) rfl w1.heap.size #[v0,v1,v2,v3,v4,v5,v6] rfl rfl _ _ (hnew rfl) info_packet rfl (by simp [o0,o1,o2,o3,o4,o5,o6]) ?_)
 intro w2 hr2
 have HB2:Hid (Below w.heap.size w w2):=by rw [hr2.eq];exact below_row (al HB.out HB.out.size) HB.out.size
 have h1':w2.heap[w.heap.size]? = some (.cells #[.int .i64 (L:Nat),.int .i64 (t:Nat),.int .i64 (k:Nat),.int .u32 (D:Nat),.map none] 111 (0,0)):=by rw [hr2.eq];exact hro (hal h1) (by omega)
 have h2':w2.heap[w.heap.size + 1]? = some (.cells #[.int .i64 0,.int .i64 0,.int .i64 0,.int .u32 0,.map none] 111 (0,0)):=by rw [hr2.eq];exact hro (hal h2) (by omega)
 have h3':w2.heap[w.heap.size + 2]? = some (.cells #[.int .u8 0,.int .u32 0,.int .u32 0,.int .u8 0,.slice none 0 0,.int .u64 0,.slice none 0 0] 122 (0,0)):=by rw [hr2.eq];exact hro (hal h3) (by omega)
 have h7:w2.heap[w1.heap.size]? = some (.cells #[v0,v1,v2,v3,v4,v5,v6] 122 (0,0)):=by rw [hr2.eq];exact hrs (hnew rfl)
 have HPk2:Hid (PkC w2 w.heap.size k t D xs v0 v1 v2 v3 v4 v5 v6):=by rw [hr2.eq];exact (HPk.out.keep (al (Below.refl _ _) (Nat.le_refl _))).row (hnew rfl) pkt_ne
 have hs2:w1.heap.size + 1≤w2.heap.size:=by rw [hr2.eq];simp [World.setRow]
 clear hr2 h1 h2 h3 c0 c1 c2 c3 c4 d4
 generalize hG7:w1.heap.size = g7 at *
 have HG7:Hid (w.heap.size + 3≤g7):=hs
 clear hG7
 obtain ⟨c0,c1,c2,c3,c4⟩:=cells_five h1'
 have hmk:=fun x=>run_makeMapN (P:=Tryz.prog) Tryz.underlying109 x w2
 have d4:∀ o',(w2.alloc o').cell? ⟨w.heap.size,4,none⟩ = some (.map none):=fun _=>calloc c4
 have hrn:=fun W=>run_range_nilMap (P:=Tryz.prog) W 109 _ _ Tryz.underlying109
 go_wp2_with fail
 obtain ⟨b2,hb2⟩:∃ b2,b2 = w2.heap.size:=⟨_,rfl⟩
 have hm0:(w2.alloc (.map #[] 0)).ownsMap Tryz.prog 35 (plainElem Tryz.prog 3) b2 0 (.map []:DataW Unit):=by rw [hb2];exact World.ownsMap_made _ _ _ _
 have hnx:=run_next_nilMap (P:=Tryz.prog) (w2.alloc (.map #[] 0)) 0 0 0 #[]
 rw [show (w2.alloc (.map #[] 0)).heap.size = w2.heap.size + 1 by simp] at hnx
 have R2:Hid (((w2.alloc (.map #[] 0)).alloc (.mapIter none 0 #[] 0)).ownsMap Tryz.prog 35 (plainElem Tryz.prog 3) b2 0 (.map []:DataW Unit)):=hm0.alloc _
 have R5:Hid (Below w2.heap.size w2 ((w2.alloc (.map #[] 0)).alloc (.mapIter none 0 #[] 0))):=al (al (Below.refl _ _) (Nat.le_refl _)) (by simp)
 have HZ:Hid (b2 = w2.heap.size):=hb2
 rw [← hb2] at hnx ⊢
 have HNX:=Lib.hid hnx
 clear hm0 hnx hmk d4 hb2 hrn c0 c1 c2 c3 c4
 obtain ⟨W3,hW3⟩:∃ W3,W3 = (w2.alloc (.map #[] 0)).alloc (.mapIter none 0 #[] 0):=⟨_,rfl⟩
 rw [← hW3] at R2 R5 HNX ⊢
 clear hW3
 rw [← HC2.out] at R2
 go_loopw [10] (fun _ wr=>Hid (wr = W3)) (fun _ _=>0)
 case atStart=>rfl
 case round =>
   have hwr:=hrel.out
   subst hwr
   have hnx:=HNX.out
   have hkE:=keyE k t D xs
   rw [HE.out] at hkE
   have HKE:=Lib.hid hkE
   have HBW:=Lib.hid (bl HB2.out R5.out HB2.out.size)
   have q1:=(R5.out.block _ (by have:=lt_of_block h1';omega)).trans h1'
   have q2:=(R5.out.block _ (by have:=lt_of_block h2';omega)).trans h2'
   have q3:=(R5.out.block _ (by have:=lt_of_block h3';omega)).trans h3'
   have q7:=(R5.out.block _ (by have:=lt_of_block h7;omega)).trans h7
   have HPk3:=Lib.hid (HPk2.out.keep R5.out)
   have HL2:Hid (g7 < w2.heap.size):=lt_of_block h7
   clear h1' h2' h3' h7 hkE
   go_wp2_with (first | (at_lookup;refine wpList_lookup_own_int _ rfl _ _ 109 rfl 35 3 .i64 keyedG Tryz.underlying109 Tryz.underlying3 (zeroI _) b2 0 _ rfl R2.out _ _ rfl HKE.out ?_) | (at_mapUpdate;fail) | fail)
   intro cc hat hwc
   have eN:cc = getN C2 E:=by unfold getN;rw [hat]
   have hsmE:=HSm.out E
   rw [← eN] at hsmE
   have ec:wrap64 (cc + 1) = cc + 1:=by unfold wrap64;omega
   have hw1:(Lit.int .i64 (cc + 1)).wf = true:=by simp [Lit.wf,IntKind.min,IntKind.max,IntKind.signed,IntKind.bits];omega
   have HEN:=Lib.hid eN
   clear hat eN
   go_wp2_with (first | (at_mapUpdate;refine wpList_mapUpdate_own _ rfl _ _ _ 109 rfl 35 3 keyedG Tryz.underlying109 (plainElem Tryz.prog 3) b2 0 C2 rfl R2.out (by unfold maxLen;omega) _ _ (.int .i64 E) rfl rfl HKE.out (.lit (.int .i64 (cc + 1))) [] (plainElem_int Tryz.underlying3 hw1) ?_) | fail)
   intro w5 hown5 hg5
   have HO5:=Lib.hid hown5
   have HSZ2:=HZ.out
   have B5:=R5.out.grown hg5 R5.out.size (fun r hr=>by cases hr;omega)
   have hx5:=B5.size
   have HB5:=Lib.hid (bl HB2.out B5 HB2.out.size)
   have p1:=(hg5.block _ (lt_of_block q1) (by have:=HL2.out;have:=HG7.out;simp;omega)).trans q1
   have p2:=(hg5.block _ (lt_of_block q2) (by have:=HL2.out;have:=HG7.out;simp;omega)).trans q2
   have p3:=(hg5.block _ (lt_of_block q3) (by have:=HL2.out;have:=HG7.out;simp;omega)).trans q3
   have p7:=(hg5.block _ (lt_of_block q7) (by have:=HL2.out;simp;omega)).trans q7
   have HPk5:=Lib.hid (HPk2.out.keep B5)
   have HE1:=Lib.hid ec
   have hne7:g7≠w.heap.size + 1∧g7≠w.heap.size + 2:=by have:=HG7.out;omega
   clear hown5 hg5 B5 q1 q2 q3 q7 ec hw1 hsmE hwc HSZ2 hx5
   obtain ⟨c0,c1,c2,c3,c4⟩:=cells_five p1
   obtain ⟨e0,e1,e2,e3,e4,e5,e6⟩:=cells_seven p7
   go_wp2_with fail
   refine wp_region_pair (fun ix=>([.pointer (some ⟨w.heap.size,0,none⟩),PVal L t k D,.map (some b2),.agg #[.int .i64 (L:Nat),.int .i64 (t:Nat),.int .i64 (k:Nat),.int .u32 (D:Nat),.map (some b2)],.agg #[v0,v1,v2,v3,v4,v5,v6],.int .i64 E,undef,undef,.int .i64 E][ix]?).getD undef) 45 6 7 (w.heap.size + 1) (w.heap.size + 1 + 1) 111 122 #[.int .i64 (L:Nat),.int .i64 (t:Nat),.int .i64 (k:Nat),.int .u32 (D:Nat),.map (some b2)] #[v0,v1,v2,v3,v4,v5,v6] rfl (by kernel_rfl) (by decide) (by decide) (by decide) (by decide) (by omega) ⟨_,p2,rfl⟩ ⟨_,p3,rfl⟩ ?_ ?_ ?_ (by decide) (by decide) ?_
   ·intro i o h1 h2 ho a W hE hs hp hi
    match i,h1,h2,ho with
    | 0,_,_,ho =>
     simp at ho;subst ho
     have t2:sl a 2 = .pointer (some ⟨w.heap.size,0,none⟩):=hi 2 (by decide)
     simp only [execOp,eval_tmp,t2];simp [go_sem]
    | 1,_,_,ho =>
     simp at ho;subst ho
     have t39:sl a 39 = .pointer (some ⟨w.heap.size,0,none⟩):=hp 0 39 (by decide) (by decide) (by decide) rfl
     have f0:=hE.cell (by omega) (by omega) c0;have f1:=hE.cell (by omega) (by omega) c1;have f2:=hE.cell (by omega) (by omega) c2;have f3:=hE.cell (by omega) (by omega) c3
     simp only [execOp,eval_tmp,t39];simp [go_sem,f0,f1,f2,f3]
    | 2,_,_,ho =>
     simp at ho;subst ho
     have t9:sl a 9 = .map (some b2):=hi 9 (by decide)
     simp only [execOp,eval_tmp,t9];rfl
    | 3,_,_,ho =>
     simp at ho;subst ho
     have t40:sl a 40 = PVal L t k D:=hp 1 40 (by decide) (by decide) (by decide) rfl
     have t41:sl a 41 = .map (some b2):=hp 2 41 (by decide) (by decide) (by decide) rfl
     have u40:a.tmps[40]?.getD undef = sl a 40:=by simp [sl]
     have u41:a.tmps[41]?.getD undef = sl a 41:=by simp [sl]
     rw [t40] at u40;rw [t41] at u41
     simp only [execOp,eval_tmp,t40,t41];simp [go_sem,u40,u41,Tryz.underlying111,Tryz.underlying27]
    | 4,_,_,ho =>
     simp at ho;subst ho
     have t7:sl a 7 = .pointer (some ⟨g7,0,none⟩):=hi 7 (by decide)
     have f0:=hE.cell hne7.1 hne7.2 e0;have f1:=hE.cell hne7.1 hne7.2 e1;have f2:=hE.cell hne7.1 hne7.2 e2;have f3:=hE.cell hne7.1 hne7.2 e3;have f4:=hE.cell hne7.1 hne7.2 e4;have f5:=hE.cell hne7.1 hne7.2 e5;have f6:=hE.cell hne7.1 hne7.2 e6
     simp only [execOp,eval_tmp,t7];simp [go_sem,f0,f1,f2,f3,f4,f5,f6]
    | 5,_,_,ho =>
     simp at ho;subst ho
     have t8:sl a 8 = .int .i64 E:=hi 8 (by decide)
     simp only [execOp,eval_tmp,t8];rfl
    | 8,_,_,ho =>
     simp at ho;subst ho
     have t44:sl a 44 = .int .i64 E:=hp 5 44 (by decide) (by decide) (by decide) rfl
     simp only [execOp,eval_tmp,t44];rfl
    | 6,h,_,_=>exact absurd rfl h
    | 7,_,h,_=>exact absurd rfl h
    | j + 9,_,_,ho=>simp at ho
   ·intro o ho a W hE hs hp hi old hold hsz
    simp at ho;subst ho
    have t4:sl a 4 = .pointer (some ⟨w.heap.size + 1,0,none⟩):=hi 4 (by decide)
    have t42:sl a 42 = .agg #[.int .i64 (L:Nat),.int .i64 (t:Nat),.int .i64 (k:Nat),.int .u32 (D:Nat),.map (some b2)]:=hp 3 42 (by decide) (by decide) (by decide) rfl
    exact wp_store_row 111 (.tmp 4) (.tmp 42) rfl (w.heap.size + 1) #[.int .i64 (L:Nat),.int .i64 (t:Nat),.int .i64 (k:Nat),.int .u32 (D:Nat),.map (some b2)] (by rw [eval_tmp];exact t4) (by rw [eval_tmp];exact t42) _ old hold info_gate hsz (by simp [Value.oneCell']) ⟨rfl,rfl⟩
   ·intro o ho a W hE hs hp hi old hold hsz
    simp at ho;subst ho
    have t5:sl a 5 = .pointer (some ⟨w.heap.size + 1 + 1,0,none⟩):=hi 5 (by decide)
    have t43:sl a 43 = .agg #[v0,v1,v2,v3,v4,v5,v6]:=hp 4 43 (by decide) (by decide) (by decide) rfl
    exact wp_store_row 122 (.tmp 5) (.tmp 43) rfl (w.heap.size + 1 + 1) #[v0,v1,v2,v3,v4,v5,v6] (by rw [eval_tmp];exact t5) (by rw [eval_tmp];exact t43) _ old hold info_packet hsz (by simp [o0,o1,o2,o3,o4,o5,o6]) ⟨rfl,rfl⟩
   ·intro a W hE i1 i2 hs hd hI ht
    have ha:=act_is [39,40,41,42,43,44,6] hs hd ht (by decide)
    have t6:sl a 6 = .int .i64 E:=hI 8 6 (by decide) (by decide) (by decide) rfl
    simp only [List.foldl,t6] at ha
    generalize sl a 39 = u39 at ha
    generalize sl a 40 = u40 at ha
    generalize sl a 41 = u41 at ha
    generalize sl a 42 = u42 at ha
    generalize sl a 43 = u43 at ha
    generalize sl a 44 = u44 at ha
    simp only [Act.put,List.setIfInBounds_toArray,List.set_cons_zero,List.set_cons_succ] at ha
    rw [ha]
    clear ha hI ht hs hd t6 c0 c1 c2 c3 c4 e0 e1 e2 e3 e4 e5 e6
    have hW:=hE.size
    have HO6:Hid (W.ownsMap Tryz.prog 35 (plainElem Tryz.prog 3) b2 (0 + 1) (C2.put (.int .i64 E) (.lit (.int .i64 (cc + 1))))):=by
     obtain ⟨es,clock,m1,F,m2,m3⟩:=HO5.out
     exact ⟨es,clock,(hE.block b2 (by have:=HL2.out;have:=HG7.out;have:=HZ.out;omega) (by have:=HL2.out;have:=HG7.out;have:=HZ.out;omega)).trans m1,F,m2,m3⟩
    have HPk6:=Lib.hid (HPk5.out.two hE p2 p3 gate_ne pkt_ne)
    have HB6:Hid (Below w.heap.size w W):=HB5.out.trans (hE.below (by omega) (by omega))
    have HMp:Hid (IsMap C2):=R2.out.isMap
    clear hE p1 p2 p3 p7 hW
    go_wp2
    refine bodyPost_ret (res_cct rfl _ _ _ _ 111 122 #[.int .i64 (L:Nat),.int .i64 (t:Nat),.int .i64 (k:Nat),.int .u32 (D:Nat),.map (some b2)] #[v0,v1,v2,v3,v4,v5,v6] (0,0) (0,0) _ _ (.int .i64 E) rfl i1 rfl i2 rfl Tryz.underlying111 rfl info_gate Tryz.underlying122 rfl info_packet) rfl ?_
    refine ⟨b2,v0,v1,v2,v3,v4,v5,v6,rfl,⟨.inr ⟨b2,rfl,?_⟩,fun x=>?_⟩,HPk6.out,HB6.out⟩
    ·rw [← HEN.out]
     exact HO6.out
    ·rw [getN_put HMp.out (keyedG.key HKE.out),← HEN.out]
     have g1:=HSm.out x
     have g2:=HSm.out E
     rw [← HEN.out] at g2
     split <;> omega
theorem CntM.mono {w:World} {M:Value} {N N':Nat} {C:DataW Unit} (h:CntM w M N C) (hN:N≤N'):CntM w M N' C:=by
 refine ⟨?_,fun x=>by have:=h.small x;omega⟩
 rcases h.at_ with h1 | ⟨b,e,ho⟩
 ·exact .inl h1
 ·exact .inr ⟨b,e,ho.mono hN⟩
def bump (C:DataW Unit) (x:Int):DataW Unit:=C.put (.int .i64 x) (.lit (.int .i64 (getN C x + 1)))
theorem GLook_any (L t k D N:Nat) (M:Value) (C:DataW Unit) (p:Option Addr) (n c:Nat) (xs:List UInt8) (w:World) (hP:POK L t k D) (hT:HalfT w) (hC:CntM w M N C) (hN:N < 1000000) (h:Sl B8 w p n c xs) (hr:Room n) :
  Calls Tryz.prog 62 #[GVal L t k D M,.slice p n c] w fun e w'=>∃ b2 v0 v1 v2 v3 v4 v5 v6,e = .returned (.tuple #[GVal L t k D (.map (some b2)),.agg #[v0,v1,v2,v3,v4,v5,v6],.int .i64 (readC k t D xs)]) ∧
   CntM w' (.map (some b2)) (N + 1) (bump C (readC k t D xs))∧PkC w' w.heap.size k t D xs v0 v1 v2 v3 v4 v5 v6∧Below w.heap.size w w':=by
 rcases hC.at_ with ⟨rfl,rfl⟩ | ⟨b,rfl,ho⟩
 ·refine Calls.mono (GLook_nil L t k D p n c xs w hP hT h hr) ?_
  rintro e w' ⟨b2,v0,v1,v2,v3,v4,v5,v6,rfl,g1,g2,g3⟩
  exact ⟨b2,v0,v1,v2,v3,v4,v5,v6,rfl,g1.mono (by omega),g2,g3⟩
 ·exact GLook_own L t k D b N C p n c xs w hP hT ho hC.small hN h hr
end Go.Proofs.YtccaiiigdfieoaaGreatDoor
namespace Go.Proofs.YtccaiiigdfieoaaGreatDoor
open Go.RowKit Go.By
end Go.Proofs.YtccaiiigdfieoaaGreatDoor
namespace Go.Proofs.YtccaiiigdfieoaaGreatDoor
open Go.RowKit Go.By
end Go.Proofs.YtccaiiigdfieoaaGreatDoor
namespace Go.Proofs.YtccaiiigdfieoaaGreatDoor
open Go.RowKit Go.By
def kD (D:List Rw):List Rw:=D.foldl insF []
theorem kD_snoc (D:List Rw) (r:Rw):kD (D ++ [r]) = insF (kD D) r:=by unfold kD;rw [List.foldl_append];rfl
theorem kD_take {D:List Rw} {k:Nat} {r:Rw} (h:D[k]? = some r):kD (D.take (k + 1)) = insF (kD (D.take k)) r:=by
 have e:D.take (k + 1) = D.take k ++ [r]:=by rw [List.take_add_one,h];rfl
 rw [e,kD_snoc]
theorem kD_len (D:List Rw):∀ k,(kD (D.take k)).length≤k
 | 0=>by simp [kD]
 | k + 1=>by
  by_cases h:k < D.length
  ·rw [kD_take (List.getElem?_eq_getElem h)];exact Nat.le_trans (insF_len _ _) (Nat.succ_le_succ (kD_len D k))
  ·have e:D.take (k + 1) = D.take k:=by rw [List.take_of_length_le (by omega),List.take_of_length_le (by omega)]
   rw [e];exact Nat.le_succ_of_le (kD_len D k)
theorem kD_kept {wd t:Nat} {D:List Rw} (hl:∀ r,r ∈ D→Fit wd t r):∀ k,KeptS wd t (kD (D.take k))
 | 0=>by simpa [kD] using KeptS.nil wd t
 | k + 1=>by
  by_cases h:k < D.length
  ·rw [kD_take (List.getElem?_eq_getElem h)];exact (kD_kept hl k).step (hl _ (List.getElem_mem h))
  ·have e:D.take (k + 1) = D.take k:=by rw [List.take_of_length_le (by omega),List.take_of_length_le (by omega)]
   rw [e];exact kD_kept hl k
theorem insF_same {K:List Rw} {x:Rw} (h:(insF K x).length = K.length):insF K x = K:=by
 by_cases e:leadS (restF K x).1 < 0
 ·unfold insF;rw [norm_leadS,if_pos e]
 ·have hp:=(ins_perm K x).length_eq
  unfold keepF at hp;rw [if_neg e] at hp;simp at hp;omega
theorem listF_BI {n t:Nat} {K:List Rw} (h:KeptS n t K):∃ L:Nat→Nat,(∀ a b,a < b→b < K.length→L a < L b)∧BI n t K.length L (K.map vR) (listF K) 0 0:=by
 have hat:∀ a,a < K.length→listF K a ∈ K:=fun a ha=>by
  have:listF K a = K[a]:=by simp [listF,ha]
  rw [this];exact List.getElem_mem ha
 refine ⟨fun a=>leadN (listF K a),fun a b hab hb=>?_,fun a ha=>⟨(h.rows _ (hat a ha)).1,(h.rows _ (hat a ha)).2.at⟩,fun a ha=>by omega,fun b hb=>by omega,fun a ha=>Gf.Sp.mem (List.mem_map.2 ⟨_,hat a ha,rfl⟩),fun v hv=>?_⟩
 ·have e1:listF K a = K[a]:=by simp [listF,show a < K.length by omega]
  have e2:listF K b = K[b]:=by simp [listF,hb]
  show leadN (listF K a) < leadN (listF K b)
  rw [e1,e2];exact List.pairwise_iff_getElem.1 h.sorted a b (by omega) hb hab
 ·have e:((List.range K.length).map fun a=>vR (listF K a)) = K.map vR:=by
   conv=>rhs;rw [← listF_map K]
   rw [List.map_map];rfl
  rw [e];exact Gf.Sp.mem hv
def RowOff2 (w:World) (g:Nat) (u v:Value) (r:Rw):Prop:=∃ q1 m1 c1 q2 m2 c2,u = .slice q1 m1 c1∧v = .slice q2 m2 c2∧Sl B8 w q1 m1 c1 r.1∧Sl B8 w q2 m2 c2 r.2∧(0 < m1→∀ a,q1 = some a→a.block≠g)∧(0 < m2→∀ a,q2 = some a→a.block≠g)
theorem RowOff2.keep {w w':World} {g:Nat} {u v:Value} {r:Rw} (h:RowOff2 w g u v r) (hb:Below w.heap.size w w'):RowOff2 w' g u v r:=by
 obtain ⟨q1,m1,c1,q2,m2,c2,h1,h2,h3,h4,h5,h6⟩:=h
 exact ⟨q1,m1,c1,q2,m2,c2,h1,h2,h3.keep hb,h4.keep hb,h5,h6⟩
theorem RowOff2.set {w:World} {g o:Nat} {u v x:Value} {r:Rw} (h:RowOff2 w g u v r):RowOff2 (w.setCell ⟨g,o,none⟩ x) g u v r:=by
 obtain ⟨q1,m1,c1,q2,m2,c2,h1,h2,h3,h4,h5,h6⟩:=h
 exact ⟨q1,m1,c1,q2,m2,c2,h1,h2,h3.set2 h5,h4.set2 h6,h5,h6⟩
def RMemC (w:World) (g T n c:Nat) (F:Nat→Rw):Prop:=∃ cs:Array Value,w.heap[g]? = some (.cells cs T (0,0))∧cs.size = c * 2∧n≤c∧∀ i,i < n→∃ u v,cs[i * 2]? = some u∧cs[i * 2 + 1]? = some v∧RowOff2 w g u v (F i)
theorem RMemC.keep {w w':World} {g T n c:Nat} {F:Nat→Rw} (h:RMemC w g T n c F) (hb:Below w.heap.size w w'):RMemC w' g T n c F:=by
 obtain ⟨cs,h1,h2,hn,h3⟩:=h
 refine ⟨cs,(hb.block _ (blk_lt h1)).trans h1,h2,hn,fun i hi=>?_⟩
 obtain ⟨u,v,a,b,c⟩:=h3 i hi
 exact ⟨u,v,a,b,c.keep hb⟩
theorem RMemC.set {w:World} {g T n c i:Nat} {F:Nat→Rw} {u v:Value} {r:Rw} (h:RMemC w g T n c F) (hi:i < n) (hr:RowOff2 w g u v r):RMemC ((w.setCell ⟨g,i * 2,none⟩ u).setCell ⟨g,i * 2 + 1,none⟩ v) g T n c (updF F i r):=by
 obtain ⟨cs,h1,h2,hn,h3⟩:=h
 refine ⟨_,hss (hss h1),by simp [h2],hn,fun k hk=>?_⟩
 by_cases hki:k = i
 ·subst hki
  refine ⟨u,v,?_,?_,by rw [updF_same];exact hr.set.set⟩
  ·simp [Array.getElem?_setIfInBounds];omega
  ·simp [Array.getElem?_setIfInBounds];omega
 ·obtain ⟨a,b,e1,e2,e3⟩:=h3 k hk
  refine ⟨a,b,?_,?_,by rw [updF_ne _ _ hki];exact e3.set.set⟩
  ·rw [Array.getElem?_setIfInBounds,if_neg (by omega),Array.getElem?_setIfInBounds,if_neg (by omega)];exact e1
  ·rw [Array.getElem?_setIfInBounds,if_neg (by omega),Array.getElem?_setIfInBounds,if_neg (by omega)];exact e2
theorem RMemC.at {w:World} {g T n c i:Nat} {F:Nat→Rw} (h:RMemC w g T n c F) (hi:i < n):∃ q1 m1 c1 q2 m2 c2,w.cell? ⟨g,i * 2,none⟩ = some (.slice q1 m1 c1)∧w.cell? ⟨g,i * 2 + 1,none⟩ = some (.slice q2 m2 c2)∧w.frozen? ⟨g,i * 2,none⟩ = false∧w.frozen? ⟨g,i * 2 + 1,none⟩ = false ∧
  Sl B8 w q1 m1 c1 (F i).1∧Sl B8 w q2 m2 c2 (F i).2∧(0 < m1→∀ a,q1 = some a→a.block≠g)∧(0 < m2→∀ a,q2 = some a→a.block≠g):=by
 obtain ⟨cs,h1,h2,hn,h3⟩:=h
 obtain ⟨u,v,a,b,q1,m1,c1,q2,m2,c2,rfl,rfl,g1,g2,g3,g4⟩:=h3 i hi
 exact ⟨q1,m1,c1,q2,m2,c2,(cell_of_row _ _ _ _ _ _ h1).trans a,(cell_of_row _ _ _ _ _ _ h1).trans b,frozen_of_row _ _ _ _ _ h1,frozen_of_row _ _ _ _ _ h1,g1,g2,g3,g4⟩
def RMemV (w:World) (base T:Nat) (q:Option Addr) (n c:Nat) (F:Nat→Rw):Prop:=n = 0∨∃ g,q = some ⟨g,0,none⟩∧base≤g∧RMemC w g T n c F
theorem RwN.keep {W w w':World} {T n c:Nat} {q:Option Addr} {K:List Rw} (h:RwN W w T q n c K) (hb:Below w.heap.size w w'):RwN W w' T q n c K:=by
 obtain ⟨h1,h2,vs,h3,h4⟩:=h
 exact ⟨bl h1 hb h1.size,h2,vs,owns_keep h3 hb,h4⟩
theorem RMemV.of {w:World} {base T n c:Nat} {q:Option Addr} {K:List Rw} (h:n = 0∨∃ W:World,base≤W.heap.size∧RwN W w T q n c K):RMemV w base T q n c (listF K):=by
 rcases h with h | ⟨W,hW,hb,hl,vs,ho,hv⟩
 ·exact .inl h
 ·rcases ho.2 with ⟨e1,e2⟩ | ⟨g,cap,cur,e1,hg,hh,hle,hm,hs,ht⟩
  ·exact .inl e2
  ·cases e1
   refine .inr ⟨g,rfl,Nat.le_trans hW hg,cur,hh,hs,hle,fun i hi=>?_⟩
   have hk:K[i]? = some (listF K i):=by
    rw [List.getElem?_eq_getElem (by omega)]
    simp [listF,show i < K.length by omega]
   obtain ⟨u,hu,q1,m1,c1,q2,m2,c2,rfl,s1,s2⟩:=hv i _ hk
   obtain ⟨g1,g2⟩:=fl2_at hu
   have far:∀ {q':Option Addr} {m' c':Nat} {xs:List UInt8},Sl B8 W q' m' c' xs→0 < m'→∀ a,q' = some a→a.block≠g:=fun {q' m' c' xs} hs h0 a ha=>by
    obtain ⟨b,o,hp,hlt⟩:=hs.rs.lt (by rw [hs.len];exact h0)
    rw [ha] at hp;cases hp
    show b≠g;omega
   have hvl:vs.length = n:=by have:=ho.1;rw [fl2_length] at this;omega
   refine ⟨.slice q1 m1 c1,.slice q2 m2 c2,?_,?_,q1,m1,c1,q2,m2,c2,rfl,rfl,s1.keep hb,s2.keep hb,far s1,far s2⟩
   ·rw [← ht,List.getElem?_take] at g1
    split at g1
    ·simpa using g1
    ·cases g1
   ·rw [← ht,List.getElem?_take] at g2
    split at g2
    ·simpa using g2
    ·cases g2
theorem RMemV.rwS {w:World} {base T n c:Nat} {q:Option Addr} {F:Nat→Rw} (h:RMemV w base T q n c F) (h1:n≤c) (h2:c≤maxLen) (h3:q = none→n = 0∧c = 0):RwS w q n c ((List.range n).map F):=by
 refine ⟨by simp,h1,h2,h3,fun j k hj=>?_⟩
 obtain ⟨hjn,e⟩:=List.getElem?_eq_some_iff.1 hj
 rw [List.length_map,List.length_range] at hjn
 simp at e
 subst e
 rcases h with h | ⟨g,rfl,-,hM⟩
 ·omega
 ·obtain ⟨q1,m1,c1,q2,m2,c2,a,b,-,-,s1,s2,-,-⟩:=hM.at hjn
  exact ⟨g,0,q1,m1,c1,q2,m2,c2,rfl,by rw [Nat.zero_add];exact a,by rw [Nat.zero_add];exact b,s1,s2⟩
end Go.Proofs.YtccaiiigdfieoaaGreatDoor
namespace Go.By
open Go.RowKit
def XNew (B:Nat) (p:Option Addr) (n:Nat):Prop:=0 < n→∀ a,p = some a→B≤a.block
def XRowB (B X:Nat) (r:List UInt8 × List UInt8) (v:Value) (w:World):Prop:=∃ p1 n1 c1 p2 n2 c2,v = .agg #[.slice p1 n1 c1,.slice p2 n2 c2]∧((Sl B8 w p1 n1 c1 r.1∧Away B X w p1 n1)∧(Sl B8 w p2 n2 c2 r.2∧Away B X w p2 n2))∧XNew B p1 n1∧XNew B p2 n2
theorem XRowB.keep {B X:Nat} {r:List UInt8 × List UInt8} {v:Value} {w w':World} (h:XRowB B X r v w) (hb:Below w.heap.size w w'):XRowB B X r v w':=by
 obtain ⟨p1,n1,c1,p2,n2,c2,e,⟨⟨h1,k1⟩,⟨h2,k2⟩⟩,h3⟩:=h
 exact ⟨p1,n1,c1,p2,n2,c2,e,⟨⟨h1.keep hb,k1.keep h1 hb⟩,⟨h2.keep hb,k2.keep h2 hb⟩⟩,h3⟩
theorem XRowB.step {B X:Nat} {r:List UInt8 × List UInt8} {v:Value} {w w':World} (h:XRowB B X r v w) (hb:StepX B X w w'):XRowB B X r v w':=by
 obtain ⟨p1,n1,c1,p2,n2,c2,e,⟨⟨h1,k1⟩,⟨h2,k2⟩⟩,h3⟩:=h
 exact ⟨p1,n1,c1,p2,n2,c2,e,⟨⟨(k1.step h1 hb).2,(k1.step h1 hb).1⟩,⟨(k2.step h2 hb).2,(k2.step h2 hb).1⟩⟩,h3⟩
def XRowTB (B X:Nat) (r:List UInt8 × List UInt8) (code:Int) (v:Value) (w:World):Prop:=∃ u,v = .tuple #[u,.int .i64 code]∧XRowB B X r u w
def ShX.rowB (B X:Nat) (r:List UInt8 × List UInt8):ShX B X:=⟨XRowB B X r,fun _ _ _ h hb=>h.keep hb,fun _ _ _ h hb=>h.step hb⟩
def ShX.rowTB (B X:Nat) (r:List UInt8 × List UInt8) (code:Int):ShX B X:=⟨XRowTB B X r code,fun _ _ _ ⟨u,e,h⟩ hb=>⟨u,e,h.keep hb⟩,fun _ _ _ ⟨u,e,h⟩ hb=>⟨u,e,h.step hb⟩⟩
theorem XRowB.of_owns {B X base e:Nat} {w:World} {r:List UInt8 × List UInt8} {q1 q2:Option Addr} {m1 k1 m2 k2:Nat} (he:e≠X) (h1:w.ownsRow base e 1 (.slice q1 m1 k1) m1 (r.1.map B8)) (h2:w.ownsRow base e 1 (.slice q2 m2 k2) m2 (r.2.map B8)) (hb:B≤base) :
  XRowB B X r (.agg #[.slice q1 m1 k1,.slice q2 m2 k2]) w:=by
 refine ⟨q1,m1,k1,q2,m2,k2,rfl,⟨⟨Sl.of_owns h1,Away.own h1 he⟩,⟨Sl.of_owns h2,Away.own h2 he⟩⟩,fun h0 a ha=>?_,fun h0 a ha=>?_⟩
 ·obtain ⟨g,e,h,-⟩:=owns_at h1 h0
  rw [e] at ha;cases ha;exact Nat.le_trans hb h
 ·obtain ⟨g,e,h,-⟩:=owns_at h2 h0
  rw [e] at ha;cases ha;exact Nat.le_trans hb h
end Go.By
namespace Go.Proofs.YtccaiiigdfieoaaGreatDoor
open Go.RowKit Go.By
def RetKN (w:World) (K:List Rw) (e:Ending) (w':World):Prop:=∃ q n c,n = K.length∧e = .returned (.slice q n c)∧RwS w' q n c K∧Below w.heap.size w w'∧(n = 0∨∃ g,q = some ⟨g,0,none⟩∧w.heap.size≤g)
set_option maxRecDepth 100000 in
set_option maxHeartbeats 8000000 in
theorem RRows_any (wd t:Nat) (pk:Option Addr) (nk ck:Nat) (D:List Rw) (w:World) (hD:RwS w pk nk ck D) (hfit:∀ r,r ∈ D→Fit wd t r) (hr1:Room wd) (hr2:Room t) (hnk:nk≤4096) :
  Calls Tryz.prog 30 #[.slice pk nk ck] w (RetKN w (redL (kD D))):=by
 have HKK:Hid (∀ k,KeptS wd t (kD (D.take k))):=kD_kept hfit
 have HD:=Lib.hid hD;have HF:=Lib.hid hfit;have HR1:=Lib.hid hr1;have HR2:=Lib.hid hr2;have HLEN:=Lib.hid hD.len
 clear hD hfit hr1 hr2
 go_enter Tryz.func30,Tryz.ntmps30
 go_wp2
 go_loopw [3,12] (fun l i wr=>∃ (k no:Nat) (qo:Option Addr) (co:Nat),k≤nk∧no≤k∧i = .int .i64 k∧l = .slice qo no co∧Hid (RwS wr qo no co (kD (D.take k)))∧Hid (Below w.heap.size w wr)∧Hid (no = 0∨∃ W,w.heap.size≤W.heap.size∧RwN W wr 101 qo no co (kD (D.take k)))) (fun _ i _=>nk - (intOf i).toNat)
 case atStart=>exact ⟨0,0,none,0,Nat.zero_le _,Nat.zero_le _,rfl,rfl,Lib.hid (by simpa [kD] using RwS.nil0 w),Below.refl _ _,.inl rfl⟩
 case round =>
  obtain ⟨k,no,qo,co,hk,hno,rfl,rfl,hK,hB,hN⟩:=hrel
  by_cases hlt:k < nk
  ·have kn:(k:Int) < (nk:Int):=by omega
   obtain ⟨row,hrow⟩:∃ row,D[k]? = some row:=⟨_,List.getElem?_eq_getElem (by rw [HLEN.out];exact hlt)⟩
   obtain ⟨b,o,q1,m1,c1,q2,m2,c2,rfl,d1,d2,s1,s2⟩:=HD.out.row k row hrow
   have D1:=(hB.out.cell (p:=⟨b,o + k * 2,none⟩) (lt_of_cell d1)).trans d1
   have D2:=(hB.out.cell (p:=⟨b,o + k * 2 + 1,none⟩) (lt_of_cell d2)).trans d2
   have S1:=Lib.hid (s1.keep hB.out);have S2:=Lib.hid (s2.keep hB.out)
   have HX:Hid (kD (D.take (k + 1)) = insF (kD (D.take k)) row):=kD_take hrow
   have hkept:=Lib.hid (HKK.out k)
   have hrw:Hid (Fit wd t row):=HF.out row (List.mem_of_getElem? hrow)
   have hln:=Lib.hid (kD_len D (k + 1))
   clear d1 d2 s1 s2 hrow
   go_wp2_with fail
   clear D1 D2
   refine use_w1 (fun W=>Below wr.heap.size wr W) (al (Below.refl _ _) (Nat.le_refl _)) ?_
   rintro w2 b2
   refine Calls.mono (Insert_own wd t qo no co (kD (D.take k)) q1 q2 m1 c1 m2 c2 row w2 (hK.out.keep b2) (S1.out.keep b2) (S2.out.keep b2) hkept.out.rows hrw.out HR1.out HR2.out (by omega)) ?_
   rintro e w3 ⟨q3,n3,c3,hn3,rfl,hK3,hb3,hor⟩
   have B3:Below wr.heap.size wr w3:=bl b2 hb3 b2.size
   have hle:n3≤k + 1:=by rw [hn3,← HX.out];exact hln.out
   have hsz:w.heap.size≤w2.heap.size:=Nat.le_trans hB.out.size b2.size
   have P:Hid (RwS w3 q3 n3 c3 (kD (D.take (k + 1)))∧Below w.heap.size w w3∧(n3 = 0∨∃ W,w.heap.size≤W.heap.size∧RwN W w3 101 q3 n3 c3 (kD (D.take (k + 1))))):=by
    refine ⟨by rw [HX.out];exact hK3,bl hB.out B3 hB.out.size,?_⟩
    rcases hor with e | ⟨W,hW,hNW⟩
    ·injection e with e1 e2 e3
     subst e1;subst e2;subst e3
     rcases hN.out with h0 | ⟨W,hW,hNW⟩
     ·exact .inl h0
     ·right
      have e4:insF (kD (D.take k)) row = kD (D.take k):=insF_same (by rw [← hn3,← hK.out.len])
      rw [HX.out,e4]
      exact ⟨W,hW,RwN.keep hNW B3⟩
    ·right
     rw [HX.out]
     exact ⟨W,Nat.le_trans hsz hW,hNW⟩
   clear hK3 hb3 hor b2 B3 hn3 hsz hK hB hN HX hkept hrw hln S1 S2
   go_wp2
   go_roundw
   case rel=>exact ⟨k + 1,n3,q3,c3,by omega,hle,by go_num,rfl,P.out.1,P.out.2.1,P.out.2.2⟩
   case measure=>simp [intOf];omega
  ·have hkm:k = nk:=by omega
   have hge:(nk:Int)≤(k:Int):=by omega
   have hz:D.take k = D:=List.take_of_length_le (by rw [HLEN.out,hkm];exact Nat.le_refl _)
   obtain ⟨K0,hK0⟩:∃ K0,K0 = kD D:=⟨_,rfl⟩
   rw [hz,← hK0] at hK hN
   have hkept:KeptS wd t K0:=by have:=HKK.out k;rw [hz,← hK0] at this;exact this
   obtain ⟨L,hLs,hBI⟩:=listF_BI hkept
   have HL:Hid (K0.length = no):=hK.out.len
   rw [HL.out] at hBI hLs
   have HBI:=Lib.hid hBI;have HLS:=Lib.hid hLs
   have HSH:Hid (no≤co∧co≤maxLen∧(qo = none→no = 0∧co = 0)):=⟨hK.out.le,hK.out.max,hK.out.nil⟩
   have HM0:Hid (RMemV wr w.heap.size 101 qo no co (listF K0)):=RMemV.of hN.out
   have HB0:=Lib.hid hB.out
   have HRES:Hid (redL (kD D) = (List.range no).map (backB no no (listF K0))):=by show _ = _;rw [← hK0];unfold redL;rw [HL.out]
   clear hK hN hB hkept hLs hBI hz hK0 HKK HD HF HLEN hkm
   go_wp2
   go_loopw [22] (fun v wr=>∃ i:Nat,i≤no∧v = .int .i64 i∧Hid (RMemV wr w.heap.size 101 qo no co (backB no i (listF K0)))∧Hid (Below w.heap.size w wr)) (fun i _=>no - (intOf i).toNat)
   case atStart=>exact ⟨0,Nat.zero_le _,rfl,HM0.out,HB0.out⟩
   case round =>
    clear HM0 HB0
    obtain ⟨i,hin,rfl,hM,hB⟩:=hrel
    by_cases hi:i < no
    ·have inn:(i:Int) < (no:Int):=by omega
     have HRW:Hid (∀ k,k≤no→BI wd t no L (K0.map vR) (rowB i k (backB no i (listF K0))) i k):=fun k hk=>(HBI.out.all HLS.out i (by omega)).row HLS.out hi k hk
     have HNXT:Hid (rowB i no (backB no i (listF K0)) = backB no (i + 1) (listF K0)):=rfl
     obtain ⟨G,hG⟩:∃ G,G = backB no i (listF K0):=⟨_,rfl⟩
     rw [← hG] at HRW HNXT hM
     have HM1:=Lib.hid hM.out;have HB1:=Lib.hid hB.out
     clear hM hB hG
     go_wp2
     go_loopw [27] (fun v wr=>∃ k:Nat,k≤no∧v = .int .i64 k∧Hid (RMemV wr w.heap.size 101 qo no co (rowB i k G))∧Hid (Below w.heap.size w wr)) (fun i _=>no - (intOf i).toNat)
     case atStart=>exact ⟨0,Nat.zero_le _,rfl,HM1.out,HB1.out⟩
     case round =>
      clear HM1 HB1
      obtain ⟨k,hkn,rfl,hM,hB⟩:=hrel
      by_cases hk2:k < no
      ·have knn:(k:Int) < (no:Int):=by omega
       have hbi:=HRW.out k hkn
       have HSTEP:Hid (rowB i (k + 1) G = stepB (rowB i k G) i k):=rfl
       obtain ⟨F,hF⟩:∃ F,F = rowB i k G:=⟨_,rfl⟩
       rw [← hF] at hbi hM HSTEP
       by_cases hki:k = i
       ·subst hki
        have hS:Hid (RMemV wr w.heap.size 101 qo no co (rowB k (k + 1) G)):=by show RMemV _ _ _ _ _ _ _;rw [HSTEP.out];unfold stepB;rw [if_pos rfl];exact hM.out
        have BB:=Lib.hid hB.out
        clear hbi hF HSTEP hM hB
        go_wp2
        go_roundw
        case rel=>exact ⟨k + 1,by omega,by go_num,hS.out,BB.out⟩
        case measure=>simp [intOf];omega
       ·have hne:((k:Int) != (i:Int)) = true:=by simp;omega
        rcases hM.out with h0 | ⟨g,rfl,hgw,hMC⟩
        ·omega
        obtain ⟨fi,li,-⟩:=hbi.led hi
        obtain ⟨fk,lk,-⟩:=hbi.led hk2
        obtain ⟨a1,b1,d1,a2,b2,d2,cu0,cu1,fz0,fz1,s1,s2,-,-⟩:=hMC.at hi
        obtain ⟨p1,n1,e1,p2,n2,e2,cv0,cv1,-,-,t1,t2,-,-⟩:=hMC.at hk2
        obtain ⟨l,hl⟩:∃ l,l = leadN (F k):=⟨_,rfl⟩
        have hLJ:leadS (F k).1 = (l:Int):=by rw [hl];exact lk.at.1
        have hlw0:l < wd:=by rw [hl];exact lk.at.lt fk
        have lb1:b1 = wd:=by have:=s1.len;rw [fi.1] at this;exact this.symm
        have lb2:b2 = t:=by have:=s2.len;rw [fi.2] at this;exact this.symm
        have ln1:n1 = wd:=by have:=t1.len;rw [fk.1] at this;exact this.symm
        have ln2:n2 = t:=by have:=t2.len;rw [fk.2] at this;exact this.symm
        have hlw:l < b1:=by rw [lb1];exact hlw0
        obtain ⟨bx,ox,cx,rfl,hcx,hxx⟩:=s1.at l hlw
        have hcA:atS (F i).1 (leadS (F k).1) = cx:=by rw [hLJ];exact at_of hxx.out
        obtain ⟨YJ,hYJ⟩:∃ YJ,YJ = lessF (F i) cx (F k):=⟨_,rfl⟩
        have HST:Hid (rowB i (k + 1) G = updF F i YJ):=by show _ = _;rw [HSTEP.out];unfold stepB;rw [if_neg hki,hcA,← hYJ]
        have HLD:Hid (∀ W,Sl B8 W p1 n1 e1 (F k).1→Calls Tryz.prog 89 #[.slice p1 n1 e1] W fun e w'=>e = .returned (.int .i64 (l:Nat))∧W = w'):=fun W h=>by have:=RLead_any _ _ _ _ W h;rwa [hLJ] at this
        have HLS':Hid (∀ W,Sl B8 W (some ⟨bx,ox,none⟩) b1 d1 (F i).1→Sl B8 W a2 b2 d2 (F i).2→Sl B8 W p1 n1 e1 (F k).1→Sl B8 W p2 n2 e2 (F k).2→Calls Tryz.prog 88 #[.agg #[.slice (some ⟨bx,ox,none⟩) b1 d1,.slice a2 b2 d2],B8 cx,.agg #[.slice p1 n1 e1,.slice p2 n2 e2]] W (RetR2 5 W YJ 0)):=fun W h1 h2 h3 h4=>by
         have:=RLess_any (some ⟨bx,ox,none⟩) a2 p1 p2 b1 d1 b2 d2 n1 e1 n2 e2 (F i).1 (F i).2 (F k).1 (F k).2 cx W h1 h2 h3 h4 (by rw [lb1];exact HR1.out) (by rw [lb2];exact HR2.out) (by rw [ln1];exact HR1.out) (by rw [ln2];exact HR2.out)
         rw [lessS_fit (n:=wd) (t:=t) (x:=F i) (k:=F k) fi fk,← hYJ] at this
         exact this
        have S1:=Lib.hid s1;have S2:=Lib.hid s2;have T1:=Lib.hid t1;have T2:=Lib.hid t2
        have MC:=Lib.hid hMC;have BB:=Lib.hid hB.out
        have hgx:g < wr.heap.size:=lt_of_cell cu0
        have lw:(l:Int) < (b1:Int):=by omega
        have ne:(5:Nat)≠101:=by decide
        have HLS:=HLS'
        clear HLS' s1 s2 t1 t2 hMC hM hB hbi hF HSTEP fi li fk lk hl hLJ hlw0 lb1 lb2 ln1 ln2 hxx hcA hYJ
        go_wp2_with fail
        refine wp_region_boxed 101 (fun ix=>([.val _ _ (.slice (some ⟨g,0,none⟩) no co),.val _ _ (.int .i64 i),.val _ _ (.pointer (some ⟨g,i * 2,none⟩)),.val _ _ (.agg #[.slice (some ⟨bx,ox,none⟩) b1 d1,.slice a2 b2 d2]),.val _ _ (.slice (some ⟨g,0,none⟩) no co),.val _ _ (.int .i64 i),.val _ _ (.pointer (some ⟨g,i * 2,none⟩)),.val _ _ (.pointer (some ⟨g,i * 2,none⟩)),.val _ _ (.slice (some ⟨bx,ox,none⟩) b1 d1),.val _ _ (.slice (some ⟨g,0,none⟩) no co),.val _ _ (.int .i64 k),.val _ _ (.pointer (some ⟨g,k * 2,none⟩)),.val _ _ (.pointer (some ⟨g,k * 2,none⟩)),.val _ _ (.slice p1 n1 e1),.val _ _ (.int .i64 (l:Nat)),.val _ _ (.pointer (some ⟨bx,ox + l,none⟩)),.val _ _ (B8 cx),.val _ _ (.slice (some ⟨g,0,none⟩) no co),.val _ _ (.int .i64 k),.val _ _ (.pointer (some ⟨g,k * 2,none⟩)),.val _ _ (.agg #[.slice p1 n1 e1,.slice p2 n2 e2]),ShX.rowTB _ _ (YJ) (0),ShX.rowTB _ _ (YJ) (0),ShX.rowB _ _ (YJ),.val _ _ (.int .i64 0),.box _ _ 2,.any _ _,.val _ _ (.int .i64 0)][ix]?).getD (.any _ _)) 26 8 (ShX.rowB _ _ (YJ)) 65 rfl (by kernel_rfl) (by decide) (by decide) (by decide) ?_ ?_
        ·refine ⟨?_,?_,?_,?_,?_,?_,?_,?_,?_,?_,?_,?_,?_,?_,?_,?_,?_,?_,?_,?_,?_,?_,?_,?_,?_,?_,?_,?_,trivial⟩
         ·intro a W hb hs hp hi
          have t3:sl a 3 = .slice (some ⟨g,0,none⟩) no co:=hi 3 (by decide)
          exact ite_y rfl (wp_val (sl a 3) rfl ⟨_,rfl,Below.refl _ _,t3⟩)
         ·intro a W hb hs hp hi
          have t6:sl a 6 = .int .i64 i:=hi 6 (by decide)
          exact ite_y rfl (wp_val (sl a 6) rfl ⟨_,rfl,Below.refl _ _,t6⟩)
         ·intro a W hb hs hp hi
          have ti0:sl a 34 = .slice (some ⟨g,0,none⟩) no co:=hp 0 (by decide)
          have ti1:sl a 35 = .int .i64 i:=hp 1 (by decide)
          refine ite_y rfl (wp_val (.pointer (some ⟨g,i * 2,none⟩)) ?_ ?_)
          ·simp only [execOp,eval_tmp,eval_const,ti0,ti1];simp [go_sem,inn,hi]
          ·exact ⟨_,rfl,Below.refl _ _,rfl⟩
         ·intro a W hb hs hp hi
          have tt:sl a 36 = .pointer (some ⟨g,i * 2,none⟩):=hp 2 (by decide)
          have dd0:=(hb.cell (p:=⟨g,i * 2,none⟩) (lt_of_cell cu0)).trans cu0
          have dd1:=(hb.cell (p:=⟨g,i * 2 + 1,none⟩) (lt_of_cell cu1)).trans cu1
          refine ite_y rfl (wp_val (.agg #[.slice (some ⟨bx,ox,none⟩) b1 d1,.slice a2 b2 d2]) ?_ ?_)
          ·simp only [execOp,eval_tmp,tt];simp [go_sem,dd0,dd1]
          ·exact ⟨_,rfl,Below.refl _ _,rfl⟩
         ·intro a W hb hs hp hi
          have t3:sl a 3 = .slice (some ⟨g,0,none⟩) no co:=hi 3 (by decide)
          exact ite_y rfl (wp_val (sl a 3) rfl ⟨_,rfl,Below.refl _ _,t3⟩)
         ·intro a W hb hs hp hi
          have t6:sl a 6 = .int .i64 i:=hi 6 (by decide)
          exact ite_y rfl (wp_val (sl a 6) rfl ⟨_,rfl,Below.refl _ _,t6⟩)
         ·intro a W hb hs hp hi
          have ti0:sl a 38 = .slice (some ⟨g,0,none⟩) no co:=hp 4 (by decide)
          have ti1:sl a 39 = .int .i64 i:=hp 5 (by decide)
          refine ite_y rfl (wp_val (.pointer (some ⟨g,i * 2,none⟩)) ?_ ?_)
          ·simp only [execOp,eval_tmp,eval_const,ti0,ti1];simp [go_sem,inn,hi]
          ·exact ⟨_,rfl,Below.refl _ _,rfl⟩
         ·intro a W hb hs hp hi
          have t40:sl a 40 = .pointer (some ⟨g,i * 2,none⟩):=hp 6 (by decide)
          refine ite_y rfl (wp_val (.pointer (some ⟨g,i * 2,none⟩)) ?_ ?_)
          ·simp only [execOp,eval_tmp,eval_const,t40];simp [go_sem]
          ·exact ⟨_,rfl,Below.refl _ _,rfl⟩
         ·intro a W hb hs hp hi
          have tt:sl a 41 = .pointer (some ⟨g,i * 2,none⟩):=hp 7 (by decide)
          have dd0:=(hb.cell (p:=⟨g,i * 2,none⟩) (lt_of_cell cu0)).trans cu0
          refine ite_y rfl (wp_val (.slice (some ⟨bx,ox,none⟩) b1 d1) ?_ ?_)
          ·simp only [execOp,eval_tmp,tt];simp [go_sem,dd0]
          ·exact ⟨_,rfl,Below.refl _ _,rfl⟩
         ·intro a W hb hs hp hi
          have t3:sl a 3 = .slice (some ⟨g,0,none⟩) no co:=hi 3 (by decide)
          exact ite_y rfl (wp_val (sl a 3) rfl ⟨_,rfl,Below.refl _ _,t3⟩)
         ·intro a W hb hs hp hi
          have t7:sl a 7 = .int .i64 k:=hi 7 (by decide)
          exact ite_y rfl (wp_val (sl a 7) rfl ⟨_,rfl,Below.refl _ _,t7⟩)
         ·intro a W hb hs hp hi
          have ti0:sl a 43 = .slice (some ⟨g,0,none⟩) no co:=hp 9 (by decide)
          have ti1:sl a 44 = .int .i64 k:=hp 10 (by decide)
          refine ite_y rfl (wp_val (.pointer (some ⟨g,k * 2,none⟩)) ?_ ?_)
          ·simp only [execOp,eval_tmp,eval_const,ti0,ti1];simp [go_sem,knn,hk2]
          ·exact ⟨_,rfl,Below.refl _ _,rfl⟩
         ·intro a W hb hs hp hi
          have t45:sl a 45 = .pointer (some ⟨g,k * 2,none⟩):=hp 11 (by decide)
          refine ite_y rfl (wp_val (.pointer (some ⟨g,k * 2,none⟩)) ?_ ?_)
          ·simp only [execOp,eval_tmp,eval_const,t45];simp [go_sem]
          ·exact ⟨_,rfl,Below.refl _ _,rfl⟩
         ·intro a W hb hs hp hi
          have tt:sl a 46 = .pointer (some ⟨g,k * 2,none⟩):=hp 12 (by decide)
          have dd0:=(hb.cell (p:=⟨g,k * 2,none⟩) (lt_of_cell cv0)).trans cv0
          refine ite_y rfl (wp_val (.slice p1 n1 e1) ?_ ?_)
          ·simp only [execOp,eval_tmp,tt];simp [go_sem,dd0]
          ·exact ⟨_,rfl,Below.refl _ _,rfl⟩
         ·intro a W hb hs hp hi
          have t47:sl a 47 = .slice p1 n1 e1:=hp 13 (by decide)
          refine ite_y rfl (wp_enter 89 #[.slice p1 n1 e1] ?_ (HLD.out W (T1.out.keep hb)) ?_)
          ·simp only [execOp,resolve,List.map_toArray,List.map,eval_tmp,eval_func,eval_const,t47];simp [go_sem]
          ·rintro e W' ⟨rfl,rfl⟩;exact ⟨_,rfl,_,rfl,Below.refl _ _,rfl⟩
         ·intro a W hb hs hp hi
          have ti0:sl a 42 = .slice (some ⟨bx,ox,none⟩) b1 d1:=hp 8 (by decide)
          have ti1:sl a 48 = .int .i64 (l:Nat):=hp 14 (by decide)
          refine ite_y rfl (wp_val (.pointer (some ⟨bx,ox + l,none⟩)) ?_ ?_)
          ·simp only [execOp,eval_tmp,eval_const,ti0,ti1];simp [go_sem,lw,hlw]
          ·exact ⟨_,rfl,Below.refl _ _,rfl⟩
         ·intro a W hb hs hp hi
          have tt:sl a 49 = .pointer (some ⟨bx,ox + l,none⟩):=hp 15 (by decide)
          have dd:=(hb.cell (p:=⟨bx,ox + l,none⟩) (lt_of_cell hcx)).trans hcx
          refine ite_y rfl (wp_val (B8 cx) ?_ ?_)
          ·simp only [execOp,eval_tmp,tt];simp [go_sem,dd]
          ·exact ⟨_,rfl,Below.refl _ _,rfl⟩
         ·intro a W hb hs hp hi
          have t3:sl a 3 = .slice (some ⟨g,0,none⟩) no co:=hi 3 (by decide)
          exact ite_y rfl (wp_val (sl a 3) rfl ⟨_,rfl,Below.refl _ _,t3⟩)
         ·intro a W hb hs hp hi
          have t7:sl a 7 = .int .i64 k:=hi 7 (by decide)
          exact ite_y rfl (wp_val (sl a 7) rfl ⟨_,rfl,Below.refl _ _,t7⟩)
         ·intro a W hb hs hp hi
          have ti0:sl a 51 = .slice (some ⟨g,0,none⟩) no co:=hp 17 (by decide)
          have ti1:sl a 52 = .int .i64 k:=hp 18 (by decide)
          refine ite_y rfl (wp_val (.pointer (some ⟨g,k * 2,none⟩)) ?_ ?_)
          ·simp only [execOp,eval_tmp,eval_const,ti0,ti1];simp [go_sem,knn,hk2]
          ·exact ⟨_,rfl,Below.refl _ _,rfl⟩
         ·intro a W hb hs hp hi
          have tt:sl a 53 = .pointer (some ⟨g,k * 2,none⟩):=hp 19 (by decide)
          have dd0:=(hb.cell (p:=⟨g,k * 2,none⟩) (lt_of_cell cv0)).trans cv0
          have dd1:=(hb.cell (p:=⟨g,k * 2 + 1,none⟩) (lt_of_cell cv1)).trans cv1
          refine ite_y rfl (wp_val (.agg #[.slice p1 n1 e1,.slice p2 n2 e2]) ?_ ?_)
          ·simp only [execOp,eval_tmp,tt];simp [go_sem,dd0,dd1]
          ·exact ⟨_,rfl,Below.refl _ _,rfl⟩
         ·intro a W hb hs hp hi
          have t37:sl a 37 = .agg #[.slice (some ⟨bx,ox,none⟩) b1 d1,.slice a2 b2 d2]:=hp 3 (by decide)
          have t50:sl a 50 = B8 cx:=hp 16 (by decide)
          have t54:sl a 54 = .agg #[.slice p1 n1 e1,.slice p2 n2 e2]:=hp 20 (by decide)
          refine ite_y rfl (wp_enter 88 #[.agg #[.slice (some ⟨bx,ox,none⟩) b1 d1,.slice a2 b2 d2],B8 cx,.agg #[.slice p1 n1 e1,.slice p2 n2 e2]] ?_ (HLS.out W (S1.out.keep hb) (S2.out.keep hb) (T1.out.keep hb) (T2.out.keep hb)) ?_)
          ·simp only [execOp,resolve,List.map_toArray,List.map,eval_tmp,eval_func,eval_const,t37,t50,t54];simp [go_sem]
          ·rintro e W' ⟨q5,m5,g5,q6,m6,g6,e5,e6,rfl,o5,o6,hw⟩
           exact ⟨_,rfl,_,rfl,hw,_,rfl,XRowB.of_owns ne o5 o6 hb.size⟩
         ·intro a W hb hs hp hi
          exact ite_y rfl (wp_val (sl a 55) rfl ⟨_,rfl,Below.refl _ _,hp 21 (by decide)⟩)
         ·intro a W hb hs hp hi
          have t33:XRowTB _ _ (YJ) (0) (sl a 33) W:=hp 22 (by decide)
          obtain ⟨u,t33,hr⟩:=t33
          refine ite_y rfl (wp_val (u) ?_ ?_)
          ·simp only [execOp,eval_tmp,t33];rfl
          ·exact ⟨_,rfl,Below.refl _ _,hr⟩
         ·intro a W hb hs hp hi
          have t33:XRowTB _ _ (YJ) (0) (sl a 33) W:=hp 22 (by decide)
          obtain ⟨u,t33,hr⟩:=t33
          refine ite_y rfl (wp_val (.int .i64 0) ?_ ?_)
          ·simp only [execOp,eval_tmp,t33];rfl
          ·exact ⟨_,rfl,Below.refl _ _,rfl⟩
         ·intro a W hb hs hp hi
          refine ite_y rfl (wp_val' (w':=W.alloc (.cells #[.slice none 0 0,.slice none 0 0] 101)) (.pointer (some ⟨W.heap.size,0,none⟩)) ?_ ?_)
          ·simp only [execOp];simp [go_sem]
          ·exact ⟨_,rfl,al (Below.refl _ _) (Nat.le_refl _),W.heap.size,#[.slice none 0 0,.slice none 0 0],rfl,hb.size,rfl,hnew rfl⟩
         ·intro a W hb hs hp hi
          have tu:XRowB _ _ _ (sl a 56) W:=hp 23 (by decide)
          have tb:XBox _ _ _ (sl a 8) W:=hp 25 (by decide)
          obtain ⟨q5,m5,g5,q6,m6,g6,tu,z5,z6⟩:=tu
          obtain ⟨b,cs,tb,hB,hc,hh⟩:=tb
          obtain ⟨u0,u1,rfl⟩:=size2 hc
          obtain ⟨d0,d1⟩:=cells2 hh
          have z0:W.frozen? ⟨b,0,none⟩ = false:=frozen_of_row _ _ 0 _ _ hh
          have z1:W.frozen? ⟨b,1,none⟩ = false:=frozen_of_row _ _ 1 _ _ hh
          refine ite_y rfl (wp_skipX (w':=(W.setCell ⟨b,0,none⟩ (.slice q5 m5 g5)).setCell ⟨b,1,none⟩ (.slice q6 m6 g6)) ?_ ?_)
          ·simp only [execOp,eval_tmp,tu,tb];simp [go_sem,d0,d1,z0,z1]
          ·have hst:=stepX_set2 (v0:=.slice q5 m5 g5) (v1:=.slice q6 m6 g6) hB hh
           exact ⟨_,rfl,hst,b,_,tb,hB,heap_set2 hh,XRowB.step (by exact ⟨q5,m5,g5,q6,m6,g6,rfl,z5,z6⟩) hst⟩
         ·intro a W hb hs hp hi
          have t57:sl a 57 = .int .i64 0:=hp 24 (by decide)
          exact ite_y rfl (wp_val (sl a 57) rfl ⟨_,rfl,Below.refl _ _,t57⟩)
        intro a w9 hb hs hd hI ht
        have ha:=act_is [34,35,36,37,38,39,40,41,42,43,44,45,46,47,48,49,50,51,52,53,54,55,33,56,57,8,9] hs hd ht (by decide)
        have tb:Boxed _ _ _ _ (sl a) w9:=hI 26 (by decide)
        obtain ⟨b8,cs,tb,hB8,h8,q8a,m8a,g8a,q8b,m8b,g8b,ec,⟨⟨z8a,-⟩,⟨z8b,-⟩⟩,y8a,y8b⟩:=tb
        obtain rfl:cs = #[.slice q8a m8a g8a,.slice q8b m8b g8b]:=by injection ec
        simp only [List.foldl,tb] at ha
        generalize sl a 34 = u34 at ha
        generalize sl a 35 = u35 at ha
        generalize sl a 36 = u36 at ha
        generalize sl a 37 = u37 at ha
        generalize sl a 38 = u38 at ha
        generalize sl a 39 = u39 at ha
        generalize sl a 40 = u40 at ha
        generalize sl a 41 = u41 at ha
        generalize sl a 42 = u42 at ha
        generalize sl a 43 = u43 at ha
        generalize sl a 44 = u44 at ha
        generalize sl a 45 = u45 at ha
        generalize sl a 46 = u46 at ha
        generalize sl a 47 = u47 at ha
        generalize sl a 48 = u48 at ha
        generalize sl a 49 = u49 at ha
        generalize sl a 50 = u50 at ha
        generalize sl a 51 = u51 at ha
        generalize sl a 52 = u52 at ha
        generalize sl a 53 = u53 at ha
        generalize sl a 54 = u54 at ha
        generalize sl a 55 = u55 at ha
        generalize sl a 33 = u33 at ha
        generalize sl a 56 = u56 at ha
        generalize sl a 57 = u57 at ha
        generalize sl a 9 = u9 at ha
        simp only [Act.put,List.setIfInBounds_toArray,List.set_cons_zero,List.set_cons_succ] at ha
        rw [ha]
        clear ha hI ht
        have MC9:=Lib.hid (MC.out.keep hb);have BB9:=Lib.hid (bl BB.out hb BB.out.size)
        have g9:=MC9.out.at hi
        obtain ⟨r1,r2,r3,r4,r5,r6,cu0',cu1',fz0',fz1',-⟩:=g9
        obtain ⟨y0,y1⟩:=cells2 h8
        have hoff:RowOff2 w9 g (.slice q8a m8a g8a) (.slice q8b m8b g8b) YJ:=⟨q8a,m8a,g8a,q8b,m8b,g8b,rfl,rfl,z8a,z8b,fun h a ha=>by have:=y8a h a ha;omega,fun h a ha=>by have:=y8b h a ha;omega⟩
        have NX:Hid (RMemV ((w9.setCell ⟨g,i * 2,none⟩ (.slice q8a m8a g8a)).setCell ⟨g,i * 2 + 1,none⟩ (.slice q8b m8b g8b)) w.heap.size 101 (some ⟨g,0,none⟩) no co (rowB i (k + 1) G)∧Below w.heap.size w ((w9.setCell ⟨g,i * 2,none⟩ (.slice q8a m8a g8a)).setCell ⟨g,i * 2 + 1,none⟩ (.slice q8b m8b g8b))):=by
         rw [HST.out]
         exact ⟨.inr ⟨g,rfl,hgw,MC9.out.set hi hoff⟩,(BB9.out.setCell hgw _).setCell hgw _⟩
        clear MC BB MC9 BB9 hoff z8a z8b y8a y8b hb S1 S2 T1 T2 HLD HLS HST cu0 cu1 cv0 cv1 fz0 fz1 h8 hcx
        go_wp2
        go_roundw
        case rel=>exact ⟨k + 1,by omega,by go_num,NX.out.1,NX.out.2⟩
        case measure=>simp [intOf];omega
      ·have hkm:k = no:=by omega
       have hge:(no:Int)≤(k:Int):=by omega
       have HF1:Hid (RMemV wr w.heap.size 101 qo no co (backB no (i + 1) (listF K0))):=by show RMemV _ _ _ _ _ _ _;rw [← HNXT.out];have h:=hM.out;rw [hkm] at h;exact h
       have BB:=Lib.hid hB.out
       clear hM hB hkm
       go_wp2
       go_roundw
       case rel=>exact ⟨i + 1,by omega,by go_num,HF1.out,BB.out⟩
       case measure=>simp [intOf];omega
    ·have him:i = no:=by omega
     have hge:(no:Int)≤(i:Int):=by omega
     have HF1:Hid (RwS wr qo no co ((List.range no).map (backB no no (listF K0)))∧Below w.heap.size w wr∧(no = 0∨∃ g,qo = some ⟨g,0,none⟩∧w.heap.size≤g)):=⟨by have h:=hM.out;rw [him] at h;exact h.rwS HSH.out.1 HSH.out.2.1 HSH.out.2.2,hB.out,hM.out.imp id fun ⟨g,e,h,_⟩=>⟨g,e,h⟩⟩
     clear hM hB him
     go_wp2
     go_ret
     exact ⟨qo,no,co,by rw [HRES.out];simp,rfl,by rw [HRES.out];exact HF1.out.1,HF1.out.2.1,HF1.out.2.2⟩
end Go.Proofs.YtccaiiigdfieoaaGreatDoor
namespace Go.By
open Go.RowKit
theorem RwS.set {w:World} {p p1 p2:Option Addr} {n c g o T n1 c1 n2 c2:Nat} {fr:Nat × Nat} {v:Value} {K:List (List UInt8 × List UInt8)} (h:RwS w p n c K) (hp:0 < n→∀ a,p = some a→a.block≠g) (hg:w.heap[g]? = some (.cells #[.slice p1 n1 c1,.slice p2 n2 c2] T fr)) :
  RwS (w.setCell ⟨g,o,none⟩ v) p n c K:=by
 refine ⟨h.len,h.le,h.max,h.nil,fun j k hj=>?_⟩
 have hjn:0 < n:=by have:=(List.getElem?_eq_some_iff.1 hj).1;have:=h.len;omega
 obtain ⟨b,o',q1,m1,d1,q2,m2,d2,e,h1,h2,h3,h4⟩:=h.row j k hj
 have hb:b≠g:=hp hjn ⟨b,o',none⟩ e
 exact ⟨b,o',q1,m1,d1,q2,m2,d2,e,(World.cell?_of_block (a:=⟨b,o' + j * 2,none⟩) (Below.heap_setCell _ _ _ _ hb)).trans h1,(World.cell?_of_block (a:=⟨b,o' + j * 2 + 1,none⟩) (Below.heap_setCell _ _ _ _ hb)).trans h2,
  h3.set2 (fun h0=>h3.away hg h0),h4.set2 (fun h0=>h4.away hg h0)⟩
end Go.By
namespace Go.Proofs.YtccaiiigdfieoaaGreatDoor
open Go.RowKit Go.By
end Go.Proofs.YtccaiiigdfieoaaGreatDoor
namespace Go.By
open Go.RowKit
theorem RwV.of_owns {w:World} {base T n c:Nat} {q:Option Addr} {vs:List (Value × Value)} (h:w.ownsRow base T 2 (.slice q n c) n (fl2 vs)) (h1:∀ u,u ∈ fl2 vs→u.oneCell' = true):RwV w q n c vs:=by
 have hl:vs.length = n:=by have:=h.1;rw [fl2_length] at this;omega
 rcases h.2 with ⟨e1,e2⟩ | ⟨g,cap,cur,e1,_,_,h3,h4,_⟩
 ·cases e1
  exact ⟨hl,Nat.le_of_eq e2,by simp [maxLen],fun _=>⟨e2,rfl⟩,fun j u hj=>(by have:=(List.getElem?_eq_some_iff.1 hj).1;rw [fl2_length] at this;omega),h1⟩
 ·cases e1
  refine ⟨hl,h3,h4,fun e=>(by cases e),fun j u hj=>⟨g,0,rfl,?_⟩,h1⟩
  have:=(List.getElem?_eq_some_iff.1 hj).1
  rw [fl2_length] at this
  rw [Nat.zero_add,h.cellAt _ (by omega)];exact hj
end Go.By
namespace Go.Proofs.YtccaiiigdfieoaaGreatDoor
open Go.RowKit Go.By
end Go.Proofs.YtccaiiigdfieoaaGreatDoor
namespace Go.By
open Go.RowKit
end Go.By
namespace Go.Proofs.YtccaiiigdfieoaaGreatDoor
open Go.RowKit Go.By
end Go.Proofs.YtccaiiigdfieoaaGreatDoor
namespace Go.By
open Go.RowKit
end Go.By
namespace Go.Proofs.YtccaiiigdfieoaaGreatDoor
open Go.RowKit Go.By
end Go.Proofs.YtccaiiigdfieoaaGreatDoor
namespace Go.Proofs.YtccaiiigdfieoaaGreatDoor
open Go.RowKit Go.By
theorem RwL.made {w:World} {base g n:Nat} (hh:w.heap[g]? = some (.cells (madeCells #[.slice none 0 0,.slice none 0 0] (n * 2)) 99 (0,0))) (hb:base≤g) (hn:n≤maxLen):RwL 99 5 w base (.slice (some ⟨g,0,none⟩) n n) n (List.replicate n ([],[])):=by
 have hfl:(madeCells #[.slice none 0 0,.slice none 0 0] (n * 2)).toList = fl2 (List.replicate n ((.slice none 0 0:Value),(.slice none 0 0:Value))):=by
  apply List.ext_getElem?
  intro i
  by_cases hi:i < n * 2
  ·have e1:(madeCells #[.slice none 0 0,.slice none 0 0] (n * 2)).toList[i]? = some (.slice none 0 0):=by
    rcases Nat.mod_two_eq_zero_or_one i with h | h <;> simp [madeCells,hi,h]
   have hd:i / 2 < n:=by omega
   obtain ⟨f1,f2⟩:=fl2_at (vs:=List.replicate n ((.slice none 0 0:Value),(.slice none 0 0:Value))) (i:=i / 2) (u:=(.slice none 0 0,.slice none 0 0)) (by rw [List.getElem?_replicate,if_pos hd])
   rw [e1]
   rcases Nat.mod_two_eq_zero_or_one i with h | h
   ·rw [show i / 2 * 2 = i by omega] at f1;exact f1.symm
   ·rw [show i / 2 * 2 + 1 = i by omega] at f2;exact f2.symm
  ·rw [List.getElem?_eq_none (by simp [madeCells];omega),List.getElem?_eq_none (by rw [fl2_length,List.length_replicate];omega)]
 refine ⟨List.replicate n (.slice none 0 0,.slice none 0 0),by simp,by simp,⟨by rw [fl2_length,List.length_replicate],.inr ⟨g,n,_,rfl,hb,hh,Nat.le_refl _,hn,by simp [madeCells],?_⟩⟩,?_⟩
 ·rw [hfl,List.take_of_length_le (by rw [fl2_length,List.length_replicate];omega)]
 ·intro j u hj
  obtain ⟨h1,h2⟩:=List.getElem?_eq_some_iff.1 hj
  rw [List.length_replicate] at h1
  simp at h2
  subst h2
  exact ⟨([],[]),by rw [List.getElem?_replicate,if_pos h1],⟨none,0,0,rfl,rfl,World.ownsRow_nil _ _ _ _⟩,⟨none,0,0,rfl,rfl,World.ownsRow_nil _ _ _ _⟩⟩
theorem fill_step {α:Type} {K:List α} {j n:Nat} {a z:α} (hj:K[j]? = some a) (hn:K.length = n):(K.take j ++ List.replicate (n - j) z).set j a = K.take (j + 1) ++ List.replicate (n - (j + 1)) z:=by
 have hl:=(List.getElem?_eq_some_iff.1 hj).1
 have lj:(K.take j).length = j:=by rw [List.length_take];omega
 rw [List.set_append_right _ _ (by omega),lj,Nat.sub_self,List.take_add_one,hj]
 rw [show n - j = (n - (j + 1)) + 1 by omega,List.replicate_succ]
 simp
theorem heap_owns2 {w:World} {base E g n:Nat} {L:List Value} (h:w.ownsRow base E 2 (.slice (some ⟨g,0,none⟩) n n) n L):w.heap[g]? = some (.cells L.toArray E (0,0)):=by
 rcases h.2 with ⟨h1,_⟩ | ⟨g',cap,cur,hv,_,hh,_,_,hs,ht⟩
 ·cases h1
 ·cases hv
  rw [hh]
  have:cur = L.toArray:=by
   rw [← ht,List.take_of_length_le (by simp [hs])]
  rw [this]
set_option maxRecDepth 100000 in
set_option maxHeartbeats 4000000 in
theorem ERows_any (base be k t n:Nat) (v:Value) (K:List Rw) (w:World) (hE:Elm w base be k t v n K) (hr:∀ r,r ∈ K→Room r.1.length∧Room r.2.length) (hn:n≤4096) :
  Calls Tryz.prog 78 #[.pointer (some ⟨be,0,none⟩)] w fun e w'=>∃ v',e = .returned v'∧RwL 99 5 w' w.heap.size v' n K∧Below w.heap.size w w':=by
 obtain ⟨r0,hr0,hrz,hr1,hr2⟩:=info_parts info_vrow
 obtain ⟨q,c,rfl⟩:=hE.rows.shape
 have HLEN:=Lib.hid hE.rows.len;have HR:=Lib.hid hr;have HE:=Lib.hid hE
 have HM1:Hid (n≤maxLen):=by show n≤maxLen;unfold maxLen;omega
 have HM2:Hid (48 * n≤281474976710656):=by show 48 * n≤_;omega
 obtain ⟨g,hg⟩:∃ g,g = w.heap.size:=⟨_,rfl⟩
 have HG:=Lib.hid hg
 clear hg
 obtain ⟨f0,f1,f2⟩:=cells3 hE.box
 clear hE hr
 go_enter Tryz.func78,Tryz.ntmps78
 go_wp2_with (at_make;refine wpList_make_full _ rfl _ _ 44 rfl w.heap.size 99 r0 (.agg #[.slice none 0 0,.slice none 0 0]) 2 Tryz.underlying44 hr0 hrz hr1 .i64 .i64 _ _ n rfl rfl rfl rfl (by rw [hr2];exact HM2.out) HM1.out (by simp) ?_)
 intro w1 ho hg
 have hg':Below w.heap.size w w1:=(Below.refl _ _).grown hg (by simp) (by simp)
 have RM:=heap_owns2 ho
 have R1:Hid (RwL 99 5 w1 w.heap.size (.slice (some ⟨w.heap.size,0,none⟩) n n) n (List.replicate n ([],[]))):=RwL.made (by simpa using RM) (Nat.le_refl _) HM1.out
 have E1:=Lib.hid (HE.out.keep hg')
 have B1:=Lib.hid hg'
 rw [← HG.out] at R1 ⊢
 clear RM ho hg hg' f0 f1 f2 hr0 hrz hr1 hr2 HM1 HM2
 obtain ⟨f0,f1,f2⟩:=cells3 E1.out.box
 go_wp2
 clear f0 f1 f2
 go_loopw [19] (fun i wr=>∃ j:Nat,j≤n∧i = .int .i64 j∧Hid (RwL 99 5 wr g (.slice (some ⟨g,0,none⟩) n n) n (K.take j ++ List.replicate (n - j) ([],[])))∧Hid (Below g w wr)) (fun i _=>n - (intOf i).toNat)
 case atStart=>exact ⟨0,Nat.zero_le _,rfl,by show RwL _ _ _ _ _ _ _;simpa using R1.out,by show Below _ _ _;rw [HG.out];exact B1.out⟩
 case round =>
  clear R1 E1 B1
  obtain ⟨j,hj,rfl,hR,hB⟩:=hrel
  have hE:=Lib.hid (HE.out.keep (w':=wr) (by rw [← HG.out];exact hB.out))
  by_cases hjl:j < n
  ·have jn:(j:Int) < (n:Int):=by omega
   obtain ⟨gs,kk,a1,b1,d1,a2,b2,d2,rfl,e1,e2,hkk,t1,t2⟩:=hE.out.rows.at hjl
   have T1:=Lib.hid t1;have T2:=Lib.hid t2;have HK:=Lib.hid hkk.out
   have HRR:=Lib.hid (HR.out kk (List.mem_of_getElem? hkk.out))
   clear t1 t2 hkk
   go_wp2_with fail
   clear e1 e2
   refine use_w1 (fun W=>Below wr.heap.size wr W) (al (Below.refl _ _) (Nat.le_refl _)) ?_
   rintro w7 b7
   refine Calls.mono (RClone_any a1 a2 b1 d1 b2 d2 kk.1 kk.2 w7 (T1.out.keep b7) (T2.out.keep b7) (by rw [← T1.out.len];exact HRR.out.1) (by rw [← T2.out.len];exact HRR.out.2)) ?_
   rintro e w8 ⟨q1,m1,g1,q2,m2,g2,l1,l2,rfl,o1,o2,hb⟩
   have hgs:g≤w7.heap.size:=Nat.le_trans (by rw [HG.out];exact hB.out.size) b7.size
   have B8':=Lib.hid (b7.trans (hb.mono b7.size))
   have Y1:Hid (Bw 5 w8 g (.slice q1 m1 g1) kk.1):=Bw.mk (owns_mono o1 hgs) l1.out
   have Y2:Hid (Bw 5 w8 g (.slice q2 m2 g2) kk.2):=Bw.mk (owns_mono o2 hgs) l2.out
   have R8:=Lib.hid (hR.out.keep B8'.out)
   have E8:=Lib.hid (hE.out.keep B8'.out)
   have B9:=Lib.hid (hB.out.trans (B8'.out.mono (by rw [HG.out];exact hB.out.size)))
   obtain ⟨cur,hcur⟩:=R8.out.blk
   have z0:w8.frozen? ⟨g,j * 2,none⟩ = false:=frozen_of_row _ _ _ _ _ hcur
   have z1:w8.frozen? ⟨g,j * 2 + 1,none⟩ = false:=frozen_of_row _ _ _ _ _ hcur
   obtain ⟨gx,kx,x1,xb1,xd1,x2,xb2,xd2,hgx,c1,c2,-,-,-⟩:=R8.out.at hjl
   obtain rfl:g = gx:=by injection hgx with h;injection h
   have HP:=Lib.hid (R8.out.put (by decide) hjl Y1.out Y2.out)
   have hs8:g≤w8.heap.size:=Nat.le_trans hgs hb.size
   clear hcur hgx o1 o2 hb b7 hR hE hB T1 T2 l1 l2 B8' hgs
   rw [fill_step HK.out HLEN.out] at HP
   have BX:Hid (∀ o1 o2 v1 v2,Below g w ((w8.setCell ⟨g,o1,none⟩ v1).setCell ⟨g,o2,none⟩ v2)):=fun o1 o2 v1 v2=>(B9.out.setCell (Nat.le_refl _) _).setCell (Nat.le_refl _) _
   clear B9 E8 R8 hs8
   go_wp2
   go_roundw
   case rel=>exact ⟨j + 1,by omega,by go_num,HP.out,BX.out _ _ _ _⟩
   case measure=>simp [intOf];omega
  ·have hjn:j = n:=by omega
   have hge:(n:Int)≤(j:Int):=by omega
   have HF:=Lib.hid hR.out
   rw [List.take_of_length_le (by rw [HLEN.out];omega),hjn,Nat.sub_self,List.replicate_zero,List.append_nil] at HF
   have BF:=Lib.hid hB.out
   clear hR hE hB hjn
   go_wp2
   go_ret
   exact ⟨_,rfl,by rw [← HG.out];exact HF.out,by rw [← HG.out];exact BF.out⟩
end Go.Proofs.YtccaiiigdfieoaaGreatDoor
namespace Go.By
open Go.RowKit
theorem RwL.mono {T2 T1 base b2 n:Nat} {w:World} {v:Value} {K:List (List UInt8 × List UInt8)} (h:RwL T2 T1 w base v n K) (hb:b2≤base):RwL T2 T1 w b2 v n K:=by
 obtain ⟨vs,a,b,o,r⟩:=h
 refine ⟨vs,a,b,?_,fun j u hj=>by obtain ⟨k,hk,g1,g2⟩:=r j u hj;exact ⟨k,hk,g1.mono hb,g2.mono hb⟩⟩
 obtain ⟨q,c,rfl⟩:=owns_shape o
 exact owns_mono o hb
end Go.By
namespace Go.Proofs.YtccaiiigdfieoaaGreatDoor
open Go.RowKit Go.By
end Go.Proofs.YtccaiiigdfieoaaGreatDoor
namespace Go.By
open Go.RowKit
section
variable {T2 T1:TypeId} {w w':World} {base n:Nat} {v:Value} {xss:List (List UInt8)}
theorem Own2.mono {b2:Nat} (h:Own2 T2 T1 w base v n xss) (hb:b2≤base):Own2 T2 T1 w b2 v n xss:=by
 obtain ⟨vs,a,b,r⟩:=h
 obtain ⟨q,c,rfl⟩:=owns_shape a
 exact ⟨vs,owns_mono a hb,b,fun j u hj=>by obtain ⟨xs,q',c',e1,e2,e3⟩:=r j u hj;exact ⟨xs,q',c',e1,e2,owns_mono e3 hb⟩⟩
theorem Own2.made {q:Value} (ho:w.ownsRow base T2 1 q n (madeCells #[Value.slice none 0 0] n).toList):Own2 T2 T1 w base q n (List.replicate n []):=by
 have e:(madeCells #[Value.slice none 0 0] n).toList = List.replicate n (Value.slice none 0 0):=toList_madeCells_one _ _
 rw [e] at ho
 refine ⟨_,ho,by simp,fun j u hj=>?_⟩
 obtain ⟨h1,h2⟩:=List.getElem?_eq_some_iff.1 hj
 rw [List.length_replicate] at h1
 simp at h2
 exact ⟨[],none,0,by rw [List.getElem?_replicate,if_pos h1],h2.symm,World.ownsRow_nil _ _ _ _⟩
theorem Own2.put {g c i m c3:Nat} {q3:Option Addr} {xs:List UInt8} (h:Own2 T2 T1 w base (.slice (some ⟨g,0,none⟩) n c) n xss) (hT:T1≠T2) (hi:i < n) (h1:w.ownsRow base T1 1 (.slice q3 m c3) m (xs.map B8)) :
  Own2 T2 T1 (w.setCell ⟨g,i,none⟩ (.slice q3 m c3)) base (.slice (some ⟨g,0,none⟩) n c) n (xss.set i xs):=by
 obtain ⟨vs,a,b,r⟩:=h
 have hml:m = xs.length:=by have:=h1.1;simp at this;exact this.symm
 subst hml
 have hvl:vs.length = n:=by simpa using a.1
 have hst:=a.stored i (.slice q3 xs.length c3)
 refine ⟨vs.set i (.slice q3 xs.length c3),hst.1,by simp [b],fun j u hj=>?_⟩
 rw [List.getElem?_set] at hj
 by_cases e:i = j
 ·subst e
  rw [if_pos rfl,if_pos (by omega)] at hj
  cases hj
  exact ⟨xs,q3,c3,by rw [List.getElem?_set,if_pos rfl,if_pos (by omega)],rfl,owns_kept h1 hst.2 (owns_ne h1 a hT)⟩
 ·rw [if_neg e] at hj
  obtain ⟨xs',q',c',e1,e2,e3⟩:=r j u hj
  exact ⟨xs',q',c',by rw [List.getElem?_set,if_neg e];exact e1,e2,owns_kept e3 hst.2 (owns_ne e3 a hT)⟩
theorem Own2.blk {g c i:Nat} (h:Own2 T2 T1 w base (.slice (some ⟨g,0,none⟩) n c) n xss) (hi:i < n):(∃ u,w.cell? ⟨g,i,none⟩ = some u)∧w.frozen? ⟨g,i,none⟩ = false∧base≤g:=by
 obtain ⟨vs,a,b,r⟩:=h
 have hvl:vs.length = n:=by simpa using a.1
 exact ⟨⟨_,(a.cellAt i (by omega)).trans (List.getElem?_eq_getElem (by omega))⟩,a.frozenAt _,(a.lt g rfl).1⟩
end
end Go.By
namespace Go.Proofs.YtccaiiigdfieoaaGreatDoor
open Go.RowKit Go.By
end Go.Proofs.YtccaiiigdfieoaaGreatDoor
namespace Go.By
open Go.RowKit Go.Proofs.YtccaiiigdfieoaaGreatDoor
theorem owns_same {w w':World} {base T k n:Nat} {v:Value} {L:List Value} (h:w.ownsRow base T k v n L) (hs:w.heap.size≤w'.heap.size) (hb:∀ g,v.ownBlock = some g→w'.heap[g]? = w.heap[g]?):w'.ownsRow base T k v n L:=by
 have _:=hs
 refine ⟨h.1,?_⟩
 rcases h.2 with h1 | ⟨g,cap,cur,e,h1,h2,h3⟩
 ·exact .inl h1
 ·exact .inr ⟨g,cap,cur,e,h1,(hb g (by rw [e];rfl)).trans h2,h3⟩
section
variable {w w':World} {base be k t n:Nat} {v:Value} {K:List Rw}
theorem Chg.blk (h:Chg w w' be v) (hE:Elm w base be k t v n K) {g T:Nat} {cs:Array Value} {fr:Nat × Nat} (hg:w.heap[g]? = some (.cells cs T fr)) (h1:T≠191) (h2:v.ownBlock≠some g):w'.heap[g]? = some (.cells cs T fr):=by
 refine (h.block g (blk_lt hg) (fun e=>?_) h2).trans hg
 subst e
 rw [hE.box] at hg;injection hg with hg;injection hg with _ hg _;exact h1 hg.symm
theorem Chg.blk2 (h:Chg w w' be v) (hE:Elm w base be k t v n K) {g T:Nat} {cs:Array Value} {fr:Nat × Nat} (hg:w.heap[g]? = some (.cells cs T fr)) (h1:T≠191) (h2:99≠T):w'.heap[g]? = some (.cells cs T fr) :=
 h.blk hE hg h1 (hE.rows.ne_box hg h2)
theorem Chg.bw (h:Chg w w' be v) (hE:Elm w base be k t v n K) {b:Nat} {u:Value} {xs:List UInt8} (hu:Bw 5 w b u xs):Bw 5 w' b u xs:=by
 obtain ⟨q,m,c,e,l,o⟩:=hu
 refine ⟨q,m,c,e,l,owns_same o h.size fun g hg=>?_⟩
 rcases o.2 with ⟨e1,_⟩ | ⟨g',cap,cur,e1,_,hh,_⟩
 ·rw [e1] at hg;cases hg
 ·rw [e1] at hg;cases hg
  rw [h.blk2 hE hh (by decide) (by decide),hh]
theorem Chg.rwl (h:Chg w w' be v) (hE:Elm w base be k t v n K) {b2 n2:Nat} {v2:Value} {K2:List Rw} (h2:RwL 99 5 w b2 v2 n2 K2) (hne:∀ g,v2.ownBlock = some g→v.ownBlock≠some g):RwL 99 5 w' b2 v2 n2 K2:=by
 obtain ⟨vs,a,b,o,r⟩:=h2
 refine ⟨vs,a,b,owns_same o h.size fun g hg=>?_,fun j u hj=>by obtain ⟨x,hk,g1,g2⟩:=r j u hj;exact ⟨x,hk,h.bw hE g1,h.bw hE g2⟩⟩
 rcases o.2 with ⟨e1,_⟩ | ⟨g',cap,cur,e1,_,hh,_⟩
 ·rw [e1] at hg;cases hg
 ·have hn:=hne g hg
  rw [e1] at hg;cases hg
  rw [h.blk hE hh (by decide) hn,hh]
theorem Chg.elm (h:Chg w w' be v) (hE:Elm w base be k t v n K) {b2 be2 n2 k2 t2:Nat} {v2:Value} {K2:List Rw} (h2:Elm w b2 be2 k2 t2 v2 n2 K2) (hbe:be2≠be) (hne:∀ g,v2.ownBlock = some g→v.ownBlock≠some g):Elm w' b2 be2 k2 t2 v2 n2 K2 :=
 ⟨(h.block be2 (blk_lt h2.box) hbe (hE.rows.ne_box h2.box (by decide))).trans h2.box,h.rwl hE h2.rows hne,h2.old⟩
end
end Go.By
namespace Go.Proofs.YtccaiiigdfieoaaGreatDoor
open Go.RowKit Go.By
def codeF (K:List Rw) (x:Rw):Int:=if leadS (restF K x).1 < 0 then (if zeroS (restF K x).2 = true then 1 else 2) else 0
def putK (K:List Rw) (x:Rw):List Rw:=if leadS (restF K x).1 < 0 then K else putF K x
def putD (K D:List Rw) (x:Rw):List Rw:=if leadS (restF K x).1 < 0 then D else D ++ [x]
theorem EPut_fit (base be k t n:Nat) (v:Value) (K:List Rw) (p1 p2:Option Addr) (c1 c2:Nat) (x:Rw) (w:World) (hE:Elm w base be k t v n K) (s1:Sl B8 w p1 k c1 x.1) (s2:Sl B8 w p2 t c2 x.2) (hR:Red k t K) (hk:k≤4096) (ht:t≤65535) (hnn:n≤4096) :
  Calls Tryz.prog 64 #[.pointer (some ⟨be,0,none⟩),.agg #[.slice p1 k c1,.slice p2 t c2]] w fun e w'=>e = .returned (.tuple #[.int .i64 (codeF K x),.int .i64 0]) ∧
   ∃ v' n',Elm w' base be k t v' n' (putK K x)∧Chg w w' be v∧(v'.ownBlock = v.ownBlock∨∀ b,v'.ownBlock = some b→w.heap.size≤b):=by
 by_cases hn:leadS (restF K x).1 < 0
 ·refine (EPut_zero base be k t n v K p1 p2 c1 c2 x w hE s1 s2 hR.kept.rows hk ht hn).mono ?_
  rintro e w' ⟨rfl,hb⟩
  unfold codeF putK
  rw [if_pos hn,if_pos hn]
  exact ⟨rfl,v,n,hE.keep hb,Chg.of be v hb,.inl rfl⟩
 ·refine (EPut_grown base be k t n v K p1 p2 c1 c2 x w hE s1 s2 hR hk ht hn hnn).mono ?_
  rintro e w' ⟨rfl,v',h1,h2,h3⟩
  unfold codeF putK
  rw [if_neg hn,if_neg hn]
  exact ⟨rfl,v',n + 1,h1,h2,h3⟩
theorem Sys.putK {n t:Nat} {D K:List Rw} {x:Rw} (h:Sys n t (kD D) K) (hx:Fit n t x):Sys n t (kD (putD K D x)) (putK K x):=by
 unfold putD Go.Proofs.YtccaiiigdfieoaaGreatDoor.putK
 by_cases hn:leadS (restF K x).1 < 0
 ·rw [if_pos hn,if_pos hn];exact h
 ·rw [if_neg hn,if_neg hn,kD_snoc];exact h.put hx hn
theorem RwN.vals {W w:World} {T n c:Nat} {q:Option Addr} {K:List Rw} (h:RwN W w T q n c K):∃ vs,w.ownsRow W.heap.size T 2 (.slice q n c) n (fl2 vs)∧RwV w q n c vs∧vs.length = n∧∀ (j:Nat) (k:Rw),K[j]? = some k→∃ u,vs[j]? = some u∧RwP W u k:=by
 obtain ⟨hb,hl,vs,o,hv⟩:=h
 have hvl:vs.length = n:=by have:=o.1;rw [fl2_length] at this;omega
 refine ⟨vs,o,RwV.of_owns o (fun u hu=>?_),hvl,hv⟩
 obtain ⟨a,ha,hu⟩:=List.mem_flatMap.1 hu
 obtain ⟨j,hj,rfl⟩:=List.getElem_of_mem ha
 obtain ⟨u',hu',q1,m1,c1,q2,m2,c2,e,-⟩:=hv j (K[j]'(by omega)) (List.getElem?_eq_getElem (by omega))
 rw [List.getElem?_eq_getElem hj] at hu'
 injection hu' with hu'
 rw [hu',e] at hu
 simp at hu
 rcases hu with rfl | rfl <;> rfl
theorem incr_ge {l:List Nat} (h:l.Pairwise (· < ·)):∀ (i:Nat) (hi:i < l.length),i≤l[i]
 | 0,_=>Nat.zero_le _
 | i + 1,hi=>by
  have h1:=incr_ge h i (by omega)
  have h2:=List.pairwise_iff_getElem.1 h i (i + 1) (by omega) hi (by omega)
  omega
theorem incr_len {l:List Nat} {B:Nat} (h:l.Pairwise (· < ·)) (hB:∀ a,a ∈ l→a < B):l.length≤B:=by
 rcases Nat.eq_zero_or_pos l.length with h0 | h0
 ·omega
 ·have h1:=incr_ge h (l.length - 1) (by omega)
  have h2:=hB _ (List.getElem_mem (show l.length - 1 < l.length by omega))
  omega
theorem Red.le {k t:Nat} {K:List Rw} (h:Red k t K):K.length≤k:=by
 have:=incr_len h.leads (B:=k) (fun a ha=>by
  obtain ⟨x,hx,rfl⟩:=List.mem_map.1 ha
  obtain ⟨hf,hl⟩:=h.kept.rows x hx
  exact hl.at.lt hf)
 rwa [List.length_map] at this
end Go.Proofs.YtccaiiigdfieoaaGreatDoor
