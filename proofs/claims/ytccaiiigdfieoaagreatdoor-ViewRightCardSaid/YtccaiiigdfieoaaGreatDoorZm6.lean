/- Chapter 15: packet.Read of what is one. Chapter 15: packet.Read whole; packet.Equation (of what fits). Chapter 18: gate.New (of a plan that may be); the counts in memory. A region that draws its order,without calls,in which two whole rows are stored: all else is told values. Chapter 18: gate.Look. Chapter 18: gate.Look of a gate that nothing came to. Chapter 19: a taker in memory; taker.New,Rows,Gate. A region that draws its order,op by op: what holds of the world is told by which operations have run. A region that draws its order,with one call that writes: all else is told values. Chapter 19: taker.Take. Chapter 19: taker.Take of a packet. -/
import Derived.Test.YtccaiiigdfieoaaGreatDoorZm5
import Derived.Maps.RangeWalk
import Derived.Maps.Own
import Derived.Maps.OwnSet
import Derived.Maps.OwnOps
import Derived.Maps.Views
import Derived.Maps.Ext
namespace Go.By
open Go.RowKit
end Go.By
namespace Go.Proofs.YtccaiiigdfieoaaGreatDoor
open Go.RowKit Go.By
def RdT (T B:Nat) (m:UInt8) (S:Nat) (X:List UInt8) (v:Value) (w:World):Prop:=∃ q n c,v = .tuple #[SVal m q n c S,.int .i64 0]∧Fresh T B w q n c X
def RdV (T B:Nat) (m:UInt8) (S:Nat) (X:List UInt8) (v:Value) (w:World):Prop:=∃ q n c,v = SVal m q n c S∧Fresh T B w q n c X
def ShRdT (T B:Nat) (m:UInt8) (S:Nat) (X:List UInt8):Shp:=⟨RdT T B m S X,fun _ _ _ ⟨q,n,c,e,h⟩ hb=>⟨q,n,c,e,h.keep hb⟩⟩
def ShRdV (T B:Nat) (m:UInt8) (S:Nat) (X:List UInt8):Shp:=⟨RdV T B m S X,fun _ _ _ ⟨q,n,c,e,h⟩ hb=>⟨q,n,c,e,h.keep hb⟩⟩
def ShNew (T B:Nat) (cs:Array Value):Shp:=⟨fun v w=>∃ g,v = .pointer (some ⟨g,0,none⟩)∧B≤g∧w.heap[g]? = some (.cells cs T (0,0)),fun _ _ _ ⟨g,e,h1,h2⟩ hb=>⟨g,e,h1,(hb.block _ (lt_of_block h2)).trans h2⟩⟩
def FrV (T B:Nat) (Y:List UInt8) (v:Value) (w:World):Prop:=∃ q n c,v = .slice q n c∧Fresh T B w q n c Y
def ShFr (T B:Nat) (Y:List UInt8):Shp:=⟨FrV T B Y,fun _ _ _ ⟨q,n,c,e,h⟩ hb=>⟨q,n,c,e,h.keep hb⟩⟩
def PkV (T B:Nat) (m:UInt8) (O M:Nat) (q8:Option Addr) (n8 k8 S:Nat) (Y:List UInt8) (v:Value) (w:World):Prop:=∃ q n c,v = PkVal m O M m q8 n8 k8 S q n c∧Fresh T B w q n c Y
def ShPk (T B:Nat) (m:UInt8) (O M:Nat) (q8:Option Addr) (n8 k8 S:Nat) (Y:List UInt8):Shp:=⟨PkV T B m O M q8 n8 k8 S Y,fun _ _ _ ⟨q,n,c,e,h⟩ hb=>⟨q,n,c,e,h.keep hb⟩⟩
theorem pkt_ne:122≠5:=by decide
def PRet (w:World) (m:UInt8) (O M:Nat) (X:List UInt8) (S:Nat) (Y:List UInt8) (e:Ending) (w':World):Prop :=
 ∃ q n c q2 n2 c2,e = .returned (.tuple #[PkVal m O M m q n c S q2 n2 c2,.int .i64 0])∧Fresh 5 w.heap.size w' q n c X∧Fresh 5 w.heap.size w' q2 n2 c2 Y∧Below w.heap.size w w'
set_option maxRecDepth 100000 in
set_option maxHeartbeats 4000000 in
theorem PRead_ok (L t k D:Nat) (b o:Nat) (n c:Nat) (xs:List UInt8) (w:World) (hP:POK L t k D) (hT:HalfT w) (h:Sl B8 w (some ⟨b,o,none⟩) n c xs) (hr:Room n) (hc:headC xs = 0) (E:Nat) (hn:n = lenP (xs.getD 1 0) k t) (hE:n = E + 4) (hs:get4 ((xs.drop E).take 4) = crcS (xs.take E)) (ho:get4 ((xs.drop 2).take 4) = D) :
  Calls Tryz.prog 111 #[PVal L t k D,.slice (some ⟨b,o,none⟩) n c] w (PRet w (xs.getD 1 0) D (get4 ((xs.drop 6).take 4)) (rdX (xs.getD 1 0) ((xs.drop 10).take (widS (xs.getD 1 0) k))) (rdS (xs.getD 1 0) ((xs.drop 10).take (widS (xs.getD 1 0) k))) ((xs.drop (10 + widS (xs.getD 1 0) k)).take t)):=by
 have HK:Hid (∀ w,Calls Tryz.prog 79 #[PVal L t k D] w fun e w'=>e = .returned (.int .i64 0)∧Below w.heap.size w w'):=PCheck_ok hP
 have hm:=headC_mode hc
 have HR:Hid (∀ w,Sl B8 w (some ⟨b,o,none⟩) n c xs→Calls Tryz.prog 172 #[.slice (some ⟨b,o,none⟩) n c] w (HRet w (xs.getD 1 0) (get4 ((xs.drop 2).take 4)) (get4 ((xs.drop 6).take 4)) 0)):=fun w h=>by have:=HRead_any (some ⟨b,o,none⟩) n c xs w h hr;rw [if_pos hc] at this;exact this
 have HN:Hid (∀ w,Calls Tryz.prog 173 #[PVal L t k D,B8 (xs.getD 1 0)] w fun e w'=>e = .returned (.tuple #[.int .i64 (n:Nat),.int .i64 0])∧Below w.heap.size w w'):=fun w=>by rw [hn];exact PLength_ok L t k D _ w hP hm
 have H:=Lib.hid h
 have HT:=Lib.hid hT
 have hle:=h.le
 have hmx:=h.max
 unfold maxLen at hmx
 have HE:Hid (E + 4≤n):=by show E + 4≤n;omega
 have HE':Hid (E≤n):=by show E≤n;omega
 have eE:(n:Int) - 4 = (E:Int):=by omega
 have eN:n - E = 4:=by omega
 have eC:¬ (c = E):=by omega
 have eb1:(E:Int)≤(n:Int):=by omega
 have eb2:(E:Int)≤(c:Int):=by omega
 obtain ⟨G,hG⟩:∃ G,get4 ((xs.drop E).take 4) = G:=⟨_,rfl⟩
 have HG:=Lib.hid hG
 obtain ⟨C,hC⟩:∃ C,crcS ([xs.take E].flatten) = C:=⟨_,rfl⟩
 have HC:=Lib.hid hC
 have e0:C = G:=by rw [hG] at hs;simp at hC;rw [hC] at hs;exact hs.symm
 subst e0
 have hV2:n = 10 + widS (xs.getD 1 0) k + t + 4:=hn
 obtain ⟨V,hV⟩:∃ V,widS (xs.getD 1 0) k = V:=⟨_,rfl⟩
 obtain ⟨X,hX⟩:∃ X,rdX (xs.getD 1 0) ((xs.drop 10).take V) = X:=⟨_,rfl⟩
 obtain ⟨S,hS⟩:∃ S,rdS (xs.getD 1 0) ((xs.drop 10).take V) = S:=⟨_,rfl⟩
 obtain ⟨Y,hY⟩:∃ Y,(xs.drop (10 + V)).take t = Y:=⟨_,rfl⟩
 have HRD:Hid (∀ w,Sl B8 w (some ⟨b,o + 10,none⟩) V (c - 10) ((xs.drop 10).take V)→Calls Tryz.prog 175 #[B8 (xs.getD 1 0),.int .i64 (k:Nat),.slice (some ⟨b,o + 10,none⟩) V (c - 10)] w fun e w'=>∃ q n' c',e = .returned (.tuple #[SVal (xs.getD 1 0) q n' c' S,.int .i64 0])∧Fresh 5 w.heap.size w' q n' c' X∧Below w.heap.size w w'):=fun w h=>by
  have:=RRead_any (xs.getD 1 0) k _ _ _ _ w hm hP.k1 hP.k2 h hV.symm
  rw [hX,hS] at this;exact this
 have HY:=Lib.hid hY
 have HRt:Hid (Room t):=by have:=hP.t2;show t≤140737488355328;omega
 rw [hV] at hV2
 rw [hV,hX,hS,hY]
 obtain ⟨A,hA⟩:∃ A,A = 10 + V:=⟨_,rfl⟩
 have HAV:=Lib.hid hA
 have eA:(E:Int) - (t:Int) = (A:Int):=by omega
 have HV:Hid (10 + V≤n):=by show 10 + V≤n;omega
 have HVt:Hid (10 + V + t≤n):=by show 10 + V + t≤n;omega
 have HEt:Hid (E = A + t):=by show E = A + t;omega
 have ea1:(10:Int)≤(A:Int):=by omega
 have ea2:(A:Int)≤(c:Int):=by omega
 have ea3:A - 10 = V:=by omega
 have ea4:¬ (c = 10):=by omega
 have ea5:(A:Int)≤(n:Int):=by omega
 generalize xs.getD 1 0 = m at *
 rw [ho] at HR
 generalize get4 ((xs.drop 6).take 4) = M at *
 clear hP h hr hc hm hn hs ho hT hG hC hE hV hV2 hX hS hY hA
 go_enter Tryz.func111,Tryz.ntmps111
 go_wp2_with fail
 refine Calls.mono (HK.out _) ?_
 rintro e w1 ⟨rfl,hb⟩
 obtain ⟨hb1,h1,h2,hs⟩:=two_of hb
 have HB:=Lib.hid hb1
 clear hb hb1
 go_wp2_with fail
 refine Calls.mono (HR.out _ (H.out.keep HB.out)) ?_
 rintro e w2 ⟨q0,n0,k0,rfl,hb⟩
 have h1':=(hb.block _ (by omega)).trans h1
 have h2':=(hb.block _ (by omega)).trans h2
 have hs2:w.heap.size + 2≤w2.heap.size:=Nat.le_trans hs hb.size
 have HB2:=Lib.hid (bl HB.out hb HB.out.size)
 clear hb h1 h2 hs
 have c0:∀ o',(w2.alloc o').cell? ⟨w.heap.size,0,none⟩ = _:=fun _=>calloc (cells_four h1').1
 have c1:∀ o',(w2.alloc o').cell? ⟨w.heap.size,1,none⟩ = _:=fun _=>calloc (cells_four h1').2.1
 have c2:∀ o',(w2.alloc o').cell? ⟨w.heap.size,2,none⟩ = _:=fun _=>calloc (cells_four h1').2.2.1
 have c3:∀ o',(w2.alloc o').cell? ⟨w.heap.size,3,none⟩ = _:=fun _=>calloc (cells_four h1').2.2.2
 go_wp2_with fail
 refine Calls.mono (HN.out _) ?_
 rintro e w3 ⟨rfl,hb⟩
 obtain ⟨hb3,h3,hs3⟩:=one_of hb
 have h1:=(hb3.block _ (by omega)).trans h1'
 have h2:=(hb3.block _ (by omega)).trans h2'
 have HB3:=Lib.hid (bl HB2.out hb3 HB2.out.size)
 have HX:Hid (w.heap.size + 2≤w2.heap.size):=hs2
 clear hb hb3 h1' h2' c0 c1 c2 c3
 go_wp2_with fail
 refine Calls.mono (SGet_any _ _ _ _ _ (Sl.part (k:=E) (m:=4) (H.out.keep HB3.out) HE.out)) ?_
 rintro e w4 ⟨rfl,hb⟩
 rw [if_pos rfl,HG.out]
 have h1':=(hb.block _ (by omega)).trans h1
 have h2':=(hb.block _ (by omega)).trans h2
 have h3':=(hb.block _ (by omega)).trans h3
 have hs4:w2.heap.size + 1≤w4.heap.size:=Nat.le_trans hs3 hb.size
 have HB4:=Lib.hid (bl HB3.out hb HB3.out.size)
 clear hb h1 h2 h3 hs3
 go_wp2_with fail
 refine Calls.mono (SOf_any _ _ _ [xs.take E] _ (sl2_one (hnew rfl) ((Sl.front' (H.out.keep HB4.out) HE'.out).keep (al (Below.refl _ _) (Nat.le_refl _)))) (HT.out.keep (al HB4.out HB4.out.size))) ?_
 rintro e w5 ⟨rfl,hb⟩
 obtain ⟨hb5,-,hs5'⟩:=one_of hb
 have h1:=(hb5.block _ (by omega)).trans h1'
 have h2:=(hb5.block _ (by omega)).trans h2'
 have h3:=(hb5.block _ (by omega)).trans h3'
 have hs5:w2.heap.size + 1≤w5.heap.size:=by omega
 have HB5:=Lib.hid (bl HB4.out hb5 HB4.out.size)
 clear hb hb5 h1' h2' h3' hs5' hs4
 rw [HC.out]
 obtain ⟨c0,c1,c2,c3⟩:=cells_four h1
 obtain ⟨d0,d1,d2⟩:=cells_three h3
 go_wp2_with fail
 refine wp_region_slip (fun ix=>([.val (.pointer (some ⟨w2.heap.size,0,none⟩)),.val (B8 m),.val (.pointer (some ⟨w.heap.size,2,none⟩)),.val (.int .i64 (k:Nat)),.val (.slice (some ⟨b,o,none⟩) n c),.val (.int .i64 (A:Nat)),.val (.slice (some ⟨b,o + 10,none⟩) V (c - 10)),(ShRdT 5 w5.heap.size m S X),(ShRdT 5 w5.heap.size m S X),(ShRdV 5 w5.heap.size m S X),(.val (.int .i64 0)),(ShNew 83 w5.heap.size #[.int .u8 0,.slice none 0 0,.int .u64 0]),.any,.any][ix]?).getD (.any)) 101 12 10 78 88 (.int .i64 0) rfl (by kernel_rfl) (by decide) (by decide) (by decide) _ rfl rfl rfl (by decide) rfl (fun a x w h=>run_extract_two _ rfl h) (by decide) ?_ ?_
 ·refine ⟨?_,?_,?_,?_,?_,?_,?_,?_,?_,?_,?_,?_,trivial⟩
  ·intro a W hb0 hs hp hi;have hb:=undrew hb0;clear hb0
   have t7:sl a 7 = .pointer (some ⟨w2.heap.size,0,none⟩):=hi 7 (by decide)
   refine ite_y rfl (wp_val (.pointer (some ⟨w2.heap.size,0,none⟩)) ?_ ?_)
   ·simp only [execOp,eval_tmp,eval_const,t7];simp [go_sem]
   ·exact ⟨_,rfl,Below.refl _ _,rfl⟩
  ·intro a W hb0 hs hp hi;have hb:=undrew hb0;clear hb0
   have tt:sl a 79 = .pointer (some ⟨w2.heap.size,0,none⟩):=hp 0 (by decide)
   have dd:=(hb.cell (p:=⟨w2.heap.size,0,none⟩) (lt_of_cell d0)).trans d0
   refine ite_y rfl (wp_val (B8 m) ?_ ?_)
   ·simp only [execOp,eval_tmp,tt];simp [go_sem,dd]
   ·exact ⟨_,rfl,Below.refl _ _,rfl⟩
  ·intro a W hb0 hs hp hi;have hb:=undrew hb0;clear hb0
   have t2:sl a 2 = .pointer (some ⟨w.heap.size,0,none⟩):=hi 2 (by decide)
   refine ite_y rfl (wp_val (.pointer (some ⟨w.heap.size,2,none⟩)) ?_ ?_)
   ·simp only [execOp,eval_tmp,eval_const,t2];simp [go_sem]
   ·exact ⟨_,rfl,Below.refl _ _,rfl⟩
  ·intro a W hb0 hs hp hi;have hb:=undrew hb0;clear hb0
   have tt:sl a 81 = .pointer (some ⟨w.heap.size,2,none⟩):=hp 2 (by decide)
   have dd:=(hb.cell (p:=⟨w.heap.size,2,none⟩) (lt_of_cell c2)).trans c2
   refine ite_y rfl (wp_val (.int .i64 (k:Nat)) ?_ ?_)
   ·simp only [execOp,eval_tmp,tt];simp [go_sem,dd]
   ·exact ⟨_,rfl,Below.refl _ _,rfl⟩
  ·intro a W hb0 hs hp hi;have hb:=undrew hb0;clear hb0
   have t1:sl a 1 = .slice (some ⟨b,o,none⟩) n c:=hi 1 (by decide)
   exact ite_y rfl (wp_val (sl a 1) rfl ⟨_,rfl,Below.refl _ _,t1⟩)
  ·intro a W hb0 hs hp hi;have hb:=undrew hb0;clear hb0
   have t13:sl a 13 = .int .i64 (A:Nat):=hi 13 (by decide)
   exact ite_y rfl (wp_val (sl a 13) rfl ⟨_,rfl,Below.refl _ _,t13⟩)
  ·intro a W hb0 hs hp hi;have hb:=undrew hb0;clear hb0
   have t83:sl a 83 = .slice (some ⟨b,o,none⟩) n c:=hp 4 (by decide)
   have t84:sl a 84 = .int .i64 (A:Nat):=hp 5 (by decide)
   have v84:a.tmps[84]?.getD undef = sl a 84:=by simp [sl]
   rw [t84] at v84
   refine ite_y rfl (wp_val (.slice (some ⟨b,o + 10,none⟩) V (c - 10)) ?_ ?_)
   ·simp only [execOp,eval_tmp,eval_const,t83,t84];simp [go_sem,v84,ea1,ea2,ea3,ea4,ea5]
   ·exact ⟨_,rfl,Below.refl _ _,rfl⟩
  ·intro a W hb0 hs hp hi;have hb:=undrew hb0;clear hb0
   have t80:sl a 80 = B8 m:=hp 1 (by decide)
   have t82:sl a 82 = .int .i64 (k:Nat):=hp 3 (by decide)
   have t85:sl a 85 = .slice (some ⟨b,o + 10,none⟩) V (c - 10):=hp 6 (by decide)
   refine ite_y rfl (wp_enter 175 #[B8 m,.int .i64 (k:Nat),.slice (some ⟨b,o + 10,none⟩) V (c - 10)] ?_ (HRD.out _ ((Sl.part (k:=10) (m:=V) (H.out.keep HB5.out) HV.out).keep hb)) ?_)
   ·simp only [execOp,resolve,List.map_toArray,List.map,eval_tmp,eval_func,eval_const,t80,t82,t85];simp [go_sem]
   ·rintro e W' ⟨q5,n5,g5,rfl,o5,hw⟩;exact ⟨_,rfl,_,rfl,hw,q5,n5,g5,rfl,o5.mono hb.size⟩
  ·intro a W hb0 hs hp hi;have hb:=undrew hb0;clear hb0
   exact ite_y rfl (wp_val (sl a 86) rfl ⟨_,rfl,Below.refl _ _,hp 7 (by decide)⟩)
  ·intro a W hb0 hs hp hi;have hb:=undrew hb0;clear hb0
   have tt:RdT 5 w5.heap.size m S X (sl a 78) W:=hp 8 (by decide)
   obtain ⟨q5,n5,g5,tt,z5⟩:=tt
   refine ite_y rfl (wp_val (SVal m q5 n5 g5 S) ?_ ?_)
   ·simp only [execOp,eval_tmp,tt];rfl
   ·exact ⟨_,rfl,Below.refl _ _,q5,n5,g5,rfl,z5⟩
  ·intro a W hb0 hs hp hi;have hb:=undrew hb0;clear hb0
   have tt:RdT 5 w5.heap.size m S X (sl a 78) W:=hp 8 (by decide)
   obtain ⟨q5,n5,g5,tt,z5⟩:=tt
   refine ite_y rfl (wp_val (.int .i64 0) ?_ ?_)
   ·simp only [execOp,eval_tmp,tt];rfl
   ·exact ⟨_,rfl,Below.refl _ _,rfl⟩
  ·intro a W hb0 hs hp hi;have hb:=undrew hb0;clear hb0
   refine ite_y rfl (wp_val' (w':=W.alloc (.cells #[.int .u8 0,.slice none 0 0,.int .u64 0] 83)) (.pointer (some ⟨W.heap.size,0,none⟩)) ?_ ?_)
   ·simp only [execOp];simp [go_sem]
   ·exact ⟨_,rfl,al (Below.refl _ _) (Nat.le_refl _),_,rfl,hb.size,hnew rfl⟩
 intro a w9 o ho hb hs hd hI ht
 simp at ho;subst ho
 have y14:=hI 11 (by decide) (by decide)
 obtain ⟨g14,t14,hg14,hh14⟩:=y14
 have y87:=hI 9 (by decide) (by decide)
 obtain ⟨q8,n8,k8,t87,z87⟩:=y87
 have y78:=hI 8 (by decide) (by decide)
 obtain ⟨_,_,_,t78,_⟩:=y78
 refine ⟨⟨_,t78⟩,?_⟩
 refine wp_store_row 83 (.tmp 14) (.tmp 87) rfl g14 #[B8 m,.slice q8 n8 k8,.int .u64 (S:Nat)] (by rw [eval_tmp];exact t14) (by rw [eval_tmp];exact t87) _ _ hh14 info_source rfl (by simp [Value.oneCell']) ?_
 refine ⟨rfl,fun ab hbs hbd hbt hbu=>?_⟩
 have ha:=act_is [79,80,81,82,83,84,85,86,78,87,88,14,9] hbs hbd (fun t h=>(hbt t (fun e=>by subst e;revert h;decide)).trans (ht t h)) (by decide)
 have s14:=(hbt 14 (by decide)).trans t14
 simp only [List.foldl,hbu,s14] at ha
 generalize sl ab 79 = u79 at ha
 generalize sl ab 80 = u80 at ha
 generalize sl ab 81 = u81 at ha
 generalize sl ab 82 = u82 at ha
 generalize sl ab 83 = u83 at ha
 generalize sl ab 84 = u84 at ha
 generalize sl ab 85 = u85 at ha
 generalize sl ab 86 = u86 at ha
 generalize sl ab 78 = u78 at ha
 generalize sl ab 87 = u87 at ha
 generalize sl ab 9 = u9 at ha
 simp only [Act.put,List.setIfInBounds_toArray,List.set_cons_zero,List.set_cons_succ] at ha
 rw [ha];clear ha hbu hbt hbs hbd hI ht hs hd s14
 simp only [List.drop_succ_cons,List.drop_zero]
 have hl2:=lt_of_block h2
 have hl5:=hb.size
 have Z:=Lib.hid (z87.row (cs:=#[B8 m,.slice q8 n8 k8,.int .u64 (S:Nat)]) hh14 src_ne)
 have HB6:=Lib.hid (below_row (cs:=#[B8 m,.slice q8 n8 k8,.int .u64 (S:Nat)]) (g:=g14) (bl HB5.out hb HB5.out.size) (Nat.le_trans HB5.out.size hg14))
 have k1:=hro (cs:=#[B8 m,.slice q8 n8 k8,.int .u64 (S:Nat)]) (g:=g14) ((hb.block _ (by omega)).trans h1) (by omega)
 have k2:=hro (cs:=#[B8 m,.slice q8 n8 k8,.int .u64 (S:Nat)]) (g:=g14) ((hb.block _ (by omega)).trans h2) (by omega)
 have k3:=hro (cs:=#[B8 m,.slice q8 n8 k8,.int .u64 (S:Nat)]) (g:=g14) ((hb.block _ (by omega)).trans h3) (by omega)
 have k4:=hrs (cs:=#[B8 m,.slice q8 n8 k8,.int .u64 (S:Nat)]) hh14
 have hs6:w5.heap.size≤(w9.setRow g14 #[B8 m,.slice q8 n8 k8,.int .u64 (S:Nat)]).heap.size:=by simp [World.setRow];exact hl5
 have HSZ:Hid (w.heap.size≤w5.heap.size):=HB5.out.size
 clear hb h1 h2 h3 z87 hh14 t14 t87 t78 c0 c1 c2 c3 d0 d1 d2 hl2 hl5
 generalize w9.setRow g14 #[B8 m,.slice q8 n8 k8,.int .u64 (S:Nat)] = w6 at *
 obtain ⟨d0,d1,d2⟩:=cells_three k3
 obtain ⟨f0,f1,f2⟩:=cells_three k4
 have ec1:(A:Int)≤(E:Int):=by have:=HEt.out;omega
 have ec2:E - A = t:=by have:=HEt.out;omega
 have ec3:¬ (c = A):=by have:=HEt.out;omega
 have ec4:(E:Int)≤(c:Int):=by omega
 have HAt:Hid (A + t≤n):=by have:=HEt.out;have:=HE.out;show A + t≤n;omega
 rw [← HAV.out] at HY
 go_wp2_with fail
 refine wp_region_tail (fun ix=>([.val (.agg #[B8 m,.int .u32 (D:Nat),.int .u32 (M:Nat)]),.val (.agg #[B8 m,.slice q8 n8 k8,.int .u64 (S:Nat)]),.val (.slice (some ⟨b,o,none⟩) n c),.val (.int .i64 (A:Nat)),.val (.int .i64 (E:Nat)),.val (.slice (some ⟨b,o + A,none⟩) t (c - A)),(ShFr 5 w6.heap.size Y),(ShPk 5 w6.heap.size m D M q8 n8 k8 S Y),.any,.any][ix]?).getD (.any)) 101 8 rfl (by kernel_rfl) (by decide) (by decide) (by decide) (by decide) ?_ ?_
 ·refine ⟨?_,?_,?_,?_,?_,?_,?_,?_,trivial⟩
  ·intro a W hb0 hs hp hi;have hb:=undrew hb0;clear hb0
   have tt:sl a 7 = .pointer (some ⟨w2.heap.size,0,none⟩):=hi 7 (by decide)
   have dd0:=(hb.cell (p:=⟨w2.heap.size,0,none⟩) (lt_of_cell d0)).trans d0
   have dd1:=(hb.cell (p:=⟨w2.heap.size,1,none⟩) (lt_of_cell d1)).trans d1
   have dd2:=(hb.cell (p:=⟨w2.heap.size,2,none⟩) (lt_of_cell d2)).trans d2
   refine ite_y rfl (wp_val (.agg #[B8 m,.int .u32 (D:Nat),.int .u32 (M:Nat)]) ?_ ?_)
   ·simp only [execOp,eval_tmp,tt];simp [go_sem,dd0,dd1,dd2]
   ·exact ⟨_,rfl,Below.refl _ _,rfl⟩
  ·intro a W hb0 hs hp hi;have hb:=undrew hb0;clear hb0
   have tt:sl a 14 = .pointer (some ⟨g14,0,none⟩):=hi 14 (by decide)
   have dd0:=(hb.cell (p:=⟨g14,0,none⟩) (lt_of_cell f0)).trans f0
   have dd1:=(hb.cell (p:=⟨g14,1,none⟩) (lt_of_cell f1)).trans f1
   have dd2:=(hb.cell (p:=⟨g14,2,none⟩) (lt_of_cell f2)).trans f2
   refine ite_y rfl (wp_val (.agg #[B8 m,.slice q8 n8 k8,.int .u64 (S:Nat)]) ?_ ?_)
   ·simp only [execOp,eval_tmp,tt];simp [go_sem,dd0,dd1,dd2]
   ·exact ⟨_,rfl,Below.refl _ _,rfl⟩
  ·intro a W hb0 hs hp hi;have hb:=undrew hb0;clear hb0
   have t1:sl a 1 = .slice (some ⟨b,o,none⟩) n c:=hi 1 (by decide)
   exact ite_y rfl (wp_val (sl a 1) rfl ⟨_,rfl,Below.refl _ _,t1⟩)
  ·intro a W hb0 hs hp hi;have hb:=undrew hb0;clear hb0
   have t13:sl a 13 = .int .i64 (A:Nat):=hi 13 (by decide)
   exact ite_y rfl (wp_val (sl a 13) rfl ⟨_,rfl,Below.refl _ _,t13⟩)
  ·intro a W hb0 hs hp hi;have hb:=undrew hb0;clear hb0
   have t11:sl a 11 = .int .i64 (E:Nat):=hi 11 (by decide)
   exact ite_y rfl (wp_val (sl a 11) rfl ⟨_,rfl,Below.refl _ _,t11⟩)
  ·intro a W hb0 hs hp hi;have hb:=undrew hb0;clear hb0
   have t95:sl a 95 = .slice (some ⟨b,o,none⟩) n c:=hp 2 (by decide)
   have t96:sl a 96 = .int .i64 (A:Nat):=hp 3 (by decide)
   have t97:sl a 97 = .int .i64 (E:Nat):=hp 4 (by decide)
   have v96:a.tmps[96]?.getD undef = sl a 96:=by simp [sl]
   rw [t96] at v96
   have v97:a.tmps[97]?.getD undef = sl a 97:=by simp [sl]
   rw [t97] at v97
   refine ite_y rfl (wp_val (.slice (some ⟨b,o + A,none⟩) t (c - A)) ?_ ?_)
   ·simp only [execOp,eval_tmp,eval_const,t95,t96,t97];simp [go_sem,v96,v97,eb1,eb2,ec1,ec2,ec3,ec4]
   ·exact ⟨_,rfl,Below.refl _ _,rfl⟩
  ·intro a W hb0 hs hp hi;have hb:=undrew hb0;clear hb0
   have t98:sl a 98 = .slice (some ⟨b,o + A,none⟩) t (c - A):=hp 5 (by decide)
   refine ite_y rfl (wp_enter 176 #[.slice (some ⟨b,o + A,none⟩) t (c - A)] ?_ (BClone_any _ _ _ _ _ ((Sl.part (k:=A) (m:=t) (H.out.keep HB6.out) HAt.out).keep hb) HRt.out) ?_)
   ·simp only [execOp,resolve,List.map_toArray,List.map,eval_tmp,eval_func,eval_const,t98];simp [go_sem]
   ·rintro e W' ⟨q5,g5,rfl,o5,hw⟩;exact ⟨_,rfl,_,rfl,hw,q5,_,g5,rfl,by rw [← HY.out];exact (Fresh.of_owns o5).mono hb.size⟩
  ·intro a W hb0 hs hp hi;have hb:=undrew hb0;clear hb0
   have t93:sl a 93 = .agg #[B8 m,.int .u32 (D:Nat),.int .u32 (M:Nat)]:=hp 0 (by decide)
   have t94:sl a 94 = .agg #[B8 m,.slice q8 n8 k8,.int .u64 (S:Nat)]:=hp 1 (by decide)
   have t99:=hp 6 (by decide)
   obtain ⟨q5,n5,g5,t99,z99⟩:=t99
   have v93:a.tmps[93]?.getD undef = sl a 93:=by simp [sl]
   rw [t93] at v93
   have v94:a.tmps[94]?.getD undef = sl a 94:=by simp [sl]
   rw [t94] at v94
   have v99:a.tmps[99]?.getD undef = sl a 99:=by simp [sl]
   rw [t99] at v99
   refine ite_y rfl (wp_val (PkVal m D M m q8 n8 k8 S q5 n5 g5) ?_ ?_)
   ·simp only [execOp,eval_tmp,t93,t94,t99];simp [go_sem,v93,v94,v99,Tryz.underlying120,Tryz.underlying83,Tryz.underlying122]
   ·exact ⟨_,rfl,Below.refl _ _,q5,n5,g5,rfl,z99⟩
 intro a w10 hb hs hd hI ht
 have ha:=act_is [93,94,95,96,97,98,99,100,5] hs hd ht (by decide)
 have y100:=hI 7 (by decide)
 obtain ⟨q9,n9,c9,t100,z100⟩:=y100
 simp only [List.foldl,t100] at ha
 generalize sl a 93 = u93 at ha
 generalize sl a 94 = u94 at ha
 generalize sl a 95 = u95 at ha
 generalize sl a 96 = u96 at ha
 generalize sl a 97 = u97 at ha
 generalize sl a 98 = u98 at ha
 generalize sl a 99 = u99 at ha
 generalize sl a 5 = u5 at ha
 simp only [Act.put,List.setIfInBounds_toArray,List.set_cons_zero,List.set_cons_succ] at ha
 rw [ha];clear ha hI ht hs hd
 simp only [List.drop_succ_cons,List.drop_zero]
 have k2':=(hb.block _ (by have:=lt_of_block k2;omega)).trans k2
 have Z2:=Lib.hid (Z.out.keep hb)
 have HB7:=Lib.hid (bl HB6.out hb HB6.out.size)
 have ZZ:=Lib.hid z100
 clear hb k1 k2 k3 k4 d0 d1 d2 f0 f1 f2 z100
 go_wp2_with (refine wpList_store_row (o:=⟨none,.store 122 (.tmp 4) (.tmp 100),_,_,_,_⟩) rfl 122 (.tmp 4) (.tmp 100) rfl (w.heap.size + 1) #[B8 m,.int .u32 (D:Nat),.int .u32 (M:Nat),B8 m,.slice q8 n8 k8,.int .u64 (S:Nat),.slice q9 n9 c9] rfl rfl _ _ k2' info_packet rfl (by simp [Value.oneCell']) ?_)
 refine bodyPost_ret (res_ct rfl _ _ _ 122 #[B8 m,.int .u32 (D:Nat),.int .u32 (M:Nat),B8 m,.slice q8 n8 k8,.int .u64 (S:Nat),.slice q9 n9 c9] (0,0) _ (.int .i64 0) rfl (hrs k2') rfl Tryz.underlying122 rfl info_packet) rfl ?_
 exact ⟨q8,n8,k8,q9,n9,c9,rfl,(Z2.out.mono HSZ.out).row k2' pkt_ne,(ZZ.out.mono (Nat.le_trans HSZ.out hs6)).row k2' pkt_ne,below_row HB7.out (by omega)⟩
end Go.Proofs.YtccaiiigdfieoaaGreatDoor
namespace Go.By
open Go.RowKit
theorem three_of {w w1:World} {A B C:Obj} (hb:Below (((w.alloc A).alloc B).alloc C).heap.size (((w.alloc A).alloc B).alloc C) w1):Below w.heap.size w w1∧w1.heap[w.heap.size]? = some A∧w1.heap[w.heap.size + 1]? = some B∧w1.heap[w.heap.size + 2]? = some C∧w.heap.size + 3≤w1.heap.size :=
 ⟨(al (al (al (Below.refl _ _) (Nat.le_refl _)) (by simp)) (by simp;omega)).trans (hb.mono (by simp;omega)),(hb.block _ (by simp;omega)).trans (hal (hal (hnew rfl))),(hb.block _ (by simp)).trans (hal (hnew (by simp))),(hb.block _ (by simp)).trans (hnew (by simp)),by have:=hb.size;simp at this;omega⟩
end Go.By
namespace Go.Proofs.YtccaiiigdfieoaaGreatDoor
open Go.RowKit Go.By
def readC (k t D:Nat) (xs:List UInt8):Int:=if headC xs≠0 then headC xs else if xs.length≠lenP (xs.getD 1 0) k t then 4 else if get4 ((xs.drop (xs.length - 4)).take 4)≠crcS (xs.take (xs.length - 4)) then 10 else if get4 ((xs.drop 2).take 4)≠D then 9 else 0
def pktM (xs:List UInt8):UInt8:=xs.getD 1 0
def pktN (xs:List UInt8):Nat:=get4 ((xs.drop 6).take 4)
def pktX (k:Nat) (xs:List UInt8):List UInt8:=rdX (xs.getD 1 0) ((xs.drop 10).take (widS (xs.getD 1 0) k))
def pktS (k:Nat) (xs:List UInt8):Nat:=rdS (xs.getD 1 0) ((xs.drop 10).take (widS (xs.getD 1 0) k))
def pktY (k t:Nat) (xs:List UInt8):List UInt8:=(xs.drop (10 + widS (xs.getD 1 0) k)).take t
theorem PRead_any (L t k D:Nat) (p:Option Addr) (n c:Nat) (xs:List UInt8) (w:World) (hP:POK L t k D) (hT:HalfT w) (h:Sl B8 w p n c xs) (hr:Room n) :
  Calls Tryz.prog 111 #[PVal L t k D,.slice p n c] w (if readC k t D xs = 0 then PRet w (pktM xs) D (pktN xs) (pktX k xs) (pktS k xs) (pktY k t xs) else PZero w (readC k t D xs)):=by
 have hl:=h.len
 by_cases hc:headC xs = 0
 ·by_cases hn:n = lenP (xs.getD 1 0) k t
  ·have hn4:14≤n:=by rw [hn];unfold lenP;omega
   obtain ⟨b,o,rfl,_⟩:=h.has (by omega)
   by_cases hs:get4 ((xs.drop (n - 4)).take 4) = crcS (xs.take (n - 4))
   ·by_cases ho:get4 ((xs.drop 2).take 4) = D
    ·have e:readC k t D xs = 0:=by unfold readC;rw [hl,if_neg (Classical.not_not.2 hc),if_neg (Classical.not_not.2 hn),if_neg (Classical.not_not.2 hs),if_neg (Classical.not_not.2 ho)]
     rw [e,if_pos rfl]
     exact PRead_ok L t k D b o n c xs w hP hT h hr hc (n - 4) hn (by omega) hs ho
    ·have e:readC k t D xs = 9:=by unfold readC;rw [hl,if_neg (Classical.not_not.2 hc),if_neg (Classical.not_not.2 hn),if_neg (Classical.not_not.2 hs),if_pos ho]
     rw [e,if_neg (by decide)]
     exact PRead_obj L t k D b o n c xs w hP hT h hr hc (n - 4) hn (by omega) hs ho
   ·have e:readC k t D xs = 10:=by unfold readC;rw [hl,if_neg (Classical.not_not.2 hc),if_neg (Classical.not_not.2 hn),if_pos hs]
    rw [e,if_neg (by decide)]
    exact PRead_sum L t k D b o n c xs w hP hT h hr hc (n - 4) hn (by omega) hs
  ·have e:readC k t D xs = 4:=by unfold readC;rw [hl,if_neg (Classical.not_not.2 hc),if_pos hn]
   rw [e,if_neg (by decide)]
   exact PRead_len L t k D p n c xs w hP h hr hc hn
 ·have e:readC k t D xs = headC xs:=by unfold readC;rw [if_pos hc]
  rw [e,if_neg hc]
  exact PRead_head L t k D p n c xs w hP h hr hc
theorem headC_cases (xs:List UInt8):headC xs = 0∨headC xs = 6∨headC xs = 7∨headC xs = 8:=by
 unfold headC
 split
 ·simp
 ·split
  ·simp
  ·rcases modeC_range (xs.getD 1 0) with h | h <;> rw [h] <;> simp
theorem readC_cases (k t D:Nat) (xs:List UInt8):readC k t D xs = 0∨readC k t D xs = 6∨readC k t D xs = 7∨readC k t D xs = 8∨readC k t D xs = 4∨readC k t D xs = 10∨readC k t D xs = 9:=by
 unfold readC
 split
 ·rename_i h
  rcases headC_cases xs with g | g | g | g
  ·exact absurd g h
  all_goals rw [g];simp
 ·split
  ·simp
  ·split
   ·simp
   ·split <;> simp
theorem read_fits {k t D:Nat} {xs:List UInt8} (h:readC k t D xs = 0):modeC (pktM xs) = 0∧(pktM xs = 0→(pktX k xs).length = k)∧(pktY k t xs).length = t:=by
 unfold readC at h
 split at h
 ·rename_i hc;exact absurd h hc
 ·rename_i hc
  have hc0:headC xs = 0:=by simpa using hc
  split at h
  ·cases h
  ·rename_i hn
   have hn':xs.length = 10 + widS (xs.getD 1 0) k + t + 4:=by simpa [lenP] using hn
   refine ⟨headC_mode hc0,fun h0=>?_,?_⟩
   ·unfold pktM at h0
    unfold pktX rdX
    rw [if_pos h0]
    have:widS (xs.getD 1 0) k = k:=by unfold widS;rw [if_pos h0]
    rw [this] at hn' ⊢
    simp;omega
   ·unfold pktY
    generalize widS (xs.getD 1 0) k = V at *
    rw [List.length_take,List.length_drop];omega
theorem info_eqrow:(Tryz.prog.info? 99).map (·.size) = some 2:=by kernel_rfl
theorem eqrow_ne:99≠5:=by decide
def EqRet (w:World) (v d:List UInt8) (e:Ending) (w':World):Prop :=
 ∃ q n c q2 n2 c2,e = .returned (.tuple #[.agg #[.slice q n c,.slice q2 n2 c2],.int .i64 0])∧Fresh 5 w.heap.size w' q n c v∧Fresh 5 w.heap.size w' q2 n2 c2 d∧Below w.heap.size w w'
set_option maxRecDepth 100000 in
set_option maxHeartbeats 2000000 in
theorem PEquation_ok (L t k D n:Nat) (m:UInt8) (p:Option Addr) (j c s:Nat) (q:Option Addr) (d:Nat) (xs ys:List UInt8) (w:World) (hP:POK L t k D) (hm:modeC m = 0) (hj:m = 0→j = k) (hr:Room j) (h1:Sl B8 w p j c xs) (h2:Sl B8 w q t d ys) :
  Calls Tryz.prog 63 #[PkVal m D n m p j c s q t d,PVal L t k D] w (EqRet w (vecS m xs s k) ys):=by
 have HF:Hid (∀ w,Calls Tryz.prog 112 #[PkVal m D n m p j c s q t d,PVal L t k D] w fun e w'=>e = .returned (.int .i64 0)∧Below w.heap.size w w'):=fun w=>PFits_ok L t k D n m p j c s q d w hP hm hj
 have hsc:srcC m j k = 0:=by
  unfold srcC
  by_cases h0:m = 0
  ·rw [if_pos h0,if_pos (hj h0)]
  ·rw [if_neg h0,hm]
 have HS:Hid (∀ w,Sl B8 w p j c xs→Calls Tryz.prog 97 #[SVal m p j c s,.int .i64 (k:Nat)] w (SRet w (vecS m xs s k) 0)):=fun w h=>by have:=SVector_any m p j c s k xs hP.k1 hP.k2 w h hr;rw [hsc,if_pos rfl] at this;exact this
 have HV:Hid (Room (vecS m xs s k).length):=by
  show _≤_
  have:=hP.k2
  unfold vecS
  split
  ·rw [h1.len];exact hr
  ·rw [mixRow_len];omega
 have HRt:Hid (Room t):=by have:=hP.t2;show t≤140737488355328;omega
 have H1:=Lib.hid h1
 have H2:=Lib.hid h2
 obtain ⟨V,hV⟩:∃ V,vecS m xs s k = V:=⟨_,rfl⟩
 rw [hV] at HS HV ⊢
 clear hP hm hj hr h1 h2 hsc hV
 go_enter Tryz.func63,Tryz.ntmps63
 go_wp2_with fail
 refine Calls.mono (HF.out _) ?_
 rintro e w1 ⟨rfl,hb⟩
 obtain ⟨hb1,h1,h2,h3,hs⟩:=three_of hb
 have HB:=Lib.hid hb1
 obtain ⟨c0,c1,c2,c3,c4,c5,c6⟩:=cells_seven h1
 obtain ⟨d0,d1,d2,d3⟩:=cells_four h2
 clear hb hb1
 go_wp2_with fail
 refine Calls.mono (HS.out _ (H1.out.keep HB.out)) ?_
 rintro e w2 ⟨q1,n1,k1,rfl,hq,hb⟩
 have h1':=(hb.block _ (by omega)).trans h1
 have h3':=(hb.block _ (by omega)).trans h3
 have hs2:=hb.size
 have HB2:=Lib.hid (bl HB.out hb HB.out.size)
 have HQ:=Lib.hid hq
 have HV':Hid (Room n1):=by rw [← HQ.out.len];exact HV.out
 clear hb hq h1 h2 h3 c0 c1 c2 c3 c4 c5 c6 d0 d1 d2 d3
 obtain ⟨c0,c1,c2,c3,c4,c5,c6⟩:=cells_seven h1'
 go_wp2_with fail
 refine Calls.mono (Of_any _ _ _ _ _ _ _ _ _ HQ.out (H2.out.keep HB2.out) HV'.out HRt.out) ?_
 rintro e w3 ⟨q5,m5,g5,q6,m6,g6,e5,e6,rfl,o5,o6,hb⟩
 have h3:=(hb.block _ (by omega)).trans h3'
 have HB3:=Lib.hid (bl HB2.out hb HB2.out.size)
 have F5:=Lib.hid ((Fresh.of_owns o5).mono HB2.out.size)
 have F6:=Lib.hid ((Fresh.of_owns o6).mono HB2.out.size)
 clear hb e5 e6 o5 o6 h1' h3' c0 c1 c2 c3 c4 c5 c6
 go_wp2_with (refine wpList_store_row (o:=⟨none,.store 99 (.tmp 4) (.tmp 31),_,_,_,_⟩) rfl 99 (.tmp 4) (.tmp 31) rfl (w.heap.size + 2) #[.slice q5 m5 g5,.slice q6 m6 g6] rfl rfl _ _ h3 info_eqrow rfl (by simp [Value.oneCell']) ?_)
 refine bodyPost_ret (res_ct rfl _ _ _ 99 #[.slice q5 m5 g5,.slice q6 m6 g6] (0,0) _ (.int .i64 0) rfl (hrs h3) rfl Tryz.underlying99 rfl info_eqrow) rfl ?_
 exact ⟨q5,m5,g5,q6,m6,g6,rfl,F5.out.row h3 eqrow_ne,F6.out.row h3 eqrow_ne,below_row HB3.out (by omega)⟩
end Go.Proofs.YtccaiiigdfieoaaGreatDoor
namespace Go.Proofs.YtccaiiigdfieoaaGreatDoor
open Go.RowKit Go.By Go.Maps
abbrev GVal (L t k D:Nat) (M:Value):Value:=.agg #[.int .i64 (L:Nat),.int .i64 (t:Nat),.int .i64 (k:Nat),.int .u32 (D:Nat),M]
theorem info_gate:(Tryz.prog.info? 111).map (·.size) = some 5:=by kernel_rfl
set_option maxRecDepth 100000 in
set_option maxHeartbeats 1000000 in
theorem GNew_ok (L t k D:Nat) (w:World) (hP:POK L t k D) :
  Calls Tryz.prog 60 #[PVal L t k D] w fun e w'=>e = .returned (.tuple #[GVal L t k D (.map none),.int .i64 0])∧Below w.heap.size w w':=by
 have HK:Hid (∀ w,Calls Tryz.prog 79 #[PVal L t k D] w fun e w'=>e = .returned (.int .i64 0)∧Below w.heap.size w w'):=PCheck_ok hP
 clear hP
 go_enter Tryz.func60,Tryz.ntmps60
 go_wp2_with fail
 refine Calls.mono (HK.out _) ?_
 rintro e w1 ⟨rfl,hb⟩
 obtain ⟨hb1,h1,h2,hs⟩:=two_of hb
 have HB:=Lib.hid hb1
 obtain ⟨c0,c1,c2,c3⟩:=cells_four h1
 clear hb hb1
 go_wp2_with (refine wpList_store_row (o:=⟨none,.store 111 (.tmp 2) (.tmp 12),_,_,_,_⟩) rfl 111 (.tmp 2) (.tmp 12) rfl (w.heap.size + 1) #[.int .i64 (L:Nat),.int .i64 (t:Nat),.int .i64 (k:Nat),.int .u32 (D:Nat),.map none] rfl rfl _ _ h2 info_gate rfl (by simp [Value.oneCell']) ?_)
 refine bodyPost_ret (res_ct rfl _ _ _ 111 #[.int .i64 (L:Nat),.int .i64 (t:Nat),.int .i64 (k:Nat),.int .u32 (D:Nat),.map none] (0,0) _ (.int .i64 0) rfl (hrs h2) rfl Tryz.underlying111 rfl info_gate) rfl ?_
 exact ⟨rfl,below_row HB.out (by omega)⟩
def getN (C:DataW Unit) (x:Int):Int:=match C.atKey (.int .i64 x) (.lit (.int .i64 0)) with
 | .lit (.int _ c)=>c
 | _=>0
structure CntM (w:World) (M:Value) (N:Nat) (C:DataW Unit):Prop where
 at_:(M = .map none∧C = .map [])∨∃ b,M = .map (some b)∧w.ownsMap Tryz.prog 35 (plainElem Tryz.prog 3) b N C
 small:∀ x,0≤getN C x∧getN C x≤N
theorem CntM.keep {w w':World} {M:Value} {N:Nat} {C:DataW Unit} (h:CntM w M N C) (hb:Below w.heap.size w w'):CntM w' M N C:=by
 refine ⟨?_,h.small⟩
 rcases h.at_ with h1 | ⟨b,e,ho⟩
 ·exact .inl h1
 ·refine .inr ⟨b,e,?_⟩
  have hlt:=ho.lt
  obtain ⟨es,clock,h1,F,hs,hD⟩:=ho
  exact ⟨es,clock,(hb.block _ hlt).trans h1,F,hs,hD⟩
theorem keyedG:Keyed Tryz.prog 35:=int_keyed Tryz.underlying35
theorem CntM.none (w:World) (N:Nat):CntM w (.map none) N (.map []):=⟨.inl ⟨rfl,rfl⟩,fun x=>by have:getN (.map []) x = 0:=rfl;rw [this];omega⟩
end Go.Proofs.YtccaiiigdfieoaaGreatDoor
namespace Go.By
open Go.RowKit
structure TwoE (w0:World) (g1 g2:Nat) (w:World):Prop where
 os:w.os = w0.os
 tape:w.tape = w0.tape
 output:w.output = w0.output
 size:w.heap.size = w0.heap.size
 block:∀ b,b≠g1→b≠g2→w.heap[b]? = w0.heap[b]?
theorem TwoE.row1 {w0 w:World} {g1 g2:Nat} (h:TwoE w0 g1 g2 w) (cs:Array Value):TwoE w0 g1 g2 (w.setRow g1 cs):=by
 refine ⟨h.os,h.tape,h.output,by simp [World.setRow];exact h.size,fun b h1 h2=>?_⟩
 rw [← h.block b h1 h2]
 simp only [World.setRow,Array.getElem?_modify]
 rw [if_neg (by omega)]
theorem TwoE.row2 {w0 w:World} {g1 g2:Nat} (h:TwoE w0 g1 g2 w) (cs:Array Value):TwoE w0 g1 g2 (w.setRow g2 cs):=by
 refine ⟨h.os,h.tape,h.output,by simp [World.setRow];exact h.size,fun b h1 h2=>?_⟩
 rw [← h.block b h1 h2]
 simp only [World.setRow,Array.getElem?_modify]
 rw [if_neg (by omega)]
theorem TwoE.cell {w0 w:World} {g1 g2 b o:Nat} {v:Value} (h:TwoE w0 g1 g2 w) (h1:b≠g1) (h2:b≠g2) (hc:w0.cell? ⟨b,o,none⟩ = some v):w.cell? ⟨b,o,none⟩ = some v :=
 (World.cell?_of_block (a:=⟨b,o,none⟩) (h.block b h1 h2)).trans hc
theorem TwoE.below {w0 w:World} {g1 g2 B:Nat} (h:TwoE w0 g1 g2 w) (h1:B≤g1) (h2:B≤g2):Below B w0 w:=⟨h.os,h.tape,h.output,by rw [h.size];exact Nat.le_refl _,fun i hi=>h.block i (by omega) (by omega)⟩
def pairB (ops:Array Oper) (n m1 m2:Nat):Bool:=(List.range ops.size).all fun i=>match ops[i]? with
 | some o=>o.guard.isNone && (if i == m1 || i == m2 then o.dst.isNone else match o.dst with
  | some d=>decide (d < n)
  | none=>false)
 | none=>false
theorem each_all {P:Program} {ops:Array Oper} {Q:Exit→Act→World→Prop} {a0:Act} {w0:World} {E:World→World→Prop} {R:Nat→World→World→Prop} {Inv:Nat→(Nat→Value)→World→Prop} (key:∀ i o,ops[i]? = some o→StepOf P ops Q a0 w0 E R Inv i o) :
  ∀ (l:List Oper) (k:Nat),(∀ j o,l[j]? = some o→ops[k + j]? = some o)→Each P ops Q a0 w0 E R Inv l k:=by
 intro l
 induction l with
 | nil=>intro k _;trivial
 | cons x l ih =>
  intro k h
  exact ⟨key k x (by have:=h 0 x rfl;simpa using this),ih (k + 1) fun j o hj=>by have:=h (j + 1) o (by simpa using hj);rwa [show k + 1 + j = k + (j + 1) by omega]⟩
theorem wp_region_pair {P:Program} {ops:Array Oper} {Q:Exit→Act→World→Prop} {id:Nat} {a0:Act} {w0:World} (sv:Nat→Value) (n m1 m2 g1 g2 T1 T2:Nat) (c1 c2:Array Value) (hn:a0.tmps.size = n) (hm:P.follows .mixedOrders = true) (hback:backB ops = true) (hdist:distB ops = true) (hpair:pairB ops n m1 m2 = true) (hm12:m1≠m2) (hg12:g1≠g2)
  (z1:∃ old,w0.heap[g1]? = some (.cells old T1 (0,0))∧old.size = c1.size) (z2:∃ old,w0.heap[g2]? = some (.cells old T2 (0,0))∧old.size = c2.size)
  (each:∀ i o,i≠m1→i≠m2→ops[i]? = some o→∀ a w,TwoE w0 g1 g2 w→a.tmps.size = a0.tmps.size→(∀ k d,k ∈ preds o→k≠m1→k≠m2→dstOf ops k = some d→sl a d = sv k)→(∀ t,initAt ops i t = true→sl a t = sl a0 t)→(execOp a.eval o).run P w = .ok (.value (sv i)) w)
  (st1:∀ o,ops[m1]? = some o→∀ a w,TwoE w0 g1 g2 w→a.tmps.size = a0.tmps.size→(∀ k d,k ∈ preds o→k≠m1→k≠m2→dstOf ops k = some d→sl a d = sv k)→(∀ t,initAt ops m1 t = true→sl a t = sl a0 t)→∀ old,w.heap[g1]? = some (.cells old T1 (0,0))→old.size = c1.size→o.wp P a w (fun a' w'=>a' = a.put o.dst undef∧w' = w.setRow g1 c1) Q)
  (st2:∀ o,ops[m2]? = some o→∀ a w,TwoE w0 g1 g2 w→a.tmps.size = a0.tmps.size→(∀ k d,k ∈ preds o→k≠m1→k≠m2→dstOf ops k = some d→sl a d = sv k)→(∀ t,initAt ops m2 t = true→sl a t = sl a0 t)→∀ old,w.heap[g2]? = some (.cells old T2 (0,0))→old.size = c2.size→o.wp P a w (fun a' w'=>a' = a.put o.dst undef∧w' = w.setRow g2 c2) Q)
  (hs1:m1 < ops.size) (hs2:m2 < ops.size)
  (fin:∀ a w,TwoE w0 g1 g2 w→w.heap[g1]? = some (.cells c1 T1 (0,0))→w.heap[g2]? = some (.cells c2 T2 (0,0))→a.tmps.size = a0.tmps.size→a.defers = a0.defers→(∀ j d,j < ops.size→j≠m1→j≠m2→dstOf ops j = some d→sl a d = sv j)→(∀ t,(ops.toList.all fun o=>o.dst != some t) = true→sl a t = sl a0 t)→Q .normal a w) :
  (Code.region id ops true).wp P Q a0 w0:=by
 have hp:∀ i o,ops[i]? = some o→o.guard = none∧(i≠m1→i≠m2→∃ d,o.dst = some d∧d < n)∧(i = m1∨i = m2→o.dst = none):=fun i o ho=>by
  have h0:=List.all_eq_true.1 hpair i (List.mem_range.2 (Array.getElem?_eq_some_iff.1 ho).1)
  rw [ho] at h0
  simp only [Bool.and_eq_true] at h0
  refine ⟨by cases hg:o.guard <;> simp [hg] at h0 ⊢,fun h1 h2=>?_,fun h=>?_⟩
  ·have h3:=h0.2
   rw [if_neg (by simp [h1,h2])] at h3
   cases hd:o.dst with
   | none=>rw [hd] at h3;cases h3
   | some d=>rw [hd] at h3;exact ⟨d,rfl,of_decide_eq_true h3⟩
  ·have h3:=h0.2
   rw [if_pos (by rcases h with h | h <;> simp [h])] at h3
   cases hd:o.dst <;> simp [hd] at h3 ⊢
 refine wp_region_each hm hback (fun _ w=>TwoE w0 g1 g2 w∧(∃ old,w.heap[g1]? = some (.cells old T1 (0,0))∧old.size = c1.size)∧∃ old,w.heap[g2]? = some (.cells old T2 (0,0))∧old.size = c2.size)
  (fun i w w'=>if i = m1 then w' = w.setRow g1 c1 else if i = m2 then w' = w.setRow g2 c2 else w' = w)
  (fun j σ w=>if j = m1 then w.heap[g1]? = some (.cells c1 T1 (0,0)) else if j = m2 then w.heap[g2]? = some (.cells c2 T2 (0,0)) else ∀ d,dstOf ops j = some d→σ d = sv j) ?_ ?_ ?_ ?_ ?_
 ·exact ⟨⟨rfl,rfl,rfl,rfl,fun _ _ _=>rfl⟩,z1,z2⟩
 ·intro i w w' hE hR
  obtain ⟨hE,⟨o1,h1,e1⟩,⟨o2,h2,e2⟩⟩:=hE
  by_cases hi1:i = m1
  ·rw [if_pos hi1] at hR
   subst hR
   exact ⟨hE.row1 _,⟨c1,hrs h1,rfl⟩,o2,hro h2 (by omega),e2⟩
  ·rw [if_neg hi1] at hR
   by_cases hi2:i = m2
   ·rw [if_pos hi2] at hR
    subst hR
    exact ⟨hE.row2 _,⟨o1,hro h1 (by omega),e1⟩,c2,hrs h2,rfl⟩
   ·rw [if_neg hi2] at hR
    subst hR
    exact ⟨hE,⟨o1,h1,e1⟩,o2,h2,e2⟩
 ·intro i j oi oj σ σ' w w' hij hoi hoj _ hI hR hσ _ _
  by_cases hj1:j = m1
  ·subst hj1
   rw [if_pos rfl] at hI ⊢
   rw [if_neg hij] at hR
   by_cases hi2:i = m2
   ·rw [if_pos hi2] at hR;subst hR;exact hro hI (by omega)
   ·rw [if_neg hi2] at hR;subst hR;exact hI
  ·rw [if_neg hj1] at hI ⊢
   by_cases hj2:j = m2
   ·subst hj2
    rw [if_pos rfl] at hI ⊢
    by_cases hi1:i = m1
    ·rw [if_pos hi1] at hR;subst hR;exact hro hI (by omega)
    ·rw [if_neg hi1,if_neg hij] at hR;subst hR;exact hI
   ·rw [if_neg hj2] at hI ⊢
    intro d hd
    have hne:oi.dst≠some d:=by
     intro e
     have hi':i < ops.size:=(Array.getElem?_eq_some_iff.1 hoi).1
     have hj':j < ops.size:=(Array.getElem?_eq_some_iff.1 hoj).1
     have:=List.all_eq_true.1 (List.all_eq_true.1 hdist i (List.mem_range.2 hi')) j (List.mem_range.2 hj')
     rw [hoi,hoj] at this
     have hdj':oj.dst = some d:=by simpa [dstOf,hoj] using hd
     simp [e,hdj',hij] at this
    rw [hσ d hne]
    exact hI d hd
 ·have key:∀ i o,ops[i]? = some o→StepOf P ops Q a0 w0.drew (fun _ w=>TwoE w0 g1 g2 w∧(∃ old,w.heap[g1]? = some (.cells old T1 (0,0))∧old.size = c1.size)∧∃ old,w.heap[g2]? = some (.cells old T2 (0,0))∧old.size = c2.size)
    (fun i w w'=>if i = m1 then w' = w.setRow g1 c1 else if i = m2 then w' = w.setRow g2 c2 else w' = w)
    (fun j σ w=>if j = m1 then w.heap[g1]? = some (.cells c1 T1 (0,0)) else if j = m2 then w.heap[g2]? = some (.cells c2 T2 (0,0)) else ∀ d,dstOf ops j = some d→σ d = sv j) i o:=by
   intro i o ho a w hE hs hpr hin
   obtain ⟨hE,⟨o1,h1,e1⟩,⟨o2,h2,e2⟩⟩:=hE
   obtain ⟨hg,hd,hd2⟩:=hp i o ho
   rw [if_pos (by simp [Region.wanted,hg])]
   have hpr':∀ k d,k ∈ preds o→k≠m1→k≠m2→dstOf ops k = some d→sl a d = sv k:=fun k d hk k1 k2 hdk=>by
    have:=hpr k hk
    dsimp only at this
    rw [if_neg k1,if_neg k2] at this
    exact this d hdk
   by_cases hi1:i = m1
   ·subst hi1
    refine Oper.wp_mono (fun a' w' hq=>?_) (st1 o ho a w hE hs hpr' hin o1 h1 e1)
    obtain ⟨rfl,rfl⟩:=hq
    exact ⟨undef,rfl,by dsimp only;rw [if_pos rfl],by dsimp only;rw [if_pos rfl];exact hrs h1⟩
   ·by_cases hi2:i = m2
    ·subst hi2
     refine Oper.wp_mono (fun a' w' hq=>?_) (st2 o ho a w hE hs hpr' hin o2 h2 e2)
     obtain ⟨rfl,rfl⟩:=hq
     exact ⟨undef,rfl,by dsimp only;rw [if_neg hi1,if_pos rfl],by dsimp only;rw [if_neg hi1,if_pos rfl];exact hrs h2⟩
    ·have hr:=each i o hi1 hi2 ho a w hE hs hpr' hin
     refine wp_val (sv i) hr ⟨sv i,rfl,by dsimp only;rw [if_neg hi1,if_neg hi2],?_⟩
     dsimp only
     rw [if_neg hi1,if_neg hi2]
     intro d hdd
     obtain ⟨d',hd',hdn⟩:=hd hi1 hi2
     have:d' = d:=by
      have:o.dst = some d:=by simpa [dstOf,ho] using hdd
      rw [hd'] at this;exact Option.some.inj this
     subst this
     rw [hd']
     exact put_same _ _ _ (by rw [hs,hn];exact hdn)
  exact each_all key ops.toList 0 fun j o hj=>by simpa using hj
 ·intro a w hE hs hd hI ht
  obtain ⟨hE,_,_⟩:=hE
  have i1:=hI m1 hs1
  rw [if_pos rfl] at i1
  have i2:=hI m2 hs2
  rw [if_neg (Ne.symm hm12),if_pos rfl] at i2
  refine fin a w hE i1 i2 hs hd (fun j d hj j1 j2 hdj=>?_) ht
  have:=hI j hj
  rw [if_neg j1,if_neg j2] at this
  exact this d hdj
end Go.By
namespace Go.By
open Go.RowKit Go.Maps
theorem res_cct {P:Program} {fn:Func} {p q u:Tmp} {ty ty2:TypeId} (h:fn.results = #[.cell p ty,.cell q ty2,.tmp u]) (tmps:Array Value) (w:World) (g g2:Nat) (t t2:TypeId) (cs cs2:Array Value) (fr fr2:Nat × Nat) (d d2:TypeDesc) (v:Value)
  (hp:tmps.getD p undef = .pointer (some ⟨g,0,none⟩)) (hg:w.heap[g]? = some (.cells cs t fr)) (hq:tmps.getD q undef = .pointer (some ⟨g2,0,none⟩)) (hg2:w.heap[g2]? = some (.cells cs2 t2 fr2)) (hv:tmps.getD u undef = v)
  (hu:P.underlying ty = some d) (hd:(match d with | .struct _ | .array _ _=>true | _=>false) = true) (hi:(P.info? ty).map (·.size) = some cs.size) (hu2:P.underlying ty2 = some d2) (hd2:(match d2 with | .struct _ | .array _ _=>true | _=>false) = true) (hi2:(P.info? ty2).map (·.size) = some cs2.size) :
  (results fn tmps).run P w = .ok (.tuple #[.agg cs,.agg cs2,v]) w:=by
 have hp':tmps[p]?.getD undef = .pointer (some ⟨g,0,none⟩):=by simpa using hp
 have hq':tmps[q]?.getD undef = .pointer (some ⟨g2,0,none⟩):=by simpa using hq
 have hv':tmps[u]?.getD undef = v:=by simpa using hv
 simp [results,h,hp',hq',hv',asAddr,run_loadVar_row w g t ty cs fr d hg hu hd hi,run_loadVar_row w g2 t2 ty2 cs2 fr2 d2 hg2 hu2 hd2 hi2]
theorem Fresh.two {T T1 T2:TypeId} {B g1 g2:Nat} {w w':World} {q:Option Addr} {n c:Nat} {xs:List UInt8} {o1 o2:Array Value} {f1 f2:Nat × Nat} (h:Fresh T B w q n c xs) (hE:TwoE w g1 g2 w') (h1:w.heap[g1]? = some (.cells o1 T1 f1)) (h2:w.heap[g2]? = some (.cells o2 T2 f2)) (n1:T1≠T) (n2:T2≠T):Fresh T B w' q n c xs:=by
 have hd:∀ a,q = some a→a.block≠g1∧a.block≠g2:=fun a ha=>by
  obtain ⟨cs,fr,e⟩:=h.ty a ha
  refine ⟨fun e1=>?_,fun e1=>?_⟩
  ·rw [e1,h1] at e;injection e with e;injection e with _ e _;exact n1 e
  ·rw [e1,h2] at e;injection e with e;injection e with _ e _;exact n2 e
 refine ⟨⟨h.sl.len,h.sl.le,h.sl.max,h.sl.nil,fun i hi=>?_⟩,h.new,fun a ha=>?_⟩
 ·obtain ⟨b,o,e,hc⟩:=h.sl.rs i hi
  exact ⟨b,o,e,hE.cell (hd _ e).1 (hd _ e).2 hc⟩
 ·obtain ⟨cs,fr,e⟩:=h.ty a ha
  exact ⟨cs,fr,(hE.block _ (hd a ha).1 (hd a ha).2).trans e⟩
structure IsRow (w:World) (g:Nat) (cs:Array Value) (w':World):Prop where
 eq:w' = w.setRow g cs
theorem wpList_store_rowS {P:Program} {ops:Array Oper} {rest:List Oper} {o:Oper} {a:Act} {w:World} {Q:Exit→Act→World→Prop} (hgd:o.guard = none) (ty:TypeId) (x y:Operand) (ho:o.op = .store ty x y)
  (g:Nat) (cells:Array Value) (hx:a.eval x = .pointer (some ⟨g,0,none⟩)) (hy:a.eval y = .agg cells)
  (t:TypeId) (old:Array Value) (hg:w.heap[g]? = some (.cells old t (0,0))) (hi:(P.info? ty).map (·.size) = some cells.size)
  (hold:old.size = cells.size) (h1:cells.all (·.oneCell') = true)
  (h:∀ w',IsRow w g cells w'→wpList P ops Q rest (a.put o.dst undef) w'):wpList P ops Q (o :: rest) a w :=
 wpList_store_row hgd ty x y ho g cells hx hy t old hg hi hold h1 (h _ ⟨rfl⟩)
theorem ownsMap_keep {P:Program} {k:TypeId} {R:Value→Option (DataW Unit × List MemPlace)} {w w':World} {b n:Nat} {D:DataW Unit} (h:w.ownsMap P k R b n D) (hb:Below w.heap.size w w'):w'.ownsMap P k R b n D:=by
 have hlt:=h.lt
 obtain ⟨es,clock,h1,F,hs,hD⟩:=h
 exact ⟨es,clock,(hb.block _ hlt).trans h1,F,hs,hD⟩
theorem run_makeMapN {P:Program} {t k e:TypeId} (ht:P.underlying t = some (.map k e)) (x:Int) (w:World):(Instr.makeMap t (some (.int .i64 x))).run P w = .ok (.map (some w.heap.size)) (w.alloc (.map #[] 0)):=by
 simp [Instr.makeMap,run_underlying ht,asInt,asIntOf]
theorem ownsMap_size {P:Program} {k:TypeId} {R:Value→Option (DataW Unit × List MemPlace)} {w:World} {b n:Nat} {D:DataW Unit} (h:w.ownsMap P k R b n D):Maps.size D≤n:=by
 obtain ⟨es,clock,h1,F,hs,rfl⟩:=h
 simpa [Maps.size,length_sorted] using hs
end Go.By
namespace Go.Proofs.YtccaiiigdfieoaaGreatDoor
open Go.RowKit Go.By Go.Maps
theorem zeroI (W:World):(zeroValue 3).run Tryz.prog W = .ok (.int .i64 0) W:=by simp [Tryz.underlying3]
theorem keyE (k t D:Nat) (xs:List UInt8):keyOf Tryz.prog 35 (.int .i64 (readC k t D xs)) = some (.int .i64 (readC k t D xs)):=by
 refine keyOf_int_mk Tryz.underlying35 ?_
 rcases readC_cases k t D xs with h | h | h | h | h | h | h <;> rw [h] <;> decide
def PkC (w:World) (B k t D:Nat) (xs:List UInt8) (v0 v1 v2 v3 v4 v5 v6:Value):Prop :=
 (v0.oneCell' = true∧v1.oneCell' = true∧v2.oneCell' = true∧v3.oneCell' = true∧v4.oneCell' = true∧v5.oneCell' = true∧v6.oneCell' = true) ∧
 (readC k t D xs = 0→∃ q n c q2 n2 c2,v0 = B8 (pktM xs)∧v1 = .int .u32 (D:Nat)∧v2 = .int .u32 (pktN xs:Nat)∧v3 = B8 (pktM xs)∧v4 = .slice q n c∧v5 = .int .u64 (pktS k xs:Nat)∧v6 = .slice q2 n2 c2∧Fresh 5 B w q n c (pktX k xs)∧Fresh 5 B w q2 n2 c2 (pktY k t xs))
theorem PkC.keep {w w':World} {B k t D:Nat} {xs:List UInt8} {v0 v1 v2 v3 v4 v5 v6:Value} (h:PkC w B k t D xs v0 v1 v2 v3 v4 v5 v6) (hb:Below w.heap.size w w'):PkC w' B k t D xs v0 v1 v2 v3 v4 v5 v6 :=
 ⟨h.1,fun hc=>by obtain ⟨q,n,c,q2,n2,c2,e0,e1,e2,e3,e4,e5,e6,f1,f2⟩:=h.2 hc;exact ⟨q,n,c,q2,n2,c2,e0,e1,e2,e3,e4,e5,e6,f1.keep hb,f2.keep hb⟩⟩
theorem PkC.mono {w:World} {B B' k t D:Nat} {xs:List UInt8} {v0 v1 v2 v3 v4 v5 v6:Value} (h:PkC w B k t D xs v0 v1 v2 v3 v4 v5 v6) (hb:B'≤B):PkC w B' k t D xs v0 v1 v2 v3 v4 v5 v6 :=
 ⟨h.1,fun hc=>by obtain ⟨q,n,c,q2,n2,c2,e0,e1,e2,e3,e4,e5,e6,f1,f2⟩:=h.2 hc;exact ⟨q,n,c,q2,n2,c2,e0,e1,e2,e3,e4,e5,e6,f1.mono hb,f2.mono hb⟩⟩
theorem PkC.row {w:World} {B k t D:Nat} {xs:List UInt8} {v0 v1 v2 v3 v4 v5 v6:Value} (h:PkC w B k t D xs v0 v1 v2 v3 v4 v5 v6) {T g:Nat} {cs old:Array Value} {fr:Nat × Nat} (hg:w.heap[g]? = some (.cells old T fr)) (hne:T≠5):PkC (w.setRow g cs) B k t D xs v0 v1 v2 v3 v4 v5 v6 :=
 ⟨h.1,fun hc=>by obtain ⟨q,n,c,q2,n2,c2,e0,e1,e2,e3,e4,e5,e6,f1,f2⟩:=h.2 hc;exact ⟨q,n,c,q2,n2,c2,e0,e1,e2,e3,e4,e5,e6,f1.row hg hne,f2.row hg hne⟩⟩
theorem PkC.two {w w':World} {B k t D:Nat} {xs:List UInt8} {v0 v1 v2 v3 v4 v5 v6:Value} (h:PkC w B k t D xs v0 v1 v2 v3 v4 v5 v6) {T1 T2 g1 g2:Nat} {o1 o2:Array Value} {f1 f2:Nat × Nat} (hE:TwoE w g1 g2 w') (h1:w.heap[g1]? = some (.cells o1 T1 f1)) (h2:w.heap[g2]? = some (.cells o2 T2 f2)) (n1:T1≠5) (n2:T2≠5):PkC w' B k t D xs v0 v1 v2 v3 v4 v5 v6 :=
 ⟨h.1,fun hc=>by obtain ⟨q,n,c,q2,n2',c2,e0,e1,e2,e3,e4,e5,e6,f1,f2⟩:=h.2 hc;exact ⟨q,n,c,q2,n2',c2,e0,e1,e2,e3,e4,e5,e6,f1.two hE h1 h2 n1 n2,f2.two hE h1 h2 n1 n2⟩⟩
theorem gate_ne:111≠5:=by decide
theorem getN_put {C:DataW Unit} (hC:IsMap C) {e:Int} (hk:WideAt.IsKeyLit (.int .i64 e)) (c x:Int):getN (C.put (.int .i64 e) (.lit (.int .i64 c))) x = if x = e then c else getN C x:=by
 by_cases h:x = e
 ·subst h
  rw [if_pos rfl]
  unfold getN
  rw [atKey_put_same hC hk]
 ·rw [if_neg h]
  unfold getN
  rw [atKey_put_other (fun e1=>h (by injection e1))]
theorem PRead_gen (L t k D:Nat) (p:Option Addr) (n c:Nat) (xs:List UInt8) (w:World) (hP:POK L t k D) (hT:HalfT w) (h:Sl B8 w p n c xs) (hr:Room n) :
  Calls Tryz.prog 111 #[PVal L t k D,.slice p n c] w fun e w'=>∃ v0 v1 v2 v3 v4 v5 v6,e = .returned (.tuple #[.agg #[v0,v1,v2,v3,v4,v5,v6],.int .i64 (readC k t D xs)])∧PkC w' w.heap.size k t D xs v0 v1 v2 v3 v4 v5 v6∧Below w.heap.size w w':=by
 refine Calls.mono (PRead_any L t k D p n c xs w hP hT h hr) ?_
 intro e w' he
 by_cases hc:readC k t D xs = 0
 ·rw [if_pos hc] at he
  obtain ⟨q,n,c,q2,n2,c2,rfl,f1,f2,hb⟩:=he
  rw [hc]
  exact ⟨_,_,_,_,_,_,_,rfl,⟨⟨rfl,rfl,rfl,rfl,rfl,rfl,rfl⟩,fun _=>⟨q,n,c,q2,n2,c2,rfl,rfl,rfl,rfl,rfl,rfl,rfl,f1,f2⟩⟩,hb⟩
 ·rw [if_neg hc] at he
  obtain ⟨rfl,hb⟩:=he
  exact ⟨_,_,_,_,_,_,_,rfl,⟨⟨rfl,rfl,rfl,rfl,rfl,rfl,rfl⟩,fun h=>absurd h hc⟩,hb⟩
set_option maxRecDepth 100000 in
set_option maxHeartbeats 4000000 in
theorem GLook_own (L t k D b N:Nat) (C:DataW Unit) (p:Option Addr) (n c:Nat) (xs:List UInt8) (w:World) (hP:POK L t k D) (hT:HalfT w) (ho:w.ownsMap Tryz.prog 35 (plainElem Tryz.prog 3) b N C) (hsm:∀ x,0≤getN C x∧getN C x≤N) (hN:N < 1000000) (h:Sl B8 w p n c xs) (hr:Room n) :
  Calls Tryz.prog 62 #[GVal L t k D (.map (some b)),.slice p n c] w fun e w'=>∃ b2 v0 v1 v2 v3 v4 v5 v6,e = .returned (.tuple #[GVal L t k D (.map (some b2)),.agg #[v0,v1,v2,v3,v4,v5,v6],.int .i64 (readC k t D xs)]) ∧
   CntM w' (.map (some b2)) (N + 1) (C.put (.int .i64 (readC k t D xs)) (.lit (.int .i64 (getN C (readC k t D xs) + 1))))∧PkC w' w.heap.size k t D xs v0 v1 v2 v3 v4 v5 v6∧Below w.heap.size w w':=by
 have HR:Hid (∀ w,HalfT w→Sl B8 w p n c xs→Calls Tryz.prog 111 #[PVal L t k D,.slice p n c] w fun e w'=>∃ v0 v1 v2 v3 v4 v5 v6,e = .returned (.tuple #[.agg #[v0,v1,v2,v3,v4,v5,v6],.int .i64 (readC k t D xs)])∧PkC w' w.heap.size k t D xs v0 v1 v2 v3 v4 v5 v6∧Below w.heap.size w w'):=fun w hT h=>PRead_gen L t k D p n c xs w hP hT h hr
 have H:=Lib.hid h
 have HT:=Lib.hid hT
 have HM:=Lib.hid ho
 have HSm:=Lib.hid hsm
 clear hP h hr hT ho hsm
 generalize hE:readC k t D xs = E at *
 have HE:=Lib.hid hE
 clear hE
 go_enter Tryz.func62,Tryz.ntmps62
 go_wp2_with fail
 refine Calls.mono (HR.out _ (HT.out.keep (by exact al (al (al (Below.refl _ _) (Nat.le_refl _)) (by simp)) (by simp;omega))) (H.out.keep (by exact al (al (al (Below.refl _ _) (Nat.le_refl _)) (by simp)) (by simp;omega)))) ?_
 rintro e w1 ⟨v0,v1,v2,v3,v4,v5,v6,rfl,hpk,hb⟩
 obtain ⟨hb1,h1,h2,h3,hs⟩:=three_of hb
 have HB:=Lib.hid hb1
 have HPk:=Lib.hid (hpk.mono (B':=w.heap.size) (by simp;omega))
 obtain ⟨o0,o1,o2,o3,o4,o5,o6⟩:=hpk.1
 obtain ⟨c0,c1,c2,c3,c4⟩:=cells_five h1
 have d4:∀ o',(w1.alloc o').cell? ⟨w.heap.size,4,none⟩ = _:=fun _=>calloc c4
 clear hb hb1 hpk
 go_wp2_with (refine wpList_store_rowS (o:=⟨none,.store 122 (.tmp 7) (.tmp 17),_,_,_,_⟩) rfl 122 (.tmp 7) (.tmp 17) rfl w1.heap.size #[v0,v1,v2,v3,v4,v5,v6] rfl rfl _ _ (hnew rfl) info_packet rfl (by simp [o0,o1,o2,o3,o4,o5,o6]) ?_)
 intro w2 hr2
 have HB2:Hid (Below w.heap.size w w2):=by rw [hr2.eq];exact below_row (al HB.out HB.out.size) HB.out.size
 have h1':w2.heap[w.heap.size]? = some (.cells #[.int .i64 (L:Nat),.int .i64 (t:Nat),.int .i64 (k:Nat),.int .u32 (D:Nat),.map (some b)] 111 (0,0)):=by rw [hr2.eq];exact hro (hal h1) (by omega)
 have h2':w2.heap[w.heap.size + 1]? = some (.cells #[.int .i64 0,.int .i64 0,.int .i64 0,.int .u32 0,.map none] 111 (0,0)):=by rw [hr2.eq];exact hro (hal h2) (by omega)
 have h3':w2.heap[w.heap.size + 2]? = some (.cells #[.int .u8 0,.int .u32 0,.int .u32 0,.int .u8 0,.slice none 0 0,.int .u64 0,.slice none 0 0] 122 (0,0)):=by rw [hr2.eq];exact hro (hal h3) (by omega)
 have h7:w2.heap[w1.heap.size]? = some (.cells #[v0,v1,v2,v3,v4,v5,v6] 122 (0,0)):=by rw [hr2.eq];exact hrs (hnew rfl)
 have HPk2:Hid (PkC w2 w.heap.size k t D xs v0 v1 v2 v3 v4 v5 v6):=by rw [hr2.eq];exact (HPk.out.keep (al (Below.refl _ _) (Nat.le_refl _))).row (hnew rfl) pkt_ne
 have HM2:=Lib.hid (ownsMap_keep HM.out HB2.out)
 have hs2:w1.heap.size + 1≤w2.heap.size:=by rw [hr2.eq];simp [World.setRow]
 clear hr2 h1 h2 h3 c0 c1 c2 c3 c4 d4
 generalize hG7:w1.heap.size = g7 at *
 have HG7:Hid (w.heap.size + 3≤g7):=hs
 clear hG7
 obtain ⟨c0,c1,c2,c3,c4⟩:=cells_five h1'
 have hmk:=fun x=>run_makeMapN (P:=Tryz.prog) Tryz.underlying109 x w2
 have d4:∀ o',(w2.alloc o').cell? ⟨w.heap.size,4,none⟩ = some (.map (some b)):=fun _=>calloc c4
 go_wp2_with (first | (at_len;refine wpList_len_own _ rfl _ 109 rfl 35 3 Tryz.underlying109 _ b N C rfl HM2.out ?_) | (at_range;refine wpList_range_own _ rfl _ 109 rfl 35 3 keyedG Tryz.underlying109 _ b N C rfl (HM2.out.alloc _) ?_))
 intro w3 hrg hg3 hs3
 try go_frame
 have SC:Maps.size C≤N:=ownsMap_size HM2.out
 have hbl:b < w2.heap.size:=HM2.out.lt
 obtain ⟨b2,hb2⟩:∃ b2,b2 = w2.heap.size:=⟨_,rfl⟩
 have hm0:(w2.alloc (.map #[] 0)).ownsMap Tryz.prog 35 (plainElem Tryz.prog 3) b2 0 (.map []:DataW Unit):=by rw [hb2];exact World.ownsMap_made _ _ _ _
 rw [← hb2] at hrg hs3 ⊢
 have HRG:=Lib.hid hrg
 have HM3:=Lib.hid (hm0.kept hg3 (by simp))
 have HBL:Hid (b < b2):=by rw [hb2];exact hbl
 have HB3:Hid (Below w2.heap.size w2 w3):=(al (Below.refl _ _) (Nat.le_refl _)).grown hg3 (by simp) (fun r hr'=>by cases hr')
 have HZ:Hid (b2 = w2.heap.size):=hb2
 have HSC:Hid (Maps.size C≤N):=SC
 clear hrg hm0 hbl hg3 hs3 hmk d4 SC hb2 c0 c1 c2 c3 c4
 go_wp2_with fail
 go_loopw [10] (fun _ wr=>∃ left cnt j C2,Hid (wr.ranges Tryz.prog 35 (plainElem Tryz.prog 3) b (b2 + 1) N C left cnt)∧Hid (wr.ownsMap Tryz.prog 35 (plainElem Tryz.prog 3) b2 j C2)∧Hid (Agree C2 C left)∧Hid (j + cnt≤N)∧Hid (Below w2.heap.size w2 wr)) (fun _ wr=>wr.rangeLeft b (b2 + 1))
 case atStart=>exact ⟨_,_,0,_,HRG.out,HM3.out,agree_start C,by rw [Nat.zero_add];exact HSC.out,HB3.out⟩
 case round =>
  clear HRG HM3 HB3
  obtain ⟨left,cnt,j,C2,R1,R2,R3,R4,R5⟩:=hrel
  go_wp2_with (at_next;refine wpList_next_ranges_ii _ rfl _ rfl 35 3 .i64 .i64 keyedG Tryz.underlying35 Tryz.underlying3 b (b2 + 1) N _ _ _ rfl R1.out ?_ ?_)
  ·intro hc0 hl0
   have eC:C2 = C:=agree_end R3.out hl0 (R2.out.canon keyedG) (R1.out.owns.canon keyedG)
   subst eC
   have HJ:Hid (j≤N):=by have:=R4.out;show j≤N;omega
   have hkE:=keyE k t D xs
   rw [HE.out] at hkE
   have HKE:=Lib.hid hkE
   have HBW:=Lib.hid (bl HB2.out R5.out HB2.out.size)
   have q1:=(R5.out.block _ (by have:=lt_of_block h1';omega)).trans h1'
   have q2:=(R5.out.block _ (by have:=lt_of_block h2';omega)).trans h2'
   have q3:=(R5.out.block _ (by have:=lt_of_block h3';omega)).trans h3'
   have q7:=(R5.out.block _ (by have:=lt_of_block h7;omega)).trans h7
   have HPk3:=Lib.hid (HPk2.out.keep R5.out)
   have HL2:Hid (g7 < w2.heap.size):=lt_of_block h7
   clear h1' h2' h3' h7 hc0 hl0 R1 R3 R4 hkE
   go_wp2_with (first | (at_lookup;refine wpList_lookup_own_int _ rfl _ _ 109 rfl 35 3 .i64 keyedG Tryz.underlying109 Tryz.underlying3 (zeroI _) b2 j _ rfl R2.out _ _ rfl HKE.out ?_) | (at_mapUpdate;fail) | fail)
   intro cc hat hwc
   have eN:cc = getN C2 E:=by unfold getN;rw [hat]
   have hsmE:=HSm.out E
   rw [← eN] at hsmE
   have ec:wrap64 (cc + 1) = cc + 1:=by unfold wrap64;omega
   have hw1:(Lit.int .i64 (cc + 1)).wf = true:=by simp [Lit.wf,IntKind.min,IntKind.max,IntKind.signed,IntKind.bits];omega
   have HEN:=Lib.hid eN
   clear hat eN
   go_wp2_with (first | (at_mapUpdate;refine wpList_mapUpdate_own _ rfl _ _ _ 109 rfl 35 3 keyedG Tryz.underlying109 (plainElem Tryz.prog 3) b2 j C2 rfl R2.out (by have:=HJ.out;unfold maxLen;omega) _ _ (.int .i64 E) rfl rfl HKE.out (.lit (.int .i64 (cc + 1))) [] (plainElem_int Tryz.underlying3 hw1) ?_) | fail)
   intro w5 hown5 hg5
   have HO5:=Lib.hid hown5
   have HSZ2:=HZ.out
   have B5:=R5.out.grown hg5 R5.out.size (fun r hr=>by cases hr;omega)
   have hx5:=B5.size
   have HB5:=Lib.hid (bl HB2.out B5 HB2.out.size)
   have p1:=(hg5.block _ (lt_of_block q1) (by have:=HL2.out;have:=HG7.out;simp;omega)).trans q1
   have p2:=(hg5.block _ (lt_of_block q2) (by have:=HL2.out;have:=HG7.out;simp;omega)).trans q2
   have p3:=(hg5.block _ (lt_of_block q3) (by have:=HL2.out;have:=HG7.out;simp;omega)).trans q3
   have p7:=(hg5.block _ (lt_of_block q7) (by have:=HL2.out;simp;omega)).trans q7
   have HPk5:=Lib.hid (HPk2.out.keep B5)
   have HE1:=Lib.hid ec
   have hne7:g7≠w.heap.size + 1∧g7≠w.heap.size + 2:=by have:=HG7.out;omega
   clear hown5 hg5 B5 q1 q2 q3 q7 ec hw1 hsmE hwc HSZ2 hx5
   obtain ⟨c0,c1,c2,c3,c4⟩:=cells_five p1
   obtain ⟨e0,e1,e2,e3,e4,e5,e6⟩:=cells_seven p7
   go_wp2_with fail
   refine wp_region_pair (fun ix=>([.pointer (some ⟨w.heap.size,0,none⟩),PVal L t k D,.map (some b2),.agg #[.int .i64 (L:Nat),.int .i64 (t:Nat),.int .i64 (k:Nat),.int .u32 (D:Nat),.map (some b2)],.agg #[v0,v1,v2,v3,v4,v5,v6],.int .i64 E,undef,undef,.int .i64 E][ix]?).getD undef) 45 6 7 (w.heap.size + 1) (w.heap.size + 1 + 1) 111 122 #[.int .i64 (L:Nat),.int .i64 (t:Nat),.int .i64 (k:Nat),.int .u32 (D:Nat),.map (some b2)] #[v0,v1,v2,v3,v4,v5,v6] rfl (by kernel_rfl) (by decide) (by decide) (by decide) (by decide) (by omega) ⟨_,p2,rfl⟩ ⟨_,p3,rfl⟩ ?_ ?_ ?_ (by decide) (by decide) ?_
   ·intro i o h1 h2 ho a W hE hs hp hi
    match i,h1,h2,ho with
    | 0,_,_,ho =>
     simp at ho;subst ho
     have t2:sl a 2 = .pointer (some ⟨w.heap.size,0,none⟩):=hi 2 (by decide)
     simp only [execOp,eval_tmp,t2];simp [go_sem]
    | 1,_,_,ho =>
     simp at ho;subst ho
     have t39:sl a 39 = .pointer (some ⟨w.heap.size,0,none⟩):=hp 0 39 (by decide) (by decide) (by decide) rfl
     have f0:=hE.cell (by omega) (by omega) c0;have f1:=hE.cell (by omega) (by omega) c1;have f2:=hE.cell (by omega) (by omega) c2;have f3:=hE.cell (by omega) (by omega) c3
     simp only [execOp,eval_tmp,t39];simp [go_sem,f0,f1,f2,f3]
    | 2,_,_,ho =>
     simp at ho;subst ho
     have t9:sl a 9 = .map (some b2):=hi 9 (by decide)
     simp only [execOp,eval_tmp,t9];rfl
    | 3,_,_,ho =>
     simp at ho;subst ho
     have t40:sl a 40 = PVal L t k D:=hp 1 40 (by decide) (by decide) (by decide) rfl
     have t41:sl a 41 = .map (some b2):=hp 2 41 (by decide) (by decide) (by decide) rfl
     have u40:a.tmps[40]?.getD undef = sl a 40:=by simp [sl]
     have u41:a.tmps[41]?.getD undef = sl a 41:=by simp [sl]
     rw [t40] at u40;rw [t41] at u41
     simp only [execOp,eval_tmp,t40,t41];simp [go_sem,u40,u41,Tryz.underlying111,Tryz.underlying27]
    | 4,_,_,ho =>
     simp at ho;subst ho
     have t7:sl a 7 = .pointer (some ⟨g7,0,none⟩):=hi 7 (by decide)
     have f0:=hE.cell hne7.1 hne7.2 e0;have f1:=hE.cell hne7.1 hne7.2 e1;have f2:=hE.cell hne7.1 hne7.2 e2;have f3:=hE.cell hne7.1 hne7.2 e3;have f4:=hE.cell hne7.1 hne7.2 e4;have f5:=hE.cell hne7.1 hne7.2 e5;have f6:=hE.cell hne7.1 hne7.2 e6
     simp only [execOp,eval_tmp,t7];simp [go_sem,f0,f1,f2,f3,f4,f5,f6]
    | 5,_,_,ho =>
     simp at ho;subst ho
     have t8:sl a 8 = .int .i64 E:=hi 8 (by decide)
     simp only [execOp,eval_tmp,t8];rfl
    | 8,_,_,ho =>
     simp at ho;subst ho
     have t44:sl a 44 = .int .i64 E:=hp 5 44 (by decide) (by decide) (by decide) rfl
     simp only [execOp,eval_tmp,t44];rfl
    | 6,h,_,_=>exact absurd rfl h
    | 7,_,h,_=>exact absurd rfl h
    | j + 9,_,_,ho=>simp at ho
   ·intro o ho a W hE hs hp hi old hold hsz
    simp at ho;subst ho
    have t4:sl a 4 = .pointer (some ⟨w.heap.size + 1,0,none⟩):=hi 4 (by decide)
    have t42:sl a 42 = .agg #[.int .i64 (L:Nat),.int .i64 (t:Nat),.int .i64 (k:Nat),.int .u32 (D:Nat),.map (some b2)]:=hp 3 42 (by decide) (by decide) (by decide) rfl
    exact wp_store_row 111 (.tmp 4) (.tmp 42) rfl (w.heap.size + 1) #[.int .i64 (L:Nat),.int .i64 (t:Nat),.int .i64 (k:Nat),.int .u32 (D:Nat),.map (some b2)] (by rw [eval_tmp];exact t4) (by rw [eval_tmp];exact t42) _ old hold info_gate hsz (by simp [Value.oneCell']) ⟨rfl,rfl⟩
   ·intro o ho a W hE hs hp hi old hold hsz
    simp at ho;subst ho
    have t5:sl a 5 = .pointer (some ⟨w.heap.size + 1 + 1,0,none⟩):=hi 5 (by decide)
    have t43:sl a 43 = .agg #[v0,v1,v2,v3,v4,v5,v6]:=hp 4 43 (by decide) (by decide) (by decide) rfl
    exact wp_store_row 122 (.tmp 5) (.tmp 43) rfl (w.heap.size + 1 + 1) #[v0,v1,v2,v3,v4,v5,v6] (by rw [eval_tmp];exact t5) (by rw [eval_tmp];exact t43) _ old hold info_packet hsz (by simp [o0,o1,o2,o3,o4,o5,o6]) ⟨rfl,rfl⟩
   ·intro a W hE i1 i2 hs hd hI ht
    have ha:=act_is [39,40,41,42,43,44,6] hs hd ht (by decide)
    have t6:sl a 6 = .int .i64 E:=hI 8 6 (by decide) (by decide) (by decide) rfl
    simp only [List.foldl,t6] at ha
    generalize sl a 39 = u39 at ha
    generalize sl a 40 = u40 at ha
    generalize sl a 41 = u41 at ha
    generalize sl a 42 = u42 at ha
    generalize sl a 43 = u43 at ha
    generalize sl a 44 = u44 at ha
    simp only [Act.put,List.setIfInBounds_toArray,List.set_cons_zero,List.set_cons_succ] at ha
    rw [ha]
    clear ha hI ht hs hd t6 c0 c1 c2 c3 c4 e0 e1 e2 e3 e4 e5 e6
    have hW:=hE.size
    have HO6:Hid (W.ownsMap Tryz.prog 35 (plainElem Tryz.prog 3) b2 (j + 1) (C2.put (.int .i64 E) (.lit (.int .i64 (cc + 1))))):=by
     obtain ⟨es,clock,m1,F,m2,m3⟩:=HO5.out
     exact ⟨es,clock,(hE.block b2 (by have:=HL2.out;have:=HG7.out;have:=HZ.out;omega) (by have:=HL2.out;have:=HG7.out;have:=HZ.out;omega)).trans m1,F,m2,m3⟩
    have HPk6:=Lib.hid (HPk5.out.two hE p2 p3 gate_ne pkt_ne)
    have HB6:Hid (Below w.heap.size w W):=HB5.out.trans (hE.below (by omega) (by omega))
    have HMp:Hid (IsMap C2):=R2.out.isMap
    clear hE p1 p2 p3 p7 hW
    go_wp2
    refine bodyPost_ret (res_cct rfl _ _ _ _ 111 122 #[.int .i64 (L:Nat),.int .i64 (t:Nat),.int .i64 (k:Nat),.int .u32 (D:Nat),.map (some b2)] #[v0,v1,v2,v3,v4,v5,v6] (0,0) (0,0) _ _ (.int .i64 E) rfl i1 rfl i2 rfl Tryz.underlying111 rfl info_gate Tryz.underlying122 rfl info_packet) rfl ?_
    refine ⟨b2,v0,v1,v2,v3,v4,v5,v6,rfl,⟨.inr ⟨b2,rfl,?_⟩,fun x=>?_⟩,HPk6.out,HB6.out⟩
    ·rw [← HEN.out]
     exact HO6.out.mono (by have:=HJ.out;omega)
    ·rw [getN_put HMp.out (keyedG.key HKE.out),← HEN.out]
     have g1:=HSm.out x
     have g2:=HSm.out E
     rw [← HEN.out] at g2
     split <;> omega
  ·intro x cc w4 cnt4 hwx hwc hlx hat hrg4 hlt hg4 hs4 hen
   have R2':=Lib.hid (R2.out.kept hg4 (by simp))
   have RG4:=Lib.hid hrg4
   have HAT:=Lib.hid hat
   have hkx:=keyOf_int_mk (P:=Tryz.prog) Tryz.underlying35 hwx
   have HJ:Hid (j < maxLen):=by have:=R4.out;show j < maxLen;unfold maxLen;omega
   have R5':=Lib.hid (R5.out.grown hg4 R5.out.size (fun r hr=>by have:=HZ.out;cases hr;omega))
   clear hrg4 hat hg4 hlx
   go_wp2_with (first | (at_mapUpdate;refine wpList_mapUpdate_own _ rfl _ _ _ 109 rfl 35 3 keyedG Tryz.underlying109 (plainElem Tryz.prog 3) b2 j C2 rfl R2'.out HJ.out _ _ (.int .i64 x) rfl rfl hkx (.lit (.int .i64 cc)) [] (plainElem_int Tryz.underlying3 hwc) ?_) | fail)
   intro w5 hown5 hg5
   have HO5:=Lib.hid hown5
   have RG5:=Lib.hid (RG4.out.kept hg5 (by have:=HBL.out;simp;omega) (by simp))
   have R5'':=Lib.hid (R5'.out.grown hg5 R5'.out.size (fun r hr=>by have:=HZ.out;cases hr;omega))
   have A5:=Lib.hid (agree_step R3.out R2.out.isMap (keyedG.key hkx) HAT.out)
   clear hown5 hg5 hen
   go_wp2
   go_roundw
   case rel=>exact ⟨_,cnt4,j + 1,_,RG5.out,HO5.out,A5.out,by have:=R4.out;show j + 1 + cnt4≤N;omega,R5''.out⟩
   case measure=>rw [RG5.out.left_eq,R1.out.left_eq];omega
end Go.Proofs.YtccaiiigdfieoaaGreatDoor
namespace Go.Proofs.YtccaiiigdfieoaaGreatDoor
open Go.RowKit Go.By Go.Maps
set_option maxRecDepth 100000 in
set_option maxHeartbeats 4000000 in
theorem GLook_nil (L t k D:Nat) (p:Option Addr) (n c:Nat) (xs:List UInt8) (w:World) (hP:POK L t k D) (hT:HalfT w) (h:Sl B8 w p n c xs) (hr:Room n) :
  Calls Tryz.prog 62 #[GVal L t k D (.map none),.slice p n c] w fun e w'=>∃ b2 v0 v1 v2 v3 v4 v5 v6,e = .returned (.tuple #[GVal L t k D (.map (some b2)),.agg #[v0,v1,v2,v3,v4,v5,v6],.int .i64 (readC k t D xs)]) ∧
   CntM w' (.map (some b2)) 1 ((DataW.map []:DataW Unit).put (.int .i64 (readC k t D xs)) (.lit (.int .i64 (getN (.map []) (readC k t D xs) + 1))))∧PkC w' w.heap.size k t D xs v0 v1 v2 v3 v4 v5 v6∧Below w.heap.size w w':=by
 have HR:Hid (∀ w,HalfT w→Sl B8 w p n c xs→Calls Tryz.prog 111 #[PVal L t k D,.slice p n c] w fun e w'=>∃ v0 v1 v2 v3 v4 v5 v6,e = .returned (.tuple #[.agg #[v0,v1,v2,v3,v4,v5,v6],.int .i64 (readC k t D xs)])∧PkC w' w.heap.size k t D xs v0 v1 v2 v3 v4 v5 v6∧Below w.heap.size w w'):=fun w hT h=>PRead_gen L t k D p n c xs w hP hT h hr
 have H:=Lib.hid h
 have HT:=Lib.hid hT
 clear hP h hr hT
 generalize hE:readC k t D xs = E at *
 have HE:=Lib.hid hE
 clear hE
 obtain ⟨C2,hC2⟩:∃ C2:DataW Unit,C2 = .map []:=⟨_,rfl⟩
 have HSm:Hid (∀ x,0≤getN C2 x∧getN C2 x≤0):=fun x=>by rw [hC2];exact ⟨Int.le_refl _,Int.le_refl _⟩
 rw [← hC2]
 have HC2:=Lib.hid hC2
 clear hC2
 go_enter Tryz.func62,Tryz.ntmps62
 go_wp2_with fail
 refine Calls.mono (HR.out _ (HT.out.keep (by exact al (al (al (Below.refl _ _) (Nat.le_refl _)) (by simp)) (by simp;omega))) (H.out.keep (by exact al (al (al (Below.refl _ _) (Nat.le_refl _)) (by simp)) (by simp;omega)))) ?_
 rintro e w1 ⟨v0,v1,v2,v3,v4,v5,v6,rfl,hpk,hb⟩
 obtain ⟨hb1,h1,h2,h3,hs⟩:=three_of hb
 have HB:=Lib.hid hb1
 have HPk:=Lib.hid (hpk.mono (B':=w.heap.size) (by simp;omega))
 obtain ⟨o0,o1,o2,o3,o4,o5,o6⟩:=hpk.1
 obtain ⟨c0,c1,c2,c3,c4⟩:=cells_five h1
 have d4:∀ o',(w1.alloc o').cell? ⟨w.heap.size,4,none⟩ = _:=fun _=>calloc c4
 clear hb hb1 hpk
 go_wp2_with (refine wpList_store_rowS (o:=⟨none,.store 122 (.tmp 7) (.tmp 17),_,_,_,_⟩) rfl 122 (.tmp 7) (.tmp 17) rfl w1.heap.size #[v0,v1,v2,v3,v4,v5,v6] rfl rfl _ _ (hnew rfl) info_packet rfl (by simp [o0,o1,o2,o3,o4,o5,o6]) ?_)
 intro w2 hr2
 have HB2:Hid (Below w.heap.size w w2):=by rw [hr2.eq];exact below_row (al HB.out HB.out.size) HB.out.size
 have h1':w2.heap[w.heap.size]? = some (.cells #[.int .i64 (L:Nat),.int .i64 (t:Nat),.int .i64 (k:Nat),.int .u32 (D:Nat),.map none] 111 (0,0)):=by rw [hr2.eq];exact hro (hal h1) (by omega)
 have h2':w2.heap[w.heap.size + 1]? = some (.cells #[.int .i64 0,.int .i64 0,.int .i64 0,.int .u32 0,.map none] 111 (0,0)):=by rw [hr2.eq];exact hro (hal h2) (by omega)
 have h3':w2.heap[w.heap.size + 2]? = some (.cells #[.int .u8 0,.int .u32 0,.int .u32 0,.int .u8 0,.slice none 0 0,.int .u64 0,.slice none 0 0] 122 (0,0)):=by rw [hr2.eq];exact hro (hal h3) (by omega)
 have h7:w2.heap[w1.heap.size]? = some (.cells #[v0,v1,v2,v3,v4,v5,v6] 122 (0,0)):=by rw [hr2.eq];exact hrs (hnew rfl)
 have HPk2:Hid (PkC w2 w.heap.size k t D xs v0 v1 v2 v3 v4 v5 v6):=by rw [hr2.eq];exact (HPk.out.keep (al (Below.refl _ _) (Nat.le_refl _))).row (hnew rfl) pkt_ne
 have hs2:w1.heap.size + 1≤w2.heap.size:=by rw [hr2.eq];simp [World.setRow]
 clear hr2 h1 h2 h3 c0 c1 c2 c3 c4 d4
 generalize hG7:w1.heap.size = g7 at *
 have HG7:Hid (w.heap.size + 3≤g7):=hs
 clear hG7
 obtain ⟨c0,c1,c2,c3,c4⟩:=cells_five h1'
 have hmk:=fun x=>run_makeMapN (P:=Tryz.prog) Tryz.underlying109 x w2
 have d4:∀ o',(w2.alloc o').cell? ⟨w.heap.size,4,none⟩ = some (.map none):=fun _=>calloc c4
 have hrn:=fun W=>run_range_nilMap (P:=Tryz.prog) W 109 _ _ Tryz.underlying109
 go_wp2_with fail
 obtain ⟨b2,hb2⟩:∃ b2,b2 = w2.heap.size:=⟨_,rfl⟩
 have hm0:(w2.alloc (.map #[] 0)).ownsMap Tryz.prog 35 (plainElem Tryz.prog 3) b2 0 (.map []:DataW Unit):=by rw [hb2];exact World.ownsMap_made _ _ _ _
 have hnx:=run_next_nilMap (P:=Tryz.prog) (w2.alloc (.map #[] 0)) 0 0 0 #[]
 rw [show (w2.alloc (.map #[] 0)).heap.size = w2.heap.size + 1 by simp] at hnx
 have R2:Hid (((w2.alloc (.map #[] 0)).alloc (.mapIter none 0 #[] 0)).ownsMap Tryz.prog 35 (plainElem Tryz.prog 3) b2 0 (.map []:DataW Unit)):=hm0.alloc _
 have R5:Hid (Below w2.heap.size w2 ((w2.alloc (.map #[] 0)).alloc (.mapIter none 0 #[] 0))):=al (al (Below.refl _ _) (Nat.le_refl _)) (by simp)
 have HZ:Hid (b2 = w2.heap.size):=hb2
 rw [← hb2] at hnx ⊢
 have HNX:=Lib.hid hnx
 clear hm0 hnx hmk d4 hb2 hrn c0 c1 c2 c3 c4
 obtain ⟨W3,hW3⟩:∃ W3,W3 = (w2.alloc (.map #[] 0)).alloc (.mapIter none 0 #[] 0):=⟨_,rfl⟩
 rw [← hW3] at R2 R5 HNX ⊢
 clear hW3
 rw [← HC2.out] at R2
 go_loopw [10] (fun _ wr=>Hid (wr = W3)) (fun _ _=>0)
 case atStart=>rfl
 case round =>
   have hwr:=hrel.out
   subst hwr
   have hnx:=HNX.out
   have hkE:=keyE k t D xs
   rw [HE.out] at hkE
   have HKE:=Lib.hid hkE
   have HBW:=Lib.hid (bl HB2.out R5.out HB2.out.size)
   have q1:=(R5.out.block _ (by have:=lt_of_block h1';omega)).trans h1'
   have q2:=(R5.out.block _ (by have:=lt_of_block h2';omega)).trans h2'
   have q3:=(R5.out.block _ (by have:=lt_of_block h3';omega)).trans h3'
   have q7:=(R5.out.block _ (by have:=lt_of_block h7;omega)).trans h7
   have HPk3:=Lib.hid (HPk2.out.keep R5.out)
   have HL2:Hid (g7 < w2.heap.size):=lt_of_block h7
   clear h1' h2' h3' h7 hkE
   go_wp2_with (first | (at_lookup;refine wpList_lookup_own_int _ rfl _ _ 109 rfl 35 3 .i64 keyedG Tryz.underlying109 Tryz.underlying3 (zeroI _) b2 0 _ rfl R2.out _ _ rfl HKE.out ?_) | (at_mapUpdate;fail) | fail)
   intro cc hat hwc
   have eN:cc = getN C2 E:=by unfold getN;rw [hat]
   have hsmE:=HSm.out E
   rw [← eN] at hsmE
   have ec:wrap64 (cc + 1) = cc + 1:=by unfold wrap64;omega
   have hw1:(Lit.int .i64 (cc + 1)).wf = true:=by simp [Lit.wf,IntKind.min,IntKind.max,IntKind.signed,IntKind.bits];omega
   have HEN:=Lib.hid eN
   clear hat eN
   go_wp2_with (first | (at_mapUpdate;refine wpList_mapUpdate_own _ rfl _ _ _ 109 rfl 35 3 keyedG Tryz.underlying109 (plainElem Tryz.prog 3) b2 0 C2 rfl R2.out (by unfold maxLen;omega) _ _ (.int .i64 E) rfl rfl HKE.out (.lit (.int .i64 (cc + 1))) [] (plainElem_int Tryz.underlying3 hw1) ?_) | fail)
   intro w5 hown5 hg5
   have HO5:=Lib.hid hown5
   have HSZ2:=HZ.out
   have B5:=R5.out.grown hg5 R5.out.size (fun r hr=>by cases hr;omega)
   have hx5:=B5.size
   have HB5:=Lib.hid (bl HB2.out B5 HB2.out.size)
   have p1:=(hg5.block _ (lt_of_block q1) (by have:=HL2.out;have:=HG7.out;simp;omega)).trans q1
   have p2:=(hg5.block _ (lt_of_block q2) (by have:=HL2.out;have:=HG7.out;simp;omega)).trans q2
   have p3:=(hg5.block _ (lt_of_block q3) (by have:=HL2.out;have:=HG7.out;simp;omega)).trans q3
   have p7:=(hg5.block _ (lt_of_block q7) (by have:=HL2.out;simp;omega)).trans q7
   have HPk5:=Lib.hid (HPk2.out.keep B5)
   have HE1:=Lib.hid ec
   have hne7:g7≠w.heap.size + 1∧g7≠w.heap.size + 2:=by have:=HG7.out;omega
   clear hown5 hg5 B5 q1 q2 q3 q7 ec hw1 hsmE hwc HSZ2 hx5
   obtain ⟨c0,c1,c2,c3,c4⟩:=cells_five p1
   obtain ⟨e0,e1,e2,e3,e4,e5,e6⟩:=cells_seven p7
   go_wp2_with fail
   refine wp_region_pair (fun ix=>([.pointer (some ⟨w.heap.size,0,none⟩),PVal L t k D,.map (some b2),.agg #[.int .i64 (L:Nat),.int .i64 (t:Nat),.int .i64 (k:Nat),.int .u32 (D:Nat),.map (some b2)],.agg #[v0,v1,v2,v3,v4,v5,v6],.int .i64 E,undef,undef,.int .i64 E][ix]?).getD undef) 45 6 7 (w.heap.size + 1) (w.heap.size + 1 + 1) 111 122 #[.int .i64 (L:Nat),.int .i64 (t:Nat),.int .i64 (k:Nat),.int .u32 (D:Nat),.map (some b2)] #[v0,v1,v2,v3,v4,v5,v6] rfl (by kernel_rfl) (by decide) (by decide) (by decide) (by decide) (by omega) ⟨_,p2,rfl⟩ ⟨_,p3,rfl⟩ ?_ ?_ ?_ (by decide) (by decide) ?_
   ·intro i o h1 h2 ho a W hE hs hp hi
    match i,h1,h2,ho with
    | 0,_,_,ho =>
     simp at ho;subst ho
     have t2:sl a 2 = .pointer (some ⟨w.heap.size,0,none⟩):=hi 2 (by decide)
     simp only [execOp,eval_tmp,t2];simp [go_sem]
    | 1,_,_,ho =>
     simp at ho;subst ho
     have t39:sl a 39 = .pointer (some ⟨w.heap.size,0,none⟩):=hp 0 39 (by decide) (by decide) (by decide) rfl
     have f0:=hE.cell (by omega) (by omega) c0;have f1:=hE.cell (by omega) (by omega) c1;have f2:=hE.cell (by omega) (by omega) c2;have f3:=hE.cell (by omega) (by omega) c3
     simp only [execOp,eval_tmp,t39];simp [go_sem,f0,f1,f2,f3]
    | 2,_,_,ho =>
     simp at ho;subst ho
     have t9:sl a 9 = .map (some b2):=hi 9 (by decide)
     simp only [execOp,eval_tmp,t9];rfl
    | 3,_,_,ho =>
     simp at ho;subst ho
     have t40:sl a 40 = PVal L t k D:=hp 1 40 (by decide) (by decide) (by decide) rfl
     have t41:sl a 41 = .map (some b2):=hp 2 41 (by decide) (by decide) (by decide) rfl
     have u40:a.tmps[40]?.getD undef = sl a 40:=by simp [sl]
     have u41:a.tmps[41]?.getD undef = sl a 41:=by simp [sl]
     rw [t40] at u40;rw [t41] at u41
     simp only [execOp,eval_tmp,t40,t41];simp [go_sem,u40,u41,Tryz.underlying111,Tryz.underlying27]
    | 4,_,_,ho =>
     simp at ho;subst ho
     have t7:sl a 7 = .pointer (some ⟨g7,0,none⟩):=hi 7 (by decide)
     have f0:=hE.cell hne7.1 hne7.2 e0;have f1:=hE.cell hne7.1 hne7.2 e1;have f2:=hE.cell hne7.1 hne7.2 e2;have f3:=hE.cell hne7.1 hne7.2 e3;have f4:=hE.cell hne7.1 hne7.2 e4;have f5:=hE.cell hne7.1 hne7.2 e5;have f6:=hE.cell hne7.1 hne7.2 e6
     simp only [execOp,eval_tmp,t7];simp [go_sem,f0,f1,f2,f3,f4,f5,f6]
    | 5,_,_,ho =>
     simp at ho;subst ho
     have t8:sl a 8 = .int .i64 E:=hi 8 (by decide)
     simp only [execOp,eval_tmp,t8];rfl
    | 8,_,_,ho =>
     simp at ho;subst ho
     have t44:sl a 44 = .int .i64 E:=hp 5 44 (by decide) (by decide) (by decide) rfl
     simp only [execOp,eval_tmp,t44];rfl
    | 6,h,_,_=>exact absurd rfl h
    | 7,_,h,_=>exact absurd rfl h
    | j + 9,_,_,ho=>simp at ho
   ·intro o ho a W hE hs hp hi old hold hsz
    simp at ho;subst ho
    have t4:sl a 4 = .pointer (some ⟨w.heap.size + 1,0,none⟩):=hi 4 (by decide)
    have t42:sl a 42 = .agg #[.int .i64 (L:Nat),.int .i64 (t:Nat),.int .i64 (k:Nat),.int .u32 (D:Nat),.map (some b2)]:=hp 3 42 (by decide) (by decide) (by decide) rfl
    exact wp_store_row 111 (.tmp 4) (.tmp 42) rfl (w.heap.size + 1) #[.int .i64 (L:Nat),.int .i64 (t:Nat),.int .i64 (k:Nat),.int .u32 (D:Nat),.map (some b2)] (by rw [eval_tmp];exact t4) (by rw [eval_tmp];exact t42) _ old hold info_gate hsz (by simp [Value.oneCell']) ⟨rfl,rfl⟩
   ·intro o ho a W hE hs hp hi old hold hsz
    simp at ho;subst ho
    have t5:sl a 5 = .pointer (some ⟨w.heap.size + 1 + 1,0,none⟩):=hi 5 (by decide)
    have t43:sl a 43 = .agg #[v0,v1,v2,v3,v4,v5,v6]:=hp 4 43 (by decide) (by decide) (by decide) rfl
    exact wp_store_row 122 (.tmp 5) (.tmp 43) rfl (w.heap.size + 1 + 1) #[v0,v1,v2,v3,v4,v5,v6] (by rw [eval_tmp];exact t5) (by rw [eval_tmp];exact t43) _ old hold info_packet hsz (by simp [o0,o1,o2,o3,o4,o5,o6]) ⟨rfl,rfl⟩
   ·intro a W hE i1 i2 hs hd hI ht
    have ha:=act_is [39,40,41,42,43,44,6] hs hd ht (by decide)
    have t6:sl a 6 = .int .i64 E:=hI 8 6 (by decide) (by decide) (by decide) rfl
    simp only [List.foldl,t6] at ha
    generalize sl a 39 = u39 at ha
    generalize sl a 40 = u40 at ha
    generalize sl a 41 = u41 at ha
    generalize sl a 42 = u42 at ha
    generalize sl a 43 = u43 at ha
    generalize sl a 44 = u44 at ha
    simp only [Act.put,List.setIfInBounds_toArray,List.set_cons_zero,List.set_cons_succ] at ha
    rw [ha]
    clear ha hI ht hs hd t6 c0 c1 c2 c3 c4 e0 e1 e2 e3 e4 e5 e6
    have hW:=hE.size
    have HO6:Hid (W.ownsMap Tryz.prog 35 (plainElem Tryz.prog 3) b2 (0 + 1) (C2.put (.int .i64 E) (.lit (.int .i64 (cc + 1))))):=by
     obtain ⟨es,clock,m1,F,m2,m3⟩:=HO5.out
     exact ⟨es,clock,(hE.block b2 (by have:=HL2.out;have:=HG7.out;have:=HZ.out;omega) (by have:=HL2.out;have:=HG7.out;have:=HZ.out;omega)).trans m1,F,m2,m3⟩
    have HPk6:=Lib.hid (HPk5.out.two hE p2 p3 gate_ne pkt_ne)
    have HB6:Hid (Below w.heap.size w W):=HB5.out.trans (hE.below (by omega) (by omega))
    have HMp:Hid (IsMap C2):=R2.out.isMap
    clear hE p1 p2 p3 p7 hW
    go_wp2
    refine bodyPost_ret (res_cct rfl _ _ _ _ 111 122 #[.int .i64 (L:Nat),.int .i64 (t:Nat),.int .i64 (k:Nat),.int .u32 (D:Nat),.map (some b2)] #[v0,v1,v2,v3,v4,v5,v6] (0,0) (0,0) _ _ (.int .i64 E) rfl i1 rfl i2 rfl Tryz.underlying111 rfl info_gate Tryz.underlying122 rfl info_packet) rfl ?_
    refine ⟨b2,v0,v1,v2,v3,v4,v5,v6,rfl,⟨.inr ⟨b2,rfl,?_⟩,fun x=>?_⟩,HPk6.out,HB6.out⟩
    ·rw [← HEN.out]
     exact HO6.out
    ·rw [getN_put HMp.out (keyedG.key HKE.out),← HEN.out]
     have g1:=HSm.out x
     have g2:=HSm.out E
     rw [← HEN.out] at g2
     split <;> omega
theorem CntM.mono {w:World} {M:Value} {N N':Nat} {C:DataW Unit} (h:CntM w M N C) (hN:N≤N'):CntM w M N' C:=by
 refine ⟨?_,fun x=>by have:=h.small x;omega⟩
 rcases h.at_ with h1 | ⟨b,e,ho⟩
 ·exact .inl h1
 ·exact .inr ⟨b,e,ho.mono hN⟩
def bump (C:DataW Unit) (x:Int):DataW Unit:=C.put (.int .i64 x) (.lit (.int .i64 (getN C x + 1)))
theorem GLook_any (L t k D N:Nat) (M:Value) (C:DataW Unit) (p:Option Addr) (n c:Nat) (xs:List UInt8) (w:World) (hP:POK L t k D) (hT:HalfT w) (hC:CntM w M N C) (hN:N < 1000000) (h:Sl B8 w p n c xs) (hr:Room n) :
  Calls Tryz.prog 62 #[GVal L t k D M,.slice p n c] w fun e w'=>∃ b2 v0 v1 v2 v3 v4 v5 v6,e = .returned (.tuple #[GVal L t k D (.map (some b2)),.agg #[v0,v1,v2,v3,v4,v5,v6],.int .i64 (readC k t D xs)]) ∧
   CntM w' (.map (some b2)) (N + 1) (bump C (readC k t D xs))∧PkC w' w.heap.size k t D xs v0 v1 v2 v3 v4 v5 v6∧Below w.heap.size w w':=by
 rcases hC.at_ with ⟨rfl,rfl⟩ | ⟨b,rfl,ho⟩
 ·refine Calls.mono (GLook_nil L t k D p n c xs w hP hT h hr) ?_
  rintro e w' ⟨b2,v0,v1,v2,v3,v4,v5,v6,rfl,g1,g2,g3⟩
  exact ⟨b2,v0,v1,v2,v3,v4,v5,v6,rfl,g1.mono (by omega),g2,g3⟩
 ·exact GLook_own L t k D b N C p n c xs w hP hT ho hC.small hN h hr
end Go.Proofs.YtccaiiigdfieoaaGreatDoor
namespace Go.Proofs.YtccaiiigdfieoaaGreatDoor
open Go.RowKit Go.By Go.Maps
theorem ones_gate {a b c d:Int} {M:Value} (hM:M.oneCell' = true):(#[Value.int .i64 a,.int .i64 b,.int .i64 c,.int .u32 d,M].all (·.oneCell')) = true:=by
 simp only [List.all_toArray,List.all_cons,List.all_nil,hM];rfl
structure Tkr (w:World) (base gt be L t k D N:Nat) (M v:Value) (C:DataW Unit) (K:List Rw) (st:Nat):Prop where
 ok:POK L t k D
 box:w.heap[gt]? = some (.cells #[.int .i64 (L:Nat),.int .i64 (t:Nat),.int .i64 (k:Nat),.int .u32 (D:Nat),M,.pointer (some ⟨be,0,none⟩),.int .i64 (st:Nat)] 118 (0,0))
 cnt:CntM w M N C
 elm:Elm w base be k t v K.length K
 red:Red k t K
 old:base≤gt
theorem Tkr.keep {w w':World} {base gt be L t k D N:Nat} {M v:Value} {C:DataW Unit} {K:List Rw} {st:Nat} (h:Tkr w base gt be L t k D N M v C K st) (hb:Below w.heap.size w w'):Tkr w' base gt be L t k D N M v C K st :=
 ⟨h.ok,(hb.block _ (lt_of_block h.box)).trans h.box,h.cnt.keep hb,h.elm.keep hb,h.red,h.old⟩
set_option maxRecDepth 100000 in
set_option maxHeartbeats 2000000 in
theorem TNew_ok (L t k D:Nat) (w:World) (hP:POK L t k D) :
  Calls Tryz.prog 15 #[PVal L t k D] w fun e w'=>∃ gt be v,e = .returned (.tuple #[.pointer (some ⟨gt,0,none⟩),.int .i64 0])∧Tkr w' w.heap.size gt be L t k D 0 (.map none) v (.map []) [] 0∧Below w.heap.size w w':=by
 have HP:=Lib.hid hP
 have HG:Hid (∀ w,Calls Tryz.prog 60 #[PVal L t k D] w fun e w'=>e = .returned (.tuple #[GVal L t k D (.map none),.int .i64 0])∧Below w.heap.size w w'):=fun w=>GNew_ok L t k D w hP
 have HE:Hid (∀ w,Calls Tryz.prog 61 #[.int .i64 (k:Nat),.int .i64 (t:Nat)] w _):=fun w=>New_good k t w hP.k1 hP.k2 hP.t2
 clear hP
 go_enter Tryz.func15,Tryz.ntmps15
 go_wp2_with fail
 refine Calls.mono (HG.out _) ?_
 rintro e w1 ⟨rfl,hb⟩
 obtain ⟨hb1,h1,hs⟩:=one_of hb
 have HB:=Lib.hid hb1
 obtain ⟨c0,c1,c2,c3⟩:=cells_four h1
 have a1:∀ o',(w1.alloc o').cell? ⟨w.heap.size,1,none⟩ = _:=fun _=>calloc c1
 have a2:∀ o',(w1.alloc o').cell? ⟨w.heap.size,2,none⟩ = _:=fun _=>calloc c2
 clear hb hb1 c0 c1 c2 c3
 go_wp2_with fail
 refine Calls.mono (HE.out _) ?_
 rintro e w2 ⟨be,rfl,hE,hb⟩
 obtain ⟨hb2,h2,hs2⟩:=one_of hb
 have HB2:=Lib.hid (bl HB.out hb2 HB.out.size)
 have HEl:=Lib.hid (⟨hE.box,hE.rows.mono (by have:=HB.out.size;simp;omega),Nat.le_trans (by have:=HB.out.size;simp;omega) hE.old⟩:Elm w2 w.heap.size be k t (.slice none 0 0) 0 [])
 obtain ⟨d0,d1,d2,d3,d4⟩:=cells_five h2
 clear hb hb2 hE a1 a2
 go_wp2
 go_ret2
 exact ⟨w2.heap.size,be,.slice none 0 0,rfl,⟨HP.out,hnew rfl,CntM.none _ _,HEl.out.keep (al (Below.refl _ _) (Nat.le_refl _)),Red.nil _ _,HB2.out.size⟩,al HB2.out HB2.out.size⟩
set_option maxRecDepth 100000 in
set_option maxHeartbeats 1000000 in
theorem TRows_any (base gt be L t k D N:Nat) (M v:Value) (C:DataW Unit) (K:List Rw) (st:Nat) (w:World) (h:Tkr w base gt be L t k D N M v C K st) :
  Calls Tryz.prog 21 #[.pointer (some ⟨gt,0,none⟩)] w fun e w'=>∃ v',e = .returned v'∧RwL 99 5 w' w.heap.size v' K.length K∧Below w.heap.size w w':=by
 have hl:=Red.le h.red
 have hk2:=h.ok.k2
 have ht2:=h.ok.t2
 have hR:=h.red
 have HE:=Lib.hid (ERows_any base be k t K.length v K w h.elm (fun r hr=>⟨by have:=(hR.kept.rows r hr).1.1;show _≤_;omega,by have:=(hR.kept.rows r hr).1.2;show _≤_;omega⟩) (by omega))
 obtain ⟨c0,c1,c2,c3,c4,c5,c6⟩:=cells_seven h.box
 clear h hl hk2 ht2 hR
 go_enter Tryz.func21,Tryz.ntmps21
 go_wp2_with fail
 refine Calls.mono HE.out ?_
 rintro e w1 ⟨v',rfl,hr,hb⟩
 have HR:=Lib.hid hr
 have HB:=Lib.hid hb
 clear hr hb
 go_wp2
 go_ret
 exact ⟨v',rfl,HR.out,HB.out⟩
set_option maxRecDepth 100000 in
set_option maxHeartbeats 1000000 in
theorem TGate_any (base gt be L t k D N:Nat) (M v:Value) (C:DataW Unit) (K:List Rw) (st:Nat) (w:World) (h:Tkr w base gt be L t k D N M v C K st) :
  Calls Tryz.prog 71 #[.pointer (some ⟨gt,0,none⟩)] w fun e w'=>e = .returned (GVal L t k D M)∧Below w.heap.size w w':=by
 have hM:M.oneCell' = true:=by rcases h.cnt.at_ with ⟨rfl,_⟩ | ⟨b,rfl,_⟩ <;> rfl
 obtain ⟨c0,c1,c2,c3,c4,c5,c6⟩:=cells_seven h.box
 have a0:∀ o',(w.alloc o').cell? ⟨gt,0,none⟩ = _:=fun _=>calloc c0
 have a1:∀ o',(w.alloc o').cell? ⟨gt,1,none⟩ = _:=fun _=>calloc c1
 have a2:∀ o',(w.alloc o').cell? ⟨gt,2,none⟩ = _:=fun _=>calloc c2
 have a3:∀ o',(w.alloc o').cell? ⟨gt,3,none⟩ = _:=fun _=>calloc c3
 have a4:∀ o',(w.alloc o').cell? ⟨gt,4,none⟩ = _:=fun _=>calloc c4
 clear h c0 c1 c2 c3 c4 c5 c6
 go_enter Tryz.func71,Tryz.ntmps71
 go_wp2_with (refine wpList_store_row (o:=⟨none,.store 111 (.tmp 2) (.tmp 9),_,_,_,_⟩) rfl 111 (.tmp 2) (.tmp 9) rfl w.heap.size #[.int .i64 (L:Nat),.int .i64 (t:Nat),.int .i64 (k:Nat),.int .u32 (D:Nat),M] rfl rfl _ _ (hnew rfl) info_gate rfl (ones_gate hM) ?_)
 refine bodyPost_ret (results_cell_row rfl _ _ _ 111 #[.int .i64 (L:Nat),.int .i64 (t:Nat),.int .i64 (k:Nat),.int .u32 (D:Nat),M] (0,0) _ rfl (hrs (hnew rfl)) Tryz.underlying111 rfl info_gate) rfl ?_
 exact ⟨rfl,below_row (al (Below.refl _ _) (Nat.le_refl _)) (Nat.le_refl _)⟩
end Go.Proofs.YtccaiiigdfieoaaGreatDoor
namespace Go.By
open Go.RowKit
section
variable {P:Program} {ops:Array Oper} {Q:Exit→Act→World→Prop}
def StepDn (P:Program) (ops:Array Oper) (Q:Exit→Act→World→Prop) (a0:Act) (E:(Nat→Bool)→World→Prop) (R:Nat→World→World→Prop) (Inv:Nat→(Nat→Value)→World→Prop) (i:Nat) (o:Oper):Prop :=
 ∀ (a:Act) (w:World) (dn:Nat→Bool),dn i = false→E dn w→a.tmps.size = a0.tmps.size→(∀ k,k ∈ preds o→Inv k (sl a) w)→(∀ t,initAt ops i t = true→sl a t = sl a0 t) →
  if Region.wanted o (yielded ops a.tmps) = true then o.wp P a w (fun a' w'=>∃ v,a' = a.put o.dst v∧R i w w'∧Inv i (sl a') w') Q
  else R i w w∧Inv i (sl (a.put o.dst undef)) w
def EachDn (P:Program) (ops:Array Oper) (Q:Exit→Act→World→Prop) (a0:Act) (E:(Nat→Bool)→World→Prop) (R:Nat→World→World→Prop) (Inv:Nat→(Nat→Value)→World→Prop):List Oper→Nat→Prop
 | [],_=>True
 | o :: rest,i=>StepDn P ops Q a0 E R Inv i o∧EachDn P ops Q a0 E R Inv rest (i + 1)
theorem EachDn.get {a0:Act} {E:(Nat→Bool)→World→Prop} {R:Nat→World→World→Prop} {Inv:Nat→(Nat→Value)→World→Prop}:∀ (l:List Oper) (k:Nat),EachDn P ops Q a0 E R Inv l k→∀ j o,l[j]? = some o→StepDn P ops Q a0 E R Inv (k + j) o:=by
 intro l
 induction l with
 | nil=>intro k _ j o h;simp at h
 | cons x l ih =>
  intro k h j o hj
  cases j with
  | zero=>simp at hj;subst hj;exact h.1
  | succ j =>
   have:=ih (k + 1) h.2 j o (by simpa using hj)
   rwa [show k + 1 + j = k + (j + 1) by omega] at this
theorem wp_region_done {id:Nat} {a0:Act} {w0:World} (hm:P.follows .mixedOrders = true) (hback:backB ops = true)
  (E:(Nat→Bool)→World→Prop) (R:Nat→World→World→Prop) (Inv:Nat→(Nat→Value)→World→Prop)
  (E0:E (fun _=>false) w0.drew) (ER:∀ dn i w w',dn i = false→E dn w→R i w w'→E (fun j=>if i = j then true else dn j) w')
  (stable:∀ i j oi oj (σ σ':Nat→Value) w w',i≠j→ops[i]? = some oi→ops[j]? = some oj→i ∉ preds oj∨True→Inv j σ w→R i w w'→(∀ t,oi.dst≠some t→σ' t = σ t)→(j ∉ preds oi→True)→(∀ d,oi.dst = some d→i ∈ preds oj→False)→Inv j σ' w')
  (each:EachDn P ops Q a0 E R Inv ops.toList 0)
  (fin:∀ a w dn,E dn w→a.tmps.size = a0.tmps.size→a.defers = a0.defers→(∀ j,j < ops.size→Inv j (sl a) w)→(∀ t,(ops.toList.all fun o=>o.dst != some t) = true→sl a t = sl a0 t)→Q .normal a w) :
  (Code.region id ops true).wp P Q a0 w0:=by
 refine wp_region_any hm ?_
 show wpAny P .any ops Q ops.size (Array.replicate ops.size false) a0 w0.drew
 have main:∀ (fuel:Nat) (listed:Array Bool) (a:Act) (w:World),unl ops.size listed≤fuel→E (fun j=>listed.getD j false) w→a.tmps.size = a0.tmps.size→a.defers = a0.defers →
   (∀ j o,listed.getD j false = true→ops[j]? = some o→∀ k,k ∈ preds o→listed.getD k false = true) →
   (∀ j,j < ops.size→listed.getD j true = true→listed.getD j false = true) →
   (∀ j,j < ops.size→listed.getD j false = true→Inv j (sl a) w) →
   (∀ t,(∀ j o,j < ops.size→listed.getD j false = true→ops[j]? = some o→o.dst≠some t)→sl a t = sl a0 t)→wpAny P .any ops Q fuel listed a w:=by
  intro fuel
  induction fuel with
  | zero =>
   intro listed a w hu hE hs hd hcl hlt hI ht
   have hall:∀ j,j < ops.size→listed.getD j false = true:=by
    intro j hj
    refine hlt j hj ?_
    have h0:unl ops.size listed = 0:=by omega
    unfold unl at h0
    have:=List.countP_eq_zero.1 h0 j (List.mem_range.2 hj)
    simpa using this
   refine ⟨?_,fin a w _ hE hs hd (fun j hj=>hI j hj (hall j hj)) (fun t htt=>ht t (fun j o _ _ ho=>?_))⟩
   ·rw [List.eq_nil_iff_forall_not_mem]
    intro i hi
    obtain ⟨h1,h2,_⟩:=mem_ready.1 hi
    have hx:=hall i h1
    rcases Nat.lt_or_ge i listed.size with h | h
    ·simp [Array.getD_eq_getD_getElem?,h] at h2 hx;rw [h2] at hx;cases hx
    ·simp [Array.getD_eq_getD_getElem?,Array.getElem?_eq_none h] at hx
   ·have:=List.all_eq_true.1 htt o (by rw [Array.mem_toList_iff];exact Array.mem_of_getElem? ho)
    simpa using this
  | succ fuel ih =>
   intro listed a w hu hE hs hd hcl hlt hI ht
   refine ⟨fun hr=>?_,fun i hi=>?_⟩
   ·have hall:∀ n j,j < n→j < ops.size→listed.getD j false = true:=by
     intro n
     induction n with
     | zero=>intro j hj;omega
     | succ n ihn =>
      intro j hj hjs
      refine hlt j hjs ?_
      cases hb:listed.getD j true with
      | true=>rfl
      | false =>
       exfalso
       have ho:ops[j]? = some ops[j]:=Array.getElem?_eq_getElem hjs
       have:j ∈ Region.ready .any ops listed:=mem_ready.2 ⟨hjs,hb,_,ho,fun k hk=>by
        have hbk:=List.all_eq_true.1 hback j (List.mem_range.2 hjs)
        rw [ho] at hbk
        have hkj:=of_decide_eq_true (List.all_eq_true.1 hbk k hk)
        exact ihn k (by omega) (by omega)⟩
       rw [hr] at this;cases this
    exact fin a w _ hE hs hd (fun j hj=>hI j hj (hall (j + 1) j (by omega) hj)) (fun t htt=>ht t (fun j o _ _ ho=>by
     have:=List.all_eq_true.1 htt o (by rw [Array.mem_toList_iff];exact Array.mem_of_getElem? ho)
     simpa using this))
   ·obtain ⟨h1,h2,o,ho,h3⟩:=mem_ready.1 hi
    have hst:=EachDn.get ops.toList 0 each i o (by simpa using ho)
    rw [Nat.zero_add] at hst
    have hnl:listed.getD i false≠true:=by
     intro hx
     rcases Nat.lt_or_ge i listed.size with h | h
     ·simp [Array.getD_eq_getD_getElem?,h] at h2 hx;rw [h2] at hx;cases hx
     ·simp [Array.getD_eq_getD_getElem?,Array.getElem?_eq_none h] at hx
    have his:i < listed.size:=by
     rcases Nat.lt_or_ge i listed.size with h | h
     ·exact h
     ·simp [Array.getD_eq_getD_getElem?,Array.getElem?_eq_none h] at h2
    have gset:∀ j (d:Bool),(listed.setIfInBounds i true).getD j d = if i = j then true else listed.getD j d:=by
     intro j d
     simp only [Array.getD_eq_getD_getElem?,Array.getElem?_setIfInBounds]
     by_cases e:i = j
     ·subst e;simp [his]
     ·simp [e]
    have hst':=hst a w _ (by simpa using hnl) hE hs (fun k hk=>hI k (by
      have hbk:=List.all_eq_true.1 hback i (List.mem_range.2 h1)
      rw [ho] at hbk
      have:=of_decide_eq_true (List.all_eq_true.1 hbk k hk);omega) (h3 k hk)) (fun t hti=>by
     refine ht t (fun j oj hj hlj hoj hdj=>?_)
     have:=List.all_eq_true.1 hti j (List.mem_range.2 hj)
     rw [hoj] at this
     by_cases e:j = i
     ·subst e;exact hnl hlj
     ·simp [e,hdj] at this
      exact hnl (hcl j oj hlj hoj i this))
    have next:∀ (v:Value) (w':World),R i w w'→Inv i (sl (a.put o.dst v)) w'→wpAny P .any ops Q fuel (listed.setIfInBounds i true) (a.put o.dst v) w':=by
     intro v w' hR hIi
     refine ih _ _ _ (by have:=unl_set (n:=ops.size) h1 h2;omega) (by have h:=ER _ i w w' (by simpa using hnl) hE hR;have e:(fun j=>if i = j then true else listed.getD j false) = fun j=>(listed.setIfInBounds i true).getD j false:=funext fun j=>(gset j false).symm;rw [e] at h;exact h) ((put_size _ _ _).trans hs) ((put_defers _ _ _).trans hd) ?_ ?_ ?_ ?_
     ·intro j oj hj hoj k hk
      rw [gset] at hj ⊢
      by_cases e:i = k
      ·rw [if_pos e]
      ·rw [if_neg e]
       by_cases e':i = j
       ·subst e';rw [ho] at hoj;cases hoj;exact h3 k hk
       ·rw [if_neg e'] at hj;exact hcl j oj hj hoj k hk
     ·intro j hj hl
      rw [gset] at hl ⊢
      by_cases e:i = j
      ·rw [if_pos e]
      ·rw [if_neg e] at hl ⊢;exact hlt j hj hl
     ·intro j hj hl
      rw [gset] at hl
      by_cases e:i = j
      ·subst e;exact hIi
      ·rw [if_neg e] at hl
       have hoj:ops[j]? = some ops[j]:=Array.getElem?_eq_getElem hj
       exact stable i j o _ (sl a) _ w w' e ho hoj (.inr trivial) (hI j hj hl) hR (fun t h=>put_sl _ _ _ _ h) (fun _=>trivial) (fun d hdd hp=>hnl (hcl j _ hl hoj i hp))
     ·intro t htt
      have hdt:o.dst≠some t:=htt i o h1 (by rw [gset,if_pos rfl]) ho
      rw [put_sl _ _ _ _ hdt]
      exact ht t (fun j oj hj hl hoj=>htt j oj hj (by rw [gset];split <;> simp [hl]) hoj)
    unfold wpOp
    rw [ho]
    show if Region.wanted o (yielded ops a.tmps) = true then _ else _
    split
    ·rename_i hw
     rw [if_pos hw] at hst'
     exact .inl (Oper.wp_mono (fun a' w' ⟨v,e,hR,hIi⟩=>by rw [e] at hIi ⊢;exact next v w' hR hIi) hst')
    ·rename_i hw
     rw [if_neg hw] at hst'
     exact next undef w hst'.1 hst'.2
 refine main ops.size _ a0 w0.drew ?_ (by have e:(fun j=>(Array.replicate ops.size false).getD j false) = fun _=>false:=funext fun j=>(by simp [Array.getD_eq_getD_getElem?,Array.getElem?_replicate];split <;> rfl);rw [e];exact E0) rfl rfl ?_ ?_ ?_ ?_
 ·unfold unl;exact Nat.le_trans List.countP_le_length (by simp)
 ·intro j o hj;simp [Array.getD_eq_getD_getElem?,Array.getElem?_replicate] at hj
  split at hj <;> simp at hj
 ·intro j hj hl;simp [Array.getD_eq_getD_getElem?,Array.getElem?_replicate,hj] at hl
 ·intro j hj hl;simp [Array.getD_eq_getD_getElem?,Array.getElem?_replicate,hj] at hl
 ·intro t _;rfl
def InvD (ops:Array Oper) (sh:Nat→Value→World→Prop) (i:Nat) (σ:Nat→Value) (w:World):Prop:=match dstOf ops i with
 | some d=>sh i (σ d) w
 | none=>True
def StepE (P:Program) (ops:Array Oper) (Q:Exit→Act→World→Prop) (a0:Act) (E:(Nat→Bool)→World→Prop) (R:Nat→World→World→Prop) (sh:Nat→Value→World→Prop) (i:Nat) (o:Oper):Prop :=
 ∀ (a:Act) (w:World) (dn:Nat→Bool),dn i = false→E dn w→a.tmps.size = a0.tmps.size→(∀ k,k ∈ preds o→InvD ops sh k (sl a) w)→(∀ t,initAt ops i t = true→sl a t = sl a0 t) →
  if Region.wanted o (yielded ops a.tmps) = true then o.wp P a w (fun a' w'=>∃ v,a' = a.put o.dst v∧R i w w'∧sh i v w') Q
  else R i w w∧sh i undef w
def EachE (P:Program) (ops:Array Oper) (Q:Exit→Act→World→Prop) (a0:Act) (E:(Nat→Bool)→World→Prop) (R:Nat→World→World→Prop) (sh:Nat→Value→World→Prop):List Oper→Nat→Prop
 | [],_=>True
 | o :: rest,i=>StepE P ops Q a0 E R sh i o∧EachE P ops Q a0 E R sh rest (i + 1)
theorem eachE_of {a0:Act} {E:(Nat→Bool)→World→Prop} {R:Nat→World→World→Prop} {sh:Nat→Value→World→Prop} {n:Nat} (hn:a0.tmps.size = n):∀ (l:List Oper) (k:Nat),(∀ j o,l[j]? = some o→ops[k + j]? = some o)→(l.all fun o=>match o.dst with
  | some d=>decide (d < n)
  | none=>false) = true →
  EachE P ops Q a0 E R sh l k→EachDn P ops Q a0 E R (InvD ops sh) l k:=by
 intro l
 induction l with
 | nil=>intro k _ _ _;trivial
 | cons o l ih =>
  intro k hk hd h
  simp only [List.all_cons,Bool.and_eq_true] at hd
  refine ⟨?_,ih (k + 1) (fun j o' hj=>by have:=hk (j + 1) o' (by simpa using hj);rwa [show k + (j + 1) = k + 1 + j by omega] at this) hd.2 h.2⟩
  intro a w dn hdn hE hs hp hi
  have ho:ops[k]? = some o:=by have:=hk 0 o (by simp);simpa using this
  have hs1:=h.1 a w dn hdn hE hs hp hi
  cases hdo:o.dst with
  | none=>rw [hdo] at hd;simp at hd
  | some d =>
   rw [hdo] at hd
   have hd1:d < n:=of_decide_eq_true hd.1
   have hdn:d < a.tmps.size:=by rw [hs,hn];exact hd1
   have hdst:dstOf ops k = some d:=by simp [dstOf,ho,hdo]
   split
   ·rename_i hw
    rw [if_pos hw] at hs1
    refine Oper.wp_mono ?_ hs1
    rintro a' w' ⟨v,e,hb,hok⟩
    refine ⟨v,e.trans (by rw [hdo]),hb,?_⟩
    unfold InvD
    rw [hdst]
    show sh k (sl a' d) w'
    rw [e,hdo,put_same _ _ _ hdn];exact hok
   ·rename_i hw
    rw [if_neg hw] at hs1
    refine ⟨hs1.1,?_⟩
    unfold InvD
    rw [hdst]
    show sh k (sl (a.put (some d) undef) d) w
    rw [put_same _ _ _ hdn];exact hs1.2
def predB (ops:Array Oper) (i j:Nat):Bool:=match ops[j]? with
 | some o=>(preds o).contains i
 | none=>false
theorem wp_region_dones {id:Nat} {a0:Act} {w0:World} (E:(Nat→Bool)→World→Prop) (R:Nat→World→World→Prop) (sh:Nat→Value→World→Prop) (n:Nat) (hn:a0.tmps.size = n) (hm:P.follows .mixedOrders = true) (hback:backB ops = true) (hdist:distB ops = true) (hdsts:dstsB ops n = true)
  (E0:E (fun _=>false) w0.drew) (ER:∀ dn i w w',dn i = false→E dn w→R i w w'→E (fun j=>if i = j then true else dn j) w') (keep:∀ i j v w w',i≠j→predB ops i j = false→sh j v w→R i w w'→sh j v w')
  (each:EachE P ops Q a0 E R sh ops.toList 0)
  (fin:∀ a w dn,E dn w→a.tmps.size = a0.tmps.size→a.defers = a0.defers→(∀ j,j < ops.size→InvD ops sh j (sl a) w)→(∀ t,(ops.toList.all fun o=>o.dst != some t) = true→sl a t = sl a0 t)→Q .normal a w) :
  (Code.region id ops true).wp P Q a0 w0:=by
 refine wp_region_done hm hback E R (InvD ops sh) E0 ER ?_ (eachE_of hn _ 0 (fun j o hj=>by simpa using hj) hdsts each) fin
 intro i j oi oj σ σ' w w' hij hoi hoj _ hI hR hσ _ hnp
 unfold InvD at hI ⊢
 cases hdj:dstOf ops j with
 | none=>trivial
 | some d =>
  rw [hdj] at hI
  show sh j (σ' d) w'
  have hne:oi.dst≠some d:=by
   intro e
   have hi':i < ops.size:=(Array.getElem?_eq_some_iff.1 hoi).1
   have hj':j < ops.size:=(Array.getElem?_eq_some_iff.1 hoj).1
   have:=List.all_eq_true.1 (List.all_eq_true.1 hdist i (List.mem_range.2 hi')) j (List.mem_range.2 hj')
   rw [hoi,hoj] at this
   have hdj':oj.dst = some d:=by simpa [dstOf,hoj] using hdj
   simp [e,hdj',hij] at this
  rw [hσ d hne]
  refine keep i j _ _ _ hij ?_ hI hR
  unfold predB
  rw [hoj]
  show (preds oj).contains i = false
  cases hc:(preds oj).contains i with
  | false=>rfl
  | true =>
   have hdo:=List.all_eq_true.1 hdsts oi (by rw [Array.mem_toList_iff];exact Array.mem_of_getElem? hoi)
   cases hd:oi.dst with
   | none=>rw [hd] at hdo;simp at hdo
   | some d=>exact (hnp d hd (by simpa using hc)).elim
end
end Go.By
namespace Go.By
open Go.RowKit
theorem eachE_all {P:Program} {ops:Array Oper} {Q:Exit→Act→World→Prop} {a0:Act} {E:(Nat→Bool)→World→Prop} {R:Nat→World→World→Prop} {sh:Nat→Value→World→Prop} (key:∀ i o,ops[i]? = some o→StepE P ops Q a0 E R sh i o) :
  ∀ (l:List Oper) (k:Nat),(∀ j o,l[j]? = some o→ops[k + j]? = some o)→EachE P ops Q a0 E R sh l k:=by
 intro l
 induction l with
 | nil=>intro k _;trivial
 | cons x l ih =>
  intro k h
  exact ⟨key k x (by have:=h 0 x rfl;simpa using this),ih (k + 1) fun j o hj=>by have:=h (j + 1) o (by simpa using hj);rwa [show k + 1 + j = k + (j + 1) by omega]⟩
def freeB (ops:Array Oper):Bool:=ops.toList.all fun o=>o.guard.isNone
theorem wp_region_call {P:Program} {ops:Array Oper} {Q:Exit→Act→World→Prop} {id:Nat} {a0:Act} {w0:World} (sv:Nat→Value) (n s:Nat) (P1:World→Prop) (hn:a0.tmps.size = n) (hm:P.follows .mixedOrders = true) (hback:backB ops = true) (hdist:distB ops = true) (hdsts:dstsB ops n = true) (hfree:freeB ops = true) (hs:s < ops.size)
  (each:∀ i o,i≠s→ops[i]? = some o→∀ a w,(w = w0.drew∨P1 w)→a.tmps.size = a0.tmps.size→(∀ k d,k ∈ preds o→dstOf ops k = some d→sl a d = sv k)→(∀ t,initAt ops i t = true→sl a t = sl a0 t)→(execOp a.eval o).run P w = .ok (.value (sv i)) w)
  (call:∀ o,ops[s]? = some o→∀ a,a.tmps.size = a0.tmps.size→(∀ k d,k ∈ preds o→dstOf ops k = some d→sl a d = sv k)→(∀ t,initAt ops s t = true→sl a t = sl a0 t)→o.wp P a w0.drew (fun a' w'=>a' = a.put o.dst (sv s)∧P1 w') Q)
  (fin:∀ a w,P1 w→a.tmps.size = a0.tmps.size→a.defers = a0.defers→(∀ j d,j < ops.size→dstOf ops j = some d→sl a d = sv j)→(∀ t,(ops.toList.all fun o=>o.dst != some t) = true→sl a t = sl a0 t)→Q .normal a w) :
  (Code.region id ops true).wp P Q a0 w0:=by
 have hg:∀ (i:Nat) (o:Oper),ops[i]? = some o→o.guard = none:=fun i o ho=>by
  have:=List.all_eq_true.1 hfree o (by rw [Array.mem_toList_iff];exact Array.mem_of_getElem? ho)
  cases hx:o.guard <;> simp [hx] at this ⊢
 refine wp_region_dones (fun dn w=>(dn s = true→P1 w)∧(dn s = false→w = w0.drew)) (fun i w w'=>if i = s then w = w0.drew∧P1 w' else w' = w) (fun j v w=>v = sv j∧(j = s→P1 w)) n hn hm hback hdist hdsts ?_ ?_ ?_ ?_ ?_
 ·exact ⟨fun h=>absurd h (by simp),fun _=>rfl⟩
 ·intro dn i w w' hdn hE hR
  by_cases hi:i = s
  ·have hR':w = w0.drew∧P1 w':=by simpa [hi] using hR
   exact ⟨fun _=>hR'.2,fun h=>by simp [hi] at h⟩
  ·have hR':w' = w:=by simpa [hi] using hR
   subst hR'
   exact ⟨fun h=>hE.1 (by simpa [hi] using h),fun h=>hE.2 (by simpa [hi] using h)⟩
 ·intro i j v w w' hij _ hv hR
  refine ⟨hv.1,fun hj=>?_⟩
  by_cases hi:i = s
  ·exact absurd (hi.trans hj.symm) hij
  ·rw [if_neg hi] at hR
   rw [hR];exact hv.2 hj
 ·refine eachE_all ?_ ops.toList 0 (fun j o hj=>by simpa using hj)
  intro i o ho a w dn hdn hE hsz hp hi
  have hp':∀ k d,k ∈ preds o→dstOf ops k = some d→sl a d = sv k:=fun k d hk hd=>by
   have:=hp k hk
   unfold InvD at this
   rw [hd] at this
   exact this.1
  rw [if_pos (by simp [Region.wanted,hg i o ho])]
  by_cases his:i = s
  ·subst his
   have hw:=hE.2 hdn
   subst hw
   refine Oper.wp_mono (fun a' w' hq=>?_) (call o ho a hsz hp' hi)
   obtain ⟨rfl,h1⟩:=hq
   refine ⟨sv i,rfl,?_,rfl,fun _=>h1⟩
   dsimp only
   rw [if_pos rfl]
   exact ⟨rfl,h1⟩
  ·have hw:w = w0.drew∨P1 w:=by
    cases hx:dn s with
    | true=>exact .inr (hE.1 hx)
    | false=>exact .inl (hE.2 hx)
   refine wp_val (sv i) (each i o his ho a w hw hsz hp' hi) ⟨sv i,rfl,?_,rfl,fun h=>absurd h his⟩
   dsimp only
   rw [if_neg his]
 ·intro a w dn hE hsz hd hI ht
  have hos:ops[s]? = some ops[s]:=Array.getElem?_eq_getElem hs
  have hds:∃ d,dstOf ops s = some d:=by
   have:=List.all_eq_true.1 hdsts ops[s] (Array.getElem_mem_toList hs)
   cases hx:ops[s].dst with
   | none=>rw [hx] at this;cases this
   | some d=>exact ⟨d,by simp [dstOf,hos,hx]⟩
  obtain ⟨d,hds⟩:=hds
  have h1:=hI s hs
  unfold InvD at h1
  rw [hds] at h1
  refine fin a w (h1.2 rfl) hsz hd (fun j d' hj hdj=>?_) ht
  have:=hI j hj
  unfold InvD at this
  rw [hdj] at this
  exact this.1
end Go.By
namespace Go.By
open Go.RowKit Go.Maps Go.Proofs.YtccaiiigdfieoaaGreatDoor
structure OneE (w:World) (g:Nat) (w':World):Prop where
 os:w'.os = w.os
 tape:w'.tape = w.tape
 output:w'.output = w.output
 size:w'.heap.size = w.heap.size
 block:∀ b,b≠g→w'.heap[b]? = w.heap[b]?
theorem OneE.refl (w:World) (g:Nat):OneE w g w:=⟨rfl,rfl,rfl,rfl,fun _ _=>rfl⟩
theorem OneE.set {w w':World} {g i:Nat} (h:OneE w g w') (v:Value):OneE w g (w'.setCell ⟨g,i,none⟩ v) :=
 ⟨h.os,h.tape,h.output,by simp [World.setCell];exact h.size,fun b hb=>(Below.heap_setCell _ _ _ _ hb).trans (h.block b hb)⟩
theorem OneE.below {w w':World} {g B:Nat} (h:OneE w g w') (hB:B≤g):Below B w w':=⟨h.os,h.tape,h.output,by rw [h.size];exact Nat.le_refl _,fun i hi=>h.block i (by omega)⟩
theorem OneE.fresh {T T' B g n c:Nat} {w w':World} {q:Option Addr} {xs:List UInt8} {old:Array Value} {fr:Nat × Nat} (hE:OneE w g w') (h:Fresh T B w q n c xs) (hg:w.heap[g]? = some (.cells old T' fr)) (hne:T'≠T):Fresh T B w' q n c xs:=by
 have hd:∀ a,q = some a→a.block≠g:=fun a ha e1=>by
  obtain ⟨cs,fr,e⟩:=h.ty a ha
  rw [e1,hg] at e;injection e with e;injection e with _ e _;exact hne e
 refine ⟨⟨h.sl.len,h.sl.le,h.sl.max,h.sl.nil,fun i hi=>?_⟩,h.new,fun a ha=>?_⟩
 ·obtain ⟨b,o,e,hc⟩:=h.sl.rs i hi
  exact ⟨b,o,e,(World.cell?_of_block (a:=⟨b,o + i,none⟩) (hE.block b (hd _ e))).trans hc⟩
 ·obtain ⟨cs,fr,e⟩:=h.ty a ha
  exact ⟨cs,fr,(hE.block _ (hd a ha)).trans e⟩
theorem OneE.bw {T g b:Nat} {w w':World} {u:Value} {xs:List UInt8} {old:Array Value} {T':Nat} {fr:Nat × Nat} (hE:OneE w g w') (h:Bw T w b u xs) (hg:w.heap[g]? = some (.cells old T' fr)) (hne:T'≠T):Bw T w' b u xs:=by
 obtain ⟨q,m,c,e,l,o⟩:=h
 refine ⟨q,m,c,e,l,owns_same o (by rw [hE.size];exact Nat.le_refl _) fun g2 hg2=>hE.block _ fun e2=>?_⟩
 rcases o.2 with ⟨e1,_⟩ | ⟨g',cap,cur,e1,_,hh,_⟩
 ·rw [e1] at hg2;cases hg2
 ·rw [e1] at hg2;cases hg2
  have e3:g' = g:=e2
  rw [e3,hg] at hh;injection hh with hh;injection hh with _ hh _;exact hne hh
theorem OneE.elm {g base be k t n:Nat} {w w':World} {v:Value} {K:List Rw} {old:Array Value} {T':Nat} {fr:Nat × Nat} (hE:OneE w g w') (h:Elm w base be k t v n K) (hg:w.heap[g]? = some (.cells old T' fr)) (h1:T'≠191) (h2:99≠T') (h3:T'≠5):Elm w' base be k t v n K:=by
 refine ⟨(hE.block be fun e=>?_).trans h.box,?_,h.old⟩
 ·have:=h.box
  rw [e,hg] at this;injection this with this;injection this with _ this _;exact h1 this
 ·have hv:=h.rows.ne_box hg h2
  obtain ⟨vs,a,b,o,r⟩:=h.rows
  exact ⟨vs,a,b,owns_same o (by rw [hE.size];exact Nat.le_refl _) fun g2 hg2=>hE.block _ fun e2=>hv (by rw [hg2,e2]),fun j u hj=>by obtain ⟨x,hk,g1,g2⟩:=r j u hj;exact ⟨x,hk,hE.bw g1 hg h3,hE.bw g2 hg h3⟩⟩
structure TChg (w w':World) (gt be:Nat) (v:Value):Prop where
 os:w'.os = w.os
 tape:w'.tape = w.tape
 output:w'.output = w.output
 size:w.heap.size≤w'.heap.size
 block:∀ b,b < w.heap.size→b≠gt→b≠be→v.ownBlock≠some b→w'.heap[b]? = w.heap[b]?
theorem TChg.of {w w':World} (gt be:Nat) (v:Value) (h:Below w.heap.size w w'):TChg w w' gt be v:=⟨h.os,h.tape,h.output,h.size,fun b hb _ _ _=>h.block b hb⟩
theorem TChg.one {w a b:World} {gt be:Nat} {v:Value} (h:TChg w a gt be v) (g:OneE a gt b):TChg w b gt be v :=
 ⟨g.os.trans h.os,g.tape.trans h.tape,g.output.trans h.output,by rw [g.size];exact h.size,fun i hi h1 h2 h3=>(g.block i h1).trans (h.block i hi h1 h2 h3)⟩
theorem TChg.then {w a b:World} {gt be:Nat} {v:Value} (h:TChg w a gt be v) (g:Below a.heap.size a b):TChg w b gt be v :=
 ⟨g.os.trans h.os,g.tape.trans h.tape,g.output.trans h.output,Nat.le_trans h.size g.size,fun i hi h1 h2 h3=>(g.block i (Nat.lt_of_lt_of_le hi h.size)).trans (h.block i hi h1 h2 h3)⟩
theorem TChg.chg {w a b:World} {gt be:Nat} {v:Value} (h:TChg w a gt be v) (g:Chg a b be v):TChg w b gt be v :=
 ⟨g.os.trans h.os,g.tape.trans h.tape,g.output.trans h.output,Nat.le_trans h.size g.size,fun i hi h1 h2 h3=>(g.block i (Nat.lt_of_lt_of_le hi h.size) h2 h3).trans (h.block i hi h1 h2 h3)⟩
end Go.By
namespace Go.Proofs.YtccaiiigdfieoaaGreatDoor
open Go.RowKit Go.By Go.Maps
theorem CntM.row {w:World} {M:Value} {N:Nat} {C:DataW Unit} (h:CntM w M N C) {g T:Nat} {old cs:Array Value} {fr:Nat × Nat} (hg:w.heap[g]? = some (.cells old T fr)):CntM (w.setRow g cs) M N C:=by
 refine ⟨?_,h.small⟩
 rcases h.at_ with h1 | ⟨b,e,ho⟩
 ·exact .inl h1
 ·refine .inr ⟨b,e,?_⟩
  obtain ⟨es,clock,h1,F,hs,hD⟩:=ho
  exact ⟨es,clock,hro h1 (fun e=>by rw [e,hg] at h1;cases h1),F,hs,hD⟩
theorem CntM.one {w w':World} {M:Value} {N g:Nat} {C:DataW Unit} (h:CntM w M N C) (hE:OneE w g w') {T:Nat} {old:Array Value} {fr:Nat × Nat} (hg:w.heap[g]? = some (.cells old T fr)):CntM w' M N C:=by
 refine ⟨?_,h.small⟩
 rcases h.at_ with h1 | ⟨b,e,ho⟩
 ·exact .inl h1
 ·refine .inr ⟨b,e,?_⟩
  obtain ⟨es,clock,h1,F,hs,hD⟩:=ho
  exact ⟨es,clock,(hE.block b (fun e=>by rw [e,hg] at h1;cases h1)).trans h1,F,hs,hD⟩
theorem PkC.one {w w':World} {B k t D:Nat} {xs:List UInt8} {v0 v1 v2 v3 v4 v5 v6:Value} (h:PkC w B k t D xs v0 v1 v2 v3 v4 v5 v6) {T g:Nat} {o1:Array Value} {f1:Nat × Nat} (hE:OneE w g w') (h1:w.heap[g]? = some (.cells o1 T f1)) (n1:T≠5):PkC w' B k t D xs v0 v1 v2 v3 v4 v5 v6 :=
 ⟨h.1,fun hc=>by obtain ⟨q,n,c,q2,n2',c2,e0,e1,e2,e3,e4,e5,e6,f1,f2⟩:=h.2 hc;exact ⟨q,n,c,q2,n2',c2,e0,e1,e2,e3,e4,e5,e6,hE.fresh f1 h1 n1,hE.fresh f2 h1 n1⟩⟩
theorem tk_ne:118≠5∧118≠191∧99≠118:=by decide
def TkRet (w:World) (base gt be L t k D N:Nat) (v:Value) (C:DataW Unit) (K:List Rw) (st:Nat) (code:Int) (e:Ending) (w':World):Prop :=
 e = .returned (.int .i64 code)∧∃ M' v',Tkr w' base gt be L t k D N M' v' C K st∧TChg w w' gt be v∧(v'.ownBlock = v.ownBlock∨∀ b,v'.ownBlock = some b→w.heap.size≤b)
set_option maxRecDepth 100000 in
set_option maxHeartbeats 4000000 in
theorem TTake_bad (base gt be L t k D N:Nat) (M v:Value) (C:DataW Unit) (K:List Rw) (st:Nat) (p:Option Addr) (n c:Nat) (xs:List UInt8) (w:World) (h:Tkr w base gt be L t k D N M v C K st) (hT:HalfT w) (hN:N < 1000000) (hs:Sl B8 w p n c xs) (hr:Room n) (hc:readC k t D xs≠0) :
  Calls Tryz.prog 16 #[.pointer (some ⟨gt,0,none⟩),.slice p n c] w (TkRet w base gt be L t k D (N + 1) v (bump C (readC k t D xs)) K st (readC k t D xs)):=by
 have HG:Hid (∀ w,HalfT w→CntM w M N C→Sl B8 w p n c xs→Calls Tryz.prog 62 #[GVal L t k D M,.slice p n c] w fun e w'=>∃ b2 v0 v1 v2 v3 v4 v5 v6,e = .returned (.tuple #[GVal L t k D (.map (some b2)),.agg #[v0,v1,v2,v3,v4,v5,v6],.int .i64 (readC k t D xs)]) ∧
   CntM w' (.map (some b2)) (N + 1) (bump C (readC k t D xs))∧PkC w' w.heap.size k t D xs v0 v1 v2 v3 v4 v5 v6∧Below w.heap.size w w'):=fun w hT hC hs=>GLook_any L t k D N M C p n c xs w h.ok hT hC hN hs hr
 have H:=Lib.hid h
 have HT:=Lib.hid hT
 have HS:=Lib.hid hs
 obtain ⟨c0,c1,c2,c3,c4,c5,c6⟩:=cells_seven h.box
 have e0:(readC k t D xs != 0) = true:=bne_iff_ne.2 hc
 generalize readC k t D xs = E at *
 clear h hT hs hr hN hc
 go_enter Tryz.func16,Tryz.ntmps16
 go_wp2_with fail
 refine Calls.mono (HG.out _ HT.out H.out.cnt HS.out) ?_
 rintro e w1 ⟨b2,v0,v1,v2,v3,v4,v5,v6,rfl,hcn,hpk,hb⟩
 have HB:=Lib.hid hb
 have HCn:=Lib.hid hcn
 have HPk:=Lib.hid hpk
 obtain ⟨o0,o1,o2,o3,o4,o5,o6⟩:=hpk.1
 clear c0 c1 c2 c3 c4 c5 c6 hb hcn hpk
 go_wp2_with (first | (refine wpList_store_row (o:=⟨none,.store 111 (.tmp 5) (.tmp 19),_,_,_,_⟩) rfl 111 (.tmp 5) (.tmp 19) rfl w1.heap.size #[.int .i64 (L:Nat),.int .i64 (t:Nat),.int .i64 (k:Nat),.int .u32 (D:Nat),.map (some b2)] rfl rfl _ _ (hal (hnew rfl)) info_gate rfl (ones_gate rfl) ?_) | (refine wpList_store_rowS (o:=⟨none,.store 122 (.tmp 6) (.tmp 20),_,_,_,_⟩) rfl 122 (.tmp 6) (.tmp 20) rfl (w1.heap.size + 1) #[v0,v1,v2,v3,v4,v5,v6] rfl rfl _ _ (hro (hnew (by simp)) (by omega)) info_packet rfl (by simp [o0,o1,o2,o3,o4,o5,o6]) ?_))
 intro w2 hr2
 have HB2:Hid (Below w.heap.size w w2):=by rw [hr2.eq];exact below_row (below_row (al (al HB.out HB.out.size) (by have:=HB.out.size;simp;omega)) HB.out.size) (by have:=HB.out.size;omega)
 have k5:w2.heap[w1.heap.size]? = some (.cells #[.int .i64 (L:Nat),.int .i64 (t:Nat),.int .i64 (k:Nat),.int .u32 (D:Nat),.map (some b2)] 111 (0,0)):=by rw [hr2.eq];exact hro (hrs (hal (hnew rfl))) (by omega)
 have k6:w2.heap[w1.heap.size + 1]? = some (.cells #[v0,v1,v2,v3,v4,v5,v6] 122 (0,0)):=by rw [hr2.eq];exact hrs (hro (hnew (by simp)) (by omega))
 have kt:=(HB2.out.block _ (lt_of_block H.out.box)).trans H.out.box
 have HPk2:Hid (PkC w2 w.heap.size k t D xs v0 v1 v2 v3 v4 v5 v6):=by rw [hr2.eq];exact ((HPk.out.keep (al (al (Below.refl _ _) (Nat.le_refl _)) (by simp))).row (hal (hnew rfl)) gate_ne).row (hro (hnew (by simp)) (by omega)) pkt_ne
 have HCn2:Hid (CntM w2 (.map (some b2)) (N + 1) (bump C E)):=by rw [hr2.eq];exact ((HCn.out.keep (al (al (Below.refl _ _) (Nat.le_refl _)) (by simp))).row (hal (hnew rfl))).row (hro (hnew (by simp)) (by omega))
 have hgt:=lt_of_block H.out.box
 have hG5:=HB.out.size
 clear hr2 HCn HPk HB
 obtain ⟨g5,hg5⟩:∃ g5,g5 = w1.heap.size:=⟨_,rfl⟩
 rw [← hg5] at k5 k6 hG5 ⊢
 clear hg5
 obtain ⟨c0,c1,c2,c3,c4,c5,c6⟩:=cells_seven kt
 obtain ⟨d0,d1,d2,d3,d4⟩:=cells_five k5
 have z0:=frozen_of_row _ _ 0 _ _ kt
 have z1:=frozen_of_row _ _ 1 _ _ kt
 have z2:=frozen_of_row _ _ 2 _ _ kt
 have z3:=frozen_of_row _ _ 3 _ _ kt
 have z4:=frozen_of_row _ _ 4 _ _ kt
 go_wp2
 go_ret
 have hO:OneE w2 gt (((((w2.setCell ⟨gt,0,none⟩ (.int .i64 (L:Nat))).setCell ⟨gt,1,none⟩ (.int .i64 (t:Nat))).setCell ⟨gt,2,none⟩ (.int .i64 (k:Nat))).setCell ⟨gt,3,none⟩ (.int .u32 (D:Nat))).setCell ⟨gt,4,none⟩ (.map (some b2))):=(((((OneE.refl w2 gt).set _).set _).set _).set _).set _
 exact ⟨rfl,.map (some b2),v,⟨H.out.ok,hss (hss (hss (hss (hss kt)))),HCn2.out.one hO kt,hO.elm (H.out.elm.keep HB2.out) kt tk_ne.2.1 tk_ne.2.2 tk_ne.1,H.out.red,H.out.old⟩,(TChg.of gt be v HB2.out).one hO,.inl rfl⟩
end Go.Proofs.YtccaiiigdfieoaaGreatDoor
namespace Go.By
open Go.RowKit Go.Maps Go.Proofs.YtccaiiigdfieoaaGreatDoor
theorem wpList_store_five {P:Program} {ops:Array Oper} {rest:List Oper} {o:Oper} {a:Act} {w:World} {Q:Exit→Act→World→Prop} (hgd:o.guard = none) (ty:TypeId) (x y:Operand) (ho:o.op = .store ty x y)
  (g:Nat) (a0 a1 a2 a3:Int) (m:Nat) (b0 b1 b2 b3 b4 b5 b6:Value) (T:TypeId) (hx:a.eval x = .pointer (some ⟨g,0,none⟩)) (hy:a.eval y = .agg #[.int .i64 a0,.int .i64 a1,.int .i64 a2,.int .u32 a3,.map (some m)])
  (kt:w.heap[g]? = some (.cells #[b0,b1,b2,b3,b4,b5,b6] T (0,0))) (hi:(P.info? ty).map (·.size) = some 5) {d:TypeDesc} (hu:P.underlying ty = some d)
  (h:∀ w',OneE w g w'→w'.heap[g]? = some (.cells #[.int .i64 a0,.int .i64 a1,.int .i64 a2,.int .u32 a3,.map (some m),b5,b6] T (0,0))→wpList P ops Q rest (a.put o.dst undef) w'):wpList P ops Q (o :: rest) a w:=by
 refine wpList_plain hgd fun K hK=>?_
 have hK':=hK _ _ (h (((((w.setCell ⟨g,0,none⟩ (.int .i64 a0)).setCell ⟨g,1,none⟩ (.int .i64 a1)).setCell ⟨g,2,none⟩ (.int .i64 a2)).setCell ⟨g,3,none⟩ (.int .u32 a3)).setCell ⟨g,4,none⟩ (.map (some m))) ((((((OneE.refl w g).set _).set _).set _).set _).set _) (hss (hss (hss (hss (hss kt))))))
 obtain ⟨c0,c1,c2,c3,c4,c5,c6⟩:=cells_seven kt
 have z0:=frozen_of_row _ _ 0 _ _ kt
 have z1:=frozen_of_row _ _ 1 _ _ kt
 have z2:=frozen_of_row _ _ 2 _ _ kt
 have z3:=frozen_of_row _ _ 3 _ _ kt
 have z4:=frozen_of_row _ _ 4 _ _ kt
 have hsz:(sizeOf ty).run P w = .ok 5 w:=by
  cases hI:P.info? ty with
  | none=>rw [hI] at hi;cases hi
  | some i =>
   rw [hI] at hi
   simp at hi
   simp [sizeOf,typeInfo,hI,hi]
 have _:=hu
 unfold Oper.wp
 simp only [execOp,ho,hx,hy]
 simp [go_sem,hsz,c0,c1,c2,c3,c4,z0,z1,z2,z3,z4]
 exact hK'
end Go.By
namespace Go.Proofs.YtccaiiigdfieoaaGreatDoor
open Go.RowKit Go.By Go.Maps
def eqX (k t:Nat) (xs:List UInt8):Rw:=(vecS (pktM xs) (pktX k xs) (pktS k xs) k,pktY k t xs)
def nextS (K:List Rw) (x:Rw) (k:Nat):Nat:=if codeF K x = 2 then 2 else if (putK K x).length = k then 1 else 0
set_option maxRecDepth 100000 in
set_option maxHeartbeats 4000000 in
theorem TTake_done (base gt be L t k D N:Nat) (M v:Value) (C:DataW Unit) (K:List Rw) (st:Nat) (p:Option Addr) (n c:Nat) (xs:List UInt8) (w:World) (h:Tkr w base gt be L t k D N M v C K st) (hT:HalfT w) (hN:N < 1000000) (hs:Sl B8 w p n c xs) (hr:Room n) (hc:readC k t D xs = 0) (hst:st≠0) :
  Calls Tryz.prog 16 #[.pointer (some ⟨gt,0,none⟩),.slice p n c] w (TkRet w base gt be L t k D (N + 1) v (bump C (readC k t D xs)) K st (readC k t D xs)):=by
 have HG:Hid (∀ w,HalfT w→CntM w M N C→Sl B8 w p n c xs→Calls Tryz.prog 62 #[GVal L t k D M,.slice p n c] w fun e w'=>∃ b2 v0 v1 v2 v3 v4 v5 v6,e = .returned (.tuple #[GVal L t k D (.map (some b2)),.agg #[v0,v1,v2,v3,v4,v5,v6],.int .i64 (readC k t D xs)]) ∧
   CntM w' (.map (some b2)) (N + 1) (bump C (readC k t D xs))∧PkC w' w.heap.size k t D xs v0 v1 v2 v3 v4 v5 v6∧Below w.heap.size w w'):=fun w hT hC hs=>GLook_any L t k D N M C p n c xs w h.ok hT hC hN hs hr
 have H:=Lib.hid h
 have HT:=Lib.hid hT
 have HS:=Lib.hid hs
 obtain ⟨c0,c1,c2,c3,c4,c5,c6⟩:=cells_seven h.box
 rw [hc] at HG ⊢
 have HC:=Lib.hid hc
 have e1:((st:Int) != 0) = true:=bne_iff_ne.2 (by omega)
 clear h hT hs hr hN hc hst
 go_enter Tryz.func16,Tryz.ntmps16
 go_wp2_with fail
 refine Calls.mono (HG.out _ HT.out H.out.cnt HS.out) ?_
 rintro e w1 ⟨b2,v0,v1,v2,v3,v4,v5,v6,rfl,hcn,hpk,hb⟩
 have HB:=Lib.hid hb
 have HCn:=Lib.hid hcn
 have HPk:=Lib.hid hpk
 obtain ⟨o0,o1,o2,o3,o4,o5,o6⟩:=hpk.1
 clear c0 c1 c2 c3 c4 c5 c6 hb hcn hpk
 go_wp2_with (first | (refine wpList_store_row (o:=⟨none,.store 111 (.tmp 5) (.tmp 19),_,_,_,_⟩) rfl 111 (.tmp 5) (.tmp 19) rfl w1.heap.size #[.int .i64 (L:Nat),.int .i64 (t:Nat),.int .i64 (k:Nat),.int .u32 (D:Nat),.map (some b2)] rfl rfl _ _ (hal (hnew rfl)) info_gate rfl (ones_gate rfl) ?_) | (refine wpList_store_rowS (o:=⟨none,.store 122 (.tmp 6) (.tmp 20),_,_,_,_⟩) rfl 122 (.tmp 6) (.tmp 20) rfl (w1.heap.size + 1) #[v0,v1,v2,v3,v4,v5,v6] rfl rfl _ _ (hro (hnew (by simp)) (by omega)) info_packet rfl (by simp [o0,o1,o2,o3,o4,o5,o6]) ?_))
 intro w2 hr2
 have HB2:Hid (Below w.heap.size w w2):=by rw [hr2.eq];exact below_row (below_row (al (al HB.out HB.out.size) (by have:=HB.out.size;simp;omega)) HB.out.size) (by have:=HB.out.size;omega)
 have k5:w2.heap[w1.heap.size]? = some (.cells #[.int .i64 (L:Nat),.int .i64 (t:Nat),.int .i64 (k:Nat),.int .u32 (D:Nat),.map (some b2)] 111 (0,0)):=by rw [hr2.eq];exact hro (hrs (hal (hnew rfl))) (by omega)
 have k6:w2.heap[w1.heap.size + 1]? = some (.cells #[v0,v1,v2,v3,v4,v5,v6] 122 (0,0)):=by rw [hr2.eq];exact hrs (hro (hnew (by simp)) (by omega))
 have kt:=(HB2.out.block _ (lt_of_block H.out.box)).trans H.out.box
 have HPk2:Hid (PkC w2 w.heap.size k t D xs v0 v1 v2 v3 v4 v5 v6):=by rw [hr2.eq];exact ((HPk.out.keep (al (al (Below.refl _ _) (Nat.le_refl _)) (by simp))).row (hal (hnew rfl)) gate_ne).row (hro (hnew (by simp)) (by omega)) pkt_ne
 have HCn2:Hid (CntM w2 (.map (some b2)) (N + 1) (bump C 0)):=by rw [hr2.eq];exact ((HCn.out.keep (al (al (Below.refl _ _) (Nat.le_refl _)) (by simp))).row (hal (hnew rfl))).row (hro (hnew (by simp)) (by omega))
 have hgt:=lt_of_block H.out.box
 have hG5:=HB.out.size
 clear hr2 HCn HPk HB
 obtain ⟨g5,hg5⟩:∃ g5,g5 = w1.heap.size:=⟨_,rfl⟩
 rw [← hg5] at k5 k6 hG5 ⊢
 clear hg5
 obtain ⟨c0,c1,c2,c3,c4,c5,c6⟩:=cells_seven kt
 obtain ⟨d0,d1,d2,d3,d4⟩:=cells_five k5
 go_wp2_with (refine wpList_store_five (o:=⟨none,.store 111 (.tmp 25) (.tmp 23),_,_,_,_⟩) rfl 111 (.tmp 25) (.tmp 23) rfl gt (L:Nat) (t:Nat) (k:Nat) (D:Nat) b2 _ _ _ _ _ _ _ _ rfl rfl kt info_gate Tryz.underlying111 ?_)
 intro w3 hO kt3
 have HO:=Lib.hid hO
 have m5:=(hO.block g5 (by omega)).trans k5
 have m6:=(hO.block (g5 + 1) (by omega)).trans k6
 have HCn3:=Lib.hid (HCn2.out.one hO kt)
 have HPk3:=Lib.hid (HPk2.out.one hO kt tk_ne.1)
 have HEl:=Lib.hid (hO.elm (H.out.elm.keep HB2.out) kt tk_ne.2.1 tk_ne.2.2 tk_ne.1)
 have HTC:=Lib.hid ((TChg.of gt be v HB2.out).one hO)
 have HT3:=Lib.hid (HT.out.keep HB2.out)
 have hs3:w3.heap.size = w2.heap.size:=hO.size
 have hl6:=lt_of_block k6
 clear k5 k6 kt hO c0 c1 c2 c3 c4 c5 c6 d0 d1 d2 d3 d4 HCn2 HPk2
 obtain ⟨c0,c1,c2,c3,c4,c5,c6⟩:=cells_seven kt3
 go_wp2
 go_ret
 exact ⟨rfl,.map (some b2),v,⟨H.out.ok,kt3,HCn3.out,HEl.out,H.out.red,H.out.old⟩,HTC.out,.inl rfl⟩
end Go.Proofs.YtccaiiigdfieoaaGreatDoor
