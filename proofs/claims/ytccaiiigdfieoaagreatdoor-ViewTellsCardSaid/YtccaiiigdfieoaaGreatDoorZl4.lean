/- The contract of the reference's Insert. The contract of the reference's Turned. The contract of the reference's Rank. Determinants by the first row,over the field of 256 elements: linear in each row,nought where two rows are the same; what row steps do to them. Gauss-Jordan on rows with data: what each step keeps. slices.IndexFunc of rows; the closure of Inverse. The rows of Inverse in memory: one block of n rows. Rows that lead,reduced: what they span tells them; a row more,as a system of equations puts it. A row more into reduced rows (putF); reduced rows out of rows that lead by rising places (backB); both are the same. The document's reduced rows: one behind the other cleared,in place; they are the system's. The contracts of the reference's Same of layer 3,and of a law's rows: made,and as the document's. The contract of a grid's Turned. The contracts of grid.Of where rows fit,or are uneven. The contract of the law's Made. The contract of a grid's Mul. A region that draws its order,with two stores (an exchange): each value that comes up is told ahead; the world is one of two till the last store. A system of equations in memory; New,Size,Rank. Small parts of chapter 8's law; the reference's rows in one block. A drawn region with one store into a block of its own: a row in new memory. -/
import Derived.Test.YtccaiiigdfieoaaGreatDoorZl3
import Derived.Deep.AppendLies
import Derived.Deep.RegionWith
import Derived.Laws.CopyOwn
import Derived.BigRegion
namespace Go.By
open Go.RowKit
theorem fl2_take (vs:List (Value × Value)):∀ k,fl2 (vs.take k) = (fl2 vs).take (k * 2):=by
 induction vs with
 | nil=>intro k;simp [fl2]
 | cons v vs ih =>
  intro k
  cases k with
  | zero=>simp [fl2]
  | succ k =>
   rw [List.take_succ_cons,show (k + 1) * 2 = k * 2 + 2 by omega]
   show v.1 :: v.2 :: fl2 (vs.take k) = (v.1 :: v.2 :: fl2 vs).take (k * 2 + 2)
   rw [List.take_succ_cons,List.take_succ_cons,ih k]
theorem fl2_drop (vs:List (Value × Value)):∀ k,fl2 (vs.drop k) = (fl2 vs).drop (k * 2):=by
 induction vs with
 | nil=>intro k;simp [fl2]
 | cons v vs ih =>
  intro k
  cases k with
  | zero=>simp [fl2]
  | succ k =>
   rw [List.drop_succ_cons,show (k + 1) * 2 = k * 2 + 2 by omega]
   show fl2 (vs.drop k) = (v.1 :: v.2 :: fl2 vs).drop (k * 2 + 2)
   rw [List.drop_succ_cons,List.drop_succ_cons,ih k]
section
variable {w:World} {p:Option Addr} {n c j:Nat} {vs:List (Value × Value)}
theorem RwV.take (h:RwV w p n c vs) (hj:j≤n):RwV w p j c (vs.take j):=by
 refine ⟨by rw [List.length_take,h.len];omega,by have:=h.le;omega,h.max,fun e=>by have:=h.nil e;omega,fun i u hi=>?_,fun u hu=>?_⟩
 ·rw [fl2_take,List.getElem?_take] at hi
  split at hi
  ·exact h.cell i u hi
  ·cases hi
 ·rw [fl2_take] at hu;exact h.one u (List.mem_of_mem_take hu)
theorem RwV.drop {b o:Nat} (h:RwV w (some ⟨b,o,none⟩) n c vs) (hj:j≤n):RwV w (some ⟨b,o + j * 2,none⟩) (n - j) (c - j) (vs.drop j):=by
 refine ⟨by rw [List.length_drop,h.len],by have:=h.le;omega,by have:=h.max;omega,fun e=>(by cases e),fun i u hi=>?_,fun u hu=>?_⟩
 ·rw [fl2_drop,List.getElem?_drop] at hi
  obtain ⟨b',o',e,hc⟩:=h.cell (j * 2 + i) u hi
  cases e
  exact ⟨b,o + j * 2,rfl,by rw [show o + j * 2 + i = o + (j * 2 + i) by omega];exact hc⟩
 ·rw [fl2_drop] at hu;exact h.one u (List.mem_of_mem_drop hu)
theorem RwV.none (hp:p = none→c = 0) (hm:c≤maxLen):RwV w p 0 c []:=⟨rfl,Nat.zero_le _,hm,fun e=>⟨rfl,hp e⟩,fun i u h=>by simp [fl2] at h,fun u h=>by simp [fl2] at h⟩
theorem Sl.away {g T:Nat} {fr:Nat × Nat} {p1 p2 q:Option Addr} {n1 c1 n2 c2 m k:Nat} {xs:List UInt8} (h:Sl B8 w q m k xs) (hg:w.heap[g]? = some (.cells #[.slice p1 n1 c1,.slice p2 n2 c2] T fr)) (h0:0 < m):∀ a,q = some a→a.block≠g:=by
 intro a ha e
 obtain ⟨b,o,hp,hc⟩:=h.rs 0 (by rw [h.len];exact h0)
 rw [hp] at ha;cases ha
 have e':b = g:=e
 subst e'
 rw [cell_of_row _ _ _ _ _ _ hg] at hc
 rcases ho:o + 0 with _ | _ | x
 ·rw [ho] at hc;simp at hc
 ·rw [ho] at hc;simp at hc
 ·rw [ho] at hc;simp at hc
theorem two_cells {W:World} {u v:Value} {T g:Nat} (hg:g = W.heap.size):∀ (j:Nat) (y:Value),[u,v][j]? = some y→(W.alloc (.cells #[u,v] T)).cell? ((⟨g,0,none⟩:Addr).add j) = some y:=by
 intro j y hj
 rw [Addr.add_lit,Nat.zero_add,cell_of_row _ _ j _ _ _ (hnew hg)]
 match j with
 | 0=>simpa using hj
 | 1=>simpa using hj
 | j + 2=>simp at hj
theorem two_ones (q1 q2:Option Addr) (n1 c1 n2 c2:Nat):∀ u,u ∈ [Value.slice q1 n1 c1,Value.slice q2 n2 c2]→u.oneCell' = true:=by
 intro u hu;simp at hu;rcases hu with rfl | rfl <;> rfl
theorem RwS.of_owns {base T n c:Nat} {q:Option Addr} {vs:List (Value × Value)} {K:List (List UInt8 × List UInt8)} (h:w.ownsRow base T 2 (.slice q n c) n (fl2 vs)) (hl:K.length = n) (hv:∀ (j:Nat) (k:List UInt8 × List UInt8),K[j]? = some k→∃ u,vs[j]? = some u∧RwP w u k):RwS w q n c K:=by
 rcases h.2 with ⟨h1,h2⟩ | ⟨g,cap,cur,h1,_,_,h3,h4,_⟩
 ·cases h1
  have:K = []:=List.length_eq_zero_iff.1 (by omega)
  subst this
  exact ⟨hl,Nat.le_of_eq h2,by simp [maxLen],fun _=>⟨h2,rfl⟩,fun j k hk=>by simp at hk⟩
 ·cases h1
  refine ⟨hl,h3,h4,fun e=>(by cases e),fun j k hk=>?_⟩
  obtain ⟨u,hu,q1,m1,c1,q2,m2,c2,rfl,s1,s2⟩:=hv j k hk
  have hj:=(List.getElem?_eq_some_iff.1 hk).1
  obtain ⟨g1,g2⟩:=fl2_at hu
  refine ⟨g,0,q1,m1,c1,q2,m2,c2,rfl,?_,?_,s1,s2⟩
  ·rw [Nat.zero_add,h.cellAt _ (by omega),g1]
  ·rw [Nat.zero_add,h.cellAt _ (by omega),g2]
def RwN (W w:World) (T:TypeId) (q:Option Addr) (n c:Nat) (K:List (List UInt8 × List UInt8)):Prop :=
 Below W.heap.size W w∧K.length = n∧∃ vs:List (Value × Value),w.ownsRow W.heap.size T 2 (.slice q n c) n (fl2 vs)∧∀ (j:Nat) (k:List UInt8 × List UInt8),K[j]? = some k→∃ u,vs[j]? = some u∧RwP W u k
theorem RwN.rwS {W:World} {T n c:Nat} {q:Option Addr} {K:List (List UInt8 × List UInt8)} (h:RwN W w T q n c K):RwS w q n c K:=by
 obtain ⟨hb,hl,vs,ho,hv⟩:=h
 exact RwS.of_owns ho hl fun j k hk=>by obtain ⟨u,hu,hp⟩:=hv j k hk;exact ⟨u,hu,hp.keep hb⟩
end
end Go.By
namespace Go.Proofs.YtccaiiigdfieoaaGreatDoor
open Go.RowKit Go.By
def RetK (w:World) (K:List Rw) (e:Ending) (w':World):Prop:=∃ q n c,n = K.length∧e = .returned (.slice q n c)∧RwS w' q n c K∧Below w.heap.size w w'
def RetKO (w:World) (v0:Value) (K:List Rw) (e:Ending) (w':World):Prop:=∃ q n c,n = K.length∧e = .returned (.slice q n c)∧RwS w' q n c K∧Below w.heap.size w w'∧(Value.slice q n c = v0∨∃ W,w.heap.size≤W.heap.size∧RwN W w' 101 q n c K)
theorem info_rrow:(Tryz.prog.info? 101).map (fun i=>(i.zero,i.size,i.bytes)) = some (some (.agg #[.slice none 0 0,.slice none 0 0]),2,48):=by kernel_rfl
theorem take_while_at {α:Type} {p:α→Bool}:∀ {l:List α} {j:Nat},j≤l.length→(∀ i a,i < j→l[i]? = some a→p a = true)→(∀ a,l[j]? = some a→p a = false)→l.takeWhile p = l.take j∧l.dropWhile p = l.drop j
 | [],0,_,_,_=>⟨rfl,rfl⟩
 | b :: l,0,_,_,h=>by
  have:=h b rfl
  simp [List.takeWhile_cons,List.dropWhile_cons,this]
 | b :: l,j + 1,hl,h1,h2=>by
  have hb:=h1 0 b (by omega) rfl
  obtain ⟨g1,g2⟩:=take_while_at (l:=l) (j:=j) (by simpa using hl) (fun i a hi ha=>h1 (i + 1) a (by omega) (by simpa using ha)) (fun a ha=>h2 a (by simpa using ha))
  simp [List.takeWhile_cons,List.dropWhile_cons,hb,g1,g2]
set_option maxRecDepth 100000 in
set_option maxHeartbeats 4000000 in
theorem Insert_own (wd t:Nat) (pk:Option Addr) (nk ck:Nat) (K:List Rw) (p1 p2:Option Addr) (n1 c1 n2 c2:Nat) (x:Rw) (w:World) (hK:RwS w pk nk ck K) (s1:Sl B8 w p1 n1 c1 x.1) (s2:Sl B8 w p2 n2 c2 x.2)
  (hfit:∀ k,k ∈ K→Fit wd t k∧Led k) (hx:Fit wd t x) (hr1:Room wd) (hr2:Room t) (hnk:nk≤65535) :
  Calls Tryz.prog 87 #[.slice pk nk ck,.agg #[.slice p1 n1 c1,.slice p2 n2 c2]] w (RetKO w (.slice pk nk ck) (insF K x)):=by
 obtain ⟨r0,hr0,hrz,hr1',hr2'⟩:=info_parts info_rrow
 have HRS:=Lib.hid (fun W a b c=>Rest_any wd t pk nk ck K p1 p2 n1 c1 n2 c2 x W a b c hfit hx hr1 hr2 (by omega))
 have fitR:=hx.rest (fun k hk=>(hfit k hk).1)
 obtain ⟨XR,hXR⟩:∃ XR,XR = restF K x:=⟨_,rfl⟩
 rw [← hXR] at HRS fitR
 obtain ⟨Y,hY⟩:∃ Y,Y = normS XR:=⟨_,rfl⟩
 have HNM:Hid (∀ W q1 m1 g1 q2 m2 g2,Sl B8 W q1 m1 g1 XR.1→Sl B8 W q2 m2 g2 XR.2→Calls Tryz.prog 153 #[.agg #[.slice q1 m1 g1,.slice q2 m2 g2]] W (RetS W Y)):=fun W q1 m1 g1 q2 m2 g2 a b=>by
  rw [hY]
  exact RNorm_any q1 q2 m1 g1 m2 g2 XR.1 XR.2 W a b (by rw [← a.len,fitR.1];exact hr1) (by rw [← b.len,fitR.2];exact hr2)
 have HINS:Hid (insF K x = if leadS Y.1 < 0 then K else K.takeWhile (fun r=>decide (leadS r.1 < leadS Y.1)) ++ Y :: K.dropWhile (fun r=>decide (leadS r.1 < leadS Y.1))):=by show _ = _;rw [hY,hXR];rfl
 have HK:=Lib.hid hK;have S1:=Lib.hid s1;have S2:=Lib.hid s2;have HLEN:=Lib.hid hK.len
 have HB0:Hid (∀ o1,Below w.heap.size w (w.alloc o1)):=fun o1=>al (Below.refl _ _) (Nat.le_refl _)
 obtain ⟨LY,hLY⟩:∃ LY,LY = leadS Y.1:=⟨_,rfl⟩
 have HLY:=Lib.hid hLY
 rw [← hLY] at HINS
 clear hK s1 s2 hfit hx hr1 hr2 hXR hY fitR hLY
 go_enter Tryz.func87,Tryz.ntmps87
 go_wp2_with fail
 refine Calls.mono (HRS.out _ (HK.out.keep (HB0.out _)) (S1.out.keep (HB0.out _)) (S2.out.keep (HB0.out _))) ?_
 rintro e w1 ⟨q1,m1,g1,q2,m2,g2,rfl,sA,sB,hb1⟩
 have X1:Hid (w1.heap[w.heap.size]? = some (.cells #[.slice p1 n1 c1,.slice p2 n2 c2] 101 (0,0))):=(hb1.block _ (by simp)).trans (hnew rfl)
 have B1:Hid (Below w.heap.size w w1):=bl (HB0.out _) hb1 (by simp)
 have SA:=Lib.hid sA;have SB:=Lib.hid sB
 clear sA sB hb1 HB0 HRS
 go_wp2_with fail
 refine Calls.mono (HNM.out _ _ _ _ _ _ _ SA.out SB.out) ?_
 rintro e w2 ⟨q5,m5,g5,q6,m6,g6,rfl,s5,s6,hb2⟩
 have X2:Hid (w2.heap[w.heap.size]? = some (.cells #[.slice p1 n1 c1,.slice p2 n2 c2] 101 (0,0))):=(hb2.block _ (blk_lt X1.out)).trans X1.out
 have B2:Hid (Below w.heap.size w w2):=bl B1.out hb2 B1.out.size
 have a5:=fun h=>s5.away X2.out h
 have a6:=fun h=>s6.away X2.out h
 have N3:Hid (((w2.setCell ⟨w.heap.size,0,none⟩ (.slice q5 m5 g5)).setCell ⟨w.heap.size,1,none⟩ (.slice q6 m6 g6)).heap[w.heap.size]? = some (.cells #[.slice q5 m5 g5,.slice q6 m6 g6] 101 (0,0)) ∧
   Sl B8 ((w2.setCell ⟨w.heap.size,0,none⟩ (.slice q5 m5 g5)).setCell ⟨w.heap.size,1,none⟩ (.slice q6 m6 g6)) q5 m5 g5 Y.1∧Sl B8 ((w2.setCell ⟨w.heap.size,0,none⟩ (.slice q5 m5 g5)).setCell ⟨w.heap.size,1,none⟩ (.slice q6 m6 g6)) q6 m6 g6 Y.2 ∧
   Below w.heap.size w ((w2.setCell ⟨w.heap.size,0,none⟩ (.slice q5 m5 g5)).setCell ⟨w.heap.size,1,none⟩ (.slice q6 m6 g6))) :=
  ⟨hss (hss X2.out),(s5.set2 a5).set2 a5,(s6.set2 a6).set2 a6,(B2.out.setCell (Nat.le_refl _) _).setCell (Nat.le_refl _) _⟩
 obtain ⟨d0,d1⟩:=cells2 X2.out
 have f0:w2.frozen? ⟨w.heap.size,0,none⟩ = false:=frozen_of_row _ _ 0 _ _ X2.out
 have f1:w2.frozen? ⟨w.heap.size,1,none⟩ = false:=frozen_of_row _ _ 1 _ _ X2.out
 clear s5 s6 hb2 a5 a6 X1 B1 SA SB HNM B2
 go_wp2_with fail
 generalize (w2.setCell ⟨w.heap.size,0,none⟩ (.slice q5 m5 g5)).setCell ⟨w.heap.size,1,none⟩ (.slice q6 m6 g6) = w3 at N3 ⊢
 have HLD:Hid (∀ W,Sl B8 W q5 m5 g5 Y.1→Calls Tryz.prog 89 #[.slice q5 m5 g5] W fun e w'=>e = .returned (.int .i64 LY)∧W = w'):=fun W h=>by rw [HLY.out];exact RLead_any _ _ _ _ W h
 refine Calls.mono (HLD.out _ N3.out.2.1) ?_
 rintro e w' ⟨rfl,rfl⟩
 clear d0 d1 f0 f1 X2 w2
 by_cases hneg:LY < 0
 ·have HRK:Hid (RetKO w (.slice pk nk ck) (insF K x) (.returned (.slice pk nk ck)) w3):=by
   show RetKO _ _ _ _ _
   rw [HINS.out,if_pos hneg]
   exact ⟨pk,nk,ck,HLEN.out.symm,rfl,HK.out.keep N3.out.2.2.2,N3.out.2.2.2,.inl rfl⟩
  go_wp2
  go_ret
  exact HRK.out
 ·have hpos:0≤LY:=by omega
  clear hneg
  go_wp2
  go_loopw [5] (fun i wr=>∃ j:Nat,j≤nk∧i = .int .i64 j∧Hid (Below w3.heap.size w3 wr)∧Hid (∀ (i:Nat) (k:Rw),i < j→K[i]? = some k→leadS k.1 < LY)) (fun i _=>nk - (intOf i).toNat)
  case atStart=>exact ⟨0,Nat.zero_le _,rfl,Below.refl _ _,fun i k hi=>by omega⟩
  case round =>
   obtain ⟨j,hj,rfl,HQ,HP⟩:=hrel
   by_cases hjl:j < nk
   ·obtain ⟨kk,hkk⟩:∃ kk,K[j]? = some kk:=⟨_,List.getElem?_eq_getElem (by rw [HLEN.out];exact hjl)⟩
    obtain ⟨bk,ok,a1,b1,d1,a2,b2,d2,rfl,e1,e2,t1,t2⟩:=HK.out.row j kk hkk
    have hwr:Below w.heap.size w wr:=bl N3.out.2.2.2 HQ.out N3.out.2.2.2.size
    have E1:=(hwr.cell (p:=⟨bk,ok + j * 2,none⟩) (lt_of_cell e1)).trans e1
    have T1:=Lib.hid (t1.keep hwr)
    have YQ:=Lib.hid (N3.out.2.1.keep HQ.out)
    obtain ⟨y0,y1⟩:=cells2 ((HQ.out.block _ (blk_lt N3.out.1)).trans N3.out.1)
    obtain ⟨LK,hLK⟩:∃ LK,LK = leadS kk.1:=⟨_,rfl⟩
    have jn:(j:Int) < (nk:Int):=by omega
    have L1:Hid (∀ W,Sl B8 W a1 b1 d1 kk.1→Calls Tryz.prog 89 #[.slice a1 b1 d1] W fun e w'=>e = .returned (.int .i64 LK)∧W = w'):=fun W h=>by rw [hLK];exact RLead_any _ _ _ _ W h
    have size68:=info_rrow
    have HKK:=Lib.hid hkk;have HLK:=Lib.hid hLK
    clear hkk hLK e1 e2 t1 t2 y1 hwr
    by_cases hcmp:LK < LY
    ·have HP2:Hid (∀ (i:Nat) (k:Rw),i < j + 1→K[i]? = some k→leadS k.1 < LY):=fun i k hi hk=>by
      by_cases h:i < j
      ·exact HP.out i k h hk
      ·obtain rfl:i = j:=by omega
       rw [HKK.out] at hk;cases hk
       rw [← HLK.out];exact hcmp
     go_wp2_with fail
     refine wp_region_shapes (fun ix=>([.val (.int .i64 (j:Nat)),.val (.slice (some ⟨bk,ok,none⟩) nk ck),.val (.int .i64 (nk:Nat)),.val (.bool true),.val (.bool true),.val (.slice (some ⟨bk,ok,none⟩) nk ck),.val (.int .i64 (j:Nat)),.val (.pointer (some ⟨bk,ok + j * 2,none⟩)),.val (.pointer (some ⟨bk,ok + j * 2,none⟩)),.val (.slice a1 b1 d1),.val (.int .i64 LK),.val (.pointer (some ⟨w.heap.size,0,none⟩)),.val (.slice q5 m5 g5),.val (.int .i64 LY),.val (.bool true),.val (.bool true)][ix]?).getD (.any)) 48 rfl (by kernel_rfl) (by decide) (by decide) (by decide) ?_ ?_
     ·refine ⟨?_,?_,?_,?_,?_,?_,?_,?_,?_,?_,?_,?_,?_,?_,?_,?_,trivial⟩
      ·intro a W hb0 hs hp hi;have hb:=undrew hb0;clear hb0
       have t5:sl a 5 = .int .i64 (j:Nat):=hi 5 (by decide)
       exact ite_y rfl (wp_val (sl a 5) rfl ⟨_,rfl,Below.refl _ _,t5⟩)
      ·intro a W hb0 hs hp hi;have hb:=undrew hb0;clear hb0
       have t0:sl a 0 = .slice (some ⟨bk,ok,none⟩) nk ck:=hi 0 (by decide)
       exact ite_y rfl (wp_val (sl a 0) rfl ⟨_,rfl,Below.refl _ _,t0⟩)
      ·intro a W hb0 hs hp hi;have hb:=undrew hb0;clear hb0
       have t17:sl a 17 = .slice (some ⟨bk,ok,none⟩) nk ck:=hp 1 (by decide)
       refine ite_y rfl (wp_val (.int .i64 (nk:Nat)) ?_ ?_)
       ·simp only [execOp,resolve,List.map_toArray,List.map,eval_tmp,eval_func,eval_const,t17];simp [go_sem]
       ·exact ⟨_,rfl,Below.refl _ _,rfl⟩
      ·intro a W hb0 hs hp hi;have hb:=undrew hb0;clear hb0
       have t16:sl a 16 = .int .i64 (j:Nat):=hp 0 (by decide)
       have t18:sl a 18 = .int .i64 (nk:Nat):=hp 2 (by decide)
       refine ite_y rfl (wp_val (.bool true) ?_ ?_)
       ·simp only [execOp,eval_tmp,eval_const,t16,t18];simp [go_sem,jn,hjl]
       ·exact ⟨_,rfl,Below.refl _ _,rfl⟩
      ·intro a W hb0 hs hp hi;have hb:=undrew hb0;clear hb0
       have t19:sl a 19 = .bool true:=hp 3 (by decide)
       exact ite_y rfl (wp_val (sl a 19) rfl ⟨_,rfl,Below.refl _ _,t19⟩)
      ·intro a W hb0 hs hp hi;have hb:=undrew hb0;clear hb0
       have tg:sl a 20 = .bool true:=hp 4 (by decide)
       have t0:sl a 0 = .slice (some ⟨bk,ok,none⟩) nk ck:=hi 0 (by decide)
       exact ite_y (wanted_yes rfl rfl (by have hz:a.tmps.size = 48:=hs;rw [hz];decide) tg) (wp_val (sl a 0) rfl ⟨_,rfl,Below.refl _ _,t0⟩)
      ·intro a W hb0 hs hp hi;have hb:=undrew hb0;clear hb0
       have tg:sl a 20 = .bool true:=hp 4 (by decide)
       have t5:sl a 5 = .int .i64 (j:Nat):=hi 5 (by decide)
       exact ite_y (wanted_yes rfl rfl (by have hz:a.tmps.size = 48:=hs;rw [hz];decide) tg) (wp_val (sl a 5) rfl ⟨_,rfl,Below.refl _ _,t5⟩)
      ·intro a W hb0 hs hp hi;have hb:=undrew hb0;clear hb0
       have tg:sl a 20 = .bool true:=hp 4 (by decide)
       have ti0:sl a 21 = .slice (some ⟨bk,ok,none⟩) nk ck:=hp 5 (by decide)
       have ti1:sl a 22 = .int .i64 (j:Nat):=hp 6 (by decide)
       refine ite_y (wanted_yes rfl rfl (by have hz:a.tmps.size = 48:=hs;rw [hz];decide) tg) (wp_val (.pointer (some ⟨bk,ok + j * 2,none⟩)) ?_ ?_)
       ·simp only [execOp,eval_tmp,eval_const,ti0,ti1];simp [go_sem,jn,hjl,size68]
       ·exact ⟨_,rfl,Below.refl _ _,rfl⟩
      ·intro a W hb0 hs hp hi;have hb:=undrew hb0;clear hb0
       have tg:sl a 20 = .bool true:=hp 4 (by decide)
       have t23:sl a 23 = .pointer (some ⟨bk,ok + j * 2,none⟩):=hp 7 (by decide)
       refine ite_y (wanted_yes rfl rfl (by have hz:a.tmps.size = 48:=hs;rw [hz];decide) tg) (wp_val (.pointer (some ⟨bk,ok + j * 2,none⟩)) ?_ ?_)
       ·simp only [execOp,eval_tmp,eval_const,t23];simp [go_sem]
       ·exact ⟨_,rfl,Below.refl _ _,rfl⟩
      ·intro a W hb0 hs hp hi;have hb:=undrew hb0;clear hb0
       have tg:sl a 20 = .bool true:=hp 4 (by decide)
       have tt:sl a 24 = .pointer (some ⟨bk,ok + j * 2,none⟩):=hp 8 (by decide)
       have dd:=(hb.cell (p:=⟨bk,ok + j * 2,none⟩) (lt_of_cell E1)).trans E1
       refine ite_y (wanted_yes rfl rfl (by have hz:a.tmps.size = 48:=hs;rw [hz];decide) tg) (wp_val (.slice a1 b1 d1) ?_ ?_)
       ·simp only [execOp,eval_tmp,tt];simp [go_sem,dd]
       ·exact ⟨_,rfl,Below.refl _ _,rfl⟩
      ·intro a W hb0 hs hp hi;have hb:=undrew hb0;clear hb0
       have tg:sl a 20 = .bool true:=hp 4 (by decide)
       have t25:sl a 25 = .slice a1 b1 d1:=hp 9 (by decide)
       refine ite_y (wanted_yes rfl rfl (by have hz:a.tmps.size = 48:=hs;rw [hz];decide) tg) (wp_enter 89 #[.slice a1 b1 d1] ?_ (L1.out _ (T1.out.keep hb)) ?_)
       ·simp only [execOp,resolve,List.map_toArray,List.map,eval_tmp,eval_func,eval_const,t25];simp [go_sem]
       ·rintro e W' ⟨rfl,rfl⟩;exact ⟨_,rfl,_,rfl,Below.refl _ _,rfl⟩
      ·intro a W hb0 hs hp hi;have hb:=undrew hb0;clear hb0
       have tg:sl a 20 = .bool true:=hp 4 (by decide)
       have t3:sl a 3 = .pointer (some ⟨w.heap.size,0,none⟩):=hi 3 (by decide)
       refine ite_y (wanted_yes rfl rfl (by have hz:a.tmps.size = 48:=hs;rw [hz];decide) tg) (wp_val (.pointer (some ⟨w.heap.size,0,none⟩)) ?_ ?_)
       ·simp only [execOp,eval_tmp,eval_const,t3];simp [go_sem]
       ·exact ⟨_,rfl,Below.refl _ _,rfl⟩
      ·intro a W hb0 hs hp hi;have hb:=undrew hb0;clear hb0
       have tg:sl a 20 = .bool true:=hp 4 (by decide)
       have tt:sl a 27 = .pointer (some ⟨w.heap.size,0,none⟩):=hp 11 (by decide)
       have dd:=(hb.cell (p:=⟨w.heap.size,0,none⟩) (lt_of_cell y0)).trans y0
       refine ite_y (wanted_yes rfl rfl (by have hz:a.tmps.size = 48:=hs;rw [hz];decide) tg) (wp_val (.slice q5 m5 g5) ?_ ?_)
       ·simp only [execOp,eval_tmp,tt];simp [go_sem,dd]
       ·exact ⟨_,rfl,Below.refl _ _,rfl⟩
      ·intro a W hb0 hs hp hi;have hb:=undrew hb0;clear hb0
       have tg:sl a 20 = .bool true:=hp 4 (by decide)
       have t28:sl a 28 = .slice q5 m5 g5:=hp 12 (by decide)
       refine ite_y (wanted_yes rfl rfl (by have hz:a.tmps.size = 48:=hs;rw [hz];decide) tg) (wp_enter 89 #[.slice q5 m5 g5] ?_ (HLD.out _ (YQ.out.keep hb)) ?_)
       ·simp only [execOp,resolve,List.map_toArray,List.map,eval_tmp,eval_func,eval_const,t28];simp [go_sem]
       ·rintro e W' ⟨rfl,rfl⟩;exact ⟨_,rfl,_,rfl,Below.refl _ _,rfl⟩
      ·intro a W hb0 hs hp hi;have hb:=undrew hb0;clear hb0
       have tg:sl a 20 = .bool true:=hp 4 (by decide)
       have t26:sl a 26 = .int .i64 LK:=hp 10 (by decide)
       have t29:sl a 29 = .int .i64 LY:=hp 13 (by decide)
       refine ite_y (wanted_yes rfl rfl (by have hz:a.tmps.size = 48:=hs;rw [hz];decide) tg) (wp_val (.bool true) ?_ ?_)
       ·simp only [execOp,eval_tmp,eval_const,t26,t29];simp [go_sem,hcmp]
       ·exact ⟨_,rfl,Below.refl _ _,rfl⟩
      ·intro a W hb0 hs hp hi;have hb:=undrew hb0;clear hb0
       have t20:sl a 20 = .bool true:=hp 4 (by decide)
       have t30:sl a 30 = .bool true:=hp 14 (by decide)
       refine ite_y rfl (wp_val (.bool true) ?_ ?_)
       ·simp only [execOp,eval_tmp,eval_const,t20,t30];simp [go_sem]
       ·exact ⟨_,rfl,Below.refl _ _,rfl⟩
     ·intro a w9 hb hs hd hI ht
      have ha:=act_is [16,17,18,19,20,21,22,23,24,25,26,27,28,29,30,31] hs hd ht (by decide)
      have t31:sl a 31 = .bool true:=hI 15 (by decide)
      simp only [List.foldl,t31] at ha
      generalize sl a 16 = u16 at ha
      generalize sl a 17 = u17 at ha
      generalize sl a 18 = u18 at ha
      generalize sl a 19 = u19 at ha
      generalize sl a 20 = u20 at ha
      generalize sl a 21 = u21 at ha
      generalize sl a 22 = u22 at ha
      generalize sl a 23 = u23 at ha
      generalize sl a 24 = u24 at ha
      generalize sl a 25 = u25 at ha
      generalize sl a 26 = u26 at ha
      generalize sl a 27 = u27 at ha
      generalize sl a 28 = u28 at ha
      generalize sl a 29 = u29 at ha
      generalize sl a 30 = u30 at ha
      simp only [Act.put,List.setIfInBounds_toArray,List.set_cons_zero,List.set_cons_succ] at ha
      rw [ha];clear ha
      have HQ2:Hid (Below w3.heap.size w3 w9):=bl HQ.out hb HQ.out.size
      clear hb hI E1 y0 T1 L1 YQ jn hcmp HP HQ
      go_wp2
      go_roundw
      case rel=>exact ⟨j + 1,by omega,by go_num,HQ2.out,HP2.out⟩
      case measure=>simp [intOf];omega
    ·have HSTOP:Hid (∀ a,K[j]? = some a→¬ leadS a.1 < LY):=fun a ha=>by rw [HKK.out] at ha;cases ha;rw [← HLK.out];omega
     go_wp2_with fail
     refine wp_region_shapes (fun ix=>([.val (.int .i64 (j:Nat)),.val (.slice (some ⟨bk,ok,none⟩) nk ck),.val (.int .i64 (nk:Nat)),.val (.bool true),.val (.bool true),.val (.slice (some ⟨bk,ok,none⟩) nk ck),.val (.int .i64 (j:Nat)),.val (.pointer (some ⟨bk,ok + j * 2,none⟩)),.val (.pointer (some ⟨bk,ok + j * 2,none⟩)),.val (.slice a1 b1 d1),.val (.int .i64 LK),.val (.pointer (some ⟨w.heap.size,0,none⟩)),.val (.slice q5 m5 g5),.val (.int .i64 LY),.val (.bool false),.val (.bool false)][ix]?).getD (.any)) 48 rfl (by kernel_rfl) (by decide) (by decide) (by decide) ?_ ?_
     ·refine ⟨?_,?_,?_,?_,?_,?_,?_,?_,?_,?_,?_,?_,?_,?_,?_,?_,trivial⟩
      ·intro a W hb0 hs hp hi;have hb:=undrew hb0;clear hb0
       have t5:sl a 5 = .int .i64 (j:Nat):=hi 5 (by decide)
       exact ite_y rfl (wp_val (sl a 5) rfl ⟨_,rfl,Below.refl _ _,t5⟩)
      ·intro a W hb0 hs hp hi;have hb:=undrew hb0;clear hb0
       have t0:sl a 0 = .slice (some ⟨bk,ok,none⟩) nk ck:=hi 0 (by decide)
       exact ite_y rfl (wp_val (sl a 0) rfl ⟨_,rfl,Below.refl _ _,t0⟩)
      ·intro a W hb0 hs hp hi;have hb:=undrew hb0;clear hb0
       have t17:sl a 17 = .slice (some ⟨bk,ok,none⟩) nk ck:=hp 1 (by decide)
       refine ite_y rfl (wp_val (.int .i64 (nk:Nat)) ?_ ?_)
       ·simp only [execOp,resolve,List.map_toArray,List.map,eval_tmp,eval_func,eval_const,t17];simp [go_sem]
       ·exact ⟨_,rfl,Below.refl _ _,rfl⟩
      ·intro a W hb0 hs hp hi;have hb:=undrew hb0;clear hb0
       have t16:sl a 16 = .int .i64 (j:Nat):=hp 0 (by decide)
       have t18:sl a 18 = .int .i64 (nk:Nat):=hp 2 (by decide)
       refine ite_y rfl (wp_val (.bool true) ?_ ?_)
       ·simp only [execOp,eval_tmp,eval_const,t16,t18];simp [go_sem,jn,hjl]
       ·exact ⟨_,rfl,Below.refl _ _,rfl⟩
      ·intro a W hb0 hs hp hi;have hb:=undrew hb0;clear hb0
       have t19:sl a 19 = .bool true:=hp 3 (by decide)
       exact ite_y rfl (wp_val (sl a 19) rfl ⟨_,rfl,Below.refl _ _,t19⟩)
      ·intro a W hb0 hs hp hi;have hb:=undrew hb0;clear hb0
       have tg:sl a 20 = .bool true:=hp 4 (by decide)
       have t0:sl a 0 = .slice (some ⟨bk,ok,none⟩) nk ck:=hi 0 (by decide)
       exact ite_y (wanted_yes rfl rfl (by have hz:a.tmps.size = 48:=hs;rw [hz];decide) tg) (wp_val (sl a 0) rfl ⟨_,rfl,Below.refl _ _,t0⟩)
      ·intro a W hb0 hs hp hi;have hb:=undrew hb0;clear hb0
       have tg:sl a 20 = .bool true:=hp 4 (by decide)
       have t5:sl a 5 = .int .i64 (j:Nat):=hi 5 (by decide)
       exact ite_y (wanted_yes rfl rfl (by have hz:a.tmps.size = 48:=hs;rw [hz];decide) tg) (wp_val (sl a 5) rfl ⟨_,rfl,Below.refl _ _,t5⟩)
      ·intro a W hb0 hs hp hi;have hb:=undrew hb0;clear hb0
       have tg:sl a 20 = .bool true:=hp 4 (by decide)
       have ti0:sl a 21 = .slice (some ⟨bk,ok,none⟩) nk ck:=hp 5 (by decide)
       have ti1:sl a 22 = .int .i64 (j:Nat):=hp 6 (by decide)
       refine ite_y (wanted_yes rfl rfl (by have hz:a.tmps.size = 48:=hs;rw [hz];decide) tg) (wp_val (.pointer (some ⟨bk,ok + j * 2,none⟩)) ?_ ?_)
       ·simp only [execOp,eval_tmp,eval_const,ti0,ti1];simp [go_sem,jn,hjl,size68]
       ·exact ⟨_,rfl,Below.refl _ _,rfl⟩
      ·intro a W hb0 hs hp hi;have hb:=undrew hb0;clear hb0
       have tg:sl a 20 = .bool true:=hp 4 (by decide)
       have t23:sl a 23 = .pointer (some ⟨bk,ok + j * 2,none⟩):=hp 7 (by decide)
       refine ite_y (wanted_yes rfl rfl (by have hz:a.tmps.size = 48:=hs;rw [hz];decide) tg) (wp_val (.pointer (some ⟨bk,ok + j * 2,none⟩)) ?_ ?_)
       ·simp only [execOp,eval_tmp,eval_const,t23];simp [go_sem]
       ·exact ⟨_,rfl,Below.refl _ _,rfl⟩
      ·intro a W hb0 hs hp hi;have hb:=undrew hb0;clear hb0
       have tg:sl a 20 = .bool true:=hp 4 (by decide)
       have tt:sl a 24 = .pointer (some ⟨bk,ok + j * 2,none⟩):=hp 8 (by decide)
       have dd:=(hb.cell (p:=⟨bk,ok + j * 2,none⟩) (lt_of_cell E1)).trans E1
       refine ite_y (wanted_yes rfl rfl (by have hz:a.tmps.size = 48:=hs;rw [hz];decide) tg) (wp_val (.slice a1 b1 d1) ?_ ?_)
       ·simp only [execOp,eval_tmp,tt];simp [go_sem,dd]
       ·exact ⟨_,rfl,Below.refl _ _,rfl⟩
      ·intro a W hb0 hs hp hi;have hb:=undrew hb0;clear hb0
       have tg:sl a 20 = .bool true:=hp 4 (by decide)
       have t25:sl a 25 = .slice a1 b1 d1:=hp 9 (by decide)
       refine ite_y (wanted_yes rfl rfl (by have hz:a.tmps.size = 48:=hs;rw [hz];decide) tg) (wp_enter 89 #[.slice a1 b1 d1] ?_ (L1.out _ (T1.out.keep hb)) ?_)
       ·simp only [execOp,resolve,List.map_toArray,List.map,eval_tmp,eval_func,eval_const,t25];simp [go_sem]
       ·rintro e W' ⟨rfl,rfl⟩;exact ⟨_,rfl,_,rfl,Below.refl _ _,rfl⟩
      ·intro a W hb0 hs hp hi;have hb:=undrew hb0;clear hb0
       have tg:sl a 20 = .bool true:=hp 4 (by decide)
       have t3:sl a 3 = .pointer (some ⟨w.heap.size,0,none⟩):=hi 3 (by decide)
       refine ite_y (wanted_yes rfl rfl (by have hz:a.tmps.size = 48:=hs;rw [hz];decide) tg) (wp_val (.pointer (some ⟨w.heap.size,0,none⟩)) ?_ ?_)
       ·simp only [execOp,eval_tmp,eval_const,t3];simp [go_sem]
       ·exact ⟨_,rfl,Below.refl _ _,rfl⟩
      ·intro a W hb0 hs hp hi;have hb:=undrew hb0;clear hb0
       have tg:sl a 20 = .bool true:=hp 4 (by decide)
       have tt:sl a 27 = .pointer (some ⟨w.heap.size,0,none⟩):=hp 11 (by decide)
       have dd:=(hb.cell (p:=⟨w.heap.size,0,none⟩) (lt_of_cell y0)).trans y0
       refine ite_y (wanted_yes rfl rfl (by have hz:a.tmps.size = 48:=hs;rw [hz];decide) tg) (wp_val (.slice q5 m5 g5) ?_ ?_)
       ·simp only [execOp,eval_tmp,tt];simp [go_sem,dd]
       ·exact ⟨_,rfl,Below.refl _ _,rfl⟩
      ·intro a W hb0 hs hp hi;have hb:=undrew hb0;clear hb0
       have tg:sl a 20 = .bool true:=hp 4 (by decide)
       have t28:sl a 28 = .slice q5 m5 g5:=hp 12 (by decide)
       refine ite_y (wanted_yes rfl rfl (by have hz:a.tmps.size = 48:=hs;rw [hz];decide) tg) (wp_enter 89 #[.slice q5 m5 g5] ?_ (HLD.out _ (YQ.out.keep hb)) ?_)
       ·simp only [execOp,resolve,List.map_toArray,List.map,eval_tmp,eval_func,eval_const,t28];simp [go_sem]
       ·rintro e W' ⟨rfl,rfl⟩;exact ⟨_,rfl,_,rfl,Below.refl _ _,rfl⟩
      ·intro a W hb0 hs hp hi;have hb:=undrew hb0;clear hb0
       have tg:sl a 20 = .bool true:=hp 4 (by decide)
       have t26:sl a 26 = .int .i64 LK:=hp 10 (by decide)
       have t29:sl a 29 = .int .i64 LY:=hp 13 (by decide)
       refine ite_y (wanted_yes rfl rfl (by have hz:a.tmps.size = 48:=hs;rw [hz];decide) tg) (wp_val (.bool false) ?_ ?_)
       ·simp only [execOp,eval_tmp,eval_const,t26,t29];simp [go_sem,hcmp]
       ·exact ⟨_,rfl,Below.refl _ _,rfl⟩
      ·intro a W hb0 hs hp hi;have hb:=undrew hb0;clear hb0
       have t20:sl a 20 = .bool true:=hp 4 (by decide)
       have t30:sl a 30 = .bool false:=hp 14 (by decide)
       refine ite_y rfl (wp_val (.bool false) ?_ ?_)
       ·simp only [execOp,eval_tmp,eval_const,t20,t30];simp [go_sem]
       ·exact ⟨_,rfl,Below.refl _ _,rfl⟩
     ·intro a w9 hb hs hd hI ht
      have ha:=act_is [16,17,18,19,20,21,22,23,24,25,26,27,28,29,30,31] hs hd ht (by decide)
      have t31:sl a 31 = .bool false:=hI 15 (by decide)
      simp only [List.foldl,t31] at ha
      generalize sl a 16 = u16 at ha
      generalize sl a 17 = u17 at ha
      generalize sl a 18 = u18 at ha
      generalize sl a 19 = u19 at ha
      generalize sl a 20 = u20 at ha
      generalize sl a 21 = u21 at ha
      generalize sl a 22 = u22 at ha
      generalize sl a 23 = u23 at ha
      generalize sl a 24 = u24 at ha
      generalize sl a 25 = u25 at ha
      generalize sl a 26 = u26 at ha
      generalize sl a 27 = u27 at ha
      generalize sl a 28 = u28 at ha
      generalize sl a 29 = u29 at ha
      generalize sl a 30 = u30 at ha
      simp only [Act.put,List.setIfInBounds_toArray,List.set_cons_zero,List.set_cons_succ] at ha
      rw [ha];clear ha
      obtain ⟨w4,hw4⟩:∃ w4,w4 = w9:=⟨_,rfl⟩
      have h34:Below w3.heap.size w3 w4:=by rw [hw4];exact bl HQ.out hb HQ.out.size
      rw [← hw4]
      have X4:Hid (w4.heap[w.heap.size]? = some (.cells #[.slice q5 m5 g5,.slice q6 m6 g6] 101 (0,0))):=(h34.block _ (blk_lt N3.out.1)).trans N3.out.1
      have Y5:Hid (Sl B8 w4 q5 m5 g5 Y.1):=N3.out.2.1.keep h34
      have Y6:Hid (Sl B8 w4 q6 m6 g6 Y.2):=N3.out.2.2.1.keep h34
      have B4:Hid (Below w.heap.size w w4):=bl N3.out.2.2.2 h34 N3.out.2.2.2.size
      obtain ⟨vs,hvs,hvk⟩:=(HK.out.keep B4.out).vals
      have VS:=Lib.hid hvs;have VK:=Lib.hid hvk
      have HRES:Hid (insF K x = K.take j ++ Y :: K.drop j):=by
       show _ = _
       obtain ⟨g1',g2'⟩:=take_while_at (p:=fun r=>decide (leadS r.1 < LY)) (l:=K) (j:=j) (by rw [HLEN.out];exact hj) (fun i a hi ha=>decide_eq_true (HP.out i a hi ha)) (fun a ha=>decide_eq_false (by have:=HSTOP.out a ha;omega))
       rw [HINS.out,if_neg (by omega),g1',g2']
      clear h34 hb hI hvs hvk N3 HP HSTOP HQ
      try clear E1 y0 T1 L1 YQ jn hcmp
      clear hw4
      have HT:=Lib.hid (VS.out.take hj)
      have HD:=Lib.hid (VS.out.drop hj)
      have hjc:j < ck:=by have:=HK.out.le;omega
      have hnc:nk≤ck:=HK.out.le
      have hjj:j * 2 < ck * 2:=by omega
      have HUS:Hid (vs.drop j = vs.drop j):=rfl
      go_wp2_with (at_builtin;refine wpList_append_two w4 rfl (.tmp 34) (.tmp 37) 53 rfl w4.heap.size 101 r0 _ 48 Tryz.underlying53 hr0 hrz hr1' hr2' rfl (.slice none 0 0) 0 [] rfl (World.ownsRow_nil _ _ _ _) (some ⟨bk,ok,none⟩) j ck (vs.take j) rfl HT.out (by unfold maxLen;omega) (by omega) (Nat.le_refl _) ?_)
      intro v5 w5 ho5 hg5
      obtain ⟨qa,ca,rfl⟩:=owns_shape ho5
      try simp only [Nat.zero_add,List.nil_append] at ho5
      have BA:Hid (Below w4.heap.size w4 w5):=(Below.refl _ _).grown hg5 (Nat.le_refl _) (by simp [Value.ownBlock])
      have OA:=Lib.hid ho5
      have X5:Hid (w5.heap[w.heap.size]? = some (.cells #[.slice q5 m5 g5,.slice q6 m6 g6] 101 (0,0))):=(BA.out.block _ (blk_lt X4.out)).trans X4.out
      obtain ⟨x0,x1⟩:=cells2 X5.out
      have OA2:Hid (∀ o,(w5.alloc o).ownsRow w4.heap.size 101 2 (.slice qa j ca) j (fl2 (vs.take j))):=fun o=>owns_keep OA.out (al (Below.refl _ _) (Nat.le_refl _))
      have sA:=BA.out.size
      clear ho5 hg5
      try rw [Nat.zero_add]
      go_wp2_with (at_builtin;refine wpList_append_own _ rfl (.tmp 39) (.tmp 41) 53 rfl w4.heap.size 101 r0 _ 2 48 Tryz.underlying53 hr0 hrz hr1' hr2' rfl (by omega) _ j (fl2 (vs.take j)) rfl (OA2.out _) ⟨w5.heap.size,0,none⟩ 1 1 [.slice q5 m5 g5,.slice q6 m6 g6] rfl rfl ?_ ?_ ?_ ?_ ?_ ?_)
      ·intro j' y hj'
       rw [Addr.add_lit,Nat.zero_add,cell_of_row _ _ j' _ _ _ (hnew rfl)]
       match j' with
       | 0=>simpa using hj'
       | 1=>simpa using hj'
       | j' + 2=>simp at hj'
      ·intro y hy;simp at hy;rcases hy with rfl | rfl <;> rfl
      ·unfold maxLen;omega
      ·omega
      ·simp;omega
      intro v6 w6 ho6 hg6 _
      obtain ⟨qb,cb,rfl⟩:=owns_shape ho6
      have BB:Hid (Below w4.heap.size w4 w6):=(al BA.out sA).grown hg6 (by simp;omega) (fun kk hk=>(OA.out.lt kk hk).1)
      have OB:=Lib.hid ho6
      have HD6:=Lib.hid (HD.out.keep BB.out)
      have sB:=BB.out.size
      clear ho6 hg6 x0 x1 OA2
      go_wp2_with (at_builtin;refine wpList_append_two w6 rfl (.tmp 43) (.tmp 46) 53 rfl w4.heap.size 101 r0 _ 48 Tryz.underlying53 hr0 hrz hr1' hr2' rfl (.slice qb (j + 1) cb) (j + 1) _ rfl OB.out (some ⟨bk,ok + j * 2,none⟩) (nk - j) (ck - j) (vs.drop j) rfl HD6.out (by unfold maxLen;omega) (by omega) sB ?_)
      intro v7 w7 ho7 hg7
      obtain ⟨qc,cc,rfl⟩:=owns_shape ho7
      have BC:Hid (Below w4.heap.size w4 w7):=BB.out.grown hg7 sB (fun kk hk=>(OB.out.lt kk hk).1)
      have FIN:Hid (RwN w4 w7 101 qc (j + 1 + (nk - j)) cc (K.take j ++ Y :: K.drop j)):=by
       have ho7':w7.ownsRow w4.heap.size 101 2 (.slice qc (j + 1 + (nk - j)) cc) (j + 1 + (nk - j)) (fl2 (vs.take j ++ (Value.slice q5 m5 g5,Value.slice q6 m6 g6) :: vs.drop j)):=by
        have e:fl2 (vs.take j ++ (Value.slice q5 m5 g5,Value.slice q6 m6 g6) :: vs.drop j) = fl2 (vs.take j) ++ [Value.slice q5 m5 g5,Value.slice q6 m6 g6] ++ fl2 (vs.drop j):=by
         rw [fl2_append,List.append_assoc];rfl
        rw [e]
        try rw [← HUS.out]
        first | exact ho7 | simpa [fl2] using ho7
       have hvl:=VS.out.len
       refine ⟨BC.out,by rw [List.length_append,List.length_cons,List.length_take,List.length_drop,HLEN.out];omega,_,ho7',?_⟩
       intro i k' hi
       have hkl:=HLEN.out
       by_cases h1:i < j
       ·rw [List.getElem?_append_left (by rw [List.length_take];omega),List.getElem?_take,if_pos h1] at hi
        obtain ⟨u,hu⟩:∃ u,vs[i]? = some u:=⟨_,List.getElem?_eq_getElem (by omega)⟩
        obtain ⟨k2,hk2,hp⟩:=VK.out i u hu
        rw [hi] at hk2;cases hk2
        exact ⟨u,by rw [List.getElem?_append_left (by rw [List.length_take];omega),List.getElem?_take,if_pos h1];exact hu,hp⟩
       ·have lt1:(K.take j).length = j:=by rw [List.length_take];omega
        have lt2:(vs.take j).length = j:=by rw [List.length_take];omega
        by_cases h2:i = j
        ·subst h2
         rw [List.getElem?_append_right (by omega),lt1,Nat.sub_self,List.getElem?_cons_zero] at hi
         cases hi
         exact ⟨_,by rw [List.getElem?_append_right (by omega),lt2,Nat.sub_self,List.getElem?_cons_zero],q5,m5,g5,q6,m6,g6,rfl,Y5.out,Y6.out⟩
        ·obtain ⟨d,hd⟩:∃ d,i - j = d + 1:=⟨i - j - 1,by omega⟩
         rw [List.getElem?_append_right (by omega),lt1,hd,List.getElem?_cons_succ,List.getElem?_drop] at hi
         obtain ⟨u,hu⟩:∃ u,vs[j + d]? = some u:=by
          have:=(List.getElem?_eq_some_iff.1 hi).1
          exact ⟨_,List.getElem?_eq_getElem (by omega)⟩
         obtain ⟨k2,hk2,hp⟩:=VK.out (j + d) u hu
         rw [hi] at hk2;cases hk2
         exact ⟨u,by rw [List.getElem?_append_right (by omega),lt2,hd,List.getElem?_cons_succ,List.getElem?_drop];exact hu,hp⟩
      have BF:Hid (Below w.heap.size w w7):=bl B4.out BC.out B4.out.size
      clear ho7 hg7
      go_wp2
      go_ret
      refine ⟨qc,_,cc,?_,rfl,by rw [HRES.out];exact FIN.out.rwS,BF.out,.inr ⟨w4,B4.out.size,by rw [HRES.out];exact FIN.out⟩⟩
      rw [HRES.out,List.length_append,List.length_cons,List.length_take,List.length_drop,HLEN.out];omega
   ·have hjn:j = nk:=by omega
    subst hjn
    have HSTOP:Hid (∀ a,K[j]? = some a→¬ leadS a.1 < LY):=fun a ha=>by
     have:=(List.getElem?_eq_some_iff.1 ha).1
     rw [HLEN.out] at this;omega
    have jn:(j:Int)≤(j:Int):=Int.le_refl _
    by_cases hj0:j = 0
    ·subst hj0
     go_wp2_with fail
     refine wp_region_shapes (fun ix=>([.val (.int .i64 0),.val (.slice pk 0 ck),.val (.int .i64 0),.val (.bool false),.val (.bool false),.val (undef),.val (undef),.val (undef),.val (undef),.val (undef),.val (undef),.val (undef),.val (undef),.val (undef),.val (undef),.val (.bool false)][ix]?).getD (.any)) 48 rfl (by kernel_rfl) (by decide) (by decide) (by decide) ?_ ?_
     ·refine ⟨?_,?_,?_,?_,?_,?_,?_,?_,?_,?_,?_,?_,?_,?_,?_,?_,trivial⟩
      ·intro a W hb0 hs hp hi;have hb:=undrew hb0;clear hb0
       have t5:sl a 5 = .int .i64 0:=hi 5 (by decide)
       exact ite_y rfl (wp_val (sl a 5) rfl ⟨_,rfl,Below.refl _ _,t5⟩)
      ·intro a W hb0 hs hp hi;have hb:=undrew hb0;clear hb0
       have t0:sl a 0 = .slice pk 0 ck:=hi 0 (by decide)
       exact ite_y rfl (wp_val (sl a 0) rfl ⟨_,rfl,Below.refl _ _,t0⟩)
      ·intro a W hb0 hs hp hi;have hb:=undrew hb0;clear hb0
       have t17:sl a 17 = .slice pk 0 ck:=hp 1 (by decide)
       refine ite_y rfl (wp_val (.int .i64 0) ?_ ?_)
       ·simp only [execOp,resolve,List.map_toArray,List.map,eval_tmp,eval_func,eval_const,t17];simp [go_sem]
       ·exact ⟨_,rfl,Below.refl _ _,rfl⟩
      ·intro a W hb0 hs hp hi;have hb:=undrew hb0;clear hb0
       have t16:sl a 16 = .int .i64 0:=hp 0 (by decide)
       have t18:sl a 18 = .int .i64 0:=hp 2 (by decide)
       refine ite_y rfl (wp_val (.bool false) ?_ ?_)
       ·simp only [execOp,eval_tmp,eval_const,t16,t18];simp [go_sem]
       ·exact ⟨_,rfl,Below.refl _ _,rfl⟩
      ·intro a W hb0 hs hp hi;have hb:=undrew hb0;clear hb0
       have t19:sl a 19 = .bool false:=hp 3 (by decide)
       exact ite_y rfl (wp_val (sl a 19) rfl ⟨_,rfl,Below.refl _ _,t19⟩)
      ·intro a W hb0 hs hp hi;have hb:=undrew hb0;clear hb0
       have tg:sl a 20 = .bool false:=hp 4 (by decide)
       exact ite_n (wanted_no rfl rfl (by have hz:a.tmps.size = 48:=hs;rw [hz];decide) tg (by decide)) rfl
      ·intro a W hb0 hs hp hi;have hb:=undrew hb0;clear hb0
       have tg:sl a 20 = .bool false:=hp 4 (by decide)
       exact ite_n (wanted_no rfl rfl (by have hz:a.tmps.size = 48:=hs;rw [hz];decide) tg (by decide)) rfl
      ·intro a W hb0 hs hp hi;have hb:=undrew hb0;clear hb0
       have tg:sl a 20 = .bool false:=hp 4 (by decide)
       exact ite_n (wanted_no rfl rfl (by have hz:a.tmps.size = 48:=hs;rw [hz];decide) tg (by decide)) rfl
      ·intro a W hb0 hs hp hi;have hb:=undrew hb0;clear hb0
       have tg:sl a 20 = .bool false:=hp 4 (by decide)
       exact ite_n (wanted_no rfl rfl (by have hz:a.tmps.size = 48:=hs;rw [hz];decide) tg (by decide)) rfl
      ·intro a W hb0 hs hp hi;have hb:=undrew hb0;clear hb0
       have tg:sl a 20 = .bool false:=hp 4 (by decide)
       exact ite_n (wanted_no rfl rfl (by have hz:a.tmps.size = 48:=hs;rw [hz];decide) tg (by decide)) rfl
      ·intro a W hb0 hs hp hi;have hb:=undrew hb0;clear hb0
       have tg:sl a 20 = .bool false:=hp 4 (by decide)
       exact ite_n (wanted_no rfl rfl (by have hz:a.tmps.size = 48:=hs;rw [hz];decide) tg (by decide)) rfl
      ·intro a W hb0 hs hp hi;have hb:=undrew hb0;clear hb0
       have tg:sl a 20 = .bool false:=hp 4 (by decide)
       exact ite_n (wanted_no rfl rfl (by have hz:a.tmps.size = 48:=hs;rw [hz];decide) tg (by decide)) rfl
      ·intro a W hb0 hs hp hi;have hb:=undrew hb0;clear hb0
       have tg:sl a 20 = .bool false:=hp 4 (by decide)
       exact ite_n (wanted_no rfl rfl (by have hz:a.tmps.size = 48:=hs;rw [hz];decide) tg (by decide)) rfl
      ·intro a W hb0 hs hp hi;have hb:=undrew hb0;clear hb0
       have tg:sl a 20 = .bool false:=hp 4 (by decide)
       exact ite_n (wanted_no rfl rfl (by have hz:a.tmps.size = 48:=hs;rw [hz];decide) tg (by decide)) rfl
      ·intro a W hb0 hs hp hi;have hb:=undrew hb0;clear hb0
       have tg:sl a 20 = .bool false:=hp 4 (by decide)
       exact ite_n (wanted_no rfl rfl (by have hz:a.tmps.size = 48:=hs;rw [hz];decide) tg (by decide)) rfl
      ·intro a W hb0 hs hp hi;have hb:=undrew hb0;clear hb0
       have t20:sl a 20 = .bool false:=hp 4 (by decide)
       have t30:sl a 30 = undef:=hp 14 (by decide)
       refine ite_y rfl (wp_val (.bool false) ?_ ?_)
       ·simp only [execOp,eval_tmp,eval_const,t20,t30];simp [go_sem]
       ·exact ⟨_,rfl,Below.refl _ _,rfl⟩
     ·intro a w9 hb hs hd hI ht
      have ha:=act_is [16,17,18,19,20,21,22,23,24,25,26,27,28,29,30,31] hs hd ht (by decide)
      have t31:sl a 31 = .bool false:=hI 15 (by decide)
      simp only [List.foldl,t31] at ha
      generalize sl a 16 = u16 at ha
      generalize sl a 17 = u17 at ha
      generalize sl a 18 = u18 at ha
      generalize sl a 19 = u19 at ha
      generalize sl a 20 = u20 at ha
      generalize sl a 21 = u21 at ha
      generalize sl a 22 = u22 at ha
      generalize sl a 23 = u23 at ha
      generalize sl a 24 = u24 at ha
      generalize sl a 25 = u25 at ha
      generalize sl a 26 = u26 at ha
      generalize sl a 27 = u27 at ha
      generalize sl a 28 = u28 at ha
      generalize sl a 29 = u29 at ha
      generalize sl a 30 = u30 at ha
      simp only [Act.put,List.setIfInBounds_toArray,List.set_cons_zero,List.set_cons_succ] at ha
      rw [ha];clear ha
      obtain ⟨w4,hw4⟩:∃ w4,w4 = w9:=⟨_,rfl⟩
      have h34:Below w3.heap.size w3 w4:=by rw [hw4];exact bl HQ.out hb HQ.out.size
      rw [← hw4]
      have X4:Hid (w4.heap[w.heap.size]? = some (.cells #[.slice q5 m5 g5,.slice q6 m6 g6] 101 (0,0))):=(h34.block _ (blk_lt N3.out.1)).trans N3.out.1
      have Y5:Hid (Sl B8 w4 q5 m5 g5 Y.1):=N3.out.2.1.keep h34
      have Y6:Hid (Sl B8 w4 q6 m6 g6 Y.2):=N3.out.2.2.1.keep h34
      have B4:Hid (Below w.heap.size w w4):=bl N3.out.2.2.2 h34 N3.out.2.2.2.size
      have hK0:K = []:=List.length_eq_zero_iff.1 HLEN.out
      have HRES:Hid (insF K x = [Y]):=by show _ = _;rw [HINS.out,if_neg (by omega),hK0];rfl
      clear h34 hb hI N3 HP HSTOP HQ jn hK0 hw4
      cases pk with
      | none =>
       obtain ⟨_,hc0⟩:=HK.out.nil rfl
       subst hc0
       have HT:Hid (RwV w4 none 0 0 []):=RwV.none (fun _=>rfl) (by simp [maxLen])
       have HD:Hid (RwV w4 none 0 0 []):=RwV.none (fun _=>rfl) (by simp [maxLen])
       go_wp2_with (at_builtin;refine wpList_append_two w4 rfl (.tmp 34) (.tmp 37) 53 rfl w4.heap.size 101 r0 _ 48 Tryz.underlying53 hr0 hrz hr1' hr2' rfl (.slice none 0 0) 0 [] rfl (World.ownsRow_nil _ _ _ _) none 0 0 [] rfl HT.out (by decide) (by decide) (Nat.le_refl _) ?_)
       intro v5 w5 ho5 hg5
       obtain ⟨qa,ca,rfl⟩:=owns_shape ho5
       have BA:Hid (Below w4.heap.size w4 w5):=(Below.refl _ _).grown hg5 (Nat.le_refl _) (by simp [Value.ownBlock])
       have OA:Hid (w5.ownsRow w4.heap.size 101 2 (.slice qa 0 ca) 0 []):=by show World.ownsRow _ _ _ _ _ _ _;simpa [fl2] using ho5
       have X5:Hid (w5.heap[w.heap.size]? = some (.cells #[.slice q5 m5 g5,.slice q6 m6 g6] 101 (0,0))):=(BA.out.block _ (blk_lt X4.out)).trans X4.out
       obtain ⟨x0,x1⟩:=cells2 X5.out
       have OA2:Hid (∀ o,(w5.alloc o).ownsRow w4.heap.size 101 2 (.slice qa 0 ca) 0 []):=fun o=>owns_keep OA.out (al (Below.refl _ _) (Nat.le_refl _))
       have sA:=BA.out.size
       clear ho5 hg5
       try simp only [Nat.add_zero]
       go_wp2_with (at_builtin;refine wpList_append_own _ rfl (.tmp 39) (.tmp 41) 53 rfl w4.heap.size 101 r0 _ 2 48 Tryz.underlying53 hr0 hrz hr1' hr2' rfl (by omega) _ 0 [] rfl (OA2.out _) ⟨w5.heap.size,0,none⟩ 1 1 [.slice q5 m5 g5,.slice q6 m6 g6] rfl rfl (two_cells rfl) (two_ones _ _ _ _ _ _) (by decide) (by decide) (by simp;omega) ?_)
       intro v6 w6 ho6 hg6 _
       obtain ⟨qb,cb,rfl⟩:=owns_shape ho6
       have BB:Hid (Below w4.heap.size w4 w6):=(al BA.out sA).grown hg6 (by simp;omega) (fun kk hk=>(OA.out.lt kk hk).1)
       have OB:Hid (w6.ownsRow w4.heap.size 101 2 (.slice qb 1 cb) 1 [.slice q5 m5 g5,.slice q6 m6 g6]):=by show World.ownsRow _ _ _ _ _ _ _;simpa using ho6
       have HD6:=Lib.hid (HD.out.keep BB.out)
       have sB:=BB.out.size
       clear ho6 hg6 x0 x1 OA2
       try simp only [Nat.zero_add]
       go_wp2_with (at_builtin;refine wpList_append_two w6 rfl (.tmp 43) (.tmp 46) 53 rfl w4.heap.size 101 r0 _ 48 Tryz.underlying53 hr0 hrz hr1' hr2' rfl (.slice qb 1 cb) 1 _ rfl OB.out none 0 0 [] rfl HD6.out (by decide) (by decide) sB ?_)
       intro v7 w7 ho7 hg7
       obtain ⟨qc,cc,rfl⟩:=owns_shape ho7
       have BC:Hid (Below w4.heap.size w4 w7):=BB.out.grown hg7 sB (fun kk hk=>(OB.out.lt kk hk).1)
       have FIN:Hid (RwN w4 w7 101 qc 1 cc [Y]):=by
        have h7:w7.ownsRow w4.heap.size 101 2 (.slice qc 1 cc) 1 (fl2 [(Value.slice q5 m5 g5,Value.slice q6 m6 g6)]):=by simpa [fl2] using ho7
        refine ⟨BC.out,rfl,_,h7,fun i k' hi=>?_⟩
        match i with
        | 0 =>
         obtain rfl:Y = k':=by simpa using hi
         exact ⟨_,rfl,q5,m5,g5,q6,m6,g6,rfl,Y5.out,Y6.out⟩
        | i + 1=>simp at hi
       have BF:Hid (Below w.heap.size w w7):=bl B4.out BC.out B4.out.size
       clear ho7 hg7
       try simp only [Nat.add_zero]
       go_wp2
       go_ret
       exact ⟨qc,1,cc,by rw [HRES.out];rfl,rfl,by rw [HRES.out];exact FIN.out.rwS,BF.out,.inr ⟨w4,B4.out.size,by rw [HRES.out];exact FIN.out⟩⟩
      | some ad =>
       obtain ⟨ab,ao,asp⟩:=ad
       have hmax:=HK.out.max
       have HT:Hid (RwV w4 (some ⟨ab,ao,asp⟩) 0 ck []):=RwV.none (fun e=>(by cases e)) hmax
       by_cases hc0:ck = 0
       ·subst hc0
        have HD:Hid (RwV w4 (some ⟨ab,ao,asp⟩) 0 0 []):=RwV.none (fun e=>(by cases e)) (by simp [maxLen])
        go_wp2_with (at_builtin;refine wpList_append_two w4 rfl (.tmp 34) (.tmp 37) 53 rfl w4.heap.size 101 r0 _ 48 Tryz.underlying53 hr0 hrz hr1' hr2' rfl (.slice none 0 0) 0 [] rfl (World.ownsRow_nil _ _ _ _) (some ⟨ab,ao,asp⟩) 0 0 [] rfl HT.out (by decide) (by decide) (Nat.le_refl _) ?_)
        intro v5 w5 ho5 hg5
        obtain ⟨qa,ca,rfl⟩:=owns_shape ho5
        have BA:Hid (Below w4.heap.size w4 w5):=(Below.refl _ _).grown hg5 (Nat.le_refl _) (by simp [Value.ownBlock])
        have OA:Hid (w5.ownsRow w4.heap.size 101 2 (.slice qa 0 ca) 0 []):=by show World.ownsRow _ _ _ _ _ _ _;simpa [fl2] using ho5
        have X5:Hid (w5.heap[w.heap.size]? = some (.cells #[.slice q5 m5 g5,.slice q6 m6 g6] 101 (0,0))):=(BA.out.block _ (blk_lt X4.out)).trans X4.out
        obtain ⟨x0,x1⟩:=cells2 X5.out
        have OA2:Hid (∀ o,(w5.alloc o).ownsRow w4.heap.size 101 2 (.slice qa 0 ca) 0 []):=fun o=>owns_keep OA.out (al (Below.refl _ _) (Nat.le_refl _))
        have sA:=BA.out.size
        clear ho5 hg5
        try simp only [Nat.add_zero]
        go_wp2_with (at_builtin;refine wpList_append_own _ rfl (.tmp 39) (.tmp 41) 53 rfl w4.heap.size 101 r0 _ 2 48 Tryz.underlying53 hr0 hrz hr1' hr2' rfl (by omega) _ 0 [] rfl (OA2.out _) ⟨w5.heap.size,0,none⟩ 1 1 [.slice q5 m5 g5,.slice q6 m6 g6] rfl rfl (two_cells rfl) (two_ones _ _ _ _ _ _) (by decide) (by decide) (by simp;omega) ?_)
        intro v6 w6 ho6 hg6 _
        obtain ⟨qb,cb,rfl⟩:=owns_shape ho6
        have BB:Hid (Below w4.heap.size w4 w6):=(al BA.out sA).grown hg6 (by simp;omega) (fun kk hk=>(OA.out.lt kk hk).1)
        have OB:Hid (w6.ownsRow w4.heap.size 101 2 (.slice qb 1 cb) 1 [.slice q5 m5 g5,.slice q6 m6 g6]):=by show World.ownsRow _ _ _ _ _ _ _;simpa using ho6
        have HD6:=Lib.hid (HD.out.keep BB.out)
        have sB:=BB.out.size
        clear ho6 hg6 x0 x1 OA2
        try simp only [Nat.zero_add]
        go_wp2_with (at_builtin;refine wpList_append_two w6 rfl (.tmp 43) (.tmp 46) 53 rfl w4.heap.size 101 r0 _ 48 Tryz.underlying53 hr0 hrz hr1' hr2' rfl (.slice qb 1 cb) 1 _ rfl OB.out (some ⟨ab,ao,asp⟩) 0 0 [] rfl HD6.out (by decide) (by decide) sB ?_)
        intro v7 w7 ho7 hg7
        obtain ⟨qc,cc,rfl⟩:=owns_shape ho7
        have BC:Hid (Below w4.heap.size w4 w7):=BB.out.grown hg7 sB (fun kk hk=>(OB.out.lt kk hk).1)
        have FIN:Hid (RwN w4 w7 101 qc 1 cc [Y]):=by
         have h7:w7.ownsRow w4.heap.size 101 2 (.slice qc 1 cc) 1 (fl2 [(Value.slice q5 m5 g5,Value.slice q6 m6 g6)]):=by simpa [fl2] using ho7
         refine ⟨BC.out,rfl,_,h7,fun i k' hi=>?_⟩
         match i with
         | 0 =>
          obtain rfl:Y = k':=by simpa using hi
          exact ⟨_,rfl,q5,m5,g5,q6,m6,g6,rfl,Y5.out,Y6.out⟩
         | i + 1=>simp at hi
        have BF:Hid (Below w.heap.size w w7):=bl B4.out BC.out B4.out.size
        clear ho7 hg7
        try simp only [Nat.add_zero]
        go_wp2
        go_ret
        exact ⟨qc,1,cc,by rw [HRES.out];rfl,rfl,by rw [HRES.out];exact FIN.out.rwS,BF.out,.inr ⟨w4,B4.out.size,by rw [HRES.out];exact FIN.out⟩⟩
       ·have hcp:0 < ck:=by omega
        have HD:Hid (RwV w4 (some ⟨ab,ao,asp⟩) 0 ck []):=RwV.none (fun e=>(by cases e)) hmax
        go_wp2_with (at_builtin;refine wpList_append_two w4 rfl (.tmp 34) (.tmp 37) 53 rfl w4.heap.size 101 r0 _ 48 Tryz.underlying53 hr0 hrz hr1' hr2' rfl (.slice none 0 0) 0 [] rfl (World.ownsRow_nil _ _ _ _) (some ⟨ab,ao,asp⟩) 0 ck [] rfl HT.out (by decide) (by decide) (Nat.le_refl _) ?_)
        intro v5 w5 ho5 hg5
        obtain ⟨qa,ca,rfl⟩:=owns_shape ho5
        have BA:Hid (Below w4.heap.size w4 w5):=(Below.refl _ _).grown hg5 (Nat.le_refl _) (by simp [Value.ownBlock])
        have OA:Hid (w5.ownsRow w4.heap.size 101 2 (.slice qa 0 ca) 0 []):=by show World.ownsRow _ _ _ _ _ _ _;simpa [fl2] using ho5
        have X5:Hid (w5.heap[w.heap.size]? = some (.cells #[.slice q5 m5 g5,.slice q6 m6 g6] 101 (0,0))):=(BA.out.block _ (blk_lt X4.out)).trans X4.out
        obtain ⟨x0,x1⟩:=cells2 X5.out
        have OA2:Hid (∀ o,(w5.alloc o).ownsRow w4.heap.size 101 2 (.slice qa 0 ca) 0 []):=fun o=>owns_keep OA.out (al (Below.refl _ _) (Nat.le_refl _))
        have sA:=BA.out.size
        clear ho5 hg5
        try simp only [Nat.add_zero]
        go_wp2_with (at_builtin;refine wpList_append_own _ rfl (.tmp 39) (.tmp 41) 53 rfl w4.heap.size 101 r0 _ 2 48 Tryz.underlying53 hr0 hrz hr1' hr2' rfl (by omega) _ 0 [] rfl (OA2.out _) ⟨w5.heap.size,0,none⟩ 1 1 [.slice q5 m5 g5,.slice q6 m6 g6] rfl rfl (two_cells rfl) (two_ones _ _ _ _ _ _) (by decide) (by decide) (by simp;omega) ?_)
        intro v6 w6 ho6 hg6 _
        obtain ⟨qb,cb,rfl⟩:=owns_shape ho6
        have BB:Hid (Below w4.heap.size w4 w6):=(al BA.out sA).grown hg6 (by simp;omega) (fun kk hk=>(OA.out.lt kk hk).1)
        have OB:Hid (w6.ownsRow w4.heap.size 101 2 (.slice qb 1 cb) 1 [.slice q5 m5 g5,.slice q6 m6 g6]):=by show World.ownsRow _ _ _ _ _ _ _;simpa using ho6
        have HD6:=Lib.hid (HD.out.keep BB.out)
        have sB:=BB.out.size
        clear ho6 hg6 x0 x1 OA2
        try simp only [Nat.zero_add]
        go_wp2_with (at_builtin;refine wpList_append_two w6 rfl (.tmp 43) (.tmp 46) 53 rfl w4.heap.size 101 r0 _ 48 Tryz.underlying53 hr0 hrz hr1' hr2' rfl (.slice qb 1 cb) 1 _ rfl OB.out (some ⟨ab,ao,asp⟩) 0 ck [] rfl HD6.out (by decide) (by decide) sB ?_)
        intro v7 w7 ho7 hg7
        obtain ⟨qc,cc,rfl⟩:=owns_shape ho7
        have BC:Hid (Below w4.heap.size w4 w7):=BB.out.grown hg7 sB (fun kk hk=>(OB.out.lt kk hk).1)
        have FIN:Hid (RwN w4 w7 101 qc 1 cc [Y]):=by
         have h7:w7.ownsRow w4.heap.size 101 2 (.slice qc 1 cc) 1 (fl2 [(Value.slice q5 m5 g5,Value.slice q6 m6 g6)]):=by simpa [fl2] using ho7
         refine ⟨BC.out,rfl,_,h7,fun i k' hi=>?_⟩
         match i with
         | 0 =>
          obtain rfl:Y = k':=by simpa using hi
          exact ⟨_,rfl,q5,m5,g5,q6,m6,g6,rfl,Y5.out,Y6.out⟩
         | i + 1=>simp at hi
        have BF:Hid (Below w.heap.size w w7):=bl B4.out BC.out B4.out.size
        clear ho7 hg7
        try simp only [Nat.add_zero]
        go_wp2
        go_ret
        exact ⟨qc,1,cc,by rw [HRES.out];rfl,rfl,by rw [HRES.out];exact FIN.out.rwS,BF.out,.inr ⟨w4,B4.out.size,by rw [HRES.out];exact FIN.out⟩⟩
    ·obtain ⟨bk,ok,rfl⟩:∃ b o,pk = some ⟨b,o,none⟩:=by
      obtain ⟨k0,hk0⟩:∃ k0,K[0]? = some k0:=⟨_,List.getElem?_eq_getElem (by rw [HLEN.out];omega)⟩
      obtain ⟨b,o,_,_,_,_,_,_,e,_⟩:=HK.out.row 0 k0 hk0
      exact ⟨b,o,e⟩
     go_wp2_with fail
     refine wp_region_shapes (fun ix=>([.val (.int .i64 (j:Nat)),.val (.slice (some ⟨bk,ok,none⟩) j ck),.val (.int .i64 (j:Nat)),.val (.bool false),.val (.bool false),.val (undef),.val (undef),.val (undef),.val (undef),.val (undef),.val (undef),.val (undef),.val (undef),.val (undef),.val (undef),.val (.bool false)][ix]?).getD (.any)) 48 rfl (by kernel_rfl) (by decide) (by decide) (by decide) ?_ ?_
     ·refine ⟨?_,?_,?_,?_,?_,?_,?_,?_,?_,?_,?_,?_,?_,?_,?_,?_,trivial⟩
      ·intro a W hb0 hs hp hi;have hb:=undrew hb0;clear hb0
       have t5:sl a 5 = .int .i64 (j:Nat):=hi 5 (by decide)
       exact ite_y rfl (wp_val (sl a 5) rfl ⟨_,rfl,Below.refl _ _,t5⟩)
      ·intro a W hb0 hs hp hi;have hb:=undrew hb0;clear hb0
       have t0:sl a 0 = .slice (some ⟨bk,ok,none⟩) j ck:=hi 0 (by decide)
       exact ite_y rfl (wp_val (sl a 0) rfl ⟨_,rfl,Below.refl _ _,t0⟩)
      ·intro a W hb0 hs hp hi;have hb:=undrew hb0;clear hb0
       have t17:sl a 17 = .slice (some ⟨bk,ok,none⟩) j ck:=hp 1 (by decide)
       refine ite_y rfl (wp_val (.int .i64 (j:Nat)) ?_ ?_)
       ·simp only [execOp,resolve,List.map_toArray,List.map,eval_tmp,eval_func,eval_const,t17];simp [go_sem]
       ·exact ⟨_,rfl,Below.refl _ _,rfl⟩
      ·intro a W hb0 hs hp hi;have hb:=undrew hb0;clear hb0
       have t16:sl a 16 = .int .i64 (j:Nat):=hp 0 (by decide)
       have t18:sl a 18 = .int .i64 (j:Nat):=hp 2 (by decide)
       refine ite_y rfl (wp_val (.bool false) ?_ ?_)
       ·simp only [execOp,eval_tmp,eval_const,t16,t18];simp [go_sem]
       ·exact ⟨_,rfl,Below.refl _ _,rfl⟩
      ·intro a W hb0 hs hp hi;have hb:=undrew hb0;clear hb0
       have t19:sl a 19 = .bool false:=hp 3 (by decide)
       exact ite_y rfl (wp_val (sl a 19) rfl ⟨_,rfl,Below.refl _ _,t19⟩)
      ·intro a W hb0 hs hp hi;have hb:=undrew hb0;clear hb0
       have tg:sl a 20 = .bool false:=hp 4 (by decide)
       exact ite_n (wanted_no rfl rfl (by have hz:a.tmps.size = 48:=hs;rw [hz];decide) tg (by decide)) rfl
      ·intro a W hb0 hs hp hi;have hb:=undrew hb0;clear hb0
       have tg:sl a 20 = .bool false:=hp 4 (by decide)
       exact ite_n (wanted_no rfl rfl (by have hz:a.tmps.size = 48:=hs;rw [hz];decide) tg (by decide)) rfl
      ·intro a W hb0 hs hp hi;have hb:=undrew hb0;clear hb0
       have tg:sl a 20 = .bool false:=hp 4 (by decide)
       exact ite_n (wanted_no rfl rfl (by have hz:a.tmps.size = 48:=hs;rw [hz];decide) tg (by decide)) rfl
      ·intro a W hb0 hs hp hi;have hb:=undrew hb0;clear hb0
       have tg:sl a 20 = .bool false:=hp 4 (by decide)
       exact ite_n (wanted_no rfl rfl (by have hz:a.tmps.size = 48:=hs;rw [hz];decide) tg (by decide)) rfl
      ·intro a W hb0 hs hp hi;have hb:=undrew hb0;clear hb0
       have tg:sl a 20 = .bool false:=hp 4 (by decide)
       exact ite_n (wanted_no rfl rfl (by have hz:a.tmps.size = 48:=hs;rw [hz];decide) tg (by decide)) rfl
      ·intro a W hb0 hs hp hi;have hb:=undrew hb0;clear hb0
       have tg:sl a 20 = .bool false:=hp 4 (by decide)
       exact ite_n (wanted_no rfl rfl (by have hz:a.tmps.size = 48:=hs;rw [hz];decide) tg (by decide)) rfl
      ·intro a W hb0 hs hp hi;have hb:=undrew hb0;clear hb0
       have tg:sl a 20 = .bool false:=hp 4 (by decide)
       exact ite_n (wanted_no rfl rfl (by have hz:a.tmps.size = 48:=hs;rw [hz];decide) tg (by decide)) rfl
      ·intro a W hb0 hs hp hi;have hb:=undrew hb0;clear hb0
       have tg:sl a 20 = .bool false:=hp 4 (by decide)
       exact ite_n (wanted_no rfl rfl (by have hz:a.tmps.size = 48:=hs;rw [hz];decide) tg (by decide)) rfl
      ·intro a W hb0 hs hp hi;have hb:=undrew hb0;clear hb0
       have tg:sl a 20 = .bool false:=hp 4 (by decide)
       exact ite_n (wanted_no rfl rfl (by have hz:a.tmps.size = 48:=hs;rw [hz];decide) tg (by decide)) rfl
      ·intro a W hb0 hs hp hi;have hb:=undrew hb0;clear hb0
       have tg:sl a 20 = .bool false:=hp 4 (by decide)
       exact ite_n (wanted_no rfl rfl (by have hz:a.tmps.size = 48:=hs;rw [hz];decide) tg (by decide)) rfl
      ·intro a W hb0 hs hp hi;have hb:=undrew hb0;clear hb0
       have t20:sl a 20 = .bool false:=hp 4 (by decide)
       have t30:sl a 30 = undef:=hp 14 (by decide)
       refine ite_y rfl (wp_val (.bool false) ?_ ?_)
       ·simp only [execOp,eval_tmp,eval_const,t20,t30];simp [go_sem]
       ·exact ⟨_,rfl,Below.refl _ _,rfl⟩
     ·intro a w9 hb hs hd hI ht
      have ha:=act_is [16,17,18,19,20,21,22,23,24,25,26,27,28,29,30,31] hs hd ht (by decide)
      have t31:sl a 31 = .bool false:=hI 15 (by decide)
      simp only [List.foldl,t31] at ha
      generalize sl a 16 = u16 at ha
      generalize sl a 17 = u17 at ha
      generalize sl a 18 = u18 at ha
      generalize sl a 19 = u19 at ha
      generalize sl a 20 = u20 at ha
      generalize sl a 21 = u21 at ha
      generalize sl a 22 = u22 at ha
      generalize sl a 23 = u23 at ha
      generalize sl a 24 = u24 at ha
      generalize sl a 25 = u25 at ha
      generalize sl a 26 = u26 at ha
      generalize sl a 27 = u27 at ha
      generalize sl a 28 = u28 at ha
      generalize sl a 29 = u29 at ha
      generalize sl a 30 = u30 at ha
      simp only [Act.put,List.setIfInBounds_toArray,List.set_cons_zero,List.set_cons_succ] at ha
      rw [ha];clear ha
      obtain ⟨w4,hw4⟩:∃ w4,w4 = w9:=⟨_,rfl⟩
      have h34:Below w3.heap.size w3 w4:=by rw [hw4];exact bl HQ.out hb HQ.out.size
      rw [← hw4]
      have X4:Hid (w4.heap[w.heap.size]? = some (.cells #[.slice q5 m5 g5,.slice q6 m6 g6] 101 (0,0))):=(h34.block _ (blk_lt N3.out.1)).trans N3.out.1
      have Y5:Hid (Sl B8 w4 q5 m5 g5 Y.1):=N3.out.2.1.keep h34
      have Y6:Hid (Sl B8 w4 q6 m6 g6 Y.2):=N3.out.2.2.1.keep h34
      have B4:Hid (Below w.heap.size w w4):=bl N3.out.2.2.2 h34 N3.out.2.2.2.size
      obtain ⟨vs,hvs,hvk⟩:=(HK.out.keep B4.out).vals
      have VS:=Lib.hid hvs;have VK:=Lib.hid hvk
      have HRES:Hid (insF K x = K.take j ++ Y :: K.drop j):=by
       show _ = _
       obtain ⟨g1',g2'⟩:=take_while_at (p:=fun r=>decide (leadS r.1 < LY)) (l:=K) (j:=j) (by rw [HLEN.out];exact hj) (fun i a hi ha=>decide_eq_true (HP.out i a hi ha)) (fun a ha=>decide_eq_false (by have:=HSTOP.out a ha;omega))
       rw [HINS.out,if_neg (by omega),g1',g2']
      clear h34 hb hI hvs hvk N3 HP HSTOP HQ
      try clear E1 y0 T1 L1 YQ jn hcmp
      clear hw4
      have HT:=Lib.hid (VS.out.take hj)
      have HUS:Hid (([]:List (Value × Value)) = vs.drop j):=(List.drop_eq_nil_of_le (by rw [VS.out.len];exact Nat.le_refl _)).symm
      have hmax:=HK.out.max
      by_cases hcj:j = ck
      ·have HD:Hid (RwV w4 (some ⟨bk,ok,none⟩) 0 0 []):=RwV.none (fun e=>(by cases e)) (by simp [maxLen])
       subst hcj
       go_wp2_with (at_builtin;refine wpList_append_two w4 rfl (.tmp 34) (.tmp 37) 53 rfl w4.heap.size 101 r0 _ 48 Tryz.underlying53 hr0 hrz hr1' hr2' rfl (.slice none 0 0) 0 [] rfl (World.ownsRow_nil _ _ _ _) (some ⟨bk,ok,none⟩) j j (vs.take j) rfl HT.out (by unfold maxLen;omega) (by omega) (Nat.le_refl _) ?_)
       intro v5 w5 ho5 hg5
       obtain ⟨qa,ca,rfl⟩:=owns_shape ho5
       try simp only [Nat.zero_add,List.nil_append] at ho5
       have BA:Hid (Below w4.heap.size w4 w5):=(Below.refl _ _).grown hg5 (Nat.le_refl _) (by simp [Value.ownBlock])
       have OA:=Lib.hid ho5
       have X5:Hid (w5.heap[w.heap.size]? = some (.cells #[.slice q5 m5 g5,.slice q6 m6 g6] 101 (0,0))):=(BA.out.block _ (blk_lt X4.out)).trans X4.out
       obtain ⟨x0,x1⟩:=cells2 X5.out
       have OA2:Hid (∀ o,(w5.alloc o).ownsRow w4.heap.size 101 2 (.slice qa j ca) j (fl2 (vs.take j))):=fun o=>owns_keep OA.out (al (Below.refl _ _) (Nat.le_refl _))
       have sA:=BA.out.size
       clear ho5 hg5
       try rw [Nat.zero_add]
       go_wp2_with (at_builtin;refine wpList_append_own _ rfl (.tmp 39) (.tmp 41) 53 rfl w4.heap.size 101 r0 _ 2 48 Tryz.underlying53 hr0 hrz hr1' hr2' rfl (by omega) _ j (fl2 (vs.take j)) rfl (OA2.out _) ⟨w5.heap.size,0,none⟩ 1 1 [.slice q5 m5 g5,.slice q6 m6 g6] rfl rfl ?_ ?_ ?_ ?_ ?_ ?_)
       ·intro j' y hj'
        rw [Addr.add_lit,Nat.zero_add,cell_of_row _ _ j' _ _ _ (hnew rfl)]
        match j' with
        | 0=>simpa using hj'
        | 1=>simpa using hj'
        | j' + 2=>simp at hj'
       ·intro y hy;simp at hy;rcases hy with rfl | rfl <;> rfl
       ·unfold maxLen;omega
       ·omega
       ·simp;omega
       intro v6 w6 ho6 hg6 _
       obtain ⟨qb,cb,rfl⟩:=owns_shape ho6
       have BB:Hid (Below w4.heap.size w4 w6):=(al BA.out sA).grown hg6 (by simp;omega) (fun kk hk=>(OA.out.lt kk hk).1)
       have OB:=Lib.hid ho6
       have HD6:=Lib.hid (HD.out.keep BB.out)
       have sB:=BB.out.size
       clear ho6 hg6 x0 x1 OA2
       go_wp2_with (at_builtin;refine wpList_append_two w6 rfl (.tmp 43) (.tmp 46) 53 rfl w4.heap.size 101 r0 _ 48 Tryz.underlying53 hr0 hrz hr1' hr2' rfl (.slice qb (j + 1) cb) (j + 1) _ rfl OB.out (some ⟨bk,ok,none⟩) 0 0 [] rfl HD6.out (by unfold maxLen;omega) (by omega) sB ?_)
       intro v7 w7 ho7 hg7
       obtain ⟨qc,cc,rfl⟩:=owns_shape ho7
       have BC:Hid (Below w4.heap.size w4 w7):=BB.out.grown hg7 sB (fun kk hk=>(OB.out.lt kk hk).1)
       have FIN:Hid (RwN w4 w7 101 qc (j + 1) cc (K.take j ++ Y :: K.drop j)):=by
        have ho7':w7.ownsRow w4.heap.size 101 2 (.slice qc (j + 1) cc) (j + 1) (fl2 (vs.take j ++ (Value.slice q5 m5 g5,Value.slice q6 m6 g6) :: vs.drop j)):=by
         have e:fl2 (vs.take j ++ (Value.slice q5 m5 g5,Value.slice q6 m6 g6) :: vs.drop j) = fl2 (vs.take j) ++ [Value.slice q5 m5 g5,Value.slice q6 m6 g6] ++ fl2 (vs.drop j):=by
          rw [fl2_append,List.append_assoc];rfl
         rw [e]
         try rw [← HUS.out]
         first | exact ho7 | simpa [fl2] using ho7
        have hvl:=VS.out.len
        refine ⟨BC.out,by rw [List.length_append,List.length_cons,List.length_take,List.length_drop,HLEN.out];omega,_,ho7',?_⟩
        intro i k' hi
        have hkl:=HLEN.out
        by_cases h1:i < j
        ·rw [List.getElem?_append_left (by rw [List.length_take];omega),List.getElem?_take,if_pos h1] at hi
         obtain ⟨u,hu⟩:∃ u,vs[i]? = some u:=⟨_,List.getElem?_eq_getElem (by omega)⟩
         obtain ⟨k2,hk2,hp⟩:=VK.out i u hu
         rw [hi] at hk2;cases hk2
         exact ⟨u,by rw [List.getElem?_append_left (by rw [List.length_take];omega),List.getElem?_take,if_pos h1];exact hu,hp⟩
        ·have lt1:(K.take j).length = j:=by rw [List.length_take];omega
         have lt2:(vs.take j).length = j:=by rw [List.length_take];omega
         by_cases h2:i = j
         ·subst h2
          rw [List.getElem?_append_right (by omega),lt1,Nat.sub_self,List.getElem?_cons_zero] at hi
          cases hi
          exact ⟨_,by rw [List.getElem?_append_right (by omega),lt2,Nat.sub_self,List.getElem?_cons_zero],q5,m5,g5,q6,m6,g6,rfl,Y5.out,Y6.out⟩
         ·obtain ⟨d,hd⟩:∃ d,i - j = d + 1:=⟨i - j - 1,by omega⟩
          rw [List.getElem?_append_right (by omega),lt1,hd,List.getElem?_cons_succ,List.getElem?_drop] at hi
          obtain ⟨u,hu⟩:∃ u,vs[j + d]? = some u:=by
           have:=(List.getElem?_eq_some_iff.1 hi).1
           exact ⟨_,List.getElem?_eq_getElem (by omega)⟩
          obtain ⟨k2,hk2,hp⟩:=VK.out (j + d) u hu
          rw [hi] at hk2;cases hk2
          exact ⟨u,by rw [List.getElem?_append_right (by omega),lt2,hd,List.getElem?_cons_succ,List.getElem?_drop];exact hu,hp⟩
       have BF:Hid (Below w.heap.size w w7):=bl B4.out BC.out B4.out.size
       clear ho7 hg7
       go_wp2
       go_ret
       refine ⟨qc,_,cc,?_,rfl,by rw [HRES.out];exact FIN.out.rwS,BF.out,.inr ⟨w4,B4.out.size,by rw [HRES.out];exact FIN.out⟩⟩
       rw [HRES.out,List.length_append,List.length_cons,List.length_take,List.length_drop,HLEN.out];omega
      ·have HD:Hid (RwV w4 (some ⟨bk,ok + j * 2,none⟩) 0 (ck - j) []):=RwV.none (fun e=>(by cases e)) (by omega)
       have hjc:j < ck:=by have:=HK.out.le;omega
       go_wp2_with (at_builtin;refine wpList_append_two w4 rfl (.tmp 34) (.tmp 37) 53 rfl w4.heap.size 101 r0 _ 48 Tryz.underlying53 hr0 hrz hr1' hr2' rfl (.slice none 0 0) 0 [] rfl (World.ownsRow_nil _ _ _ _) (some ⟨bk,ok,none⟩) j ck (vs.take j) rfl HT.out (by unfold maxLen;omega) (by omega) (Nat.le_refl _) ?_)
       intro v5 w5 ho5 hg5
       obtain ⟨qa,ca,rfl⟩:=owns_shape ho5
       try simp only [Nat.zero_add,List.nil_append] at ho5
       have BA:Hid (Below w4.heap.size w4 w5):=(Below.refl _ _).grown hg5 (Nat.le_refl _) (by simp [Value.ownBlock])
       have OA:=Lib.hid ho5
       have X5:Hid (w5.heap[w.heap.size]? = some (.cells #[.slice q5 m5 g5,.slice q6 m6 g6] 101 (0,0))):=(BA.out.block _ (blk_lt X4.out)).trans X4.out
       obtain ⟨x0,x1⟩:=cells2 X5.out
       have OA2:Hid (∀ o,(w5.alloc o).ownsRow w4.heap.size 101 2 (.slice qa j ca) j (fl2 (vs.take j))):=fun o=>owns_keep OA.out (al (Below.refl _ _) (Nat.le_refl _))
       have sA:=BA.out.size
       clear ho5 hg5
       try rw [Nat.zero_add]
       go_wp2_with (at_builtin;refine wpList_append_own _ rfl (.tmp 39) (.tmp 41) 53 rfl w4.heap.size 101 r0 _ 2 48 Tryz.underlying53 hr0 hrz hr1' hr2' rfl (by omega) _ j (fl2 (vs.take j)) rfl (OA2.out _) ⟨w5.heap.size,0,none⟩ 1 1 [.slice q5 m5 g5,.slice q6 m6 g6] rfl rfl ?_ ?_ ?_ ?_ ?_ ?_)
       ·intro j' y hj'
        rw [Addr.add_lit,Nat.zero_add,cell_of_row _ _ j' _ _ _ (hnew rfl)]
        match j' with
        | 0=>simpa using hj'
        | 1=>simpa using hj'
        | j' + 2=>simp at hj'
       ·intro y hy;simp at hy;rcases hy with rfl | rfl <;> rfl
       ·unfold maxLen;omega
       ·omega
       ·simp;omega
       intro v6 w6 ho6 hg6 _
       obtain ⟨qb,cb,rfl⟩:=owns_shape ho6
       have BB:Hid (Below w4.heap.size w4 w6):=(al BA.out sA).grown hg6 (by simp;omega) (fun kk hk=>(OA.out.lt kk hk).1)
       have OB:=Lib.hid ho6
       have HD6:=Lib.hid (HD.out.keep BB.out)
       have sB:=BB.out.size
       clear ho6 hg6 x0 x1 OA2
       go_wp2_with (at_builtin;refine wpList_append_two w6 rfl (.tmp 43) (.tmp 46) 53 rfl w4.heap.size 101 r0 _ 48 Tryz.underlying53 hr0 hrz hr1' hr2' rfl (.slice qb (j + 1) cb) (j + 1) _ rfl OB.out (some ⟨bk,ok + j * 2,none⟩) 0 (ck - j) [] rfl HD6.out (by unfold maxLen;omega) (by omega) sB ?_)
       intro v7 w7 ho7 hg7
       obtain ⟨qc,cc,rfl⟩:=owns_shape ho7
       have BC:Hid (Below w4.heap.size w4 w7):=BB.out.grown hg7 sB (fun kk hk=>(OB.out.lt kk hk).1)
       have FIN:Hid (RwN w4 w7 101 qc (j + 1) cc (K.take j ++ Y :: K.drop j)):=by
        have ho7':w7.ownsRow w4.heap.size 101 2 (.slice qc (j + 1) cc) (j + 1) (fl2 (vs.take j ++ (Value.slice q5 m5 g5,Value.slice q6 m6 g6) :: vs.drop j)):=by
         have e:fl2 (vs.take j ++ (Value.slice q5 m5 g5,Value.slice q6 m6 g6) :: vs.drop j) = fl2 (vs.take j) ++ [Value.slice q5 m5 g5,Value.slice q6 m6 g6] ++ fl2 (vs.drop j):=by
          rw [fl2_append,List.append_assoc];rfl
         rw [e]
         try rw [← HUS.out]
         first | exact ho7 | simpa [fl2] using ho7
        have hvl:=VS.out.len
        refine ⟨BC.out,by rw [List.length_append,List.length_cons,List.length_take,List.length_drop,HLEN.out];omega,_,ho7',?_⟩
        intro i k' hi
        have hkl:=HLEN.out
        by_cases h1:i < j
        ·rw [List.getElem?_append_left (by rw [List.length_take];omega),List.getElem?_take,if_pos h1] at hi
         obtain ⟨u,hu⟩:∃ u,vs[i]? = some u:=⟨_,List.getElem?_eq_getElem (by omega)⟩
         obtain ⟨k2,hk2,hp⟩:=VK.out i u hu
         rw [hi] at hk2;cases hk2
         exact ⟨u,by rw [List.getElem?_append_left (by rw [List.length_take];omega),List.getElem?_take,if_pos h1];exact hu,hp⟩
        ·have lt1:(K.take j).length = j:=by rw [List.length_take];omega
         have lt2:(vs.take j).length = j:=by rw [List.length_take];omega
         by_cases h2:i = j
         ·subst h2
          rw [List.getElem?_append_right (by omega),lt1,Nat.sub_self,List.getElem?_cons_zero] at hi
          cases hi
          exact ⟨_,by rw [List.getElem?_append_right (by omega),lt2,Nat.sub_self,List.getElem?_cons_zero],q5,m5,g5,q6,m6,g6,rfl,Y5.out,Y6.out⟩
         ·obtain ⟨d,hd⟩:∃ d,i - j = d + 1:=⟨i - j - 1,by omega⟩
          rw [List.getElem?_append_right (by omega),lt1,hd,List.getElem?_cons_succ,List.getElem?_drop] at hi
          obtain ⟨u,hu⟩:∃ u,vs[j + d]? = some u:=by
           have:=(List.getElem?_eq_some_iff.1 hi).1
           exact ⟨_,List.getElem?_eq_getElem (by omega)⟩
          obtain ⟨k2,hk2,hp⟩:=VK.out (j + d) u hu
          rw [hi] at hk2;cases hk2
          exact ⟨u,by rw [List.getElem?_append_right (by omega),lt2,hd,List.getElem?_cons_succ,List.getElem?_drop];exact hu,hp⟩
       have BF:Hid (Below w.heap.size w w7):=bl B4.out BC.out B4.out.size
       clear ho7 hg7
       go_wp2
       go_ret
       refine ⟨qc,_,cc,?_,rfl,by rw [HRES.out];exact FIN.out.rwS,BF.out,.inr ⟨w4,B4.out.size,by rw [HRES.out];exact FIN.out⟩⟩
       rw [HRES.out,List.length_append,List.length_cons,List.length_take,List.length_drop,HLEN.out];omega
theorem Insert_any (wd t:Nat) (pk:Option Addr) (nk ck:Nat) (K:List Rw) (p1 p2:Option Addr) (n1 c1 n2 c2:Nat) (x:Rw) (w:World) (hK:RwS w pk nk ck K) (s1:Sl B8 w p1 n1 c1 x.1) (s2:Sl B8 w p2 n2 c2 x.2)
  (hfit:∀ k,k ∈ K→Fit wd t k∧Led k) (hx:Fit wd t x) (hr1:Room wd) (hr2:Room t) (hnk:nk≤65535) :
  Calls Tryz.prog 87 #[.slice pk nk ck,.agg #[.slice p1 n1 c1,.slice p2 n2 c2]] w (RetK w (insF K x)) :=
 (Insert_own wd t pk nk ck K p1 p2 n1 c1 n2 c2 x w hK s1 s2 hfit hx hr1 hr2 hnk).mono fun _ _ ⟨q,n,c,h1,h2,h3,h4,_⟩=>⟨q,n,c,h1,h2,h3,h4⟩
end Go.Proofs.YtccaiiigdfieoaaGreatDoor
namespace Go.By
open Go.RowKit
theorem one_cell' {w:World} {v:Value} {T g:Nat} (hg:g = w.heap.size):∀ (j:Nat) (u:Value),[v][j]? = some u→(w.alloc (.cells #[v] T)).cell? ((⟨g,0,none⟩:Addr).add j) = some u:=by
 intro j u hj
 rw [Addr.add_lit,Nat.zero_add,cell_of_row _ _ j _ _ _ (hnew hg)]
 match j with
 | 0=>simpa using hj
 | j + 1=>simp at hj
end Go.By
namespace Go.Proofs.YtccaiiigdfieoaaGreatDoor
open Go.RowKit Go.By
end Go.Proofs.YtccaiiigdfieoaaGreatDoor
namespace Go.Proofs.YtccaiiigdfieoaaGreatDoor
open Go.RowKit Go.By
def iK (rows:List (List UInt8)):List Rw:=rows.foldl (fun K r=>insF K (r,[])) []
theorem iK_snoc (rows:List (List UInt8)) (r:List UInt8):iK (rows ++ [r]) = insF (iK rows) (r,[]):=by unfold iK;rw [List.foldl_append];rfl
theorem iK_take {rows:List (List UInt8)} {k:Nat} {r:List UInt8} (h:rows[k]? = some r):iK (rows.take (k + 1)) = insF (iK (rows.take k)) (r,[]):=by
 have e:rows.take (k + 1) = rows.take k ++ [r]:=by rw [List.take_add_one,h];rfl
 rw [e,iK_snoc]
theorem insF_len (K:List Rw) (x:Rw):(insF K x).length≤K.length + 1:=by rw [(ins_perm K x).length_eq];exact keepF_len K x
theorem iK_len (rows:List (List UInt8)):∀ k,(iK (rows.take k)).length≤k
 | 0=>by simp [iK]
 | k + 1=>by
  by_cases h:k < rows.length
  ·rw [iK_take (List.getElem?_eq_getElem h)];exact Nat.le_trans (insF_len _ _) (Nat.succ_le_succ (iK_len rows k))
  ·have e:rows.take (k + 1) = rows.take k:=by rw [List.take_of_length_le (by omega),List.take_of_length_le (by omega)]
   rw [e];exact Nat.le_succ_of_le (iK_len rows k)
theorem iK_kept {wd:Nat} {rows:List (List UInt8)} (hl:∀ r,r ∈ rows→r.length = wd):∀ k,KeptS wd 0 (iK (rows.take k))
 | 0=>by simpa [iK] using KeptS.nil wd 0
 | k + 1=>by
  by_cases h:k < rows.length
  ·rw [iK_take (List.getElem?_eq_getElem h)];exact (iK_kept hl k).step ⟨hl _ (List.getElem_mem h),rfl⟩
  ·have e:rows.take (k + 1) = rows.take k:=by rw [List.take_of_length_le (by omega),List.take_of_length_le (by omega)]
   rw [e];exact iK_kept hl k
set_option maxRecDepth 100000 in
set_option maxHeartbeats 4000000 in
theorem RRank_any (wd:Nat) (p:Option Addr) (m c:Nat) (rows:List (List UInt8)) (w:World) (h:Sl2 w p m c rows) (hall:∀ x,x ∈ rows→x.length = wd) (hw:Room wd) (hm:m≤65535) :
  Calls Tryz.prog 147 #[.slice p m c] w fun e w'=>e = .returned (.int .i64 (iK rows).length)∧Below w.heap.size w w':=by
 have HKK:Hid (∀ k,KeptS wd 0 (iK (rows.take k))):=iK_kept hall
 have HALL:=Lib.hid hall;have HW:=Lib.hid hw;have HLEN:=Lib.hid h.len;have H:=Lib.hid h
 clear h hall hw
 go_enter Tryz.func147,Tryz.ntmps147
 go_wp2
 go_loopw [3,8] (fun l i wr=>∃ (k nk:Nat) (qk:Option Addr) (ck:Nat),k≤m∧nk≤k∧i = .int .i64 k∧l = .slice qk nk ck∧Hid (RwS wr qk nk ck (iK (rows.take k)))∧Hid (Below w.heap.size w wr)) (fun _ i _=>m - (intOf i).toNat)
 case atStart=>exact ⟨0,0,none,0,Nat.zero_le _,Nat.zero_le _,rfl,rfl,Lib.hid (by simpa [iK] using RwS.nil0 w),Below.refl _ _⟩
 case round =>
  obtain ⟨k,nk,qk,ck,hk,hnk,rfl,rfl,hK,hB⟩:=hrel
  by_cases hlt:k < m
  ·have kn:(k:Int) < (m:Int):=by omega
   obtain ⟨b,o,q,mx,cx,row,rfl,hc,hs,hx⟩:=H.out.at k hlt
   have hcw:=(hB.out.cell (p:=⟨b,o + k,none⟩) (lt_of_cell hc)).trans hc
   have HS:Hid (Sl B8 wr q mx cx row):=hs.keep hB.out
   have HX:Hid (iK (rows.take (k + 1)) = insF (iK (rows.take k)) (row,[])):=iK_take hx.out
   have hfit:=Lib.hid (HKK.out k)
   have hrow:Hid (row.length = wd):=HALL.out row (List.mem_of_getElem? hx.out)
   have hln:=Lib.hid (iK_len rows (k + 1))
   clear hc hs hx
   go_wp2_with fail
   refine Calls.mono (Insert_any wd 0 qk nk ck (iK (rows.take k)) q none mx cx 0 0 (row,[]) wr hK.out HS.out (Sl.nil0 _ _) hfit.out.rows ⟨hrow.out,rfl⟩ HW.out (by unfold Room;omega) (by omega)) ?_
   rintro e w2 ⟨q2,n2,c2,hn2,rfl,hK2,hb2⟩
   have P2:Hid (RwS w2 q2 n2 c2 (iK (rows.take (k + 1)))∧Below w.heap.size w w2):=⟨by rw [HX.out];exact hK2,bl hB.out hb2 hB.out.size⟩
   have hle:n2≤k + 1:=by rw [hn2,← HX.out];exact hln.out
   clear hK2 hb2 hcw hK hB HX hn2
   go_wp2
   go_roundw
   case rel=>exact ⟨k + 1,n2,q2,c2,by omega,hle,by go_num,rfl,P2.out.1,P2.out.2⟩
   case measure=>simp [intOf];omega
  ·have hkm:k = m:=by omega
   have hge:(m:Int)≤(k:Int):=by omega
   have hz:rows.take k = rows:=List.take_of_length_le (by rw [HLEN.out,hkm];exact Nat.le_refl _)
   have HL:Hid ((iK rows).length = nk):=by have:=hK.out.len;rw [hz] at this;exact this
   have BF:=Lib.hid hB.out
   clear hK hB hz hkm
   go_wp2
   go_ret
   exact ⟨by rw [HL.out];rfl,BF.out⟩
end Go.Proofs.YtccaiiigdfieoaaGreatDoor
namespace Gf
def skip (i k:Nat):Nat:=if k < i then k else k + 1
end Gf
namespace Go.Proofs.YtccaiiigdfieoaaGreatDoor
open Go.By Gf
def updF (F:Nat→Rw) (i:Nat) (r:Rw):Nat→Rw:=fun k=>if k = i then r else F k
theorem updF_same (F:Nat→Rw) (i:Nat) (r:Rw):updF F i r i = r:=by simp [updF]
theorem updF_ne (F:Nat→Rw) {i k:Nat} (r:Rw) (h:k≠i):updF F i r k = F k:=by simp [updF,h]
end Go.Proofs.YtccaiiigdfieoaaGreatDoor
namespace Go.Proofs.YtccaiiigdfieoaaGreatDoor
open Go.RowKit Go.By
set_option maxHeartbeats 400000 in
theorem IndexRow_any (f:Rw→Bool) (g:Nat) (lb:Array Value) (eg:Enters Tryz.prog g) (p:Option Addr) (n c:Nat) (K:List Rw) (w:World) (h:RwS w p n c K)
  (hf:∀ (W:World) (q1 q2:Option Addr) (m1 c1 m2 c2:Nat) (x:Rw),Below w.heap.size w W→Sl B8 W q1 m1 c1 x.1→Calls Tryz.prog g (#[.agg #[.slice q1 m1 c1,.slice q2 m2 c2]] ++ lb) W fun e w'=>e = .returned (.bool (f x))∧Below W.heap.size W w') :
  Calls Tryz.prog 166 #[.slice p n c,.func (.func g) #[] lb] w fun e w'=>e = .returned (.int .i64 (idxf f K))∧Below w.heap.size w w':=by
 have hn:=Nat.le_trans h.le h.max
 unfold maxLen at hn
 have H:=Lib.hid h;clear h
 have HF:=Lib.hid hf;clear hf
 have eg':∀ args w,(callFunc g args).run Tryz.prog w = .ok (.enter g args) w:=eg
 clear eg
 go_enter Tryz.func166,Tryz.ntmps166
 go_wp2
 go_loopw [8] (fun i wr=>∃ k:Nat,k≤n∧i = .int .i64 k∧Hid (∀ j y,j < k→K[j]? = some y→f y = false)∧Hid (Below w.heap.size w wr)) (fun i _=>n - (intOf i).toNat)
 case atStart=>exact ⟨0,Nat.zero_le _,rfl,fun j y hj=>by omega,Below.refl _ _⟩
 case round =>
  obtain ⟨k,hk,rfl,hr,hB⟩:=hrel
  by_cases hlt:k < n
  ·obtain ⟨x,hx⟩:∃ x,K[k]? = some x:=⟨_,List.getElem?_eq_getElem (by rw [H.out.len];exact hlt)⟩
   obtain ⟨b,o,q1,m1,c1,q2,m2,c2,rfl,h1,h2,h3,-⟩:=H.out.row k x hx
   have d1:=(hB.out.cell (p:=⟨b,o + k * 2,none⟩) (lt_of_cell h1)).trans h1
   have d2:=(hB.out.cell (p:=⟨b,o + k * 2 + 1,none⟩) (lt_of_cell h2)).trans h2
   have HX:=Lib.hid hx
   have HS:Hid (Sl B8 wr q1 m1 c1 x.1):=h3.keep hB.out
   have kn:(k:Int) < (n:Int):=by omega
   clear h1 h2 h3 hx
   cases hfx:f x with
   | false =>
    have HQ:=Lib.hid hfx;clear hfx
    go_wp2_with fail
    refine (HF.out wr q1 q2 m1 c1 m2 c2 x hB.out HS.out).mono ?_;rintro e w2 ⟨rfl,hb2⟩
    have B2:Hid (Below w.heap.size w w2):=bl hB.out hb2 hB.out.size
    rw [HQ.out]
    clear hb2 d1 d2 hB HS
    go_wp2
    go_roundw
    case rel =>
     refine ⟨k + 1,by omega,by go_num,fun j y hj hy=>?_,B2.out⟩
     by_cases e:j = k
     ·subst e;have:=HX.out.symm.trans hy;cases this;exact HQ.out
     ·exact hr.out j y (by omega) hy
    case measure=>simp [intOf];omega
   | true =>
    have HQ:=Lib.hid hfx;clear hfx
    go_wp2_with fail
    refine (HF.out wr q1 q2 m1 c1 m2 c2 x hB.out HS.out).mono ?_;rintro e w2 ⟨rfl,hb2⟩
    have B2:Hid (Below w.heap.size w w2):=bl hB.out hb2 hB.out.size
    rw [HQ.out]
    clear hb2 d1 d2 hB HS
    go_wp2
    go_ret
    exact ⟨by rw [idxf_found HX.out HQ.out hr.out];rfl,B2.out⟩
  ·go_wp2
   go_ret
   exact ⟨by rw [idxf_none (k:=k) (by have:=H.out.len;omega) hr.out];rfl,hB.out⟩
end Go.Proofs.YtccaiiigdfieoaaGreatDoor
namespace Go.Proofs.YtccaiiigdfieoaaGreatDoor
open Go.RowKit Go.By
end Go.Proofs.YtccaiiigdfieoaaGreatDoor
namespace Go.Proofs.YtccaiiigdfieoaaGreatDoor
open Go.By Gf
def vR (r:Rw):V:=vf (cat r)
structure Red (n t:Nat) (K:List Rw):Prop where
 kept:KeptS n t K
 red:K.Pairwise (fun a b=>vR a (leadN b) = 0)
theorem Red.nil (n t:Nat):Red n t []:=⟨KeptS.nil n t,List.Pairwise.nil⟩
theorem KeptS.tail {n t:Nat} {k:Rw} {K:List Rw} (h:KeptS n t (k :: K)):KeptS n t K:=⟨fun a ha=>h.rows a (by simp [ha]),(List.pairwise_cons.1 h.sorted).2⟩
theorem Red.tail {n t:Nat} {k:Rw} {K:List Rw} (h:Red n t (k :: K)):Red n t K:=⟨h.kept.tail,(List.pairwise_cons.1 h.red).2⟩
theorem vR_lead {n t:Nat} {r:Rw} (hf:Fit n t r) (hl:Led r):vR r (leadN r) = 1:=vf_lead hl.at hf
theorem coords_red {n t:Nat}:∀ {K:List Rw} {v:V},Red n t K→Sp (K.map vR) v→v = comb (K.map fun k=>v (leadN k)) (K.map vR)
 | [],v,_,⟨c,hc,e⟩=>by rw [e];funext j;rw [List.map_nil,comb_nil,List.map_nil,comb_nil]
 | k :: K,v,h,⟨c,hc,e⟩=>by
  cases c with
  | nil=>simp at hc
  | cons x c =>
   obtain ⟨hf,hl⟩:=h.kept.rows k (by simp)
   have hs:=(List.pairwise_cons.1 h.kept.sorted).1
   have hr:=(List.pairwise_cons.1 h.red).1
   have hu:Sp (K.map vR) (comb c (K.map vR)):=⟨c,by simpa using hc,rfl⟩
   have hv:∀ j,v j = gmul x (vR k j) ^^^ comb c (K.map vR) j:=fun j=>by rw [e,List.map_cons,comb_cons]
   have h0:comb c (K.map vR) (leadN k) = 0:=hu.at_zero fun a ha=>by
    obtain ⟨b,hb,rfl⟩:=List.mem_map.1 ha
    exact vf_before (h.kept.rows b (by simp [hb])).1 (h.kept.rows b (by simp [hb])).2 (hs b hb)
   have hx:v (leadN k) = x:=by rw [hv,vR_lead hf hl,gmul_one,h0,xor_zero]
   have hc2:(K.map fun b=>v (leadN b)) = K.map fun b=>comb c (K.map vR) (leadN b):=List.map_congr_left fun b hb=>by
    rw [hv,hr b hb,gmul_zero,zero_xor]
   have ih:=coords_red h.tail hu
   funext j
   rw [List.map_cons,List.map_cons,comb_cons,hx,hc2,← ih,hv]
theorem comb_map_zero {α:Type} (f:α→UInt8) (g:α→V) (j:Nat):∀ (K:List α),(∀ k,k ∈ K→gmul (f k) (g k j) = 0)→comb (K.map f) (K.map g) j = 0
 | [],_=>by rw [List.map_nil,comb_nil']
 | k :: K,h=>by rw [List.map_cons,List.map_cons,comb_cons,h k (by simp),comb_map_zero f g j K (fun a ha=>h a (by simp [ha])),xor_self]
theorem lead_red {n t l:Nat} {K:List Rw} {v:V} (h:Red n t K) (hv:Sp (K.map vR) v) (h0:∀ j,j < l→v j = 0) (h1:v l≠0):∃ k,k ∈ K∧leadN k = l:=by
 apply Classical.byContradiction
 intro hn
 refine h1 ?_
 rw [coords_red h hv]
 refine comb_map_zero _ _ _ K fun k hk=>?_
 rcases Nat.lt_trichotomy (leadN k) l with g | g | g
 ·rw [h0 _ g,zero_gmul]
 ·exact absurd ⟨k,hk,g⟩ hn
 ·rw [show vR k l = 0 from vf_before (h.kept.rows k hk).1 (h.kept.rows k hk).2 g,gmul_zero]
theorem sorted_ext:∀ {l m:List Nat},l.Pairwise (· < ·)→m.Pairwise (· < ·)→(∀ x,x ∈ l↔x ∈ m)→l = m
 | [],m,_,_,h=>by
  cases m with
  | nil=>rfl
  | cons b m=>exact absurd ((h b).2 (by simp)) (by simp)
 | a :: l,[],_,_,h=>absurd ((h a).1 (by simp)) (by simp)
 | a :: l,b :: m,h1,h2,h=>by
  obtain ⟨g1,g2⟩:=List.pairwise_cons.1 h1
  obtain ⟨k1,k2⟩:=List.pairwise_cons.1 h2
  have e:a = b:=by
   rcases List.mem_cons.1 ((h a).1 (by simp)) with e | e
   ·exact e
   ·rcases List.mem_cons.1 ((h b).2 (by simp)) with e' | e'
    ·exact e'.symm
    ·exact absurd (g1 b e') (by have:=k1 a e;omega)
  subst e
  rw [sorted_ext g2 k2 fun x=>⟨fun hx=>by
   rcases List.mem_cons.1 ((h x).1 (by simp [hx])) with e | e
   ·subst e;exact absurd (g1 x hx) (Nat.lt_irrefl x)
   ·exact e,fun hx=>by
   rcases List.mem_cons.1 ((h x).2 (by simp [hx])) with e | e
   ·subst e;exact absurd (k1 x hx) (Nat.lt_irrefl x)
   ·exact e⟩]
theorem Red.leads {n t:Nat} {K:List Rw} (h:Red n t K):(K.map leadN).Pairwise (· < ·):=List.pairwise_map.2 h.kept.sorted
theorem Red.delta {n t i j:Nat} {K:List Rw} {a b:Rw} (h:Red n t K) (ha:K[i]? = some a) (hb:K[j]? = some b):vR a (leadN b) = if i = j then 1 else 0:=by
 have ma:=h.kept.rows a (List.mem_of_getElem? ha)
 obtain ⟨hi,ea⟩:=List.getElem?_eq_some_iff.1 ha
 obtain ⟨hj,eb⟩:=List.getElem?_eq_some_iff.1 hb
 rcases Nat.lt_trichotomy i j with g | g | g
 ·rw [if_neg (by omega)]
  have:=List.pairwise_iff_getElem.1 h.red i j hi hj g
  rwa [ea,eb] at this
 ·subst g;rw [ha] at hb;cases hb
  rw [if_pos rfl];exact vR_lead ma.1 ma.2
 ·rw [if_neg (by omega)]
  have:=List.pairwise_iff_getElem.1 h.kept.sorted j i hj hi g
  rw [ea,eb] at this
  exact vf_before ma.1 ma.2 this
theorem Red.unique {n t:Nat} {K M:List Rw} (h:Red n t K) (g:Red n t M) (h1:∀ k,k ∈ K→Sp (M.map vR) (vR k)) (h2:∀ k,k ∈ M→Sp (K.map vR) (vR k)):K = M:=by
 have key:∀ {A B:List Rw},Red n t A→Red n t B→(∀ k,k ∈ A→Sp (B.map vR) (vR k))→∀ x,x ∈ A.map leadN→x ∈ B.map leadN:=by
  intro A B hA hB hs x hx
  obtain ⟨a,ha,rfl⟩:=List.mem_map.1 hx
  obtain ⟨hf,hl⟩:=hA.kept.rows a ha
  obtain ⟨b,hb,e⟩:=lead_red hB (hs a ha) (l:=leadN a) (fun j hj=>vf_before hf hl hj) (by rw [vR_lead hf hl];decide)
  exact List.mem_map.2 ⟨b,hb,e⟩
 have hl:K.map leadN = M.map leadN:=sorted_ext h.leads g.leads fun x=>⟨key h g h1 x,key g h h2 x⟩
 have hlen:K.length = M.length:=by have:=congrArg List.length hl;simpa using this
 have lead_at:∀ {i:Nat} {a b:Rw},K[i]? = some a→M[i]? = some b→leadN a = leadN b:=by
  intro i a b ha hb
  have:=congrArg (fun l=>l[i]?) hl
  simp only [List.getElem?_map,ha,hb,Option.map_some] at this
  injection this
 apply List.ext_getElem?
 intro i
 by_cases hi:i < K.length
 ·have ha:K[i]? = some K[i]:=List.getElem?_eq_getElem hi
  have hb:M[i]? = some (M[i]'(by omega)):=List.getElem?_eq_getElem (by omega)
  rw [ha,hb]
  congr 1
  obtain ⟨f1,-⟩:=h.kept.rows _ (List.mem_of_getElem? ha)
  obtain ⟨f2,-⟩:=g.kept.rows _ (List.mem_of_getElem? hb)
  have e1:=coords_red h (v:=vR K[i]) (Sp.mem (List.mem_map.2 ⟨_,List.mem_of_getElem? ha,rfl⟩))
  have e2:=coords_red h (h2 _ (List.mem_of_getElem? hb))
  have e3:(K.map fun k=>vR K[i] (leadN k)) = K.map fun k=>vR (M[i]'(by omega)) (leadN k):=by
   apply List.map_congr_left
   intro k hk
   obtain ⟨j,hj,rfl⟩:=List.getElem_of_mem hk
   have hkj:K[j]? = some K[j]:=List.getElem?_eq_getElem hj
   have hmj:M[j]? = some (M[j]'(by omega)):=List.getElem?_eq_getElem (by omega)
   rw [h.delta ha hkj,lead_at hkj hmj,g.delta hb hmj]
  have ev:vR K[i] = vR (M[i]'(by omega)):=by rw [e1,e2,e3]
  have hc:cat K[i] = cat (M[i]'(by omega)):=vf_inj (by rw [f1.cat,f2.cat]) fun j _=>by
   have:=congrFun ev j;exact this
  have l1:(K[i]).1.length = ((M[i]'(by omega)):Rw).1.length:=by rw [f1.1,f2.1]
  unfold cat at hc
  obtain ⟨p1,p2⟩:=List.append_inj hc l1
  exact Prod.ext p1 p2
 ·rw [List.getElem?_eq_none (by omega),List.getElem?_eq_none (by omega)]
end Go.Proofs.YtccaiiigdfieoaaGreatDoor
namespace Go.Proofs.YtccaiiigdfieoaaGreatDoor
open Go.By Gf
theorem leadAt_of {n t l:Nat} {r:Rw} (hf:Fit n t r) (hl:l < n) (h1:vR r l = 1) (h0:∀ j,j < l→vR r j = 0):LeadAt r l:=by
 have hv:∀ j,j < n→∀ y,r.1[j]? = some y→vR r j = y:=fun j hj y hy=>by
  show vf (cat r) j = y
  rw [vf_at hf hj,at_of hy]
 have hx:r.1[l]? = some (r.1[l]'(by rw [hf.1];exact hl)):=List.getElem?_eq_getElem (by rw [hf.1];exact hl)
 have e1:r.1[l]'(by rw [hf.1];exact hl) = 1:=by rw [← hv l hl _ hx];exact h1
 rw [e1] at hx
 have hz:∀ (j:Nat) (y:UInt8),j < l→r.1[j]? = some y→y = 0:=fun j y hj hy=>by rw [← hv j (by omega) y hy];exact h0 j hj
 exact ⟨idxf_found hx (by decide) fun j y hj hy=>by rw [hz j y hj hy];rfl,hx,hz⟩
theorem vR_less {n t:Nat} {x o:Rw} (c:UInt8) (hx:Fit n t x) (ho:Fit n t o):vR (lessF x c o) = fun j=>vR x j ^^^ gmul c (vR o j):=by
 unfold vR;rw [cat_less c hx ho,vf_axpy (by rw [ho.cat,hx.cat])]
theorem vR_at {n t l:Nat} {x:Rw} (hx:Fit n t x) (hl:l < n):atS x.1 (l:Int) = vR x l:=(vf_at hx hl).symm
theorem rest_norm {n t:Nat} {K:List Rw} {x:Rw} (h:KeptS n t K) (hx:Fit n t x) (hn:¬ leadS (restF K x).1 < 0) :
  ∃ l,LeadAt (normS (restF K x)) l∧Fit n t (normS (restF K x))∧(∀ k,k ∈ K→vR (normS (restF K x)) (leadN k) = 0)∧Sp (vR x :: K.map vR) (vR (normS (restF K x)))∧∃ d,Sp (K.map vR) (fun j=>vR x j ^^^ gmul d (vR (normS (restF K x)) j)):=by
 have hr:=hx.rest (fun k hk=>(h.rows k hk).1)
 have hred:=rest_red h.rows hx
 have hspan:=red_span (tri K) (vf (cat x))
 rw [tri_fst] at hspan
 obtain ⟨l,c,hc,hl,hL,hF,hv⟩:=norm_row hr hn
 refine ⟨l,hL,hF,fun k hk=>?_,?_,ginv c,?_⟩
 ·show vf (cat _) _ = 0
  rw [hv]
  show gmul c (vf (cat (restF K x)) (leadN k)) = 0
  rw [hred,red_at h.kept.tri (vf (cat k),leadN k) (List.mem_map.2 ⟨k,hk,rfl⟩),gmul_zero]
 ·show Sp _ (vf (cat _))
  rw [hv,hred]
  refine Sp.scale c ?_
  have e:red (tri K) (vf (cat x)) = fun j=>vf (cat x) j ^^^ (vf (cat x) j ^^^ red (tri K) (vf (cat x)) j):=by funext j;rw [← xor_assoc,xor_self,zero_xor]
  rw [e]
  exact Sp.add (Sp.mem (by simp [vR])) (hspan.cons _)
 ·have e:(fun j=>vR x j ^^^ gmul (ginv c) (vR (normS (restF K x)) j)) = fun j=>vf (cat x) j ^^^ red (tri K) (vf (cat x)) j:=by
   funext j
   show _ ^^^ gmul (ginv c) (vf (cat (normS (restF K x))) j) = _
   rw [hv,hred]
   show _ ^^^ gmul (ginv c) (gmul c _) = _
   rw [← gmul_assoc,ginv_gmul c hc,one_gmul];rfl
  rw [e];exact hspan
theorem ne_lead {n t l:Nat} {K:List Rw} {y:Rw} (hL:LeadAt y l) (hF:Fit n t y) (h0:∀ k,k ∈ K→vR y (leadN k) = 0):∀ k,k ∈ K→leadN k≠l:=fun k hk e=>by
 have h1:vR y l = 1:=vf_lead hL hF
 rw [← e,h0 k hk] at h1
 exact absurd h1 (by decide)
def putAt (M:List Rw) (y:Rw):List Rw:=M.takeWhile (fun r=>decide (leadS r.1≤leadS y.1)) ++ y :: M.dropWhile (fun r=>decide (leadS r.1≤leadS y.1))
theorem putAt_mem {M:List Rw} {y k:Rw}:k ∈ putAt M y↔k = y∨k ∈ M:=by
 unfold putAt
 rw [List.mem_append,List.mem_cons]
 conv=>rhs;rw [← List.takeWhile_append_dropWhile (p:=fun r:Rw=>decide (leadS r.1≤leadS y.1)) (l:=M),List.mem_append]
 constructor
 ·rintro (h | h | h)
  ·exact .inr (.inl h)
  ·exact .inl h
  ·exact .inr (.inr h)
 ·rintro (h | h | h)
  ·exact .inr (.inl h)
  ·exact .inl h
  ·exact .inr (.inr h)
theorem putAt_kept {n t l:Nat} {M:List Rw} {y:Rw} (h:KeptS n t M) (hL:LeadAt y l) (hF:Fit n t y) (hne:∀ k,k ∈ M→leadN k≠l):KeptS n t (putAt M y):=by
 refine ⟨fun k hk=>?_,?_⟩
 ·rcases putAt_mem.1 hk with rfl | hk
  ·exact ⟨hF,l,hL⟩
  ·exact h.rows k hk
 unfold putAt
 have hln:=leadN_of hL
 rw [hL.1]
 have hlead:∀ k,k ∈ M→leadS k.1 = (leadN k:Int):=fun k hk=>(h.rows k hk).2.at.1
 have hs:(M.takeWhile (fun r=>decide (leadS r.1≤(l:Int))) ++ M.dropWhile (fun r=>decide (leadS r.1≤(l:Int)))).Pairwise (fun a b=>leadN a < leadN b):=by
  rw [List.takeWhile_append_dropWhile];exact h.sorted
 have mT:∀ k,k ∈ M.takeWhile (fun r=>decide (leadS r.1≤(l:Int)))→leadN k < l:=by
  intro k hk
  have h1:=(List.takeWhile_sublist _).mem hk
  have:=mem_take hk
  rw [decide_eq_true_eq,hlead k h1] at this
  have:=hne k h1
  omega
 obtain ⟨h1,h2,h3⟩:=List.pairwise_append.1 hs
 have mD:∀ k,k ∈ M.dropWhile (fun r=>decide (leadS r.1≤(l:Int)))→l < leadN k:=by
  cases e:M.dropWhile (fun r=>decide (leadS r.1≤(l:Int))) with
  | nil=>intro k hk;simp at hk
  | cons a r =>
   have ha:a ∈ M:=(List.dropWhile_sublist _).mem (by rw [e];simp)
   have hd:=drop_head e
   rw [decide_eq_false_iff_not,hlead a ha] at hd
   have hla:l < leadN a:=by omega
   rw [e] at h2
   intro k hk
   rcases List.mem_cons.1 hk with rfl | hk
   ·exact hla
   ·exact Nat.lt_trans hla ((List.pairwise_cons.1 h2).1 k hk)
 refine List.pairwise_append.2 ⟨h1,List.pairwise_cons.2 ⟨fun k hk=>by rw [hln];exact mD k hk,h2⟩,?_⟩
 intro a ha b hb
 rcases List.mem_cons.1 hb with rfl | hb
 ·rw [hln];exact mT a ha
 ·exact h3 a ha b hb
def clrF (y r:Rw):Rw:=lessF r (atS r.1 (leadS y.1)) y
def putF (K:List Rw) (x:Rw):List Rw:=putAt (K.map (clrF (normS (restF K x)))) (normS (restF K x))
theorem clr_row {n t l:Nat} {y r:Rw} (hL:LeadAt y l) (hF:Fit n t y) (hr:Fit n t r) (hl:Led r) (h0:vR y (leadN r) = 0):Fit n t (clrF y r)∧LeadAt (clrF y r) (leadN r)∧vR (clrF y r) = (fun j=>vR r j ^^^ gmul (vR r l) (vR y j))∧vR (clrF y r) l = 0:=by
 have hln:=hL.lt hF
 have e:clrF y r = lessF r (vR r l) y:=by unfold clrF;rw [hL.1,vR_at hr hln]
 have hv:vR (clrF y r) = fun j=>vR r j ^^^ gmul (vR r l) (vR y j):=by rw [e,vR_less _ hr hF]
 have hf:Fit n t (clrF y r):=by rw [e];exact hr.less hF
 have y1:vR y l = 1:=vf_lead hL hF
 refine ⟨hf,leadAt_of hf (hl.at.lt hr) ?_ fun j hj=>?_,hv,?_⟩
 ·rw [hv];show _ ^^^ gmul _ (vR y (leadN r)) = 1
  rw [h0,gmul_zero,xor_zero];exact vR_lead hr hl
 ·rw [hv];show vR r j ^^^ gmul (vR r l) (vR y j) = 0
  rw [show vR r j = 0 from vf_before hr hl hj,zero_xor]
  rcases Nat.lt_or_ge l (leadN r) with g | g
  ·rw [show vR r l = 0 from vf_before hr hl g,zero_gmul]
  ·have hyL:Led y:=⟨l,hL⟩
   have:vR y j = 0:=vf_before hF hyL (by rw [leadN_of hL];omega)
   rw [this,gmul_zero]
 ·rw [hv];show vR r l ^^^ gmul (vR r l) (vR y l) = 0
  rw [y1,gmul_one,xor_self]
theorem putF_red {n t:Nat} {K:List Rw} {x:Rw} (h:Red n t K) (hx:Fit n t x) (hn:¬ leadS (restF K x).1 < 0) :
  Red n t (putF K x)∧(∀ k,k ∈ putF K x→Sp (vR x :: K.map vR) (vR k))∧(∀ k,k ∈ K→Sp ((putF K x).map vR) (vR k))∧Sp ((putF K x).map vR) (vR x)∧(putF K x).length = K.length + 1:=by
 obtain ⟨l,hL,hF,h0,hsp,d,hd⟩:=rest_norm h.kept hx hn
 have hne:=ne_lead hL hF h0
 have hclr:=fun r (hr:r ∈ K)=>clr_row hL hF (h.kept.rows r hr).1 (h.kept.rows r hr).2 (h0 r hr)
 obtain ⟨y,hy⟩:∃ y,y = normS (restF K x):=⟨_,rfl⟩
 unfold putF
 rw [← hy] at hL hF h0 hsp hd hclr ⊢
 have hlead:∀ r,r ∈ K→leadN (clrF y r) = leadN r:=fun r hr=>leadN_of (hclr r hr).2.1
 have hM:KeptS n t (K.map (clrF y)):=by
  refine ⟨fun k hk=>?_,List.pairwise_map.2 (h.kept.sorted.imp_of_mem fun {a b} ha hb hab=>by rw [hlead a ha,hlead b hb];exact hab)⟩
  obtain ⟨r,hr,rfl⟩:=List.mem_map.1 hk
  exact ⟨(hclr r hr).1,_,(hclr r hr).2.1⟩
 have hneM:∀ k,k ∈ K.map (clrF y)→leadN k≠l:=fun k hk=>by
  obtain ⟨r,hr,rfl⟩:=List.mem_map.1 hk
  rw [hlead r hr];exact hne r hr
 have hyM:∀ k,k ∈ K.map (clrF y)→vR y (leadN k) = 0∧vR k l = 0:=fun k hk=>by
  obtain ⟨r,hr,rfl⟩:=List.mem_map.1 hk
  rw [hlead r hr];exact ⟨h0 r hr,(hclr r hr).2.2.2⟩
 have hrM:(K.map (clrF y)).Pairwise (fun a b=>vR a (leadN b) = 0):=List.pairwise_map.2 (h.red.imp_of_mem fun {a b} ha hb hab=>by
  rw [hlead b hb,(hclr a ha).2.2.1]
  show vR a (leadN b) ^^^ gmul _ (vR y (leadN b)) = 0
  rw [hab,h0 b hb,gmul_zero,xor_self])
 have inP:∀ {k:Rw},k = y∨k ∈ K.map (clrF y)→Sp ((putAt (K.map (clrF y)) y).map vR) (vR k):=fun hk=>Sp.mem (List.mem_map.2 ⟨_,putAt_mem.2 hk,rfl⟩)
 have back:∀ k,k ∈ K→Sp ((putAt (K.map (clrF y)) y).map vR) (vR k):=fun k hk=>by
  have e:vR k = fun j=>vR (clrF y k) j ^^^ gmul (vR k l) (vR y j):=by
   funext j
   rw [(hclr k hk).2.2.1]
   show _ = (vR k j ^^^ gmul (vR k l) (vR y j)) ^^^ gmul (vR k l) (vR y j)
   rw [xor_cancel]
  rw [e]
  exact Sp.add (inP (.inr (List.mem_map.2 ⟨k,hk,rfl⟩))) (Sp.scale _ (inP (.inl rfl)))
 refine ⟨⟨putAt_kept hM hL hF hneM,?_⟩,fun k hk=>?_,back,?_,?_⟩
 ·unfold putAt
  have hs:=hrM
  rw [← List.takeWhile_append_dropWhile (p:=fun r:Rw=>decide (leadS r.1≤leadS y.1)) (l:=K.map (clrF y))] at hs
  obtain ⟨g1,g2,g3⟩:=List.pairwise_append.1 hs
  refine List.pairwise_append.2 ⟨g1,List.pairwise_cons.2 ⟨fun b hb=>(hyM b ((List.dropWhile_sublist _).mem hb)).1,g2⟩,fun a ha b hb=>?_⟩
  rcases List.mem_cons.1 hb with rfl | hb
  ·rw [leadN_of hL];exact (hyM a ((List.takeWhile_sublist _).mem ha)).2
  ·exact g3 a ha b hb
 ·rcases putAt_mem.1 hk with rfl | hk
  ·exact hsp
  ·obtain ⟨r,hr,rfl⟩:=List.mem_map.1 hk
   rw [(hclr r hr).2.2.1]
   exact Sp.add (Sp.mem (List.mem_cons_of_mem _ (List.mem_map.2 ⟨r,hr,rfl⟩))) (Sp.scale _ hsp)
 ·have e:vR x = fun j=>(vR x j ^^^ gmul d (vR y j)) ^^^ gmul d (vR y j):=by funext j;rw [xor_cancel]
  rw [e]
  refine Sp.add (Sp.trans (fun a ha=>?_) hd) (Sp.scale _ (inP (.inl rfl)))
  obtain ⟨k,hk,rfl⟩:=List.mem_map.1 ha
  exact back k hk
 ·unfold putAt
  rw [List.length_append,List.length_cons]
  have:=congrArg List.length (List.takeWhile_append_dropWhile (p:=fun r:Rw=>decide (leadS r.1≤leadS y.1)) (l:=K.map (clrF y)))
  rw [List.length_append,List.length_map] at this
  omega
theorem insF_span {n t:Nat} {K:List Rw} {x:Rw} (h:KeptS n t K) (hx:Fit n t x) (hn:¬ leadS (restF K x).1 < 0) :
  (∀ k,k ∈ insF K x→Sp (vR x :: K.map vR) (vR k))∧(∀ k,k ∈ K→Sp ((insF K x).map vR) (vR k))∧Sp ((insF K x).map vR) (vR x):=by
 obtain ⟨l,hL,hF,h0,hsp,d,hd⟩:=rest_norm h hx hn
 have hm:∀ k,k ∈ insF K x↔k ∈ K∨k = normS (restF K x):=fun k=>by
  rw [(ins_perm K x).mem_iff];unfold keepF;rw [if_neg hn,List.mem_append,List.mem_singleton]
 have inP:∀ {k:Rw},k ∈ K∨k = normS (restF K x)→Sp ((insF K x).map vR) (vR k):=fun hk=>Sp.mem (List.mem_map.2 ⟨_,(hm _).2 hk,rfl⟩)
 refine ⟨fun k hk=>?_,fun k hk=>inP (.inl hk),?_⟩
 ·rcases (hm k).1 hk with hk | rfl
  ·exact Sp.mem (List.mem_cons_of_mem _ (List.mem_map.2 ⟨k,hk,rfl⟩))
  ·exact hsp
 ·have e:vR x = fun j=>(vR x j ^^^ gmul d (vR (normS (restF K x)) j)) ^^^ gmul d (vR (normS (restF K x)) j):=by funext j;rw [xor_cancel]
  rw [e]
  refine Sp.add (Sp.trans (fun a ha=>?_) hd) (Sp.scale _ (inP (.inr rfl)))
  obtain ⟨k,hk,rfl⟩:=List.mem_map.1 ha
  exact inP (.inl hk)
end Go.Proofs.YtccaiiigdfieoaaGreatDoor
namespace Go.Proofs.YtccaiiigdfieoaaGreatDoor
open Go.By Gf
def stepB (F:Nat→Rw) (i k:Nat):Nat→Rw:=if k = i then F else updF F i (lessF (F i) (atS (F i).1 (leadS (F k).1)) (F k))
def rowB (i:Nat):Nat→(Nat→Rw)→(Nat→Rw)
 | 0,F=>F
 | k + 1,F=>stepB (rowB i k F) i k
def backB (m:Nat):Nat→(Nat→Rw)→(Nat→Rw)
 | 0,F=>F
 | i + 1,F=>rowB i m (backB m i F)
structure BI (n t m:Nat) (L:Nat→Nat) (W:List V) (F:Nat→Rw) (i k:Nat):Prop where
 good:∀ a,a < m→Fit n t (F a)∧LeadAt (F a) (L a)
 done:∀ a,a < i→a < m→∀ b,b < m→b≠a→vR (F a) (L b) = 0
 cur:∀ b,b < k→b < m→b≠i→vR (F i) (L b) = 0
 sp1:∀ a,a < m→Sp W (vR (F a))
 sp2:∀ v,v ∈ W→Sp ((List.range m).map fun a=>vR (F a)) v
theorem BI.led {n t m:Nat} {L:Nat→Nat} {W:List V} {F:Nat→Rw} {i k a:Nat} (h:BI n t m L W F i k) (ha:a < m):Fit n t (F a)∧Led (F a)∧leadN (F a) = L a :=
 ⟨(h.good a ha).1,⟨_,(h.good a ha).2⟩,leadN_of (h.good a ha).2⟩
theorem BI.step {n t m:Nat} {L:Nat→Nat} {W:List V} {F:Nat→Rw} {i k:Nat} (h:BI n t m L W F i k) (hL:∀ a b,a < b→b < m→L a < L b) (hi:i < m) (hk:k < m):BI n t m L W (stepB F i k) i (k + 1):=by
 unfold stepB
 by_cases hki:k = i
 ·rw [if_pos hki]
  exact ⟨h.good,h.done,fun b hb hbm hne=>h.cur b (by omega) hbm hne,h.sp1,h.sp2⟩
 ·rw [if_neg hki]
  obtain ⟨fi,li,ni⟩:=h.led hi
  obtain ⟨fk,lk,nk⟩:=h.led hk
  have hLk:L k < n:=(h.good k hk).2.lt fk
  have e:lessF (F i) (atS (F i).1 (leadS (F k).1)) (F k) = lessF (F i) (vR (F i) (L k)) (F k):=by rw [(h.good k hk).2.1,vR_at fi hLk]
  rw [e]
  obtain ⟨Y,hY⟩:∃ Y,Y = lessF (F i) (vR (F i) (L k)) (F k):=⟨_,rfl⟩
  rw [← hY]
  have hv:vR Y = fun j=>vR (F i) j ^^^ gmul (vR (F i) (L k)) (vR (F k) j):=by rw [hY,vR_less _ fi fk]
  have fY:Fit n t Y:=by rw [hY];exact fi.less fk
  have vk1:vR (F k) (L k) = 1:=by rw [← nk];exact vR_lead fk lk
  have kz:∀ j,j < L k→vR (F k) j = 0:=fun j hj=>vf_before fk lk (by rw [nk];exact hj)
  have iz:∀ j,j < L i→vR (F i) j = 0:=fun j hj=>vf_before fi li (by rw [ni];exact hj)
  have vi1:vR (F i) (L i) = 1:=by rw [← ni];exact vR_lead fi li
  -- up to where row i leads nothing turns
  have same:∀ j,j≤L i→vR Y j = vR (F i) j:=fun j hj=>by
   rw [hv]
   show vR (F i) j ^^^ gmul (vR (F i) (L k)) (vR (F k) j) = _
   rcases Nat.lt_or_ge k i with g | g
   ·rw [iz (L k) (hL k i g hi),zero_gmul,xor_zero]
   ·rw [kz j (by have:=hL i k (by omega) hk;omega),gmul_zero,xor_zero]
  have lY:LeadAt Y (L i):=leadAt_of fY ((h.good i hi).2.lt fi) (by rw [same _ (Nat.le_refl _)];exact vi1) fun j hj=>by rw [same j (by omega)];exact iz j hj
  have ui:updF F i Y i = Y:=updF_same F i Y
  have un:∀ a,a≠i→updF F i Y a = F a:=fun a ha=>updF_ne F Y ha
  refine ⟨fun a ha=>?_,fun a ha ham b hb hne=>?_,fun b hb hbm hne=>?_,fun a ha=>?_,fun v hvW=>?_⟩
  ·by_cases e:a = i
   ·subst e;rw [ui];exact ⟨fY,lY⟩
   ·rw [un a e];exact h.good a ha
  ·rw [un a (by omega)];exact h.done a ha ham b hb hne
  ·rw [ui,hv]
   show vR (F i) (L b) ^^^ gmul (vR (F i) (L k)) (vR (F k) (L b)) = 0
   by_cases e:b = k
   ·subst e;rw [vk1,gmul_one,xor_self]
   ·have hbk:b < k:=by omega
    rw [h.cur b hbk hbm hne,kz (L b) (hL b k hbk hk),gmul_zero,xor_self]
  ·by_cases e:a = i
   ·subst e;rw [ui,hv];exact Sp.add (h.sp1 a hi) (Sp.scale _ (h.sp1 k hk))
   ·rw [un a e];exact h.sp1 a ha
  ·refine Sp.trans (fun u hu=>?_) (h.sp2 v hvW)
   obtain ⟨a,ha,rfl⟩:=List.mem_map.1 hu
   have ham:=List.mem_range.1 ha
   have mem:∀ c,c < m→Sp ((List.range m).map fun a=>vR (updF F i Y a)) (vR (updF F i Y c)):=fun c hc=>Sp.mem (List.mem_map.2 ⟨c,List.mem_range.2 hc,rfl⟩)
   by_cases e:a = i
   ·subst e
    have e2:vR (F a) = fun j=>vR Y j ^^^ gmul (vR (F a) (L k)) (vR (F k) j):=by
     funext j;rw [hv];show _ = (vR (F a) j ^^^ _) ^^^ _;rw [xor_cancel]
    show Sp _ (vR (F a))
    rw [e2]
    have m1:=mem a hi;rw [ui] at m1
    have m2:=mem k hk;rw [un k hki] at m2
    exact Sp.add m1 (Sp.scale _ m2)
   ·have m1:=mem a ham;rw [un a e] at m1;exact m1
theorem BI.row {n t m:Nat} {L:Nat→Nat} {W:List V} {F:Nat→Rw} {i:Nat} (h:BI n t m L W F i 0) (hL:∀ a b,a < b→b < m→L a < L b) (hi:i < m):∀ k,k≤m→BI n t m L W (rowB i k F) i k
 | 0,_=>h
 | k + 1,hk=>(BI.row h hL hi k (by omega)).step hL hi (by omega)
theorem BI.next {n t m:Nat} {L:Nat→Nat} {W:List V} {F:Nat→Rw} {i:Nat} (h:BI n t m L W F i m):BI n t m L W F (i + 1) 0 :=
 ⟨h.good,fun a ha ham b hb hne=>by
  by_cases e:a = i
  ·subst e;exact h.cur b hb hb hne
  ·exact h.done a (by omega) ham b hb hne,fun b hb=>by omega,h.sp1,h.sp2⟩
theorem BI.all {n t m:Nat} {L:Nat→Nat} {W:List V} {F:Nat→Rw} (h:BI n t m L W F 0 0) (hL:∀ a b,a < b→b < m→L a < L b):∀ i,i≤m→BI n t m L W (backB m i F) i 0
 | 0,_=>h
 | i + 1,hi=>((BI.all h hL i (by omega)).row hL (by omega) m (Nat.le_refl m)).next
theorem BI.red {n t m:Nat} {L:Nat→Nat} {W:List V} {F:Nat→Rw} (h:BI n t m L W F m 0) (hL:∀ a b,a < b→b < m→L a < L b):Red n t ((List.range m).map F):=by
 refine ⟨⟨fun k hk=>?_,?_⟩,?_⟩
 ·obtain ⟨a,ha,rfl⟩:=List.mem_map.1 hk
  exact ⟨(h.led (List.mem_range.1 ha)).1,(h.led (List.mem_range.1 ha)).2.1⟩
 ·refine List.pairwise_map.2 (List.pairwise_iff_getElem.2 fun i j hi hj hij=>?_)
  simp only [List.length_range] at hi hj
  simp only [List.getElem_range]
  rw [(h.led hi).2.2,(h.led hj).2.2];exact hL i j hij hj
 ·refine List.pairwise_map.2 (List.pairwise_iff_getElem.2 fun i j hi hj hij=>?_)
  simp only [List.length_range] at hi hj
  simp only [List.getElem_range]
  rw [(h.led hj).2.2];exact h.done i hi hi j hj (by omega)
def listF (K:List Rw):Nat→Rw:=fun i=>K.getD i ([],[])
theorem listF_map (K:List Rw):(List.range K.length).map (listF K) = K:=by
 apply List.ext_getElem?
 intro i
 by_cases hi:i < K.length
 ·rw [List.getElem?_map,List.getElem?_range hi,List.getElem?_eq_getElem hi]
  simp [listF,hi]
 ·rw [List.getElem?_eq_none (by simpa using hi),List.getElem?_eq_none (by omega)]
def redL (K:List Rw):List Rw:=(List.range K.length).map (backB K.length K.length (listF K))
theorem redL_red {n t:Nat} {K:List Rw} (h:KeptS n t K):Red n t (redL K)∧(∀ k,k ∈ redL K→Sp (K.map vR) (vR k))∧(∀ k,k ∈ K→Sp ((redL K).map vR) (vR k))∧(redL K).map leadN = K.map leadN:=by
 have hat:∀ a,a < K.length→listF K a ∈ K:=fun a ha=>by
  have:listF K a = K[a]:=by simp [listF,ha]
  rw [this];exact List.getElem_mem ha
 have hL:∀ a b,a < b→b < K.length→leadN (listF K a) < leadN (listF K b):=fun a b hab hb=>by
  have e1:listF K a = K[a]:=by simp [listF,show a < K.length by omega]
  have e2:listF K b = K[b]:=by simp [listF,hb]
  rw [e1,e2];exact List.pairwise_iff_getElem.1 h.sorted a b (by omega) hb hab
 have h0:BI n t K.length (fun a=>leadN (listF K a)) (K.map vR) (listF K) 0 0:=by
  refine ⟨fun a ha=>⟨(h.rows _ (hat a ha)).1,(h.rows _ (hat a ha)).2.at⟩,fun a ha=>by omega,fun b hb=>by omega,fun a ha=>Sp.mem (List.mem_map.2 ⟨_,hat a ha,rfl⟩),fun v hv=>?_⟩
  have e:((List.range K.length).map fun a=>vR (listF K a)) = K.map vR:=by
   conv=>rhs;rw [← listF_map K]
   rw [List.map_map];rfl
  rw [e];exact Sp.mem hv
 have hA:=h0.all hL K.length (Nat.le_refl _)
 refine ⟨hA.red hL,fun k hk=>?_,fun k hk=>?_,?_⟩
 ·obtain ⟨a,ha,rfl⟩:=List.mem_map.1 hk
  exact hA.sp1 a (List.mem_range.1 ha)
 ·have:=hA.sp2 (vR k) (List.mem_map.2 ⟨k,hk,rfl⟩)
  unfold redL
  rw [List.map_map];exact this
 ·conv=>rhs;rw [← listF_map K]
  unfold redL
  rw [List.map_map,List.map_map]
  apply List.map_congr_left
  intro a ha
  exact (hA.led (List.mem_range.1 ha)).2.2
theorem rest_same {n t:Nat} {K M:List Rw} {x:Rw} (h:KeptS n t K) (g:Red n t M) (hx:Fit n t x) (h1:∀ k,k ∈ K→Sp (M.map vR) (vR k)) (hl:M.map leadN = K.map leadN):restF K x = restF M x:=by
 have fK:=hx.rest (fun k hk=>(h.rows k hk).1)
 have fM:=hx.rest (fun k hk=>(g.kept.rows k hk).1)
 have rK:vR (restF K x) = red (tri K) (vR x):=rest_red h.rows hx
 have rM:vR (restF M x) = red (tri M) (vR x):=rest_red g.kept.rows hx
 have s1:=red_span (tri K) (vR x)
 have s2:=red_span (tri M) (vR x)
 rw [tri_fst] at s1 s2
 have hD:Sp (M.map vR) (fun j=>vR (restF K x) j ^^^ vR (restF M x) j):=by
  have e:(fun j=>vR (restF K x) j ^^^ vR (restF M x) j) = fun j=>(vR x j ^^^ red (tri K) (vR x) j) ^^^ (vR x j ^^^ red (tri M) (vR x) j):=by
   funext j;rw [rK,rM,xor4,xor_self,zero_xor]
  rw [e]
  exact Sp.add (Sp.trans (fun a ha=>by obtain ⟨k,hk,rfl⟩:=List.mem_map.1 ha;exact h1 k hk) s1) s2
 have hz:∀ k,k ∈ M→vR (restF K x) (leadN k) ^^^ vR (restF M x) (leadN k) = 0:=fun k hk=>by
  have m1:leadN k ∈ K.map leadN:=by rw [← hl];exact List.mem_map.2 ⟨k,hk,rfl⟩
  obtain ⟨k',hk',e⟩:=List.mem_map.1 m1
  rw [rK,rM]
  rw [red_at g.kept.kept.tri (vf (cat k),leadN k) (List.mem_map.2 ⟨k,hk,rfl⟩)]
  rw [← e,red_at h.kept.tri (vf (cat k'),leadN k') (List.mem_map.2 ⟨k',hk',rfl⟩),xor_self]
 have hzero:∀ j,vR (restF K x) j ^^^ vR (restF M x) j = 0:=fun j=>by
  have:=congrFun (coords_red g hD) j
  rw [this]
  exact comb_map_zero _ _ j M fun k hk=>by rw [hz k hk,zero_gmul]
 have hc:cat (restF K x) = cat (restF M x):=vf_inj (by rw [fK.cat,fM.cat]) fun j _=>xor_eq_zero (hzero j)
 unfold cat at hc
 obtain ⟨p1,p2⟩:=List.append_inj hc (by rw [fK.1,fM.1])
 exact Prod.ext p1 p2
structure Sys (n t:Nat) (K0 K:List Rw):Prop where
 kept:KeptS n t K0
 same:K = redL K0
theorem Sys.nil (n t:Nat):Sys n t [] []:=⟨KeptS.nil n t,rfl⟩
theorem Sys.red {n t:Nat} {K0 K:List Rw} (h:Sys n t K0 K):Red n t K:=by rw [h.same];exact (redL_red h.kept).1
theorem Sys.rest {n t:Nat} {K0 K:List Rw} {x:Rw} (h:Sys n t K0 K) (hx:Fit n t x):restF K0 x = restF K x:=by
 obtain ⟨r1,r2,r3,r4⟩:=redL_red h.kept
 rw [h.same];exact rest_same h.kept r1 hx r3 r4
theorem Sys.put {n t:Nat} {K0 K:List Rw} {x:Rw} (h:Sys n t K0 K) (hx:Fit n t x) (hn:¬ leadS (restF K x).1 < 0):Sys n t (insF K0 x) (putF K x):=by
 have hn0:¬ leadS (restF K0 x).1 < 0:=by rw [h.rest hx];exact hn
 have hk0:=h.kept.step hx
 obtain ⟨r1,r2,r3,r4⟩:=redL_red h.kept
 obtain ⟨q1,q2,q3,q4⟩:=redL_red hk0
 obtain ⟨i1,i2,i3⟩:=insF_span h.kept hx hn0
 obtain ⟨p1,p2,p3,p4,-⟩:=putF_red h.red hx hn
 rw [← h.same] at r1 r2 r3
 refine ⟨hk0,p1.unique q1 (fun k hk=>?_) fun k hk=>?_⟩
 ·refine Sp.trans (fun a ha=>?_) (p2 k hk)
  rcases List.mem_cons.1 ha with rfl | ha
  ·exact Sp.trans (fun b hb=>by obtain ⟨c,hc,rfl⟩:=List.mem_map.1 hb;exact q3 c hc) i3
  ·obtain ⟨c,hc,rfl⟩:=List.mem_map.1 ha
   refine Sp.trans (fun b hb=>?_) (r2 c hc)
   obtain ⟨d,hd,rfl⟩:=List.mem_map.1 hb
   exact Sp.trans (fun b hb=>by obtain ⟨c,hc,rfl⟩:=List.mem_map.1 hb;exact q3 c hc) (i2 d hd)
 ·refine Sp.trans (fun a ha=>?_) (q2 k hk)
  obtain ⟨c,hc,rfl⟩:=List.mem_map.1 ha
  refine Sp.trans (fun b hb=>?_) (i1 c hc)
  rcases List.mem_cons.1 hb with rfl | hb
  ·exact p4
  ·obtain ⟨d,hd,rfl⟩:=List.mem_map.1 hb
   exact Sp.trans (fun b hb=>by obtain ⟨e,he,rfl⟩:=List.mem_map.1 hb;exact p3 e he) (r3 d hd)
end Go.Proofs.YtccaiiigdfieoaaGreatDoor
namespace Go.Proofs.YtccaiiigdfieoaaGreatDoor
open Go.RowKit Go.By
end Go.Proofs.YtccaiiigdfieoaaGreatDoor
namespace Go.Proofs.YtccaiiigdfieoaaGreatDoor
open Go.RowKit Go.By
theorem use_w1 {P:Program} {f:FuncId} {args:Array Value} {W:World} {Q:Ending→World→Prop} (I:World→Prop) (h:I W) (k:∀ W',I W'→Calls P f args W' Q):Calls P f args W Q:=k W h
end Go.Proofs.YtccaiiigdfieoaaGreatDoor
namespace Go.Proofs.YtccaiiigdfieoaaGreatDoor
open Go.RowKit Go.By
end Go.Proofs.YtccaiiigdfieoaaGreatDoor
namespace Go.By
open Go.RowKit
end Go.By
namespace Go.Proofs.YtccaiiigdfieoaaGreatDoor
open Go.RowKit Go.By
def fitR (wd:Nat) (r:List UInt8):List UInt8:=r.take wd ++ List.replicate (wd - r.length) 0
end Go.Proofs.YtccaiiigdfieoaaGreatDoor
namespace Go.By
open Go.RowKit
end Go.By
namespace Go.Proofs.YtccaiiigdfieoaaGreatDoor
open Go.RowKit Go.By
end Go.Proofs.YtccaiiigdfieoaaGreatDoor
namespace Go.By
open Go.RowKit
theorem getD_tf {listed:Array Bool} {i:Nat} (h:listed.getD i true = false):listed.getD i false≠true∧i < listed.size:=by
 rcases Nat.lt_or_ge i listed.size with h' | h'
 ·refine ⟨fun hx=>?_,h'⟩
  simp [Array.getD_eq_getD_getElem?,h'] at h hx;rw [h] at hx;cases hx
 ·simp [Array.getD_eq_getD_getElem?,Array.getElem?_eq_none h'] at h
theorem getD_ft {listed:Array Bool} {j:Nat} (h:listed.getD j false = true):listed.getD j true = true:=by
 rcases Nat.lt_or_ge j listed.size with h' | h'
 ·simp [Array.getD_eq_getD_getElem?,h'] at h ⊢;exact h
 ·simp [Array.getD_eq_getD_getElem?,Array.getElem?_eq_none h'] at h
end Go.By
namespace Go.Proofs.YtccaiiigdfieoaaGreatDoor
open Go.RowKit Go.By
structure Elm (w:World) (base be k t:Nat) (v:Value) (n:Nat) (K:List Rw):Prop where
 box:w.heap[be]? = some (.cells #[.int .i64 k,.int .i64 t,v] 191 (0,0))
 rows:RwL 99 5 w base v n K
 old:base≤be
theorem Elm.keep {w w':World} {base be k t n:Nat} {v:Value} {K:List Rw} (h:Elm w base be k t v n K) (hb:Below w.heap.size w w'):Elm w' base be k t v n K :=
 ⟨(hb.block _ (blk_lt h.box)).trans h.box,h.rows.keep hb,h.old⟩
theorem New_good (k t:Nat) (w:World) (h1:1≤k) (h2:k≤4096) (h3:t≤65535):Calls Tryz.prog 61 #[.int .i64 k,.int .i64 t] w fun e w'=>∃ be,e = .returned (.tuple #[.pointer (some ⟨be,0,none⟩),.int .i64 0])∧Elm w' w.heap.size be k t (.slice none 0 0) 0 []∧Below w.heap.size w w':=by
 have a1:¬ ((k:Int) < 1):=by omega
 have a2:¬ (4096 < (k:Int)):=by omega
 have a3:¬ ((t:Int) < 0):=by omega
 have a4:¬ (65535 < (t:Int)):=by omega
 clear h1 h2 h3
 go_enter Tryz.func61,Tryz.ntmps61
 go_wp2
 go_ret2
 exact ⟨w.heap.size,rfl,⟨hnew rfl,RwL.nil _ _ _ _,Nat.le_refl _⟩,al (Below.refl _ _) (Nat.le_refl _)⟩
theorem Rank_any' (base be k t n:Nat) (v:Value) (K:List Rw) (w:World) (h:Elm w base be k t v n K):Calls Tryz.prog 65 #[.pointer (some ⟨be,0,none⟩)] w fun e w'=>e = .returned (.int .i64 n)∧w = w':=by
 obtain ⟨f0,f1,f2⟩:=cells3 h.box
 obtain ⟨q,c,rfl⟩:=h.rows.shape
 clear h
 go_enter Tryz.func65,Tryz.ntmps65
 go_wp2
 go_ret
 exact ⟨rfl,rfl⟩
end Go.Proofs.YtccaiiigdfieoaaGreatDoor
namespace Go.Proofs.YtccaiiigdfieoaaGreatDoor
open Go.RowKit Go.By
def kD (D:List Rw):List Rw:=D.foldl insF []
theorem kD_snoc (D:List Rw) (r:Rw):kD (D ++ [r]) = insF (kD D) r:=by unfold kD;rw [List.foldl_append];rfl
theorem kD_take {D:List Rw} {k:Nat} {r:Rw} (h:D[k]? = some r):kD (D.take (k + 1)) = insF (kD (D.take k)) r:=by
 have e:D.take (k + 1) = D.take k ++ [r]:=by rw [List.take_add_one,h];rfl
 rw [e,kD_snoc]
theorem kD_len (D:List Rw):∀ k,(kD (D.take k)).length≤k
 | 0=>by simp [kD]
 | k + 1=>by
  by_cases h:k < D.length
  ·rw [kD_take (List.getElem?_eq_getElem h)];exact Nat.le_trans (insF_len _ _) (Nat.succ_le_succ (kD_len D k))
  ·have e:D.take (k + 1) = D.take k:=by rw [List.take_of_length_le (by omega),List.take_of_length_le (by omega)]
   rw [e];exact Nat.le_succ_of_le (kD_len D k)
theorem kD_kept {wd t:Nat} {D:List Rw} (hl:∀ r,r ∈ D→Fit wd t r):∀ k,KeptS wd t (kD (D.take k))
 | 0=>by simpa [kD] using KeptS.nil wd t
 | k + 1=>by
  by_cases h:k < D.length
  ·rw [kD_take (List.getElem?_eq_getElem h)];exact (kD_kept hl k).step (hl _ (List.getElem_mem h))
  ·have e:D.take (k + 1) = D.take k:=by rw [List.take_of_length_le (by omega),List.take_of_length_le (by omega)]
   rw [e];exact kD_kept hl k
theorem insF_same {K:List Rw} {x:Rw} (h:(insF K x).length = K.length):insF K x = K:=by
 by_cases e:leadS (restF K x).1 < 0
 ·unfold insF;rw [norm_leadS,if_pos e]
 ·have hp:=(ins_perm K x).length_eq
  unfold keepF at hp;rw [if_neg e] at hp;simp at hp;omega
theorem listF_BI {n t:Nat} {K:List Rw} (h:KeptS n t K):∃ L:Nat→Nat,(∀ a b,a < b→b < K.length→L a < L b)∧BI n t K.length L (K.map vR) (listF K) 0 0:=by
 have hat:∀ a,a < K.length→listF K a ∈ K:=fun a ha=>by
  have:listF K a = K[a]:=by simp [listF,ha]
  rw [this];exact List.getElem_mem ha
 refine ⟨fun a=>leadN (listF K a),fun a b hab hb=>?_,fun a ha=>⟨(h.rows _ (hat a ha)).1,(h.rows _ (hat a ha)).2.at⟩,fun a ha=>by omega,fun b hb=>by omega,fun a ha=>Gf.Sp.mem (List.mem_map.2 ⟨_,hat a ha,rfl⟩),fun v hv=>?_⟩
 ·have e1:listF K a = K[a]:=by simp [listF,show a < K.length by omega]
  have e2:listF K b = K[b]:=by simp [listF,hb]
  show leadN (listF K a) < leadN (listF K b)
  rw [e1,e2];exact List.pairwise_iff_getElem.1 h.sorted a b (by omega) hb hab
 ·have e:((List.range K.length).map fun a=>vR (listF K a)) = K.map vR:=by
   conv=>rhs;rw [← listF_map K]
   rw [List.map_map];rfl
  rw [e];exact Gf.Sp.mem hv
def RowOff2 (w:World) (g:Nat) (u v:Value) (r:Rw):Prop:=∃ q1 m1 c1 q2 m2 c2,u = .slice q1 m1 c1∧v = .slice q2 m2 c2∧Sl B8 w q1 m1 c1 r.1∧Sl B8 w q2 m2 c2 r.2∧(0 < m1→∀ a,q1 = some a→a.block≠g)∧(0 < m2→∀ a,q2 = some a→a.block≠g)
theorem RowOff2.keep {w w':World} {g:Nat} {u v:Value} {r:Rw} (h:RowOff2 w g u v r) (hb:Below w.heap.size w w'):RowOff2 w' g u v r:=by
 obtain ⟨q1,m1,c1,q2,m2,c2,h1,h2,h3,h4,h5,h6⟩:=h
 exact ⟨q1,m1,c1,q2,m2,c2,h1,h2,h3.keep hb,h4.keep hb,h5,h6⟩
theorem RowOff2.set {w:World} {g o:Nat} {u v x:Value} {r:Rw} (h:RowOff2 w g u v r):RowOff2 (w.setCell ⟨g,o,none⟩ x) g u v r:=by
 obtain ⟨q1,m1,c1,q2,m2,c2,h1,h2,h3,h4,h5,h6⟩:=h
 exact ⟨q1,m1,c1,q2,m2,c2,h1,h2,h3.set2 h5,h4.set2 h6,h5,h6⟩
def RMemC (w:World) (g T n c:Nat) (F:Nat→Rw):Prop:=∃ cs:Array Value,w.heap[g]? = some (.cells cs T (0,0))∧cs.size = c * 2∧n≤c∧∀ i,i < n→∃ u v,cs[i * 2]? = some u∧cs[i * 2 + 1]? = some v∧RowOff2 w g u v (F i)
theorem RMemC.keep {w w':World} {g T n c:Nat} {F:Nat→Rw} (h:RMemC w g T n c F) (hb:Below w.heap.size w w'):RMemC w' g T n c F:=by
 obtain ⟨cs,h1,h2,hn,h3⟩:=h
 refine ⟨cs,(hb.block _ (blk_lt h1)).trans h1,h2,hn,fun i hi=>?_⟩
 obtain ⟨u,v,a,b,c⟩:=h3 i hi
 exact ⟨u,v,a,b,c.keep hb⟩
theorem RMemC.set {w:World} {g T n c i:Nat} {F:Nat→Rw} {u v:Value} {r:Rw} (h:RMemC w g T n c F) (hi:i < n) (hr:RowOff2 w g u v r):RMemC ((w.setCell ⟨g,i * 2,none⟩ u).setCell ⟨g,i * 2 + 1,none⟩ v) g T n c (updF F i r):=by
 obtain ⟨cs,h1,h2,hn,h3⟩:=h
 refine ⟨_,hss (hss h1),by simp [h2],hn,fun k hk=>?_⟩
 by_cases hki:k = i
 ·subst hki
  refine ⟨u,v,?_,?_,by rw [updF_same];exact hr.set.set⟩
  ·simp [Array.getElem?_setIfInBounds];omega
  ·simp [Array.getElem?_setIfInBounds];omega
 ·obtain ⟨a,b,e1,e2,e3⟩:=h3 k hk
  refine ⟨a,b,?_,?_,by rw [updF_ne _ _ hki];exact e3.set.set⟩
  ·rw [Array.getElem?_setIfInBounds,if_neg (by omega),Array.getElem?_setIfInBounds,if_neg (by omega)];exact e1
  ·rw [Array.getElem?_setIfInBounds,if_neg (by omega),Array.getElem?_setIfInBounds,if_neg (by omega)];exact e2
theorem RMemC.at {w:World} {g T n c i:Nat} {F:Nat→Rw} (h:RMemC w g T n c F) (hi:i < n):∃ q1 m1 c1 q2 m2 c2,w.cell? ⟨g,i * 2,none⟩ = some (.slice q1 m1 c1)∧w.cell? ⟨g,i * 2 + 1,none⟩ = some (.slice q2 m2 c2)∧w.frozen? ⟨g,i * 2,none⟩ = false∧w.frozen? ⟨g,i * 2 + 1,none⟩ = false ∧
  Sl B8 w q1 m1 c1 (F i).1∧Sl B8 w q2 m2 c2 (F i).2∧(0 < m1→∀ a,q1 = some a→a.block≠g)∧(0 < m2→∀ a,q2 = some a→a.block≠g):=by
 obtain ⟨cs,h1,h2,hn,h3⟩:=h
 obtain ⟨u,v,a,b,q1,m1,c1,q2,m2,c2,rfl,rfl,g1,g2,g3,g4⟩:=h3 i hi
 exact ⟨q1,m1,c1,q2,m2,c2,(cell_of_row _ _ _ _ _ _ h1).trans a,(cell_of_row _ _ _ _ _ _ h1).trans b,frozen_of_row _ _ _ _ _ h1,frozen_of_row _ _ _ _ _ h1,g1,g2,g3,g4⟩
def RMemV (w:World) (base T:Nat) (q:Option Addr) (n c:Nat) (F:Nat→Rw):Prop:=n = 0∨∃ g,q = some ⟨g,0,none⟩∧base≤g∧RMemC w g T n c F
theorem RwN.keep {W w w':World} {T n c:Nat} {q:Option Addr} {K:List Rw} (h:RwN W w T q n c K) (hb:Below w.heap.size w w'):RwN W w' T q n c K:=by
 obtain ⟨h1,h2,vs,h3,h4⟩:=h
 exact ⟨bl h1 hb h1.size,h2,vs,owns_keep h3 hb,h4⟩
theorem RMemV.of {w:World} {base T n c:Nat} {q:Option Addr} {K:List Rw} (h:n = 0∨∃ W:World,base≤W.heap.size∧RwN W w T q n c K):RMemV w base T q n c (listF K):=by
 rcases h with h | ⟨W,hW,hb,hl,vs,ho,hv⟩
 ·exact .inl h
 ·rcases ho.2 with ⟨e1,e2⟩ | ⟨g,cap,cur,e1,hg,hh,hle,hm,hs,ht⟩
  ·exact .inl e2
  ·cases e1
   refine .inr ⟨g,rfl,Nat.le_trans hW hg,cur,hh,hs,hle,fun i hi=>?_⟩
   have hk:K[i]? = some (listF K i):=by
    rw [List.getElem?_eq_getElem (by omega)]
    simp [listF,show i < K.length by omega]
   obtain ⟨u,hu,q1,m1,c1,q2,m2,c2,rfl,s1,s2⟩:=hv i _ hk
   obtain ⟨g1,g2⟩:=fl2_at hu
   have far:∀ {q':Option Addr} {m' c':Nat} {xs:List UInt8},Sl B8 W q' m' c' xs→0 < m'→∀ a,q' = some a→a.block≠g:=fun {q' m' c' xs} hs h0 a ha=>by
    obtain ⟨b,o,hp,hlt⟩:=hs.rs.lt (by rw [hs.len];exact h0)
    rw [ha] at hp;cases hp
    show b≠g;omega
   have hvl:vs.length = n:=by have:=ho.1;rw [fl2_length] at this;omega
   refine ⟨.slice q1 m1 c1,.slice q2 m2 c2,?_,?_,q1,m1,c1,q2,m2,c2,rfl,rfl,s1.keep hb,s2.keep hb,far s1,far s2⟩
   ·rw [← ht,List.getElem?_take] at g1
    split at g1
    ·simpa using g1
    ·cases g1
   ·rw [← ht,List.getElem?_take] at g2
    split at g2
    ·simpa using g2
    ·cases g2
theorem RMemV.rwS {w:World} {base T n c:Nat} {q:Option Addr} {F:Nat→Rw} (h:RMemV w base T q n c F) (h1:n≤c) (h2:c≤maxLen) (h3:q = none→n = 0∧c = 0):RwS w q n c ((List.range n).map F):=by
 refine ⟨by simp,h1,h2,h3,fun j k hj=>?_⟩
 obtain ⟨hjn,e⟩:=List.getElem?_eq_some_iff.1 hj
 rw [List.length_map,List.length_range] at hjn
 simp at e
 subst e
 rcases h with h | ⟨g,rfl,-,hM⟩
 ·omega
 ·obtain ⟨q1,m1,c1,q2,m2,c2,a,b,-,-,s1,s2,-,-⟩:=hM.at hjn
  exact ⟨g,0,q1,m1,c1,q2,m2,c2,rfl,by rw [Nat.zero_add];exact a,by rw [Nat.zero_add];exact b,s1,s2⟩
end Go.Proofs.YtccaiiigdfieoaaGreatDoor
namespace Go.By
open Go.RowKit
def XNew (B:Nat) (p:Option Addr) (n:Nat):Prop:=0 < n→∀ a,p = some a→B≤a.block
def XRowB (B X:Nat) (r:List UInt8 × List UInt8) (v:Value) (w:World):Prop:=∃ p1 n1 c1 p2 n2 c2,v = .agg #[.slice p1 n1 c1,.slice p2 n2 c2]∧((Sl B8 w p1 n1 c1 r.1∧Away B X w p1 n1)∧(Sl B8 w p2 n2 c2 r.2∧Away B X w p2 n2))∧XNew B p1 n1∧XNew B p2 n2
theorem XRowB.keep {B X:Nat} {r:List UInt8 × List UInt8} {v:Value} {w w':World} (h:XRowB B X r v w) (hb:Below w.heap.size w w'):XRowB B X r v w':=by
 obtain ⟨p1,n1,c1,p2,n2,c2,e,⟨⟨h1,k1⟩,⟨h2,k2⟩⟩,h3⟩:=h
 exact ⟨p1,n1,c1,p2,n2,c2,e,⟨⟨h1.keep hb,k1.keep h1 hb⟩,⟨h2.keep hb,k2.keep h2 hb⟩⟩,h3⟩
theorem XRowB.step {B X:Nat} {r:List UInt8 × List UInt8} {v:Value} {w w':World} (h:XRowB B X r v w) (hb:StepX B X w w'):XRowB B X r v w':=by
 obtain ⟨p1,n1,c1,p2,n2,c2,e,⟨⟨h1,k1⟩,⟨h2,k2⟩⟩,h3⟩:=h
 exact ⟨p1,n1,c1,p2,n2,c2,e,⟨⟨(k1.step h1 hb).2,(k1.step h1 hb).1⟩,⟨(k2.step h2 hb).2,(k2.step h2 hb).1⟩⟩,h3⟩
def XRowTB (B X:Nat) (r:List UInt8 × List UInt8) (code:Int) (v:Value) (w:World):Prop:=∃ u,v = .tuple #[u,.int .i64 code]∧XRowB B X r u w
def ShX.rowB (B X:Nat) (r:List UInt8 × List UInt8):ShX B X:=⟨XRowB B X r,fun _ _ _ h hb=>h.keep hb,fun _ _ _ h hb=>h.step hb⟩
def ShX.rowTB (B X:Nat) (r:List UInt8 × List UInt8) (code:Int):ShX B X:=⟨XRowTB B X r code,fun _ _ _ ⟨u,e,h⟩ hb=>⟨u,e,h.keep hb⟩,fun _ _ _ ⟨u,e,h⟩ hb=>⟨u,e,h.step hb⟩⟩
theorem XRowB.of_owns {B X base e:Nat} {w:World} {r:List UInt8 × List UInt8} {q1 q2:Option Addr} {m1 k1 m2 k2:Nat} (he:e≠X) (h1:w.ownsRow base e 1 (.slice q1 m1 k1) m1 (r.1.map B8)) (h2:w.ownsRow base e 1 (.slice q2 m2 k2) m2 (r.2.map B8)) (hb:B≤base) :
  XRowB B X r (.agg #[.slice q1 m1 k1,.slice q2 m2 k2]) w:=by
 refine ⟨q1,m1,k1,q2,m2,k2,rfl,⟨⟨Sl.of_owns h1,Away.own h1 he⟩,⟨Sl.of_owns h2,Away.own h2 he⟩⟩,fun h0 a ha=>?_,fun h0 a ha=>?_⟩
 ·obtain ⟨g,e,h,-⟩:=owns_at h1 h0
  rw [e] at ha;cases ha;exact Nat.le_trans hb h
 ·obtain ⟨g,e,h,-⟩:=owns_at h2 h0
  rw [e] at ha;cases ha;exact Nat.le_trans hb h
end Go.By
