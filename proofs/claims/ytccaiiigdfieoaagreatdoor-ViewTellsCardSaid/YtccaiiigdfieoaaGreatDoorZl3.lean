/- The contracts of the reference's functions of layer 3. The contracts of the reference's Less and Same of layer 3,of the law's helpers,and of Unit. The plain law of VecLeads: what is normed leads with a 1,and so on. Linear algebra over the field of 256 elements: combinations,spans,independence,exchange,elimination. Nothing of the program. Vectors of n places: units,coordinates; products of rows; rows and columns have one rank; what is inverse from the left is from the right. Rows kept one by one,as the grid's rank and the document's keep them: as many as the rank says. A region that draws its order,whose last operation (a store) waits for all others but one extract. The contract of the grid's Rank. Slices of rows that read so; the contract of the reference's Rest. Appends of rows: any part of a slice of rows onto a slice that the call owns. -/
import Derived.Test.YtccaiiigdfieoaaGreatDoorZl2
import Derived.Laws.AppendOwnNone
namespace Go.Proofs.YtccaiiigdfieoaaGreatDoor
open Go.RowKit Go.By
set_option maxHeartbeats 400000 in
theorem RLead_any (p:Option Addr) (n c:Nat) (v:List UInt8) (w:World) (h:Sl B8 w p n c v) :
  Calls Tryz.prog 89 #[.slice p n c] w fun e w'=>e = .returned (.int .i64 (leadS v))∧w = w':=by
 have hb:=h.bound
 have H:=Lib.hid h;clear h
 go_enter Tryz.func89,Tryz.ntmps89
 go_wp2
 go_loop [3] (fun i=>∃ k:Nat,k≤n∧i = .int .i64 k∧Hid (∀ j y,j < k→v[j]? = some y→decide (y≠0) = false)) (fun i=>n - (intOf i).toNat)
 case atStart=>exact ⟨0,Nat.zero_le _,rfl,fun j y hj=>by omega⟩
 case round =>
  obtain ⟨k,hk,rfl,hj⟩:=hrel
  by_cases hlt:k < n
  ·obtain ⟨b,o,x,rfl,hc,hx⟩:=H.out.at k hlt
   have ht:=nat_ne_zero x
   by_cases h0:x = 0
   ·rw [decide_eq_false (by simpa using h0)] at ht
    have H0:=Lib.hid h0;clear h0
    go_wp2
    go_round
    case rel=>exact ⟨k + 1,by omega,by go_num,fun j y hj' hy=>by
     by_cases e:j = k
     ·subst e;have:=hx.out.symm.trans hy;cases this;simp [H0.out]
     ·exact hj.out j y (by omega) hy⟩
    case measure=>simp [intOf];omega
   ·rw [decide_eq_true (by simpa using h0)] at ht
    have H0:=Lib.hid h0;clear h0
    go_wp2
    go_ret
    exact ⟨by rw [leadS,idxf_found hx.out (by simpa using H0.out) hj.out];rfl,rfl⟩
  ·go_wp2
   go_ret
   exact ⟨by rw [leadS,idxf_none (k:=k) (by have:=H.out.len;omega) hj.out];rfl,rfl⟩
theorem leadS_cases (v:List UInt8):(leadS v = -1∧atS v (leadS v) = 0∧∀ x,x ∈ v→x = 0)∨∃ (k:Nat) (x:UInt8),leadS v = (k:Int)∧v[k]? = some x∧x≠0∧atS v (leadS v) = x∧∀ (j:Nat) (y:UInt8),j < k→v[j]? = some y→y = 0:=by
 unfold leadS idxf
 cases h:v.findIdx? (fun b=>decide (b≠0)) with
 | none =>
  left
  refine ⟨rfl,by simp [atS],?_⟩
  rw [List.findIdx?_eq_none_iff] at h
  intro x hx
  have:=h x hx
  simpa using this
 | some i =>
  right
  obtain ⟨hi,hf,hb⟩:=List.findIdx?_eq_some_iff_getElem.1 h
  refine ⟨i,v[i],rfl,List.getElem?_eq_getElem hi,by simpa using hf,by simp [atS,List.getD,hi],?_⟩
  intro j y hj hy
  obtain ⟨hj',e⟩:=List.getElem?_eq_some_iff.1 hy
  have:=hb j hj
  rw [e] at this
  simpa using this
theorem info_ref:(Tryz.prog.info? 101).map (·.size) = some 2:=by kernel_rfl
def RetS (w:World) (r:List UInt8 × List UInt8) (e:Ending) (w':World):Prop :=
 ∃ q1 m1 c1 q2 m2 c2,e = .returned (.agg #[.slice q1 m1 c1,.slice q2 m2 c2])∧Sl B8 w' q1 m1 c1 r.1∧Sl B8 w' q2 m2 c2 r.2∧Below w.heap.size w w'
set_option maxRecDepth 100000 in
set_option maxHeartbeats 1000000 in
theorem RNorm_any (p1 p2:Option Addr) (n1 c1 n2 c2:Nat) (v d:List UInt8) (w:World) (h1:Sl B8 w p1 n1 c1 v) (h2:Sl B8 w p2 n2 c2 d) (r1:Room n1) (r2:Room n2) :
  Calls Tryz.prog 153 #[.agg #[.slice p1 n1 c1,.slice p2 n2 c2]] w (RetS w (normS (v,d))):=by
 have hi:=info_ref
 have H1:=Lib.hid h1;have H2:=Lib.hid h2
 have b1:=h1.bound
 have hB:∀ o1 o2,Below w.heap.size w ((w.alloc o1).alloc o2):=fun o1 o2=>al (al (Below.refl _ _) (Nat.le_refl _)) (by simp)
 rcases leadS_cases v with ⟨e1,e2,-⟩ | ⟨k,x,e1,e2,e3,e4,-⟩
 ·have HN:Hid (normS (v,d) = (v,d)):=if_pos e2
  have CL:=Lib.hid (fun W a=>RLead_any p1 n1 c1 v W a)
  rw [e1] at CL
  clear h1 h2 e1 e2
  go_enter Tryz.func153,Tryz.ntmps153
  go_wp2_with fail
  refine (CL.out _ (H1.out.keep (hB _ _))).mono ?_;rintro e w' ⟨rfl,rfl⟩
  go_wp2
  rw [HN.out]
  refine bodyPost_ret (results_cell_row rfl _ _ _ 101 #[.slice p1 n1 c1,.slice p2 n2 c2] (0,0) _ rfl (hnew (by simp)) Tryz.underlying101 rfl hi) rfl ⟨p1,n1,c1,p2,n2,c2,rfl,H1.out.keep (hB _ _),H2.out.keep (hB _ _),hB _ _⟩
 ·have HN:Hid (normS (v,d) = (v.map (Gf.gmul (invOf x)),d.map (Gf.gmul (invOf x)))):=by
   show _ = _
   simp only [normS,e4,if_neg e3,invOf]
  have CL:=Lib.hid (fun W a=>RLead_any p1 n1 c1 v W a)
  rw [e1] at CL
  have hk:k < n1:=by have:=(List.getElem?_eq_some_iff.1 e2).1;rw [h1.len] at this;exact this
  obtain ⟨b,o,x',rfl,hc,hx⟩:=h1.at k hk
  have hxx:x' = x:=Option.some.inj (hx.out.symm.trans e2)
  subst hxx
  have hcc:∀ o1 o2,((w.alloc o1).alloc o2).cell? ⟨b,o + k,none⟩ = some (B8 x'):=fun o1 o2=>calloc (calloc hc)
  have kp:¬ ((k:Int) < 0):=by omega
  have kn:(k:Int) < (n1:Int):=by omega
  have HI:=Lib.hid (fun W=>RInv_any x' W)
  generalize invOf x' = g at *
  clear h1 h2 e1 e2 e3 e4 hx hc
  go_enter Tryz.func153,Tryz.ntmps153
  go_wp2_with fail
  refine (CL.out _ (H1.out.keep (hB _ _))).mono ?_;rintro e w' ⟨rfl,rfl⟩
  go_wp2_with fail
  refine (HI.out _).mono ?_;rintro e w' ⟨rfl,rfl⟩
  have hB':=hB (.cells #[.slice (some ⟨b,o,none⟩) n1 c1,.slice p2 n2 c2] 101) (.cells #[.slice none 0 0,.slice none 0 0] 101)
  have e1:((w.alloc (.cells #[.slice (some ⟨b,o,none⟩) n1 c1,.slice p2 n2 c2] 101)).alloc (.cells #[.slice none 0 0,.slice none 0 0] 101)).heap[w.heap.size]? = some (.cells #[.slice (some ⟨b,o,none⟩) n1 c1,.slice p2 n2 c2] 101 (0,0)):=hal (hnew rfl)
  have e2:((w.alloc (.cells #[.slice (some ⟨b,o,none⟩) n1 c1,.slice p2 n2 c2] 101)).alloc (.cells #[.slice none 0 0,.slice none 0 0] 101)).heap[w.heap.size + 1]? = some (.cells #[.slice none 0 0,.slice none 0 0] 101 (0,0)):=hnew (w:=w.alloc _) (by simp)
  have esz:w.heap.size + 2≤((w.alloc (.cells #[.slice (some ⟨b,o,none⟩) n1 c1,.slice p2 n2 c2] 101)).alloc (.cells #[.slice none 0 0,.slice none 0 0] 101)).heap.size:=by simp
  clear hB hcc
  go_wp2_with fail
  generalize (w.alloc (.cells #[.slice (some ⟨b,o,none⟩) n1 c1,.slice p2 n2 c2] 101)).alloc (.cells #[.slice none 0 0,.slice none 0 0] 101) = W at *
  have R0:∀ W',Below (w.heap.size + 2) W W'→W'.cell? ⟨w.heap.size,0,none⟩ = some (.slice (some ⟨b,o,none⟩) n1 c1):=fun W' h=>cell_of_row _ _ 0 _ _ _ ((h.block _ (by omega)).trans e1)
  have R1:∀ W',Below (w.heap.size + 2) W W'→W'.cell? ⟨w.heap.size,1,none⟩ = some (.slice p2 n2 c2):=fun W' h=>cell_of_row _ _ 1 _ _ _ ((h.block _ (by omega)).trans e1)
  have R2:∀ W',Below (w.heap.size + 2) W W'→W'.cell? ⟨w.heap.size + 1,0,none⟩ = some (.slice none 0 0):=fun W' h=>cell_of_row _ _ 0 _ _ _ ((h.block _ (by omega)).trans e2)
  have R3:∀ W',Below (w.heap.size + 2) W W'→W'.cell? ⟨w.heap.size + 1,1,none⟩ = some (.slice none 0 0):=fun W' h=>cell_of_row _ _ 1 _ _ _ ((h.block _ (by omega)).trans e2)
  have Z2:∀ W',Below (w.heap.size + 2) W W'→W'.frozen? ⟨w.heap.size + 1,0,none⟩ = false:=fun W' h=>frozen_of_row _ _ 0 _ _ ((h.block _ (by omega)).trans e2)
  have Z3:∀ W',Below (w.heap.size + 2) W W'→W'.frozen? ⟨w.heap.size + 1,1,none⟩ = false:=fun W' h=>frozen_of_row _ _ 1 _ _ ((h.block _ (by omega)).trans e2)
  have E2:=Lib.hid e2
  clear e1 e2
  have hd:Below (w.heap.size + 2) W W.drew:=(Below.refl _ _).drew
  have C1:Hid (∀ W',Below (w.heap.size + 2) W W'→Calls Tryz.prog 205 #[B8 g,.slice (some ⟨b,o,none⟩) n1 c1] W' (RetB1 5 W' (v.map (Gf.gmul g)))):=fun W' h=>RScale_any g _ n1 c1 v W' (H1.out.keep (hB'.trans (h.mono (by omega)))) r1
  have C2:Hid (∀ W',Below (w.heap.size + 2) W W'→Calls Tryz.prog 205 #[B8 g,.slice p2 n2 c2] W' (RetB1 5 W' (d.map (Gf.gmul g)))):=fun W' h=>RScale_any g p2 n2 c2 d W' (H2.out.keep (hB'.trans (h.mono (by omega)))) r2
  have hB2:=Lib.hid hB'
  clear hB'
  go_region_with (first
   | (go_at_call 205;(with_reducible refine Calls.mono (C1.out _ (by assumption)) ?_);rintro e w1 ⟨q1,m1,c1',hm1,rfl,ho1,hb1⟩;have hw1:=stp (by assumption) hb1 rfl esz)
   | (go_at_call 205;(with_reducible refine Calls.mono (C2.out _ (by assumption)) ?_);rintro e w2 ⟨q2,m2,c2',hm2,rfl,ho2,hb2⟩;have hw2:=stp (by assumption) hb2 rfl esz))
  all_goals go_wp2
  all_goals rw [HN.out]
  all_goals first
   | (refine bodyPost_ret (results_cell_row rfl _ _ _ 101 #[.slice q1 m1 c1',.slice q2 m2 c2'] (0,0) _ rfl (hss (hss ((hw2.block _ (by omega)).trans E2.out))) Tryz.underlying101 rfl hi) rfl ⟨q1,m1,c1',q2,m2,c2',rfl,Sl.of_owns (owns_set (owns_set (owns_keep ho1 hb2) (show w.heap.size + 1 < _ by have:=hw1.size;simp;omega)) (show w.heap.size + 1 < _ by have:=hw1.size;simp;omega)),Sl.of_owns (owns_set (owns_set ho2 (show w.heap.size + 1 < _ by have:=hw1.size;simp;omega)) (show w.heap.size + 1 < _ by have:=hw1.size;simp;omega)),((hB2.out.trans (hw2.mono (by omega))).setCell (by simp) _).setCell (by simp) _⟩)
   | (refine bodyPost_ret (results_cell_row rfl _ _ _ 101 #[.slice q1 m1 c1',.slice q2 m2 c2'] (0,0) _ rfl (hss (hss ((hw1.block _ (by omega)).trans E2.out))) Tryz.underlying101 rfl hi) rfl ⟨q1,m1,c1',q2,m2,c2',rfl,Sl.of_owns (owns_set (owns_set ho1 (show w.heap.size + 1 < _ by have:=hw2.size;simp;omega)) (show w.heap.size + 1 < _ by have:=hw2.size;simp;omega)),Sl.of_owns (owns_set (owns_set (owns_keep ho2 hb1) (show w.heap.size + 1 < _ by have:=hw2.size;simp;omega)) (show w.heap.size + 1 < _ by have:=hw2.size;simp;omega)),((hB2.out.trans (hw1.mono (by omega))).setCell (by simp) _).setCell (by simp) _⟩)
end Go.Proofs.YtccaiiigdfieoaaGreatDoor
namespace Go.Proofs.YtccaiiigdfieoaaGreatDoor
open Go.RowKit Go.By
theorem comb_axpy (c:UInt8) (r o:List UInt8):combS [1,c] [r,o] = axpyS c o r:=by
 unfold combS axpyS
 rw [if_pos (show [1,c].length = [r,o].length from rfl)]
 by_cases h:o.length = r.length
 ·rw [if_pos h,noughtS_of (x0:=r) (m:=r.length) rfl rfl (by intro zs hz;simp at hz;rcases hz with rfl | rfl <;> simp [h])]
  simp only [if_true]
  congr 1
  have e1:axpy 1 r (List.replicate r.length 0) = r:=by
   apply List.ext_getElem?
   intro j
   simp only [axpy,List.getElem?_zipWith]
   by_cases hj:j < r.length
   ·simp [hj,Gf.one_gmul]
   ·simp [show r.length≤j by omega]
  simp only [combF,List.zip,List.zipWith,List.foldl,e1]
 ·rw [if_neg h,noughtS_not (x0:=r) (x:=o) rfl (by simp) h]
  simp
set_option maxRecDepth 100000 in
set_option maxHeartbeats 1000000 in
theorem RLess_any (p1 p2 p3 p4:Option Addr) (n1 c1 n2 c2 n3 c3 n4 c4:Nat) (v d x y:List UInt8) (c:UInt8) (w:World) (h1:Sl B8 w p1 n1 c1 v) (h2:Sl B8 w p2 n2 c2 d) (h3:Sl B8 w p3 n3 c3 x) (h4:Sl B8 w p4 n4 c4 y) (r1:Room n1) (r2:Room n2) (r3:Room n3) (r4:Room n4) :
  Calls Tryz.prog 88 #[.agg #[.slice p1 n1 c1,.slice p2 n2 c2],B8 c,.agg #[.slice p3 n3 c3,.slice p4 n4 c4]] w (RetR2 5 w (lessS (v,d) c (x,y)).1 (lessS (v,d) c (x,y)).2):=by
 have hi:=info_ref
 have H1:=Lib.hid h1;have H2:=Lib.hid h2;have H3:=Lib.hid h3;have H4:=Lib.hid h4
 have hB:∀ o1 o2 o3,Below w.heap.size w (((w.alloc o1).alloc o2).alloc o3):=fun o1 o2 o3=>al (al (al (Below.refl _ _) (Nat.le_refl _)) (by simp)) (by simp;omega)
 have F:∀ (w1:World),(Below (w.heap.size + 3) (((w.alloc (.cells #[.slice p1 n1 c1,.slice p2 n2 c2] 101)).alloc (.cells #[.slice p3 n3 c3,.slice p4 n4 c4] 101)).alloc (.cells #[.slice none 0 0,.slice none 0 0] 101)) w1) →
   w1.heap[w.heap.size]? = some (.cells #[.slice p1 n1 c1,.slice p2 n2 c2] 101 (0,0))∧w1.heap[w.heap.size + 1]? = some (.cells #[.slice p3 n3 c3,.slice p4 n4 c4] 101 (0,0))∧w1.heap[w.heap.size + 1 + 1]? = some (.cells #[.slice none 0 0,.slice none 0 0] 101 (0,0)):=fun w1 h =>
  ⟨(h.block _ (by omega)).trans (hal (hal (hnew rfl))),(h.block _ (by omega)).trans (hal (hnew (by simp))),(h.block _ (by omega)).trans (hnew (by simp))⟩
 have hr1:∀ zs,zs ∈ [v,x]→Room zs.length:=fun zs hz=>by
  simp at hz;rcases hz with rfl | rfl
  ·rw [h1.len];exact r1
  ·rw [h3.len];exact r3
 have hr2:∀ zs,zs ∈ [d,y]→Room zs.length:=fun zs hz=>by
  simp at hz;rcases hz with rfl | rfl
  ·rw [h2.len];exact r2
  ·rw [h4.len];exact r4
 have d1:=fun p p' k k' W a b=>RComb_any p p' 2 2 k k' [1,c] [v,x] W a b hr1
 have d2:=fun p p' k k' W a b=>RComb_any p p' 2 2 k k' [1,c] [d,y] W a b hr2
 rw [comb_axpy] at d1 d2
 have D1:=Lib.hid d1;have D2:=Lib.hid d2
 have HF:=Lib.hid F
 have L1:=Lib.hid h1.len;have L2:=Lib.hid h2.len;have L3:=Lib.hid h3.len;have L4:=Lib.hid h4.len
 clear F h1 h2 h3 h4 d1 d2 hr1 hr2
 have cA:=show axpyS c x v = (axpy c x v,0)∨axpyS c x v = ([],4) by unfold axpyS;split <;> simp
 have cB:=show axpyS c y d = (axpy c y d,0)∨axpyS c y d = ([],4) by unfold axpyS;split <;> simp
 have HR:Hid (lessS (v,d) c (x,y) = if (axpyS c x v).2 = 0∧(axpyS c y d).2 = 0 then (((axpyS c x v).1,(axpyS c y d).1),0) else (([],[]),4)):=by
  show _ = _
  unfold lessS axpyS
  by_cases e1:x.length = v.length <;> by_cases e2:y.length = d.length <;> simp [e1,e2]
 have CA:=Lib.hid cA;have CB:=Lib.hid cB;clear cA cB
 generalize axpyS c x v = A at *
 generalize axpyS c y d = B at *
 go_enter Tryz.func88,Tryz.ntmps88
 go_wp2_with fail
 refine Calls.mono (D1.out _ _ _ _ _ ?_ ?_) ?_
 ·exact sl_block [1,c] 2 (hal (hnew (by simp))) rfl rfl (by simp [maxLen])
 ·exact sl2_pair (hnew (by simp)) (H1.out.keep (al (al (hB _ _ _) (by simp;omega)) (by simp;omega))) (H3.out.keep (al (al (hB _ _ _) (by simp;omega)) (by simp;omega)))
 rintro e w1 ⟨q1,m1,k1,g1,rfl,ho1,hb1⟩
 have HO1:=Lib.hid ho1;clear ho1
 have kb:Below (w.heap.size + 3) (((w.alloc (.cells #[.slice p1 n1 c1,.slice p2 n2 c2] 101)).alloc (.cells #[.slice p3 n3 c3,.slice p4 n4 c4] 101)).alloc (.cells #[.slice none 0 0,.slice none 0 0] 101)) w1:=bl (al (al (Below.refl _ _) (by simp)) (by simp)) hb1 (by simp)
 obtain ⟨f0,f1,f2⟩:=HF.out w1 kb
 have l0:w1.cell? ⟨w.heap.size,1,none⟩ = some (.slice p2 n2 c2):=cell_of_row _ _ 1 _ _ _ f0
 have l1:w1.cell? ⟨w.heap.size + 1,1,none⟩ = some (.slice p4 n4 c4):=cell_of_row _ _ 1 _ _ _ f1
 have l0':∀ o1,(w1.alloc o1).cell? ⟨w.heap.size,1,none⟩ = some (.slice p2 n2 c2):=fun o1=>calloc l0
 have l1':∀ o1,(w1.alloc o1).cell? ⟨w.heap.size + 1,1,none⟩ = some (.slice p4 n4 c4):=fun o1=>calloc l1
 have hw1:Below w.heap.size w w1:=bl (al (al (hB _ _ _) (by simp;omega)) (by simp;omega)) hb1 (by simp;omega)
 have hs1:w.heap.size + 5≤w1.heap.size:=by have:=hb1.size;simp at this;omega
 clear f0 f1 f2 hB
 go_wp2_with fail
 refine Calls.mono (D2.out _ _ _ _ _ ?_ ?_) ?_
 ·exact sl_block [1,c] 2 (hal (hnew (by simp))) rfl rfl (by simp [maxLen])
 ·exact sl2_pair (hnew (by simp)) (H2.out.keep (al (al hw1 hw1.size) (by have:=hw1.size;simp;omega))) (H4.out.keep (al (al hw1 hw1.size) (by have:=hw1.size;simp;omega)))
 rintro e w2 ⟨q2,m2,k2,g2,rfl,ho2,hb2⟩
 have HO2:=Lib.hid ho2;clear ho2
 have hx2:Below w1.heap.size w1 w2:=bl (al (al (Below.refl _ _) (Nat.le_refl _)) (by simp)) hb2 (by simp;omega)
 have kb2:=kb.trans (hx2.mono (by omega))
 have hw2:=bl hw1 hx2 hw1.size
 obtain ⟨_,_,f2⟩:=HF.out w2 kb2
 have t0:w2.cell? ⟨w.heap.size + 1 + 1,0,none⟩ = some (.slice none 0 0):=cell_of_row _ _ 0 _ _ _ f2
 have t1:w2.cell? ⟨w.heap.size + 1 + 1,1,none⟩ = some (.slice none 0 0):=cell_of_row _ _ 1 _ _ _ f2
 have z0:w2.frozen? ⟨w.heap.size + 1 + 1,0,none⟩ = false:=frozen_of_row _ _ 0 _ _ f2
 have z1:w2.frozen? ⟨w.heap.size + 1 + 1,1,none⟩ = false:=frozen_of_row _ _ 1 _ _ f2
 have E2:=Lib.hid f2;clear f2 kb kb2
 have O1:Hid (w2.ownsRow (w.heap.size + 3) 5 1 (.slice q1 m1 k1) m1 (A.1.map B8)):=owns_mono (owns_keep HO1.out hx2) (by simp)
 have O2:Hid (w2.ownsRow (w.heap.size + 3) 5 1 (.slice q2 m2 k2) m2 (B.1.map B8)):=owns_mono HO2.out (by simp;omega)
 clear HO1 HO2 hb1 hb2
 have hwb:=Lib.hid hw2
 rcases CA.out with eA | eA <;> rcases CB.out with eB | eB
 ·rw [eA,eB] at HR;rw [eA] at O1 g1;rw [eB] at O2 g2
  rw [eA,eB]
  go_wp2
  rw [HR.out]
  exact bodyPost_ret (results_cell_tmp rfl _ _ _ 101 #[.slice q1 m1 k1,.slice q2 m2 k2] (0,0) _ (.int .i64 0) rfl (hss (hss E2.out)) rfl Tryz.underlying101 rfl hi) rfl ⟨q1,m1,k1,q2,m2,k2,g1,g2,rfl,owns_mono (owns_set (owns_set O1.out (by omega)) (by omega)) (by omega),owns_mono (owns_set (owns_set O2.out (by omega)) (by omega)) (by omega),(hwb.out.setCell (by simp;omega) _).setCell (by simp;omega) _⟩
 all_goals
  rw [eA,eB] at HR
  rw [eA,eB]
  go_wp2
  rw [HR.out]
  exact bodyPost_ret (results_cell_tmp rfl _ _ _ 101 #[.slice none 0 0,.slice none 0 0] (0,0) _ (.int .i64 4) rfl (hss (hss E2.out)) rfl Tryz.underlying101 rfl hi) rfl ⟨none,0,0,none,0,0,rfl,rfl,rfl,World.ownsRow_nil _ _ _ _,World.ownsRow_nil _ _ _ _,(hwb.out.setCell (by simp;omega) _).setCell (by simp;omega) _⟩
end Go.Proofs.YtccaiiigdfieoaaGreatDoor
namespace Go.Proofs.YtccaiiigdfieoaaGreatDoor
open Go.By
theorem lead_is {v:List UInt8} {k:Nat} {x:UInt8} (h:v[k]? = some x) (hx:x≠0) (hj:∀ (j:Nat) (y:UInt8),j < k→v[j]? = some y→y = 0):leadS v = (k:Int):=by
 rcases leadS_cases v with ⟨_,_,h3⟩ | ⟨k',x',e,h1,h2,_,h4⟩
 ·exact absurd (h3 x (List.mem_of_getElem? h)) hx
 ·rw [e]
  rcases Nat.lt_trichotomy k' k with g | g | g
  ·exact absurd (hj k' x' g h1) h2
  ·rw [g]
  ·exact absurd (h4 k x g h) hx
theorem norm_cases (v d:List UInt8):(leadS v = -1∧normS (v,d) = (v,d)) ∨
  ∃ (k:Nat) (x:UInt8),leadS v = (k:Int)∧x≠0∧v[k]? = some x∧(∀ (j:Nat) (y:UInt8),j < k→v[j]? = some y→y = 0)∧normS (v,d) = (v.map (Gf.gmul (Gf.ginv x)),d.map (Gf.gmul (Gf.ginv x))):=by
 rcases leadS_cases v with ⟨h1,h2,_⟩ | ⟨k,x,e,h1,h2,h3,h4⟩
 ·exact .inl ⟨h1,if_pos h2⟩
 ·right
  refine ⟨k,x,e,h2,h1,h4,?_⟩
  unfold normS
  simp only [h3,if_neg h2]
theorem norm_lead (v d:List UInt8):leadS (normS (v,d)).1 = leadS v:=by
 rcases norm_cases v d with ⟨_,h⟩ | ⟨k,x,e,hx,hk,hj,h⟩
 ·rw [h]
 ·rw [h,e]
  refine lead_is (x:=1) ?_ (by decide) ?_
  ·simp [List.getElem?_map,hk,Gf.ginv_gmul x hx]
  ·intro j y hjk hy
   simp only [List.getElem?_map,Option.map_eq_some_iff] at hy
   obtain ⟨z,hz,rfl⟩:=hy
   rw [hj j z hjk hz,Gf.gmul_zero]
theorem at_of {v:List UInt8} {k:Nat} {x:UInt8} (h:v[k]? = some x):atS v (k:Int) = x:=by
 simp [atS,List.getD_eq_getElem?_getD,h]
end Go.Proofs.YtccaiiigdfieoaaGreatDoor
namespace Gf
abbrev V:=Nat→UInt8
def comb:List UInt8→List V→V
 | c :: cs,a :: az=>fun j=>gmul c (a j) ^^^ comb cs az j
 | _,_=>fun _=>0
theorem comb_nil (c:List UInt8) (j:Nat):comb c [] j = 0:=by cases c <;> rfl
theorem comb_nil' (A:List V) (j:Nat):comb [] A j = 0:=by cases A <;> rfl
theorem comb_cons (c:UInt8) (cs:List UInt8) (a:V) (az:List V) (j:Nat):comb (c :: cs) (a :: az) j = gmul c (a j) ^^^ comb cs az j:=rfl
theorem comb_append (c2:List UInt8) (A2:List V) (j:Nat):∀ (c1:List UInt8) (A1:List V),c1.length = A1.length→comb (c1 ++ c2) (A1 ++ A2) j = comb c1 A1 j ^^^ comb c2 A2 j
 | [],[],_=>by simp [comb_nil',zero_xor]
 | c :: cs,a :: az,h=>by
  simp only [List.cons_append,comb_cons]
  rw [comb_append c2 A2 j cs az (by simpa using h),xor_assoc]
theorem comb_add (j:Nat):∀ (c d:List UInt8) (A:List V),c.length = d.length→comb (List.zipWith (· ^^^ ·) c d) A j = comb c A j ^^^ comb d A j
 | [],[],A,_=>by simp [comb_nil',xor_self]
 | c :: cs,d :: ds,[],_=>by simp [comb_nil,xor_self]
 | c :: cs,d :: ds,a :: az,h=>by
  simp only [List.zipWith_cons_cons,comb_cons]
  rw [comb_add j cs ds az (by simpa using h),gmul_xor_left,xor4]
theorem comb_scale (x:UInt8) (j:Nat):∀ (c:List UInt8) (A:List V),comb (c.map (gmul x)) A j = gmul x (comb c A j)
 | [],A=>by simp [comb_nil',gmul_zero]
 | c :: cs,[]=>by simp [comb_nil,gmul_zero]
 | c :: cs,a :: az=>by
  simp only [List.map_cons,comb_cons]
  rw [comb_scale x j cs az,gmul_assoc,gmul_xor_right]
theorem comb_zeros (j:Nat):∀ (n:Nat) (A:List V),comb (List.replicate n 0) A j = 0
 | 0,A=>by simp [comb_nil']
 | n + 1,[]=>by simp [comb_nil]
 | n + 1,a :: az=>by simp only [List.replicate_succ,comb_cons];rw [comb_zeros j n az,zero_gmul,xor_self]
theorem comb_at_zero (j:Nat):∀ (c:List UInt8) (A:List V),(∀ a,a ∈ A→a j = 0)→comb c A j = 0
 | [],A,_=>comb_nil' _ _
 | c :: cs,[],_=>comb_nil _ _
 | c :: cs,a :: az,h=>by rw [comb_cons,h a (by simp),gmul_zero,zero_xor,comb_at_zero j cs az (fun b hb=>h b (by simp [hb]))]
def Sp (B:List V) (v:V):Prop:=∃ c:List UInt8,c.length = B.length∧v = comb c B
theorem Sp.zero (B:List V):Sp B (fun _=>0):=⟨List.replicate B.length 0,by simp,by funext j;rw [comb_zeros]⟩
theorem Sp.add {B:List V} {u v:V} (h:Sp B u) (g:Sp B v):Sp B (fun j=>u j ^^^ v j):=by
 obtain ⟨c,hc,rfl⟩:=h;obtain ⟨d,hd,rfl⟩:=g
 exact ⟨List.zipWith (· ^^^ ·) c d,by simp [hc,hd],by funext j;rw [comb_add j c d B (by rw [hc,hd])]⟩
theorem Sp.scale {B:List V} {u:V} (x:UInt8) (h:Sp B u):Sp B (fun j=>gmul x (u j)):=by
 obtain ⟨c,hc,rfl⟩:=h
 exact ⟨c.map (gmul x),by simp [hc],by funext j;rw [comb_scale]⟩
theorem Sp.cons {B:List V} {u:V} (b:V) (h:Sp B u):Sp (b :: B) u:=by
 obtain ⟨c,hc,rfl⟩:=h
 exact ⟨0 :: c,by simp [hc],by funext j;rw [comb_cons,zero_gmul,zero_xor]⟩
theorem Sp.mem {a:V}:∀ {B:List V},a ∈ B→Sp B a
 | b :: B,h=>by
  rcases List.mem_cons.1 h with rfl | h
  ·exact ⟨1 :: List.replicate B.length 0,by simp,by funext j;rw [comb_cons,one_gmul,comb_zeros,xor_zero]⟩
  ·exact (Sp.mem h).cons b
theorem Sp.comb {B:List V}:∀ (c:List UInt8) (A:List V),(∀ a,a ∈ A→Sp B a)→Sp B (Gf.comb c A)
 | [], A, _ => by have : Gf.comb [] A = fun _ => 0 := by funext j; exact comb_nil' A j
                  rw [this];exact Sp.zero B
 | c :: cs,[],_=>Sp.zero B
 | c :: cs,a :: az,h=>Sp.add (Sp.scale c (h a (by simp))) (Sp.comb cs az (fun b hb=>h b (by simp [hb])))
theorem Sp.trans {A B:List V} {v:V} (h:∀ a,a ∈ A→Sp B a) (g:Sp A v):Sp B v:=by
 obtain ⟨c,_,rfl⟩:=g;exact Sp.comb c A h
theorem Sp.sub {A B:List V} {v:V} (h:∀ a,a ∈ A→a ∈ B) (g:Sp A v):Sp B v:=Sp.trans (fun a ha=>Sp.mem (h a ha)) g
theorem Sp.at_zero {A:List V} {v:V} {j:Nat} (h:Sp A v) (hz:∀ a,a ∈ A→a j = 0):v j = 0:=by
 obtain ⟨c,_,rfl⟩:=h;exact comb_at_zero j c A hz
def Ind (A:List V):Prop:=∀ c:List UInt8,c.length = A.length→(∀ j,comb c A j = 0)→∀ x,x ∈ c→x = 0
theorem Ind.nil:Ind []:=fun c hc _ x hx=>by
 have:c = []:=List.length_eq_zero_iff.1 hc
 subst this;simp at hx
def dot:List UInt8→List UInt8→UInt8
 | c :: cs,t :: ts=>gmul c t ^^^ dot cs ts
 | _,_=>0
theorem comb_shift (a0:V) (f:V→UInt8) (j:Nat):∀ (c:List UInt8) (L:List V),c.length = L.length→comb c (L.map (fun a j=>a j ^^^ gmul (f a) (a0 j))) j = comb c L j ^^^ gmul (dot c (L.map f)) (a0 j)
 | [],[],_=>by simp [comb_nil',dot,zero_gmul,xor_self]
 | c :: cs,a :: az,h=>by
  simp only [List.map_cons,comb_cons,dot]
  rw [comb_shift a0 f j cs az (by simpa using h),gmul_xor_left,gmul_xor_right,gmul_assoc,xor4]
theorem exchange:∀ (W A:List V),Ind A→(∀ a,a ∈ A→Sp W a)→A.length≤W.length
 | [],A,hA,hS=>by
  cases A with
  | nil=>simp
  | cons a az =>
   exfalso
   obtain ⟨c,hc,ha⟩:=hS a (by simp)
   have h1:=hA (1 :: List.replicate az.length 0) (by simp) (fun j=>by rw [comb_cons,comb_zeros,ha,comb_nil];rw [gmul_zero,xor_zero]) 1 (by simp)
   exact absurd h1 (by decide)
 | w :: W,A,hA,hS=>by
  by_cases hall:∀ a,a ∈ A→Sp W a
  ·exact Nat.le_succ_of_le (exchange W A hA hall)
  ·have hex:∃ a0,a0 ∈ A∧¬ Sp W a0:=by
    apply Classical.byContradiction
    intro hn
    exact hall (fun a ha=>Classical.byContradiction fun h=>hn ⟨a,ha,h⟩)
   obtain ⟨a0,ha0,hn0⟩:=hex
   obtain ⟨A1,A2,rfl⟩:=List.append_of_mem ha0
   have part:∀ a,Sp (w :: W) a→∃ (x:UInt8) (r:V),Sp W r∧∀ j,a j = gmul x (w j) ^^^ r j:=by
    rintro a ⟨c,hc,rfl⟩
    cases c with
    | nil=>simp at hc
    | cons x cs=>exact ⟨x,Gf.comb cs W,⟨cs,by simpa using hc,rfl⟩,fun j=>rfl⟩
   obtain ⟨x0,r0,hr0,e0⟩:=part a0 (hS a0 ha0)
   have hx0:x0≠0:=fun h=>hn0 (by
    have:a0 = r0:=by funext j;rw [e0 j,h,zero_gmul,zero_xor]
    rw [this];exact hr0)
   have ht:∀ a,a ∈ A1 ++ A2→∃ t:UInt8,Sp W (fun j=>a j ^^^ gmul t (a0 j)):=by
    intro a ha
    obtain ⟨x,r,hr,e⟩:=part a (hS a (by simp at ha ⊢;rcases ha with h | h <;> simp [h]))
    refine ⟨gmul x (ginv x0),?_⟩
    have:(fun j=>a j ^^^ gmul (gmul x (ginv x0)) (a0 j)) = fun j=>r j ^^^ gmul (gmul x (ginv x0)) (r0 j):=by
     funext j
     rw [e j,e0 j,gmul_xor_right,← gmul_assoc,gmul_assoc x (ginv x0) x0,ginv_gmul x0 hx0,gmul_one,xor4,xor_self,zero_xor]
    rw [this];exact Sp.add hr (Sp.scale _ hr0)
   obtain ⟨f,hf⟩:∃ f:V→UInt8,∀ a,a ∈ A1 ++ A2→Sp W (fun j=>a j ^^^ gmul (f a) (a0 j)) :=
    ⟨fun a=>Classical.epsilon fun t=>Sp W (fun j=>a j ^^^ gmul t (a0 j)),fun a ha=>Classical.epsilon_spec (ht a ha)⟩
   have hind:Ind ((A1 ++ A2).map (fun a j=>a j ^^^ gmul (f a) (a0 j))):=by
    intro c hc hz x hx
    rw [List.length_map] at hc
    have hsplit:c = c.take A1.length ++ c.drop A1.length:=(List.take_append_drop _ _).symm
    have l1:(c.take A1.length).length = A1.length:=by rw [List.length_take,hc,List.length_append];omega
    have h2:=hA (c.take A1.length ++ dot c ((A1 ++ A2).map f) :: c.drop A1.length) (by
     rw [List.length_append,List.length_append,List.length_cons,List.length_cons,l1,List.length_drop,hc,List.length_append];omega) (fun j=>by
     rw [comb_append _ _ _ _ _ l1,comb_cons]
     have h3:=hz j
     rw [comb_shift a0 f j c (A1 ++ A2) hc] at h3
     have h4:comb c (A1 ++ A2) j = comb (c.take A1.length) A1 j ^^^ comb (c.drop A1.length) A2 j:=by
      conv=>lhs;rw [hsplit]
      exact comb_append _ _ _ _ _ l1
     rw [h4] at h3
     rw [← h3,xor_assoc];congr 1;exact xor_comm _ _)
    refine h2 x ?_
    rw [hsplit] at hx
    rcases List.mem_append.1 hx with h | h
    ·exact List.mem_append_left _ h
    ·exact List.mem_append_right _ (List.mem_cons_of_mem _ h)
   have:=exchange W _ hind (fun a ha=>by
    obtain ⟨b,hb,rfl⟩:=List.mem_map.1 ha
    exact hf b hb)
   rw [List.length_map,List.length_append] at this
   rw [List.length_append,List.length_cons,List.length_cons];omega
def Rk (A:List V) (r:Nat):Prop:=∃ B,Ind B∧B.length = r∧(∀ b,b ∈ B→Sp A b)∧∀ a,a ∈ A→Sp B a
theorem Rk.le {A C:List V} {r s:Nat} (h:Rk A r) (g:Rk C s) (hs:∀ a,a ∈ A→Sp C a):r≤s:=by
 obtain ⟨B,b1,rfl,b3,b4⟩:=h;obtain ⟨D,d1,rfl,d3,d4⟩:=g
 exact exchange D B b1 (fun b hb=>Sp.trans d4 (Sp.trans hs (b3 b hb)))
theorem Rk.unique {A:List V} {r s:Nat} (h:Rk A r) (g:Rk A s):r = s :=
 Nat.le_antisymm (h.le g fun _ ha=>Sp.mem ha) (g.le h fun _ ha=>Sp.mem ha)
theorem Rk.same {A C:List V} {r s:Nat} (h:Rk A r) (g:Rk C s) (h1:∀ a,a ∈ A→Sp C a) (h2:∀ c,c ∈ C→Sp A c):r = s:=Nat.le_antisymm (h.le g h1) (g.le h h2)
def Tri:List (V × Nat)→Prop
 | []=>True
 | (v,l) :: K=>v l = 1∧(∀ p,p ∈ K→p.1 l = 0)∧Tri K
theorem Tri.comb_zero:∀ {K:List (V × Nat)} {c:List UInt8},Tri K→c.length = K.length→(∀ p,p ∈ K→comb c (K.map (·.1)) p.2 = 0)→∀ x,x ∈ c→x = 0
 | [],[],_,_,_=>by simp
 | (v,l) :: K,c :: cs,h,hc,hz=>by
  obtain ⟨h1,h2,h3⟩:=h
  have hK:∀ a,a ∈ K.map (·.1)→a l = 0:=fun a ha=>by obtain ⟨p,hp,rfl⟩:=List.mem_map.1 ha;exact h2 p hp
  have c0:c = 0:=by
   have:=hz (v,l) (by simp)
   simp only [List.map_cons,comb_cons] at this
   rw [comb_at_zero l cs _ hK,h1,gmul_one,xor_zero] at this
   exact this
  subst c0
  have ih:=Tri.comb_zero (c:=cs) h3 (by simpa using hc) (fun p hp=>by
   have:=hz p (by simp [hp])
   simpa only [List.map_cons,comb_cons,zero_gmul,zero_xor] using this)
  intro x hx
  rcases List.mem_cons.1 hx with rfl | hx
  ·rfl
  ·exact ih x hx
theorem Tri.ind {K:List (V × Nat)} (h:Tri K):Ind (K.map (·.1)):=fun c hc hz=>h.comb_zero (by simpa using hc) (fun _ _=>hz _)
theorem Tri.span_zero {K:List (V × Nat)} {v:V} (h:Tri K) (hs:Sp (K.map (·.1)) v) (hz:∀ p,p ∈ K→v p.2 = 0):∀ j,v j = 0:=by
 obtain ⟨c,hc,rfl⟩:=hs
 have:=h.comb_zero (by simpa using hc) hz
 have e:c = List.replicate c.length 0:=List.eq_replicate_of_mem this
 intro j
 rw [e];exact comb_zeros j _ _
def red (K:List (V × Nat)) (x:V):V:=K.foldl (fun x p j=>x j ^^^ gmul (x p.2) (p.1 j)) x
theorem red_cons (p:V × Nat) (K:List (V × Nat)) (x:V):red (p :: K) x = red K (fun j=>x j ^^^ gmul (x p.2) (p.1 j)):=rfl
theorem red_span:∀ (K:List (V × Nat)) (x:V),Sp (K.map (·.1)) (fun j=>x j ^^^ red K x j)
 | [], x => by have : (fun j => x j ^^^ red [] x j) = fun _ => 0 := by funext j; exact xor_self _
               rw [this];exact Sp.zero _
 | p :: K,x=>by
  have h1:=(red_span K (fun j=>x j ^^^ gmul (x p.2) (p.1 j))).cons p.1
  have h2:Sp (p.1 :: K.map (·.1)) (fun j=>gmul (x p.2) (p.1 j)):=Sp.scale _ (Sp.mem (by simp))
  have:=Sp.add h1 h2
  rw [List.map_cons]
  have e:(fun j=>x j ^^^ red (p :: K) x j) = fun j=>((x j ^^^ gmul (x p.2) (p.1 j)) ^^^ red K (fun j=>x j ^^^ gmul (x p.2) (p.1 j)) j) ^^^ gmul (x p.2) (p.1 j):=by
   funext j
   rw [red_cons,xor_assoc (x j),xor_comm (gmul _ _) (red _ _ _),← xor_assoc (x j),xor_cancel]
  rw [e];exact this
theorem red_keeps_zero {l:Nat}:∀ {K:List (V × Nat)} {x:V},(∀ p,p ∈ K→p.1 l = 0)→x l = 0→red K x l = 0
 | [],x,_,h=>h
 | p :: K,x,hK,h=>by
  rw [red_cons]
  exact red_keeps_zero (fun q hq=>hK q (by simp [hq])) (by rw [h,hK p (by simp),gmul_zero,xor_self])
theorem red_at:∀ {K:List (V × Nat)} {x:V},Tri K→∀ p,p ∈ K→red K x p.2 = 0
 | (v,l) :: K,x,⟨h1,h2,h3⟩,p,hp=>by
  rw [red_cons]
  rcases List.mem_cons.1 hp with rfl | hp
  ·exact red_keeps_zero h2 (by simp only [h1,gmul_one,xor_self])
  ·exact red_at h3 p hp
theorem red_zero {K:List (V × Nat)} {x:V} (h:Tri K):(∀ j,red K x j = 0)↔Sp (K.map (·.1)) x:=by
 constructor
 ·intro hz
  have:=red_span K x
  have e:(fun j=>x j ^^^ red K x j) = x:=by funext j;rw [hz j,xor_zero]
  rwa [e] at this
 ·intro hs
  have h1:=Sp.add hs (red_span K x)
  have e:(fun j=>x j ^^^ (x j ^^^ red K x j)) = red K x:=by funext j;rw [← xor_assoc,xor_self,zero_xor]
  rw [e] at h1
  exact h.span_zero h1 (red_at h)
theorem Tri.snoc:∀ {K:List (V × Nat)} {y:V} {l:Nat},Tri K→(∀ p,p ∈ K→y p.2 = 0)→y l = 1→Tri (K ++ [(y,l)])
 | [],y,l,_,_,h1=>⟨h1,by simp,trivial⟩
 | (v,l0) :: K,y,l,⟨h1,h2,h3⟩,hz,hy=>by
  refine ⟨h1,?_,h3.snoc (fun p hp=>hz p (by simp [hp])) hy⟩
  intro p hp
  rcases List.mem_append.1 hp with h | h
  ·exact h2 p h
  ·simp at h;subst h;exact hz (v,l0) (by simp)
theorem Tri.append:∀ {K L:List (V × Nat)},Tri K→Tri L→(∀ p,p ∈ K→∀ q,q ∈ L→q.1 p.2 = 0)→Tri (K ++ L)
 | [],L,_,h,_=>h
 | (v,l0) :: K,L,⟨h1,h2,h3⟩,hL,hz=>by
  refine ⟨h1,?_,h3.append hL (fun p hp=>hz p (by simp [hp]))⟩
  intro p hp
  rcases List.mem_append.1 hp with h | h
  ·exact h2 p h
  ·exact hz (v,l0) (by simp) p h
theorem Tri.left:∀ {K L:List (V × Nat)},Tri (K ++ L)→Tri K
 | [],L,_=>trivial
 | (v,l0) :: K,L,⟨h1,h2,h3⟩=>⟨h1,fun p hp=>h2 p (by simp [hp]),h3.left⟩
theorem Tri.right:∀ {K L:List (V × Nat)},Tri (K ++ L)→Tri L
 | [],L,h=>h
 | (v,l0) :: K,L,⟨_,_,h3⟩=>h3.right
end Gf
namespace Gf
theorem Ind.cons {A:List V} {v:V} (h:Ind A) (hv:¬ Sp A v):Ind (v :: A):=by
 intro c hc hz
 cases c with
 | nil=>simp
 | cons x cs =>
  have hx:x = 0:=by
   apply Classical.byContradiction
   intro hx
   apply hv
   have:v = fun j=>gmul (ginv x) (comb cs A j):=by
    funext j
    have:=hz j
    rw [comb_cons] at this
    have e:=xor_eq_zero this
    rw [← e,← gmul_assoc,ginv_gmul x hx,one_gmul]
   rw [this]
   exact Sp.scale _ ⟨cs,by simpa using hc,rfl⟩
  subst hx
  have:=h cs (by simpa using hc) (fun j=>by have:=hz j;rwa [comb_cons,zero_gmul,zero_xor] at this)
  intro y hy
  rcases List.mem_cons.1 hy with rfl | hy
  ·rfl
  ·exact this y hy
theorem Rk.ind {A:List V} {r:Nat} (h:Rk A r) (hr:A.length = r):Ind A:=by
 obtain ⟨B,b1,rfl,b3,b4⟩:=h
 apply Classical.byContradiction
 intro hn
 have hex:∃ c:List UInt8,c.length = A.length∧(∀ j,comb c A j = 0)∧∃ x,x ∈ c∧x≠0:=by
  apply Classical.byContradiction
  intro hne
  apply hn
  intro c hc hz x hx
  apply Classical.byContradiction
  intro hx0
  exact hne ⟨c,hc,hz,x,hx,hx0⟩
 obtain ⟨c,hc,hz,x,hx,hx0⟩:=hex
 obtain ⟨c1,c2,rfl⟩:=List.append_of_mem hx
 have hl:c1.length < A.length:=by rw [← hc];simp
 have hA:A = A.take c1.length ++ A[c1.length] :: A.drop (c1.length + 1):=by
  rw [← List.drop_eq_getElem_cons hl,List.take_append_drop]
 obtain ⟨a,ha⟩:∃ a,a = A[c1.length]:=⟨_,rfl⟩
 rw [← ha] at hA
 obtain ⟨A1,hA1⟩:∃ A1,A1 = A.take c1.length:=⟨_,rfl⟩
 obtain ⟨A2,hA2⟩:∃ A2,A2 = A.drop (c1.length + 1):=⟨_,rfl⟩
 have l1:c1.length = A1.length:=by rw [hA1,List.length_take];omega
 have l2:c2.length = A2.length:=by rw [hA2,List.length_drop];simp at hc;omega
 rw [← hA1,← hA2] at hA
 have e:a = fun j=>gmul (ginv x) (comb c1 A1 j ^^^ comb c2 A2 j):=by
  funext j
  have:=hz j
  rw [hA,comb_append _ _ _ _ _ l1,comb_cons] at this
  have e2:gmul x (a j) = comb c1 A1 j ^^^ comb c2 A2 j:=by
   apply xor_eq_zero
   rw [← this,xor_left_comm,← xor_assoc]
  rw [← e2,← gmul_assoc,ginv_gmul x hx0,one_gmul]
 have hs:Sp (A1 ++ A2) a:=by
  rw [e]
  refine Sp.scale _ ⟨c1 ++ c2,by simp [l1,l2],?_⟩
  funext j
  rw [comb_append _ _ _ _ _ l1]
 have:=exchange (A1 ++ A2) B b1 (fun b hb=>by
  refine Sp.trans ?_ (b3 b hb)
  intro y hy
  rw [hA] at hy
  rcases List.mem_append.1 hy with h | h
  ·exact Sp.mem (by simp [h])
  ·rcases List.mem_cons.1 h with rfl | h
   ·exact hs
   ·exact Sp.mem (by simp [h]))
 have hl2:=congrArg List.length hA
 rw [List.length_append,List.length_cons] at hl2
 rw [List.length_append] at this
 omega
end Gf
namespace Go.Proofs.YtccaiiigdfieoaaGreatDoor
open Go.By Gf
abbrev Rw:=List UInt8 × List UInt8
def vf (xs:List UInt8):V:=fun j=>xs.getD j 0
def cat (r:Rw):List UInt8:=r.1 ++ r.2
def Fit (n t:Nat) (r:Rw):Prop:=r.1.length = n∧r.2.length = t
def lessF (x:Rw) (c:UInt8) (o:Rw):Rw:=(axpy c o.1 x.1,axpy c o.2 x.2)
def restF (K:List Rw) (x:Rw):Rw:=K.foldl (fun x k=>lessF x (atS x.1 (leadS k.1)) k) x
theorem vf_axpy {c:UInt8} {xs ys:List UInt8} (h:xs.length = ys.length):vf (axpy c xs ys) = fun j=>vf ys j ^^^ gmul c (vf xs j):=by
 funext j
 unfold vf axpy
 simp only [List.getD_eq_getElem?_getD,List.getElem?_zipWith]
 by_cases hj:j < xs.length
 ·rw [List.getElem?_eq_getElem hj,List.getElem?_eq_getElem (by omega:j < ys.length)];rfl
 ·rw [List.getElem?_eq_none (by omega),List.getElem?_eq_none (by omega)];simp [gmul_zero,xor_zero]
theorem vf_scale (c:UInt8) (xs:List UInt8):vf (xs.map (gmul c)) = fun j=>gmul c (vf xs j):=by
 funext j
 unfold vf
 simp only [List.getD_eq_getElem?_getD,List.getElem?_map]
 cases xs[j]? <;> simp [gmul_zero]
theorem vf_inj {xs ys:List UInt8} (h:xs.length = ys.length) (e:∀ j,j < xs.length→vf xs j = vf ys j):xs = ys:=by
 apply List.ext_getElem h
 intro i h1 h2
 have:=e i h1
 simpa [vf,List.getD_eq_getElem?_getD,h1,h2] using this
theorem vf_app_left {xs ys:List UInt8} {j:Nat} (h:j < xs.length):vf (xs ++ ys) j = vf xs j:=by
 unfold vf;rw [List.getD_eq_getElem?_getD,List.getElem?_append_left h,List.getD_eq_getElem?_getD]
theorem axpy_append (c:UInt8):∀ (xs ys us vs:List UInt8),xs.length = us.length→axpy c (xs ++ ys) (us ++ vs) = axpy c xs us ++ axpy c ys vs:=by
 intro xs ys us vs h
 unfold axpy
 exact List.zipWith_append h
theorem cat_less {n t:Nat} {x o:Rw} (c:UInt8) (hx:Fit n t x) (ho:Fit n t o):cat (lessF x c o) = axpy c (cat o) (cat x):=by
 unfold cat lessF
 rw [axpy_append]
 rw [ho.1,hx.1]
theorem Fit.less {n t:Nat} {x o:Rw} {c:UInt8} (hx:Fit n t x) (ho:Fit n t o):Fit n t (lessF x c o):=by
 unfold Fit lessF
 exact ⟨by rw [axpy_length _ _ _ (by rw [ho.1,hx.1])];exact hx.1,by rw [axpy_length _ _ _ (by rw [ho.2,hx.2])];exact hx.2⟩
theorem Fit.rest {n t:Nat}:∀ {K:List Rw} {x:Rw},(∀ k,k ∈ K→Fit n t k)→Fit n t x→Fit n t (restF K x)
 | [],x,_,hx=>hx
 | k :: K,x,hK,hx=>Fit.rest (K:=K) (fun a ha=>hK a (by simp [ha])) (hx.less (hK k (by simp)))
theorem Fit.cat {n t:Nat} {x:Rw} (h:Fit n t x):(cat x).length = n + t:=by unfold Go.Proofs.YtccaiiigdfieoaaGreatDoor.cat;rw [List.length_append,h.1,h.2]
def LeadAt (r:Rw) (l:Nat):Prop:=leadS r.1 = (l:Int)∧r.1[l]? = some 1∧∀ (j:Nat) (y:UInt8),j < l→r.1[j]? = some y→y = 0
def Led (r:Rw):Prop:=∃ l,LeadAt r l
def leadN (r:Rw):Nat:=(leadS r.1).toNat
theorem Led.at {r:Rw} (h:Led r):LeadAt r (leadN r):=by
 obtain ⟨l,hl⟩:=h
 have:leadN r = l:=by unfold leadN;rw [hl.1];rfl
 rw [this];exact hl
theorem LeadAt.lt {r:Rw} {l n t:Nat} (h:LeadAt r l) (hf:Fit n t r):l < n:=by
 have:=(List.getElem?_eq_some_iff.1 h.2.1).1;rw [hf.1] at this;exact this
def tri (K:List Rw):List (V × Nat):=K.map fun k=>(vf (cat k),leadN k)
theorem tri_fst (K:List Rw):(tri K).map (·.1) = K.map fun k=>vf (cat k):=by simp [tri,List.map_map,Function.comp_def]
theorem tri_mem {K:List Rw} {p:V × Nat} (h:p ∈ tri K):∃ k,k ∈ K∧p = (vf (cat k),leadN k):=by
 simp only [tri,List.mem_map] at h
 obtain ⟨k,hk,rfl⟩:=h;exact ⟨k,hk,rfl⟩
theorem vf_at {n t l:Nat} {x:Rw} (hx:Fit n t x) (hl:l < n):vf (cat x) l = atS x.1 (l:Int):=by
 unfold cat
 rw [vf_app_left (by rw [hx.1];exact hl)]
 simp [vf,atS]
theorem rest_red {n t:Nat}:∀ {K:List Rw} {x:Rw},(∀ k,k ∈ K→Fit n t k∧Led k)→Fit n t x→vf (cat (restF K x)) = red (tri K) (vf (cat x))
 | [],x,_,_=>rfl
 | k :: K,x,hK,hx=>by
  obtain ⟨hf,hl⟩:=hK k (by simp)
  have hL:=hl.at
  have e:(restF (k :: K) x) = restF K (lessF x (atS x.1 (leadS k.1)) k):=rfl
  rw [e,rest_red (K:=K) (fun a ha=>hK a (by simp [ha])) (hx.less hf),cat_less _ hx hf,vf_axpy (by rw [hf.cat,hx.cat])]
  have e2:atS x.1 (leadS k.1) = vf (cat x) (leadN k):=by rw [vf_at hx (hL.lt hf),hL.1]
  rw [e2];rfl
theorem axpy_zero_of {c:UInt8} (h:c = 0) {xs ys:List UInt8} (hl:xs.length = ys.length):axpy c xs ys = ys:=by
 refine vf_inj (by rw [axpy_length _ _ _ hl]) (fun j _=>?_)
 rw [vf_axpy hl]
 show vf ys j ^^^ gmul c _ = _
 rw [h,zero_gmul,xor_zero]
theorem leadS_neg {v:List UInt8} (h:leadS v < 0):∀ x,x ∈ v→x = 0:=by
 rcases leadS_cases v with ⟨_,_,h3⟩ | ⟨k,x,e,_⟩
 ·exact h3
 ·omega
theorem vf_zero {v:List UInt8} (h:∀ x,x ∈ v→x = 0):∀ j,vf v j = 0:=by
 intro j
 unfold vf
 rw [List.getD_eq_getElem?_getD]
 cases e:v[j]? with
 | none=>rfl
 | some x=>exact h x (List.mem_of_getElem? e)
theorem norm_row {n t:Nat} {y:Rw} (hy:Fit n t y) (h:¬ leadS y.1 < 0):∃ (l:Nat) (c:UInt8),c≠0∧leadS y.1 = (l:Int)∧LeadAt (normS y) l∧Fit n t (normS y)∧vf (cat (normS y)) = fun j=>gmul c (vf (cat y) j):=by
 obtain ⟨v,d⟩:=y
 rcases norm_cases v d with ⟨h1,_⟩ | ⟨k,x,e,hx,hk,hj,g⟩
 ·exact absurd (by rw [h1];decide) h
 ·refine ⟨k,ginv x,ginv_ne x hx,e,?_,?_,?_⟩
  ·rw [g]
   refine ⟨by have:=norm_lead v d;rw [g] at this;rw [this,e],by simp [List.getElem?_map,hk,ginv_gmul x hx],?_⟩
   intro j y hjk hy'
   simp only [List.getElem?_map,Option.map_eq_some_iff] at hy'
   obtain ⟨z,hz,rfl⟩:=hy'
   rw [hj j z hjk hz,gmul_zero]
  ·rw [g];exact ⟨by simpa using hy.1,by simpa using hy.2⟩
  ·rw [g]
   have:cat (v.map (gmul (ginv x)),d.map (gmul (ginv x))) = (cat (v,d)).map (gmul (ginv x)):=by simp [cat]
   rw [this,vf_scale]
def keepF (K:List Rw) (x:Rw):List Rw:=if leadS (restF K x).1 < 0 then K else K ++ [normS (restF K x)]
structure Kept (n t:Nat) (K:List Rw):Prop where
 rows:∀ k,k ∈ K→Fit n t k∧Led k
 tri:Tri (tri K)
theorem Kept.nil (n t:Nat):Kept n t []:=⟨by simp,trivial⟩
theorem tri_append (K L:List Rw):tri (K ++ L) = tri K ++ tri L:=by simp [tri]
theorem leadN_of {r:Rw} {l:Nat} (h:LeadAt r l):leadN r = l:=by unfold leadN;rw [h.1];rfl
theorem vf_lead {n t l:Nat} {r:Rw} (h:LeadAt r l) (hf:Fit n t r):vf (cat r) l = 1:=by
 rw [vf_at hf (h.lt hf),at_of h.2.1]
theorem Kept.step {n t:Nat} {K:List Rw} {x:Rw} (h:Kept n t K) (hx:Fit n t x):Kept n t (keepF K x):=by
 unfold keepF
 split
 ·exact h
 ·rename_i hn
  have hr:=hx.rest (fun k hk=>(h.rows k hk).1)
  obtain ⟨l,c,hc,hl,hL,hF,hv⟩:=norm_row hr hn
  refine ⟨?_,?_⟩
  ·intro k hk
   rcases List.mem_append.1 hk with h' | h'
   ·exact h.rows k h'
   ·simp at h';subst h';exact ⟨hF,l,hL⟩
  ·rw [tri_append]
   show Tri (Go.Proofs.YtccaiiigdfieoaaGreatDoor.tri K ++ [(vf (cat (normS (restF K x))),leadN (normS (restF K x)))])
   refine h.tri.snoc ?_ ?_
   ·intro p hp
    rw [hv]
    show gmul c (vf (cat (restF K x)) p.2) = 0
    rw [rest_red h.rows hx,red_at h.tri p hp,gmul_zero]
   ·rw [leadN_of hL];exact vf_lead hL hF
theorem kept_span {n:Nat}:∀ {K:List Rw} {x:Rw},Kept n 0 K→Fit n 0 x→(∀ k,k ∈ keepF K x→Sp (vf (cat x) :: K.map fun k=>vf (cat k)) (vf (cat k)))∧Sp ((keepF K x).map fun k=>vf (cat k)) (vf (cat x))∧(∀ k,k ∈ K→Sp ((keepF K x).map fun k=>vf (cat k)) (vf (cat k))):=by
 intro K x h hx
 have hr:=hx.rest (fun k hk=>(h.rows k hk).1)
 have hred:=rest_red h.rows hx
 have hspan:=red_span (tri K) (vf (cat x))
 rw [tri_fst] at hspan
 unfold keepF
 split
 ·rename_i hn
  have hz:∀ j,red (tri K) (vf (cat x)) j = 0:=by
   intro j
   rw [← hred]
   have e:cat (restF K x) = (restF K x).1:=by unfold cat;rw [List.length_eq_zero_iff.1 hr.2,List.append_nil]
   rw [e]
   exact vf_zero (leadS_neg hn) j
  refine ⟨fun k hk=>Sp.mem (List.mem_cons_of_mem _ (List.mem_map.2 ⟨k,hk,rfl⟩)),?_,fun k hk=>Sp.mem (List.mem_map.2 ⟨k,hk,rfl⟩)⟩
  have:=(red_zero h.tri).1 hz
  rwa [tri_fst] at this
 ·rename_i hn
  obtain ⟨l,c,hc,hl,hL,hF,hv⟩:=norm_row hr hn
  refine ⟨?_,?_,fun k hk=>Sp.mem (List.mem_map.2 ⟨k,by simp [hk],rfl⟩)⟩
  ·intro k hk
   rcases List.mem_append.1 hk with h' | h'
   ·exact Sp.mem (List.mem_cons_of_mem _ (List.mem_map.2 ⟨k,h',rfl⟩))
   ·simp at h';subst h'
    rw [hv,hred]
    refine Sp.scale c ?_
    have e:red (tri K) (vf (cat x)) = fun j=>vf (cat x) j ^^^ (vf (cat x) j ^^^ red (tri K) (vf (cat x)) j):=by funext j;rw [← xor_assoc,xor_self,zero_xor]
    rw [e]
    exact Sp.add (Sp.mem (by simp)) (hspan.cons _)
  ·have e:vf (cat x) = fun j=>gmul (ginv c) (vf (cat (normS (restF K x))) j) ^^^ (vf (cat x) j ^^^ red (tri K) (vf (cat x)) j):=by
    funext j
    rw [hv,hred]
    show _ = gmul (ginv c) (gmul c _) ^^^ _
    rw [← gmul_assoc,ginv_gmul c hc,one_gmul,xor_comm (red _ _ _),xor_cancel]
   rw [e]
   refine Sp.add (Sp.scale _ (Sp.mem (by simp))) (Sp.sub (fun a ha=>?_) hspan)
   simp only [List.mem_map] at ha ⊢
   obtain ⟨k,hk,rfl⟩:=ha
   exact ⟨k,by simp [hk],rfl⟩
theorem fold_rank {n:Nat} (Inv:List Rw→Prop) (f:List Rw→Rw→List Rw) (h0:Inv []) (hK:∀ K,Inv K→Kept n 0 K) (hf:∀ K x,Inv K→Fit n 0 x→Inv (f K x)∧(f K x).Perm (keepF K x)) (rows:List (List UInt8)) (hrows:∀ r,r ∈ rows→r.length = n) :
  Rk (rows.map vf) (rows.foldl (fun K r=>f K (r,[])) []).length:=by
 have key:∀ (todo:List (List UInt8)) (K:List Rw) (done:List V),(∀ r,r ∈ todo→r.length = n)→Inv K→(∀ k,k ∈ K→Sp done (vf (cat k)))→(∀ v,v ∈ done→Sp (K.map fun k=>vf (cat k)) v) →
   Inv (todo.foldl (fun K r=>f K (r,[])) K)∧(∀ k,k ∈ todo.foldl (fun K r=>f K (r,[])) K→Sp (done ++ todo.map vf) (vf (cat k)))∧(∀ v,v ∈ done ++ todo.map vf→Sp ((todo.foldl (fun K r=>f K (r,[])) K).map fun k=>vf (cat k)) v):=by
  intro todo
  induction todo with
  | nil=>intro K done _ h1 h2 h3;exact ⟨h1,fun k hk=>by simpa using h2 k hk,fun v hv=>h3 v (by simpa using hv)⟩
  | cons r todo ih =>
   intro K done hl h1 h2 h3
   have hx:Fit n 0 (r,[]):=⟨hl r (by simp),rfl⟩
   have ec:cat (r,[]) = r:=by simp [cat]
   obtain ⟨s1,s2,s3⟩:=kept_span (hK K h1) hx
   obtain ⟨i1,hp⟩:=hf K (r,[]) h1 hx
   have hm:∀ {v:V},Sp ((keepF K (r,[])).map fun k=>vf (cat k)) v→Sp ((f K (r,[])).map fun k=>vf (cat k)) v:=fun h=>Sp.sub (fun a ha=>by
    obtain ⟨k,hk,rfl⟩:=List.mem_map.1 ha
    exact List.mem_map.2 ⟨k,hp.mem_iff.2 hk,rfl⟩) h
   rw [ec] at s1 s2
   have:=ih (f K (r,[])) (done ++ [vf r]) (fun a ha=>hl a (by simp [ha])) i1 (fun k hk=>by
    refine Sp.trans ?_ (s1 k (hp.mem_iff.1 hk))
    intro a ha
    rcases List.mem_cons.1 ha with rfl | ha
    ·exact Sp.mem (by simp)
    ·obtain ⟨k',hk',rfl⟩:=List.mem_map.1 ha
     exact Sp.sub (fun b hb=>by simp [hb]) (h2 k' hk')) (fun v hv=>by
    rcases List.mem_append.1 hv with hv | hv
    ·refine Sp.trans ?_ (h3 v hv)
     intro a ha
     obtain ⟨k',hk',rfl⟩:=List.mem_map.1 ha
     exact hm (s3 k' hk')
    ·simp at hv;subst hv;exact hm s2)
   simpa using this
 obtain ⟨k1,k2,k3⟩:=key rows [] [] hrows h0 (by simp) (by simp)
 simp only [List.nil_append] at k2 k3
 refine ⟨_,(hK _ k1).tri.ind,?_,?_,?_⟩
 ·rw [tri_fst,List.length_map]
 ·intro b hb
  rw [tri_fst] at hb
  obtain ⟨k,hk,rfl⟩:=List.mem_map.1 hb
  exact k2 k hk
 ·intro a ha
  rw [tri_fst]
  exact k3 a ha
def insF (K:List Rw) (x:Rw):List Rw :=
 if leadS (normS (restF K x)).1 < 0 then K else K.takeWhile (fun r=>decide (leadS r.1 < leadS (normS (restF K x)).1)) ++ normS (restF K x) :: K.dropWhile (fun r=>decide (leadS r.1 < leadS (normS (restF K x)).1))
theorem norm_leadS (r:Rw):leadS (normS r).1 = leadS r.1:=by obtain ⟨v,d⟩:=r;exact norm_lead v d
theorem ins_perm (K:List Rw) (x:Rw):(insF K x).Perm (keepF K x):=by
 unfold insF keepF
 rw [norm_leadS]
 split
 ·exact List.Perm.refl _
 ·refine (List.perm_middle).trans ?_
  rw [List.takeWhile_append_dropWhile]
  exact (List.perm_append_singleton _ _).symm
structure KeptS (n t:Nat) (K:List Rw):Prop where
 rows:∀ k,k ∈ K→Fit n t k∧Led k
 sorted:K.Pairwise (fun a b=>leadN a < leadN b)
theorem vf_before {n t l:Nat} {r:Rw} (hf:Fit n t r) (h:Led r) (hl:l < leadN r):vf (cat r) l = 0:=by
 have hL:=h.at
 have:=hL.lt hf
 rw [vf_at hf (by omega)]
 have hz:=hL.2.2 l
 simp only [atS,Int.toNat_natCast,Int.natCast_nonneg,if_true,List.getD_eq_getElem?_getD]
 cases e:r.1[l]? with
 | none=>rfl
 | some y=>exact hz y hl e
theorem tri_of_sorted {n t:Nat}:∀ {K:List Rw},(∀ k,k ∈ K→Fit n t k∧Led k)→K.Pairwise (fun a b=>leadN a < leadN b)→Tri (tri K)
 | [],_,_=>trivial
 | k :: K,h1,h2=>by
  obtain ⟨g1,g2⟩:=List.pairwise_cons.1 h2
  obtain ⟨hf,hl⟩:=h1 k (by simp)
  refine ⟨vf_lead hl.at hf,?_,tri_of_sorted (fun a ha=>h1 a (by simp [ha])) g2⟩
  intro p hp
  obtain ⟨k',hk',rfl⟩:=tri_mem hp
  exact vf_before (h1 k' (by simp [hk'])).1 (h1 k' (by simp [hk'])).2 (g1 k' hk')
theorem KeptS.kept {n t:Nat} {K:List Rw} (h:KeptS n t K):Kept n t K:=⟨h.rows,tri_of_sorted h.rows h.sorted⟩
theorem KeptS.nil (n t:Nat):KeptS n t []:=⟨by simp,List.Pairwise.nil⟩
theorem mem_take {α:Type} {p:α→Bool}:∀ {l:List α} {a:α},a ∈ l.takeWhile p→p a = true
 | b :: l,a,h=>by
  rw [List.takeWhile_cons] at h
  split at h
  ·rename_i hb
   rcases List.mem_cons.1 h with rfl | h
   ·exact hb
   ·exact mem_take h
  ·simp at h
theorem drop_head {α:Type} {p:α→Bool}:∀ {l:List α} {a:α} {r:List α},l.dropWhile p = a :: r→p a = false
 | b :: l,a,r,h=>by
  rw [List.dropWhile_cons] at h
  split at h
  ·exact drop_head h
  ·rename_i hb
   simp at h
   rw [← h.1];simpa using hb
theorem KeptS.step {n t:Nat} {K:List Rw} {x:Rw} (h:KeptS n t K) (hx:Fit n t x):KeptS n t (insF K x):=by
 have hkk:=h.kept.step hx
 have hp:=ins_perm K x
 refine ⟨fun k hk=>hkk.rows k (hp.mem_iff.1 hk),?_⟩
 unfold insF
 split
 ·exact h.sorted
 ·rename_i hn
  rw [norm_leadS] at hn
  have hr:=hx.rest (fun k hk=>(h.rows k hk).1)
  obtain ⟨l,c,hc,hl,hL,hF,hv⟩:=norm_row hr hn
  have hln:=leadN_of hL
  rw [hL.1]
  have hne:∀ k,k ∈ K→leadN k≠l:=by
   intro k hk e
   have h1:vf (cat (normS (restF K x))) l = 1:=vf_lead hL hF
   have h2:vf (cat (normS (restF K x))) (leadN k) = 0:=by
    rw [hv]
    show gmul c (vf (cat (restF K x)) (leadN k)) = 0
    rw [rest_red h.rows hx,red_at h.kept.tri (vf (cat k),leadN k) (List.mem_map.2 ⟨k,hk,rfl⟩),gmul_zero]
   rw [e,h1] at h2
   exact absurd h2 (by decide)
  have hlead:∀ k,k ∈ K→leadS k.1 = (leadN k:Int):=fun k hk=>(h.rows k hk).2.at.1
  have hs:(K.takeWhile (fun r=>decide (leadS r.1 < (l:Int))) ++ K.dropWhile (fun r=>decide (leadS r.1 < (l:Int)))).Pairwise (fun a b=>leadN a < leadN b):=by
   rw [List.takeWhile_append_dropWhile];exact h.sorted
  have mT:∀ k,k ∈ K.takeWhile (fun r=>decide (leadS r.1 < (l:Int)))→k ∈ K∧leadN k < l:=by
   intro k hk
   have h1:=(List.takeWhile_sublist _).mem hk
   refine ⟨h1,?_⟩
   have:=mem_take hk
   rw [decide_eq_true_eq,hlead k h1] at this
   omega
  have mD:∀ k,k ∈ K.dropWhile (fun r=>decide (leadS r.1 < (l:Int)))→l < leadN k:=by
   obtain ⟨h1,h2,h3⟩:=List.pairwise_append.1 hs
   cases e:K.dropWhile (fun r=>decide (leadS r.1 < (l:Int))) with
   | nil=>intro k hk;simp at hk
   | cons a r =>
    have ha:a ∈ K:=(List.dropWhile_sublist _).mem (by rw [e];simp)
    have hd:=drop_head e
    rw [decide_eq_false_iff_not,hlead a ha] at hd
    have hla:l < leadN a:=by have:=hne a ha;omega
    rw [e] at h2
    intro k hk
    rcases List.mem_cons.1 hk with rfl | hk
    ·exact hla
    ·exact Nat.lt_trans hla ((List.pairwise_cons.1 h2).1 k hk)
  obtain ⟨h1,h2,h3⟩:=List.pairwise_append.1 hs
  refine List.pairwise_append.2 ⟨h1,List.pairwise_cons.2 ⟨fun k hk=>by rw [hln];exact mD k hk,h2⟩,?_⟩
  intro a ha b hb
  rcases List.mem_cons.1 hb with rfl | hb
  ·rw [hln];exact (mT a ha).2
  ·exact h3 a ha b hb
theorem ins_rank {n:Nat} (rows:List (List UInt8)) (hrows:∀ r,r ∈ rows→r.length = n):Rk (rows.map vf) (rows.foldl (fun K r=>insF K (r,[])) []).length :=
 fold_rank (KeptS n 0) insF (KeptS.nil n 0) (fun _ h=>h.kept) (fun K x h hx=>⟨h.step hx,ins_perm K x⟩) rows hrows
end Go.Proofs.YtccaiiigdfieoaaGreatDoor
namespace Go.By
open Go.RowKit
def lateB (ops:Array Oper) (m e:Nat):Bool:=decide (ops.size = m + 1) && decide (e < m) && match ops[m]? with
 | some o=>o.guard.isNone && o.dst.isNone && (List.range m).all fun i=>i == e || (preds o).contains i
 | none=>false
theorem wpAny_one {P:Program} {ops:Array Oper} {Q:Exit→Act→World→Prop} {listed:Array Bool} {a:Act} {w:World} {e:Nat} {oe:Oper} (fuel:Nat) (he:ops[e]? = some oe) (hall:∀ j,j < ops.size→j≠e→listed.getD j true = true) (hle:listed.getD e true = false) (hpe:∀ k,k ∈ preds oe→listed.getD k false = true)
  (hu:unl ops.size listed≤fuel) (hg:oe.guard = none) (h:oe.wp P a w (fun a' w'=>Q .normal a' w') Q):wpAny P .any ops Q fuel listed a w:=by
 have hes:e < ops.size:=(Array.getElem?_eq_some_iff.1 he).1
 have hin:e ∈ Region.ready .any ops listed:=mem_ready.2 ⟨hes,hle,oe,he,hpe⟩
 cases fuel with
 | zero =>
  exfalso
  have h0:unl ops.size listed = 0:=by omega
  unfold unl at h0
  have:=List.countP_eq_zero.1 h0 e (List.mem_range.2 hes)
  simp [hle] at this
 | succ n =>
  refine ⟨fun hr=>by rw [hr] at hin;simp at hin,fun i hi=>?_⟩
  have hie:i = e:=by
   apply Classical.byContradiction
   intro hne
   obtain ⟨h1,h2,_⟩:=mem_ready.1 hi
   rw [hall i h1 hne] at h2;cases h2
  subst hie
  unfold wpOp
  rw [he]
  show if Region.wanted oe (yielded ops a.tmps) = true then _ else _
  rw [if_pos (by simp [Region.wanted,hg])]
  have his:i < listed.size:=by
   rcases Nat.lt_or_ge i listed.size with h | h
   ·exact h
   ·simp [Array.getD_eq_getD_getElem?,Array.getElem?_eq_none h] at hle
  refine .inl (Oper.wp_mono (fun a' w' hq=>wpAny_done _ (fun j hj=>?_) hq) h)
  simp only [Array.getD_eq_getD_getElem?,Array.getElem?_setIfInBounds]
  by_cases e2:i = j
  ·subst e2;simp [his]
  ·rw [if_neg e2]
   have:=hall j hj (fun h=>e2 h.symm)
   simpa [Array.getD_eq_getD_getElem?] using this
theorem wp_region_late {P:Program} {ops:Array Oper} {Q:Exit→Act→World→Prop} {id:Nat} {a0:Act} {w0:World} (sh:Nat→Shp) (n m e t d:Nat) (hn:a0.tmps.size = n) (hm:P.follows .mixedOrders = true) (hback:backB ops = true) (hdist:distB ops = true)
  (hlast:lateB ops m e = true) (oe:Oper) (hoe:ops[e]? = some oe) (hge:oe.guard = none) (hde:oe.dst = some d) (hdn:d < n)
  (hrun:∀ (a:Act) (u x:Value) (w:World),sl a t = .tuple #[u,x]→∃ v,(execOp a.eval oe).run P w = .ok (.value v) w) (hdsts:dstsB (ops.extract 0 m) n = true)
  (each:EachS P ops Q a0 w0.drew sh (ops.toList.take m) 0)
  (fin:∀ a w o,ops[m]? = some o→Below w0.heap.size w0 w→a.tmps.size = a0.tmps.size→a.defers = a0.defers→(∀ j,j < m→j≠e→InvS ops sh j (sl a) w)→(∀ t,(ops.toList.all fun o=>o.dst != some t) = true→sl a t = sl a0 t) →
   (∃ u x,sl a t = .tuple #[u,x])∧o.wp P a w (fun a' w'=>a' = a∧∀ b:Act,b.tmps.size = a0.tmps.size→b.defers = a0.defers→(∀ t',t'≠d→sl b t' = sl a t')→Q .normal b w') Q) :
  (Code.region id ops true).wp P Q a0 w0:=by
 unfold lateB at hlast
 rw [Bool.and_eq_true,Bool.and_eq_true] at hlast
 have hsz:ops.size = m + 1:=of_decide_eq_true hlast.1.1
 have hem:e < m:=of_decide_eq_true hlast.1.2
 have hm':m < ops.size:=by omega
 obtain ⟨ol,hol⟩:∃ ol,ops[m]? = some ol:=⟨_,Array.getElem?_eq_getElem hm'⟩
 have hl2:=hlast.2
 rw [hol] at hl2
 simp only [Bool.and_eq_true] at hl2
 have hguard:ol.guard = none:=by cases hg:ol.guard <;> simp [hg] at hl2 ⊢
 have hdst:ol.dst = none:=by cases hg:ol.dst <;> simp [hg] at hl2 ⊢
 have hpl:∀ i,i < m→i≠e→i ∈ preds ol:=fun i hi hne=>by
  have:=List.all_eq_true.1 hl2.2 i (List.mem_range.2 hi)
  simpa [hne] using this
 have hE:=each_of (Q:=Q) (P:=P) (a0:=a0) (W0:=w0.drew) (sh:=sh) hn (ops.toList.take m) 0 (fun j o hj=>by
   rw [List.getElem?_take] at hj;split at hj
   ·simpa using hj
   ·cases hj) (by
   unfold dstsB at hdsts
   have e:(ops.extract 0 m).toList = ops.toList.take m:=by simp
   rw [e] at hdsts;exact hdsts) each
 have stepAt:∀ i o,i < m→ops[i]? = some o→StepOf P ops Q a0 w0.drew (fun W w=>Below W.heap.size W w) (fun _ w w'=>Below w.heap.size w w') (InvS ops sh) i o:=fun i o hi ho=>by
  have:=Each.get _ 0 hE i o (by rw [List.getElem?_take,if_pos hi];simpa using ho)
  rwa [Nat.zero_add] at this
 have stable:∀ i j oi oj (σ σ':Nat→Value) w w',i≠j→ops[i]? = some oi→ops[j]? = some oj→InvS ops sh j σ w→Below w.heap.size w w'→(∀ t,oi.dst≠some t→σ' t = σ t)→InvS ops sh j σ' w':=by
  intro i j oi oj σ σ' w w' hij hoi hoj hI hR hσ
  unfold InvS at hI ⊢
  cases hdj:dstOf ops j with
  | none=>trivial
  | some d =>
   rw [hdj] at hI
   show (sh j).ok (σ' d) w'
   have hne:oi.dst≠some d:=by
    intro e
    have hi':i < ops.size:=(Array.getElem?_eq_some_iff.1 hoi).1
    have hj':j < ops.size:=(Array.getElem?_eq_some_iff.1 hoj).1
    have:=List.all_eq_true.1 (List.all_eq_true.1 hdist i (List.mem_range.2 hi')) j (List.mem_range.2 hj')
    rw [hoi,hoj] at this
    have hdj':oj.dst = some d:=by simpa [dstOf,hoj] using hdj
    simp [e,hdj',hij] at this
   rw [hσ d hne]
   exact (sh j).keep _ _ _ hI hR
 refine wp_region_any hm ?_
 show wpAny P .any ops Q ops.size (Array.replicate ops.size false) a0 w0.drew
 have main:∀ (fuel:Nat) (listed:Array Bool) (a:Act) (w:World),unl ops.size listed≤fuel→listed.getD m true = false→Below w0.heap.size w0 w→a.tmps.size = a0.tmps.size→a.defers = a0.defers →
   (∀ j o,listed.getD j false = true→ops[j]? = some o→∀ k,k ∈ preds o→listed.getD k false = true) →
   (∀ j,j < ops.size→listed.getD j true = true→listed.getD j false = true) →
   (∀ j,j < m→listed.getD j false = true→InvS ops sh j (sl a) w) →
   (∀ t,(∀ j o,j < m→listed.getD j false = true→ops[j]? = some o→o.dst≠some t)→sl a t = sl a0 t)→wpAny P .any ops Q fuel listed a w:=by
  intro fuel
  induction fuel with
  | zero =>
   intro listed a w hu hlm
   exfalso
   have h0:unl ops.size listed = 0:=by omega
   unfold unl at h0
   have:=List.countP_eq_zero.1 h0 m (List.mem_range.2 hm')
   simp [hlm] at this
  | succ fuel ih =>
   intro listed a w hu hlm hEw hs hd hcl hlt hI ht
   refine ⟨fun hr=>?_,fun i hi=>?_⟩
   ·exfalso
    have hall:∀ k j,j < k→j < ops.size→listed.getD j false = true:=by
     intro k
     induction k with
     | zero=>intro j hj;omega
     | succ k ihk =>
      intro j hj hjs
      refine hlt j hjs ?_
      cases hb:listed.getD j true with
      | true=>rfl
      | false =>
       exfalso
       have ho:ops[j]? = some ops[j]:=Array.getElem?_eq_getElem hjs
       have:j ∈ Region.ready .any ops listed:=mem_ready.2 ⟨hjs,hb,_,ho,fun q hq=>by
        have hbk:=List.all_eq_true.1 hback j (List.mem_range.2 hjs)
        rw [ho] at hbk
        have hkj:=of_decide_eq_true (List.all_eq_true.1 hbk q hq)
        exact ihk q (by omega) (by omega)⟩
       rw [hr] at this;cases this
    have hx:=hall (m + 1) m (by omega) hm'
    rcases Nat.lt_or_ge m listed.size with h | h
    ·simp [Array.getD_eq_getD_getElem?,h] at hlm hx;rw [hlm] at hx;cases hx
    ·simp [Array.getD_eq_getD_getElem?,Array.getElem?_eq_none h] at hx
   ·obtain ⟨h1,h2,o,ho,h3⟩:=mem_ready.1 hi
    have hnl:listed.getD i false≠true:=by
     intro hx
     rcases Nat.lt_or_ge i listed.size with h | h
     ·simp [Array.getD_eq_getD_getElem?,h] at h2 hx;rw [h2] at hx;cases hx
     ·simp [Array.getD_eq_getD_getElem?,Array.getElem?_eq_none h] at hx
    have his:i < listed.size:=by
     rcases Nat.lt_or_ge i listed.size with h | h
     ·exact h
     ·simp [Array.getD_eq_getD_getElem?,Array.getElem?_eq_none h] at h2
    have gset:∀ j (d:Bool),(listed.setIfInBounds i true).getD j d = if i = j then true else listed.getD j d:=by
     intro j d
     simp only [Array.getD_eq_getD_getElem?,Array.getElem?_setIfInBounds]
     by_cases e:i = j
     ·subst e;simp [his]
     ·simp [e]
    by_cases him:i = m
    ·subst him
     rw [hol] at ho;cases ho
     obtain ⟨⟨u,x,htu⟩,hf⟩:=fin a w ol hol hEw hs hd (fun j hj hje=>hI j hj (h3 j (hpl j hj hje))) (fun t htt=>ht t (fun j oj hj _ hoj=>by
      have:=List.all_eq_true.1 htt oj (by rw [Array.mem_toList_iff];exact Array.mem_of_getElem? hoj)
      simpa using this))
     unfold wpOp
     rw [hol]
     show if Region.wanted ol (yielded ops a.tmps) = true then _ else _
     rw [if_pos (by simp [Region.wanted,hguard])]
     have toT:∀ j,listed.getD j false = true→listed.getD j true = true:=fun j hjl=>by
      rcases Nat.lt_or_ge j listed.size with h | h
      ·simp [Array.getD_eq_getD_getElem?,h] at hjl ⊢;exact hjl
      ·simp [Array.getD_eq_getD_getElem?,Array.getElem?_eq_none h] at hjl
     refine .inl (Oper.wp_mono (fun a' w' hq=>?_) hf)
     obtain ⟨rfl,hq⟩:=hq
     cases hle:listed.getD e true with
     | true =>
      refine wpAny_done _ (fun j hj=>?_) (hq a' hs hd (fun _ _=>rfl))
      rw [gset]
      by_cases e2:i = j
      ·rw [if_pos e2]
      ·rw [if_neg e2]
       by_cases e3:j = e
       ·subst e3;exact hle
       ·exact toT j (h3 j (hpl j (by omega) e3))
     | false =>
      obtain ⟨v,hv⟩:=hrun a' u x w' htu
      refine wpAny_one _ hoe (fun j hj hje=>?_) (by rw [gset,if_neg (by omega)];exact hle) (fun k hk=>?_) (by have:=unl_set (n:=ops.size) h1 h2;omega) hge ?_
      ·rw [gset]
       by_cases e2:i = j
       ·rw [if_pos e2]
       ·rw [if_neg e2];exact toT j (h3 j (hpl j (by omega) hje))
      ·have hbk:=List.all_eq_true.1 hback e (List.mem_range.2 (by omega))
       rw [hoe] at hbk
       have hke:=of_decide_eq_true (List.all_eq_true.1 hbk k hk)
       rw [gset,if_neg (by omega)]
       exact h3 k (hpl k (by omega) (by omega))
      ·refine wp_val v hv ?_
       refine hq _ ((put_size _ _ _).trans hs) ((put_defers _ _ _).trans hd) (fun t' ht'=>?_)
       rw [hde,put_sl _ _ _ _ (fun h=>ht' (by injection h with h;exact h.symm))]
    ·have him':i < m:=by omega
     have hst:=stepAt i o him' ho
     have hst':=hst a w ⟨hEw.os,hEw.tape,hEw.output,hEw.size,hEw.block⟩ hs (fun k hk=>hI k (by
       have hbk:=List.all_eq_true.1 hback i (List.mem_range.2 h1)
       rw [ho] at hbk
       have:=of_decide_eq_true (List.all_eq_true.1 hbk k hk);omega) (h3 k hk)) (fun t hti=>by
      refine ht t (fun j oj hj hlj hoj hdj=>?_)
      have:=List.all_eq_true.1 hti j (List.mem_range.2 (by omega))
      rw [hoj] at this
      by_cases e:j = i
      ·subst e;exact hnl hlj
      ·simp [e,hdj] at this
       exact hnl (hcl j oj hlj hoj i this))
     have next:∀ (v:Value) (w':World),Below w.heap.size w w'→InvS ops sh i (sl (a.put o.dst v)) w'→wpAny P .any ops Q fuel (listed.setIfInBounds i true) (a.put o.dst v) w':=by
      intro v w' hR hIi
      refine ih _ _ _ (by have:=unl_set (n:=ops.size) h1 h2;omega) (by rw [gset,if_neg him];exact hlm) (hEw.trans (hR.mono hEw.size)) ((put_size _ _ _).trans hs) ((put_defers _ _ _).trans hd) ?_ ?_ ?_ ?_
      ·intro j oj hj hoj k hk
       rw [gset] at hj ⊢
       by_cases e:i = k
       ·rw [if_pos e]
       ·rw [if_neg e]
        by_cases e':i = j
        ·subst e';rw [ho] at hoj;cases hoj;exact h3 k hk
        ·rw [if_neg e'] at hj;exact hcl j oj hj hoj k hk
      ·intro j hj hl
       rw [gset] at hl ⊢
       by_cases e:i = j
       ·rw [if_pos e]
       ·rw [if_neg e] at hl ⊢;exact hlt j hj hl
      ·intro j hj hl
       rw [gset] at hl
       by_cases e:i = j
       ·subst e;exact hIi
       ·rw [if_neg e] at hl
        have hoj:ops[j]? = some ops[j]:=Array.getElem?_eq_getElem (by omega)
        exact stable i j o _ (sl a) _ w w' e ho hoj (hI j hj hl) hR (fun t h=>put_sl _ _ _ _ h)
      ·intro t htt
       have hdt:o.dst≠some t:=htt i o him' (by rw [gset,if_pos rfl]) ho
       rw [put_sl _ _ _ _ hdt]
       exact ht t (fun j oj hj hl hoj=>htt j oj hj (by rw [gset];split <;> simp [hl]) hoj)
     unfold wpOp
     rw [ho]
     show if Region.wanted o (yielded ops a.tmps) = true then _ else _
     split
     ·rename_i hw
      rw [if_pos hw] at hst'
      exact .inl (Oper.wp_mono (fun a' w' ⟨v,e,hR,hIi⟩=>by rw [e] at hIi ⊢;exact next v w' hR hIi) hst')
     ·rename_i hw
      rw [if_neg hw] at hst'
      exact next undef w hst'.1 hst'.2
 refine main ops.size _ a0 w0.drew ?_ ?_ ⟨rfl,rfl,rfl,Nat.le_refl _,fun _ _=>rfl⟩ rfl rfl ?_ ?_ ?_ ?_
 ·unfold unl;exact Nat.le_trans List.countP_le_length (by simp)
 ·simp [Array.getD_eq_getD_getElem?,Array.getElem?_replicate,hm']
 ·intro j o hj;simp [Array.getD_eq_getD_getElem?,Array.getElem?_replicate] at hj
  split at hj <;> simp at hj
 ·intro j hj hl;simp [Array.getD_eq_getD_getElem?,Array.getElem?_replicate,hj] at hl
 ·intro j hj hl;simp [Array.getD_eq_getD_getElem?,Array.getElem?_replicate,show j < ops.size by omega] at hl
 ·intro t _;rfl
def RowN (B:Nat) (r:List UInt8 × List UInt8) (v:Value) (w:World):Prop:=∃ p1 n1 c1 p2 n2 c2,v = .agg #[.slice p1 n1 c1,.slice p2 n2 c2]∧Sl B8 w p1 n1 c1 r.1∧Sl B8 w p2 n2 c2 r.2∧(∀ a,p1 = some a→B≤a.block)∧∀ a,p2 = some a→B≤a.block
def Shp.rowN (B:Nat) (r:List UInt8 × List UInt8):Shp:=⟨RowN B r,fun _ _ _ ⟨p1,n1,c1,p2,n2,c2,e,h1,h2,h3,h4⟩ hb=>⟨p1,n1,c1,p2,n2,c2,e,h1.keep hb,h2.keep hb,h3,h4⟩⟩
def RowTN (B:Nat) (r:List UInt8 × List UInt8) (code:Int) (v:Value) (w:World):Prop:=∃ u,v = .tuple #[u,.int .i64 code]∧RowN B r u w
def Shp.rowTN (B:Nat) (r:List UInt8 × List UInt8) (code:Int):Shp:=⟨RowTN B r code,fun _ _ _ ⟨u,e,h⟩ hb=>⟨u,e,(Shp.rowN B r).keep _ _ _ h hb⟩⟩
theorem grownBy_setCell' (w:World) (g o:Nat) (v:Value):w.grownBy (w.setCell ⟨g,o,none⟩ v) (some g) :=
 ⟨rfl,rfl,rfl,by simp,fun b hb hne=>Below.heap_setCell _ _ _ _ (fun e=>hne (by rw [e]))⟩
theorem Sl.set {α:Type} {enc:α→Value} {w:World} {p:Option Addr} {n c g o:Nat} {v:Value} {xs:List α} (h:Sl enc w p n c xs) (hne:∀ a,p = some a→a.block≠g):Sl enc (w.setCell ⟨g,o,none⟩ v) p n c xs :=
 h.grown (grownBy_setCell' w g o v) (fun a ha e=>hne a ha (by injection e))
theorem run_extract1 {P:Program} {a:Act} {u x:Value} {w:World} {t:Nat} (oe:Oper) (hop:oe.op = .extract (.tmp t) 1) (h:sl a t = .tuple #[u,x]):∃ v,(execOp a.eval oe).run P w = .ok (.value v) w :=
 ⟨x,by unfold execOp;rw [hop];simp only [eval_tmp,h];rfl⟩
end Go.By
namespace Go.Proofs.YtccaiiigdfieoaaGreatDoor
open Go.RowKit Go.By
theorem info_vrow:(Tryz.prog.info? 99).map (fun i=>(i.zero,i.size,i.bytes)) = some (some (.agg #[.slice none 0 0,.slice none 0 0]),2,48):=by kernel_rfl
theorem keepF_len (K:List Rw) (x:Rw):(keepF K x).length≤K.length + 1:=by unfold keepF;split <;> simp
theorem restF_snoc (K:List Rw) (k x:Rw):restF (K ++ [k]) x = lessF (restF K x) (atS (restF K x).1 (leadS k.1)) k:=by unfold restF;rw [List.foldl_append];rfl
theorem restF_take {K:List Rw} {j:Nat} {k x:Rw} (h:K[j]? = some k):restF (K.take (j + 1)) x = lessF (restF (K.take j) x) (atS (restF (K.take j) x).1 (leadS k.1)) k:=by
 have e:K.take (j + 1) = K.take j ++ [k]:=by
  rw [List.take_add_one,h];rfl
 rw [e,restF_snoc]
theorem lessS_fit {n t:Nat} {x k:Rw} {c:UInt8} (hx:Fit n t x) (hk:Fit n t k):lessS x c k = (lessF x c k,0):=by
 unfold lessS lessF
 rw [if_pos ⟨by rw [hx.1,hk.1],by rw [hx.2,hk.2]⟩]
end Go.Proofs.YtccaiiigdfieoaaGreatDoor
namespace Go.By
open Go.RowKit
structure RwS (w:World) (p:Option Addr) (n c:Nat) (K:List (List UInt8 × List UInt8)):Prop where
 len:K.length = n
 le:n≤c
 max:c≤maxLen
 nil:p = none→n = 0∧c = 0
 row:∀ (j:Nat) (k:List UInt8 × List UInt8),K[j]? = some k→∃ b o q1 m1 c1 q2 m2 c2,p = some ⟨b,o,none⟩∧w.cell? ⟨b,o + j * 2,none⟩ = some (.slice q1 m1 c1)∧w.cell? ⟨b,o + j * 2 + 1,none⟩ = some (.slice q2 m2 c2)∧Sl B8 w q1 m1 c1 k.1∧Sl B8 w q2 m2 c2 k.2
theorem RwS.keep {w w':World} {p:Option Addr} {n c:Nat} {K:List (List UInt8 × List UInt8)} (h:RwS w p n c K) (hb:Below w.heap.size w w'):RwS w' p n c K :=
 ⟨h.len,h.le,h.max,h.nil,fun j k hj=>by
  obtain ⟨b,o,q1,m1,c1,q2,m2,c2,e,h1,h2,h3,h4⟩:=h.row j k hj
  exact ⟨b,o,q1,m1,c1,q2,m2,c2,e,(hb.cell (p:=⟨b,o + j * 2,none⟩) (lt_of_cell h1)).trans h1,(hb.cell (p:=⟨b,o + j * 2 + 1,none⟩) (lt_of_cell h2)).trans h2,h3.keep hb,h4.keep hb⟩⟩
theorem RwS.nil0 (w:World):RwS w none 0 0 []:=⟨rfl,Nat.le_refl _,by simp [maxLen],fun _=>⟨rfl,rfl⟩,fun j k h=>by simp at h⟩
theorem Sl.set2 {α:Type} {enc:α→Value} {w:World} {p:Option Addr} {n c g o:Nat} {v:Value} {xs:List α} (h:Sl enc w p n c xs) (hne:0 < n→∀ a,p = some a→a.block≠g):Sl enc (w.setCell ⟨g,o,none⟩ v) p n c xs:=by
 rcases Nat.eq_zero_or_pos n with h0 | h0
 ·have hx:xs = []:=List.length_eq_zero_iff.1 (by rw [h.len,h0])
  subst hx
  exact ⟨h.len,h.le,h.max,h.nil,Rs.nil⟩
 ·exact h.set (hne h0)
end Go.By
namespace Go.Proofs.YtccaiiigdfieoaaGreatDoor
open Go.RowKit Go.By
set_option maxRecDepth 100000 in
set_option maxHeartbeats 4000000 in
theorem Rest_any (wd t:Nat) (pk:Option Addr) (nk ck:Nat) (K:List Rw) (p1 p2:Option Addr) (n1 c1 n2 c2:Nat) (x:Rw) (w:World) (hK:RwS w pk nk ck K) (s1:Sl B8 w p1 n1 c1 x.1) (s2:Sl B8 w p2 n2 c2 x.2)
  (hfit:∀ k,k ∈ K→Fit wd t k∧Led k) (hx:Fit wd t x) (hr1:Room wd) (hr2:Room t) (hnk:nk≤65536) :
  Calls Tryz.prog 154 #[.slice pk nk ck,.agg #[.slice p1 n1 c1,.slice p2 n2 c2]] w (RetS w (restF K x)):=by
 have hinfo:=info_ref
 have HK:=Lib.hid hK;have HFIT:=Lib.hid hfit;have HX:=Lib.hid hx;have HR1:=Lib.hid hr1;have HR2:=Lib.hid hr2;have HLEN:=Lib.hid hK.len
 have S1:=Lib.hid s1;have S2:=Lib.hid s2
 have a1:Hid (0 < n1→∀ a,p1 = some a→a.block≠w.heap.size∧a.block≠w.heap.size + 1):=fun h0 a ha=>by
  obtain ⟨b,o,hp,hb⟩:=s1.rs.lt (by rw [s1.len];exact h0)
  rw [hp] at ha;cases ha;show b≠_∧b≠_;omega
 have a2:Hid (0 < n2→∀ a,p2 = some a→a.block≠w.heap.size∧a.block≠w.heap.size + 1):=fun h0 a ha=>by
  obtain ⟨b,o,hp,hb⟩:=s2.rs.lt (by rw [s2.len];exact h0)
  rw [hp] at ha;cases ha;show b≠_∧b≠_;omega
 have HB0:Hid (∀ o1 o2,Below w.heap.size w ((w.alloc o1).alloc o2)):=fun o1 o2=>al (al (Below.refl _ _) (Nat.le_refl _)) (by simp)
 clear hK hfit hx hr1 hr2 s1 s2
 go_enter Tryz.func154,Tryz.ntmps154
 go_wp2
 go_loopw [10] (fun i wq=>∃ (j:Nat) (q1:Option Addr) (m1 g1:Nat) (q2:Option Addr) (m2 g2:Nat),j≤nk∧i = .int .i64 j∧Hid (wq.heap[w.heap.size]? = some (.cells #[.slice q1 m1 g1,.slice q2 m2 g2] 101 (0,0))) ∧
  Hid (Sl B8 wq q1 m1 g1 (restF (K.take j) x).1)∧Hid (Sl B8 wq q2 m2 g2 (restF (K.take j) x).2)∧Hid (0 < m1→∀ a,q1 = some a→a.block≠w.heap.size∧a.block≠w.heap.size + 1)∧Hid (0 < m2→∀ a,q2 = some a→a.block≠w.heap.size∧a.block≠w.heap.size + 1) ∧
  Hid (Below w.heap.size w wq)∧Hid (wq.heap[w.heap.size + 1]? = some (.cells #[.slice none 0 0,.slice none 0 0] 101 (0,0)))) (fun i _=>nk - (intOf i).toNat)
 case atStart=>exact ⟨0,p1,n1,c1,p2,n2,c2,Nat.zero_le _,rfl,hal (hnew rfl),S1.out.keep (HB0.out _ _),S2.out.keep (HB0.out _ _),a1.out,a2.out,HB0.out _ _,hnew (by simp)⟩
 case round =>
  clear S1 S2 a1 a2
  obtain ⟨j,q1,m1,g1,q2,m2,g2,hj,rfl,hL,hS1,hS2,hA1,hA2,hBw,hZ⟩:=hrel
  by_cases hjl:j < nk
  ·obtain ⟨kk,hkk⟩:∃ kk,K[j]? = some kk:=⟨_,List.getElem?_eq_getElem (by rw [HLEN.out];exact hjl)⟩
   obtain ⟨bk,ok,a1,b1,d1,a2,b2,d2,rfl,e1,e2,t1,t2⟩:=HK.out.row j kk hkk
   have E1:=(hBw.out.cell (p:=⟨bk,ok + j * 2,none⟩) (lt_of_cell e1)).trans e1
   have E2:=(hBw.out.cell (p:=⟨bk,ok + j * 2 + 1,none⟩) (lt_of_cell e2)).trans e2
   have T1:=Lib.hid (t1.keep hBw.out);have T2:=Lib.hid (t2.keep hBw.out)
   have HKK:=Lib.hid hkk
   have jn:(j:Int) < (nk:Int):=by omega
   have fk:=HFIT.out kk (List.mem_of_getElem? hkk)
   obtain ⟨XJ,hXJ⟩:∃ XJ,XJ = restF (K.take j) x:=⟨_,rfl⟩
   have fitX:Fit wd t XJ:=by rw [hXJ];exact HX.out.rest (fun a ha=>(HFIT.out a (List.mem_of_mem_take ha)).1)
   rw [← hXJ] at hS1 hS2
   obtain ⟨l,hl⟩:∃ l,l = leadN kk:=⟨_,rfl⟩
   have hLJ:leadS kk.1 = (l:Int):=by rw [hl];exact fk.2.at.1
   have hlw:l < wd:=by rw [hl];exact fk.2.at.lt fk.1
   have lm1:m1 = wd:=by have:=hS1.out.len;rw [fitX.1] at this;exact this.symm
   have lm2:m2 = t:=by have:=hS2.out.len;rw [fitX.2] at this;exact this.symm
   have lb1:b1 = wd:=by have:=t1.len;rw [fk.1.1] at this;exact this.symm
   have lb2:b2 = t:=by have:=t2.len;rw [fk.1.2] at this;exact this.symm
   subst lm1
   obtain ⟨bx,ox,c,rfl,hcx,hxx⟩:=hS1.out.at l hlw
   have hcA:atS XJ.1 (leadS kk.1) = c:=by rw [hLJ];exact at_of hxx.out
   obtain ⟨YJ,hYJ⟩:∃ YJ,YJ = lessF XJ c kk:=⟨_,rfl⟩
   have hnext:Hid (restF (K.take (j + 1)) x = YJ):=by show _ = _;rw [restF_take hkk,← hXJ,hYJ,hcA]
   have HLD:Hid (∀ W,Sl B8 W a1 b1 d1 kk.1→Calls Tryz.prog 89 #[.slice a1 b1 d1] W fun e w'=>e = .returned (.int .i64 (l:Nat))∧W = w'):=fun W h=>by have:=RLead_any _ _ _ _ W h;rwa [hLJ] at this
   have HLS:Hid (∀ W,Sl B8 W (some ⟨bx,ox,none⟩) m1 g1 XJ.1→Sl B8 W q2 m2 g2 XJ.2→Sl B8 W a1 b1 d1 kk.1→Sl B8 W a2 b2 d2 kk.2→Calls Tryz.prog 88 #[.agg #[.slice (some ⟨bx,ox,none⟩) m1 g1,.slice q2 m2 g2],B8 c,.agg #[.slice a1 b1 d1,.slice a2 b2 d2]] W (RetR2 5 W YJ 0)):=fun W h1 h2 h3 h4=>by
    have:=RLess_any (some ⟨bx,ox,none⟩) q2 a1 a2 m1 g1 m2 g2 b1 d1 b2 d2 XJ.1 XJ.2 kk.1 kk.2 c W h1 h2 h3 h4 HR1.out (by rw [lm2];exact HR2.out) (by rw [lb1];exact HR1.out) (by rw [lb2];exact HR2.out)
    rw [lessS_fit (n:=m1) (t:=t) (x:=XJ) (k:=kk) fitX fk.1,← hYJ] at this
    exact this
   have hl1:=blk_lt hL.out;have hl2:=blk_lt hZ.out
   have hNX:Hid (∀ (w9:World) (q5:Option Addr) (m5 g5:Nat) (q6:Option Addr) (m6 g6:Nat),Below wr.heap.size wr w9→Sl B8 w9 q5 m5 g5 YJ.1→Sl B8 w9 q6 m6 g6 YJ.2→(∀ a,q5 = some a→wr.heap.size≤a.block)→(∀ a,q6 = some a→wr.heap.size≤a.block) →
     ((w9.setCell ⟨w.heap.size,0,none⟩ (.slice q5 m5 g5)).setCell ⟨w.heap.size,1,none⟩ (.slice q6 m6 g6)).heap[w.heap.size]? = some (.cells #[.slice q5 m5 g5,.slice q6 m6 g6] 101 (0,0)) ∧
     Sl B8 ((w9.setCell ⟨w.heap.size,0,none⟩ (.slice q5 m5 g5)).setCell ⟨w.heap.size,1,none⟩ (.slice q6 m6 g6)) q5 m5 g5 (restF (K.take (j + 1)) x).1 ∧
     Sl B8 ((w9.setCell ⟨w.heap.size,0,none⟩ (.slice q5 m5 g5)).setCell ⟨w.heap.size,1,none⟩ (.slice q6 m6 g6)) q6 m6 g6 (restF (K.take (j + 1)) x).2 ∧
     (0 < m5→∀ a,q5 = some a→a.block≠w.heap.size∧a.block≠w.heap.size + 1)∧(0 < m6→∀ a,q6 = some a→a.block≠w.heap.size∧a.block≠w.heap.size + 1) ∧
     Below w.heap.size w ((w9.setCell ⟨w.heap.size,0,none⟩ (.slice q5 m5 g5)).setCell ⟨w.heap.size,1,none⟩ (.slice q6 m6 g6)) ∧
     ((w9.setCell ⟨w.heap.size,0,none⟩ (.slice q5 m5 g5)).setCell ⟨w.heap.size,1,none⟩ (.slice q6 m6 g6)).heap[w.heap.size + 1]? = some (.cells #[.slice none 0 0,.slice none 0 0] 101 (0,0))):=by
    intro w9 q5 m5 g5 q6 m6 g6 b9 s5 s6 s7 s8
    have L9:=(b9.block _ hl1).trans hL.out
    have Z9:=(b9.block _ hl2).trans hZ.out
    rw [hnext.out]
    have ne5:∀ a,q5 = some a→a.block≠w.heap.size:=fun a ha=>by have:=s7 a ha;omega
    have ne6:∀ a,q6 = some a→a.block≠w.heap.size:=fun a ha=>by have:=s8 a ha;omega
    exact ⟨hss (hss L9),(s5.set ne5).set ne5,(s6.set ne6).set ne6,fun _ a ha=>⟨ne5 a ha,by have:=s7 a ha;omega⟩,fun _ a ha=>⟨ne6 a ha,by have:=s8 a ha;omega⟩,((bl hBw.out b9 hBw.out.size).setCell (Nat.le_refl _) _).setCell (Nat.le_refl _) _,hsc (hsc Z9 (by show w.heap.size + 1≠w.heap.size;omega)) (by show w.heap.size + 1≠w.heap.size;omega)⟩
   have HCX:=Lib.hid hcx
   have AL:Hid (Below wr.heap.size wr (wr.alloc (.cells #[.slice a1 b1 d1,.slice a2 b2 d2] 101))):=al (Below.refl _ _) (Nat.le_refl _)
   have lw:(l:Int) < (m1:Int):=by omega
   clear hXJ hYJ fitX fk hkk e1 e2 t1 t2 hl hLJ hcA hxx hcx lm2 lb1 lb2 hl1 hl2
   go_wp2_with fail
   refine Calls.mono (HLD.out _ (T1.out.keep AL.out)) ?_
   rintro e w' ⟨rfl,rfl⟩
   have z0:(wr.alloc (.cells #[.slice a1 b1 d1,.slice a2 b2 d2] 101)).cell? ⟨wr.heap.size,0,none⟩ = some (.slice a1 b1 d1):=cell_of_row _ _ 0 _ _ _ (hnew rfl)
   have z1:(wr.alloc (.cells #[.slice a1 b1 d1,.slice a2 b2 d2] 101)).cell? ⟨wr.heap.size,1,none⟩ = some (.slice a2 b2 d2):=cell_of_row _ _ 1 _ _ _ (hnew rfl)
   obtain ⟨y0,y1⟩:=cells2 (hal (o:=.cells #[.slice a1 b1 d1,.slice a2 b2 d2] 101) hL.out)
   have cl:(wr.alloc (.cells #[.slice a1 b1 d1,.slice a2 b2 d2] 101)).cell? ⟨bx,ox + l,none⟩ = some (B8 c):=(AL.out.cell (p:=⟨bx,ox + l,none⟩) (lt_of_cell HCX.out)).trans HCX.out
   clear E1 E2
   go_wp2
   refine wp_region_late (fun ix=>([.val (.agg #[.slice (some ⟨bx,ox,none⟩) m1 g1,.slice q2 m2 g2]),.val (.pointer (some ⟨w.heap.size,0,none⟩)),.val (.slice (some ⟨bx,ox,none⟩) m1 g1),.val (.int .i64 (l:Nat)),.val (.pointer (some ⟨bx,ox + l,none⟩)),.val (B8 c),.val (.agg #[.slice a1 b1 d1,.slice a2 b2 d2]),.rowTN (wr.heap.size) (YJ) (0),.rowTN (wr.heap.size) (YJ) (0),.rowN (wr.heap.size) (YJ),.val (.int .i64 0),.any][ix]?).getD (.any)) 30 11 10 17 27 rfl (by kernel_rfl) (by decide) (by decide) (by decide) _ rfl rfl rfl (by decide) (fun a u x w h=>run_extract1 _ rfl h) (by decide) ?_ ?_
   ·refine ⟨?_,?_,?_,?_,?_,?_,?_,?_,?_,?_,?_,trivial⟩
    ·intro a W hb0 hs hp hi;have hb:=undrew hb0;clear hb0
     have tt:sl a 3 = .pointer (some ⟨w.heap.size,0,none⟩):=hi 3 (by decide)
     have dd0:=(hb.cell (p:=⟨w.heap.size,0,none⟩) (lt_of_cell y0)).trans y0
     have dd1:=(hb.cell (p:=⟨w.heap.size,1,none⟩) (lt_of_cell y1)).trans y1
     refine ite_y rfl (wp_val (.agg #[.slice (some ⟨bx,ox,none⟩) m1 g1,.slice q2 m2 g2]) ?_ ?_)
     ·simp only [execOp,eval_tmp,tt];simp [go_sem,dd0,dd1]
     ·exact ⟨_,rfl,Below.refl _ _,rfl⟩
    ·intro a W hb0 hs hp hi;have hb:=undrew hb0;clear hb0
     have t3:sl a 3 = .pointer (some ⟨w.heap.size,0,none⟩):=hi 3 (by decide)
     refine ite_y rfl (wp_val (.pointer (some ⟨w.heap.size,0,none⟩)) ?_ ?_)
     ·simp only [execOp,eval_tmp,eval_const,t3];simp [go_sem]
     ·exact ⟨_,rfl,Below.refl _ _,rfl⟩
    ·intro a W hb0 hs hp hi;have hb:=undrew hb0;clear hb0
     have tt:sl a 19 = .pointer (some ⟨w.heap.size,0,none⟩):=hp 1 (by decide)
     have dd0:=(hb.cell (p:=⟨w.heap.size,0,none⟩) (lt_of_cell y0)).trans y0
     refine ite_y rfl (wp_val (.slice (some ⟨bx,ox,none⟩) m1 g1) ?_ ?_)
     ·simp only [execOp,eval_tmp,tt];simp [go_sem,dd0]
     ·exact ⟨_,rfl,Below.refl _ _,rfl⟩
    ·intro a W hb0 hs hp hi;have hb:=undrew hb0;clear hb0
     have t7:sl a 7 = .int .i64 (l:Nat):=hi 7 (by decide)
     exact ite_y rfl (wp_val (sl a 7) rfl ⟨_,rfl,Below.refl _ _,t7⟩)
    ·intro a W hb0 hs hp hi;have hb:=undrew hb0;clear hb0
     have ti0:sl a 20 = .slice (some ⟨bx,ox,none⟩) m1 g1:=hp 2 (by decide)
     have ti1:sl a 21 = .int .i64 (l:Nat):=hp 3 (by decide)
     refine ite_y rfl (wp_val (.pointer (some ⟨bx,ox + l,none⟩)) ?_ ?_)
     ·simp only [execOp,eval_tmp,eval_const,ti0,ti1];simp [go_sem,lw,hlw]
     ·exact ⟨_,rfl,Below.refl _ _,rfl⟩
    ·intro a W hb0 hs hp hi;have hb:=undrew hb0;clear hb0
     have tt:sl a 22 = .pointer (some ⟨bx,ox + l,none⟩):=hp 4 (by decide)
     have dd0:=(hb.cell (p:=⟨bx,ox + l,none⟩) (lt_of_cell cl)).trans cl
     refine ite_y rfl (wp_val (B8 c) ?_ ?_)
     ·simp only [execOp,eval_tmp,tt];simp [go_sem,dd0]
     ·exact ⟨_,rfl,Below.refl _ _,rfl⟩
    ·intro a W hb0 hs hp hi;have hb:=undrew hb0;clear hb0
     have tt:sl a 6 = .pointer (some ⟨wr.heap.size,0,none⟩):=hi 6 (by decide)
     have dd0:=(hb.cell (p:=⟨wr.heap.size,0,none⟩) (lt_of_cell z0)).trans z0
     have dd1:=(hb.cell (p:=⟨wr.heap.size,1,none⟩) (lt_of_cell z1)).trans z1
     refine ite_y rfl (wp_val (.agg #[.slice a1 b1 d1,.slice a2 b2 d2]) ?_ ?_)
     ·simp only [execOp,eval_tmp,tt];simp [go_sem,dd0,dd1]
     ·exact ⟨_,rfl,Below.refl _ _,rfl⟩
    ·intro a W hb0 hs hp hi;have hb:=undrew hb0;clear hb0
     have t18:sl a 18 = .agg #[.slice (some ⟨bx,ox,none⟩) m1 g1,.slice q2 m2 g2]:=hp 0 (by decide)
     have t23:sl a 23 = B8 c:=hp 5 (by decide)
     have t24:sl a 24 = .agg #[.slice a1 b1 d1,.slice a2 b2 d2]:=hp 6 (by decide)
     refine ite_y rfl (wp_enter 88 #[.agg #[.slice (some ⟨bx,ox,none⟩) m1 g1,.slice q2 m2 g2],B8 c,.agg #[.slice a1 b1 d1,.slice a2 b2 d2]] ?_ (HLS.out _ (hS1.out.keep (AL.out.trans (hb.mono AL.out.size))) (hS2.out.keep (AL.out.trans (hb.mono AL.out.size))) (T1.out.keep (AL.out.trans (hb.mono AL.out.size))) (T2.out.keep (AL.out.trans (hb.mono AL.out.size)))) ?_)
     ·simp only [execOp,resolve,List.map_toArray,List.map,eval_tmp,eval_func,eval_const,t18,t23,t24];simp [go_sem]
     ·rintro e W' ⟨q5,m5,g5,q6,m6,g6,e5,e6,rfl,o5,o6,hw⟩;have hbs:=hb.size;simp at hbs;exact ⟨_,rfl,_,rfl,hw,_,rfl,q5,m5,g5,q6,m6,g6,rfl,Sl.of_owns o5,Sl.of_owns o6,fun a ha=>Nat.le_trans (by omega) (owns_new o5 a ha).1,fun a ha=>Nat.le_trans (by omega) (owns_new o6 a ha).1⟩
    ·intro a W hb0 hs hp hi;have hb:=undrew hb0;clear hb0
     have tt:RowTN (wr.heap.size) (YJ) (0) (sl a 25) W:=hp 7 (by decide)
     exact ite_y rfl (wp_val (sl a 25) rfl ⟨_,rfl,Below.refl _ _,tt⟩)
    ·intro a W hb0 hs hp hi;have hb:=undrew hb0;clear hb0
     have tt:RowTN (wr.heap.size) (YJ) (0) (sl a 17) W:=hp 8 (by decide)
     obtain ⟨u,tt,hr⟩:=tt
     exact ite_y rfl (wp_val u (by simp only [execOp,eval_tmp,tt];rfl) ⟨_,rfl,Below.refl _ _,hr⟩)
    ·intro a W hb0 hs hp hi;have hb:=undrew hb0;clear hb0
     have tt:RowTN (wr.heap.size) (YJ) (0) (sl a 17) W:=hp 8 (by decide)
     obtain ⟨u,tt,hr⟩:=tt
     exact ite_y rfl (wp_val (.int .i64 0) (by simp only [execOp,eval_tmp,tt];rfl) ⟨_,rfl,Below.refl _ _,rfl⟩)
   ·intro a w9 o ho hb hs hd hI ht
    simp at ho;subst ho
    have t3:sl a 3 = .pointer (some ⟨w.heap.size,0,none⟩):=ht 3 (by decide)
    have t17:RowTN (wr.heap.size) (YJ) (0) (sl a 17) w9:=hI 8 (by decide) (by decide)
    have t26:RowN (wr.heap.size) (YJ) (sl a 26) w9:=hI 9 (by decide) (by decide)
    obtain ⟨uu,t17,-⟩:=t17
    obtain ⟨q5,m5,g5,q6,m6,g6,t26,s5,s6,s7,s8⟩:=t26
    have b9:Below wr.heap.size wr w9:=AL.out.trans (hb.mono AL.out.size)
    have L9:w9.heap[w.heap.size]? = some (.cells #[.slice (some ⟨bx,ox,none⟩) m1 g1,.slice q2 m2 g2] 101 (0,0)):=(b9.block _ (blk_lt hL.out)).trans hL.out
    obtain ⟨d0,d1'⟩:=cells2 L9
    have f0:w9.frozen? ⟨w.heap.size,0,none⟩ = false:=frozen_of_row _ _ 0 _ _ L9
    have f1:w9.frozen? ⟨w.heap.size,1,none⟩ = false:=frozen_of_row _ _ 1 _ _ L9
    refine ⟨⟨_,_,t17⟩,wp_skipX (w':=(w9.setCell ⟨w.heap.size,0,none⟩ (.slice q5 m5 g5)).setCell ⟨w.heap.size,1,none⟩ (.slice q6 m6 g6)) ?_ ⟨rfl,fun b hbs hbd hbt=>?_⟩⟩
    ·simp only [execOp,eval_tmp,t26,t3];simp [go_sem,d0,d1',f0,f1]
    have ha:=act_is [18,19,20,21,22,23,24,25,17,26,27] hbs hbd (fun t h=>(hbt t (fun e=>by subst e;revert h;decide)).trans (ht t h)) (by decide)
    simp only [List.foldl] at ha
    generalize sl b 18 = u18 at ha
    generalize sl b 19 = u19 at ha
    generalize sl b 20 = u20 at ha
    generalize sl b 21 = u21 at ha
    generalize sl b 22 = u22 at ha
    generalize sl b 23 = u23 at ha
    generalize sl b 24 = u24 at ha
    generalize sl b 25 = u25 at ha
    generalize sl b 17 = u17 at ha
    generalize sl b 26 = u26 at ha
    generalize sl b 27 = u27 at ha
    simp only [Act.put,List.setIfInBounds_toArray,List.set_cons_zero,List.set_cons_succ] at ha
    rw [ha];clear ha
    have NX:=hNX.out w9 q5 m5 g5 q6 m6 g6 b9 s5 s6 s7 s8
    generalize (w9.setCell ⟨w.heap.size,0,none⟩ (.slice q5 m5 g5)).setCell ⟨w.heap.size,1,none⟩ (.slice q6 m6 g6) = wn at NX ⊢
    have NXH:=Lib.hid NX
    clear NX s5 s6 s7 s8 hI ht hbt L9 d0 d1' f0 f1 b9 hb
    go_wp2
    go_roundw
    case rel=>exact ⟨j + 1,q5,m5,g5,q6,m6,g6,by omega,by go_num,NXH.out.1,NXH.out.2.1,NXH.out.2.2.1,NXH.out.2.2.2.1,NXH.out.2.2.2.2.1,NXH.out.2.2.2.2.2.1,NXH.out.2.2.2.2.2.2⟩
    case measure=>simp [intOf];omega
  ·have hjn:j = nk:=by omega
   have hge:(nk:Int)≤(j:Int):=by omega
   rw [List.take_of_length_le (by rw [HLEN.out,hjn];exact Nat.le_refl _)] at hS1 hS2
   obtain ⟨y0,y1⟩:=cells2 hL.out
   obtain ⟨f0,f1⟩:=cells2 hZ.out
   have z0:=frozen_of_row _ _ 0 _ _ hZ.out
   have z1:=frozen_of_row _ _ 1 _ _ hZ.out
   have hne1:Hid (Sl B8 ((wr.setCell ⟨w.heap.size + 1,0,none⟩ (.slice q1 m1 g1)).setCell ⟨w.heap.size + 1,1,none⟩ (.slice q2 m2 g2)) q1 m1 g1 (restF K x).1):=(hS1.out.set2 (fun h a ha=>(hA1.out h a ha).2)).set2 (fun h a ha=>(hA1.out h a ha).2)
   have hne2:Hid (Sl B8 ((wr.setCell ⟨w.heap.size + 1,0,none⟩ (.slice q1 m1 g1)).setCell ⟨w.heap.size + 1,1,none⟩ (.slice q2 m2 g2)) q2 m2 g2 (restF K x).2):=(hS2.out.set2 (fun h a ha=>(hA2.out h a ha).2)).set2 (fun h a ha=>(hA2.out h a ha).2)
   clear hjn hS1 hS2 hA1 hA2 hL
   go_wp2
   refine bodyPost_ret (results_cell_row rfl _ _ _ 101 #[.slice q1 m1 g1,.slice q2 m2 g2] (0,0) _ rfl (hss (hss hZ.out)) Tryz.underlying101 rfl hinfo) rfl ⟨q1,m1,g1,q2,m2,g2,rfl,hne1.out,hne2.out,(hBw.out.setCell (by simp) _).setCell (by simp) _⟩
end Go.Proofs.YtccaiiigdfieoaaGreatDoor
namespace Go.By
open Go.RowKit
def RwP (w:World) (u:Value × Value) (k:List UInt8 × List UInt8):Prop:=∃ q1 m1 c1 q2 m2 c2,u = (.slice q1 m1 c1,.slice q2 m2 c2)∧Sl B8 w q1 m1 c1 k.1∧Sl B8 w q2 m2 c2 k.2
theorem RwP.keep {w w':World} {u:Value × Value} {k:List UInt8 × List UInt8} (h:RwP w u k) (hb:Below w.heap.size w w'):RwP w' u k:=by
 obtain ⟨q1,m1,c1,q2,m2,c2,e,h1,h2⟩:=h;exact ⟨q1,m1,c1,q2,m2,c2,e,h1.keep hb,h2.keep hb⟩
structure RwV (w:World) (p:Option Addr) (n c:Nat) (vs:List (Value × Value)):Prop where
 len:vs.length = n
 le:n≤c
 max:c≤maxLen
 nil:p = none→n = 0∧c = 0
 cell:∀ (j:Nat) (u:Value),(fl2 vs)[j]? = some u→∃ b o,p = some ⟨b,o,none⟩∧w.cell? ⟨b,o + j,none⟩ = some u
 one:∀ u,u ∈ fl2 vs→u.oneCell' = true
theorem RwS.vals {w:World} {p:Option Addr} {n c:Nat} {K:List (List UInt8 × List UInt8)} (h:RwS w p n c K):∃ vs,RwV w p n c vs∧∀ (j:Nat) (u:Value × Value),vs[j]? = some u→∃ k,K[j]? = some k∧RwP w u k:=by
 have each:∀ j,j < n→∃ (u:Value × Value),∃ b o,p = some ⟨b,o,none⟩∧w.cell? ⟨b,o + j * 2,none⟩ = some u.1∧w.cell? ⟨b,o + j * 2 + 1,none⟩ = some u.2∧(∃ k,K[j]? = some k∧RwP w u k)∧u.1.oneCell' = true∧u.2.oneCell' = true:=by
  intro j hj
  obtain ⟨k,hk⟩:∃ k,K[j]? = some k:=⟨_,List.getElem?_eq_getElem (by rw [h.len];exact hj)⟩
  obtain ⟨b,o,q1,m1,c1,q2,m2,c2,e,h1,h2,h3,h4⟩:=h.row j k hk
  exact ⟨(.slice q1 m1 c1,.slice q2 m2 c2),b,o,e,h1,h2,⟨k,hk,q1,m1,c1,q2,m2,c2,rfl,h3,h4⟩,rfl,rfl⟩
 obtain ⟨f,hf⟩:∃ f:Nat→Value × Value,∀ j,j < n→∃ b o,p = some ⟨b,o,none⟩∧w.cell? ⟨b,o + j * 2,none⟩ = some (f j).1∧w.cell? ⟨b,o + j * 2 + 1,none⟩ = some (f j).2∧(∃ k,K[j]? = some k∧RwP w (f j) k)∧(f j).1.oneCell' = true∧(f j).2.oneCell' = true :=
  ⟨fun j=>if hj:j < n then Classical.choose (each j hj) else (undef,undef),fun j hj=>by simp only [dif_pos hj];exact Classical.choose_spec (each j hj)⟩
 have hat:∀ (j:Nat) (u:Value × Value),((List.range n).map f)[j]? = some u→j < n∧u = f j:=by
  intro j u hj
  have hj':=(List.getElem?_eq_some_iff.1 hj).1
  simp at hj'
  rw [List.getElem?_map,List.getElem?_range hj'] at hj
  exact ⟨hj',by simpa using hj.symm⟩
 refine ⟨(List.range n).map f,⟨by simp,h.le,h.max,h.nil,?_,?_⟩,?_⟩
 ·intro i u hi
  have hlen:=(List.getElem?_eq_some_iff.1 hi).1
  rw [fl2_length] at hlen
  have hj:i / 2 < n:=by simp at hlen;omega
  obtain ⟨b,o,e,h1,h2,_⟩:=hf (i / 2) hj
  have hv:((List.range n).map f)[i / 2]? = some (f (i / 2)):=by rw [List.getElem?_map,List.getElem?_range hj];rfl
  obtain ⟨g1,g2⟩:=fl2_at hv
  refine ⟨b,o,e,?_⟩
  rcases Nat.mod_two_eq_zero_or_one i with hm | hm
  ·have:i / 2 * 2 = i:=by omega
   rw [this] at g1 h1
   rw [g1] at hi;rw [h1,← hi]
  ·have:i / 2 * 2 + 1 = i:=by omega
   rw [this] at g2
   rw [g2] at hi
   rw [show o + i = o + i / 2 * 2 + 1 by omega,h2,← hi]
 ·intro u hu
  obtain ⟨i,hi,rfl⟩:=List.getElem_of_mem hu
  rw [fl2_length] at hi
  have hj:i / 2 < n:=by simp at hi;omega
  obtain ⟨b,o,e,_,_,_,o1,o2⟩:=hf (i / 2) hj
  have hv:((List.range n).map f)[i / 2]? = some (f (i / 2)):=by rw [List.getElem?_map,List.getElem?_range hj];rfl
  obtain ⟨g1,g2⟩:=fl2_at hv
  rcases Nat.mod_two_eq_zero_or_one i with hm | hm
  ·have:i / 2 * 2 = i:=by omega
   rw [this] at g1
   have:(fl2 ((List.range n).map f))[i] = (f (i / 2)).1:=by
    rw [List.getElem?_eq_getElem (by rw [fl2_length];exact hi)] at g1;injection g1
   rw [this];exact o1
  ·have:i / 2 * 2 + 1 = i:=by omega
   rw [this] at g2
   have:(fl2 ((List.range n).map f))[i] = (f (i / 2)).2:=by
    rw [List.getElem?_eq_getElem (by rw [fl2_length];exact hi)] at g2;injection g2
   rw [this];exact o2
 ·intro j u hj
  obtain ⟨hjn,rfl⟩:=hat j u hj
  obtain ⟨b,o,_,_,_,hk,_⟩:=hf j hjn
  exact hk
theorem RwV.keep {w w':World} {p:Option Addr} {n c:Nat} {vs:List (Value × Value)} (h:RwV w p n c vs) (hb:Below w.heap.size w w'):RwV w' p n c vs :=
 ⟨h.len,h.le,h.max,h.nil,fun j u hj=>by
  obtain ⟨b,o,e,h1⟩:=h.cell j u hj
  exact ⟨b,o,e,(hb.cell (p:=⟨b,o + j,none⟩) (lt_of_cell h1)).trans h1⟩,h.one⟩
theorem wpList_append_two {P:Program} (w:World) {ops:Array Oper} {rest:List Oper} {o:Oper} {a:Act} {Q:Exit→Act→World→Prop} (hgd:o.guard = none) (s x:Operand) (t:TypeId)
  (ho:o.op = .call { callee:=.builtin .append,args:=#[s,x],argTypes:=#[t,t] })
  (base:Nat) (e:TypeId) (i:TypeInfo) (z:Value) (bytes:Nat) (ht:P.underlying t = some (.slice e)) (hi:P.info? e = some i) (hz:i.zero = some z)
  (hsize:i.size = 2) (hby:i.bytes = bytes) (hzs:z.cells.size = 2)
  (v:Value) (n:Nat) (ys:List Value) (hs:a.eval s = v) (hown:w.ownsRow base e 2 v n ys)
  (p:Option Addr) (m c:Nat) (us:List (Value × Value)) (hx:a.eval x = .slice p m c) (hrs:RwV w p m c us)
  (h63:n + m≤maxLen) (hbytes:(n + m) * bytes≤140737488355328) (hbase:base≤w.heap.size)
  (h:∀ v' w',w'.ownsRow base e 2 v' (n + m) (ys ++ fl2 us)→w.grownBy w' v.ownBlock→wpList P ops Q rest (a.put o.dst v') w'):wpList P ops Q (o :: rest) a w:=by
 cases p with
 | none =>
  obtain ⟨rfl,rfl⟩:=hrs.nil rfl
  have:us = []:=List.eq_nil_of_length_eq_zero hrs.len
  subst this
  refine wpList_append_own_none hgd s x t ho base e i 2 ht hi v n ys hs hown hx (h v w (by simpa [fl2] using hown) (World.grownBy.refl _ _))
 | some ad =>
  refine wpList_append_own w hgd s x t ho base e i z 2 bytes ht hi hz hsize hby hzs (by omega) v n ys hs hown ad m c (fl2 us) hx (by rw [fl2_length,hrs.len]) ?_ hrs.one h63 hbytes hbase (fun v' w' h1 h2 _=>h v' w' h1 h2)
  intro j u hj
  obtain ⟨b,o',e',hc⟩:=hrs.cell j u hj
  cases e'
  rw [Addr.add_lit];exact hc
end Go.By
