/- Chapter 18: gate.Look of a gate that nothing came to. The rows of Inverse in memory: one block of n rows. The contracts of the reference's Same of layer 3,and of a law's rows: made,and as the document's. Small parts of chapter 8's law; the reference's rows in one block. A drawn region with one store into a block of its own: a row in new memory. The contract of the reference's Rows of chapter 8: each equation put in by Insert,then cleared in place. The contract of the reference's Rest of chapter 8. The contract of the reference's Put of chapter 8. The contract of the reference's Known of chapter 8. The law's Same and Fit of chapter 8. A system's Rows and Clone. A system's Clone. A system's Solve. What a system's Put leaves as it is; Put of an equation that fits,and the reference's,whatever comes of it. Chapter 19: a taker in memory; taker.New,Rows,Gate. A region that draws its order,op by op: what holds of the world is told by which operations have run. A region that draws its order,with one call that writes: all else is told values. Chapter 19: taker.Take. Chapter 19: taker.Take of a packet. Chapter 19: taker.Take of a packet that is put. The contracts of the whole of the symbols,Join and Clean. The contracts of Join and Clean. The contracts of the reference's All and of the law's few; the chapter's example. The contract of the law's few; the chapter's example. Chapter 11: fits,piece,Cut,Spread. Chapter 17: a sender in memory; sender.New,Send,Explicit. Chapter 17: sender.Send. An append stays in its own block,or goes to a new one. Chapter 21: a relay in memory; New,Next,Say of what says nothing. -/
import Derived.Test.YtccaiiigdfieoaaGreatDoorZj5
import Derived.Laws.OwnMore
import Derived.OwnWalk
import Derived.WalkKit
import Derived.Laws.AppendOwn
namespace Go.Proofs.YtccaiiigdfieoaaGreatDoor
open Go.RowKit Go.By Go.Maps
set_option maxRecDepth 100000 in
set_option maxHeartbeats 4000000 in
theorem GLook_nil (L t k D : Nat) (p : Option Addr) (n c : Nat) (xs : List UInt8) (w : World) (hP : POK L t k D) (hT : HalfT w) (h : Sl B8 w p n c xs) (hr : Room n) :
  Calls Tryz.prog 62 #[GVal L t k D (.map none),.slice p n c] w fun e w' => ∃ b2 v0 v1 v2 v3 v4 v5 v6,e = .returned (.tuple #[GVal L t k D (.map (some b2)),.agg #[v0,v1,v2,v3,v4,v5,v6],.int .i64 (readC k t D xs)]) ∧
   CntM w' (.map (some b2)) 1 ((DataW.map [] : DataW Unit).put (.int .i64 (readC k t D xs)) (.lit (.int .i64 (getN (.map []) (readC k t D xs) + 1)))) ∧ PkC w' w.heap.size k t D xs v0 v1 v2 v3 v4 v5 v6 ∧ Below w.heap.size w w' := by
 have HR : Hid (∀ w,HalfT w → Sl B8 w p n c xs → Calls Tryz.prog 111 #[PVal L t k D,.slice p n c] w fun e w' => ∃ v0 v1 v2 v3 v4 v5 v6,e = .returned (.tuple #[.agg #[v0,v1,v2,v3,v4,v5,v6],.int .i64 (readC k t D xs)]) ∧ PkC w' w.heap.size k t D xs v0 v1 v2 v3 v4 v5 v6 ∧ Below w.heap.size w w') := fun w hT h => PRead_gen L t k D p n c xs w hP hT h hr
 have H := Lib.hid h
 have HT := Lib.hid hT
 clear hP h hr hT
 generalize hE : readC k t D xs = E at *
 have HE := Lib.hid hE
 clear hE
 obtain ⟨C2,hC2⟩ : ∃ C2 : DataW Unit,C2 = .map [] := ⟨_,rfl⟩
 have HSm : Hid (∀ x,0 ≤ getN C2 x ∧ getN C2 x ≤ 0) := fun x => by rw [hC2]; exact ⟨Int.le_refl _,Int.le_refl _⟩
 rw [← hC2]
 have HC2 := Lib.hid hC2
 clear hC2
 go_enter Tryz.func62,Tryz.ntmps62
 go_wp2_with fail
 refine Calls.mono (HR.out _ (HT.out.keep (by exact al (al (al (Below.refl _ _) (Nat.le_refl _)) (by simp)) (by simp; omega))) (H.out.keep (by exact al (al (al (Below.refl _ _) (Nat.le_refl _)) (by simp)) (by simp; omega)))) ?_
 rintro e w1 ⟨v0,v1,v2,v3,v4,v5,v6,rfl,hpk,hb⟩
 obtain ⟨hb1,h1,h2,h3,hs⟩ := three_of hb
 have HB := Lib.hid hb1
 have HPk := Lib.hid (hpk.mono (B' := w.heap.size) (by simp; omega))
 obtain ⟨o0,o1,o2,o3,o4,o5,o6⟩ := hpk.1
 obtain ⟨c0,c1,c2,c3,c4⟩ := cells_five h1
 have d4 : ∀ o',(w1.alloc o').cell? ⟨w.heap.size,4,none⟩ = _ := fun _ => calloc c4
 clear hb hb1 hpk
 go_wp2_with (refine wpList_store_rowS (o := ⟨none,.store 122 (.tmp 7) (.tmp 17),_,_,_,_⟩) rfl 122 (.tmp 7) (.tmp 17) rfl w1.heap.size #[v0,v1,v2,v3,v4,v5,v6] rfl rfl _ _ (hnew rfl) info_packet rfl (by simp [o0,o1,o2,o3,o4,o5,o6]) ?_)
 intro w2 hr2
 have HB2 : Hid (Below w.heap.size w w2) := by rw [hr2.eq]; exact below_row (al HB.out HB.out.size) HB.out.size
 have h1' : w2.heap[w.heap.size]? = some (.cells #[.int .i64 (L : Nat),.int .i64 (t : Nat),.int .i64 (k : Nat),.int .u32 (D : Nat),.map none] 111 (0,0)) := by rw [hr2.eq]; exact hro (hal h1) (by omega)
 have h2' : w2.heap[w.heap.size + 1]? = some (.cells #[.int .i64 0,.int .i64 0,.int .i64 0,.int .u32 0,.map none] 111 (0,0)) := by rw [hr2.eq]; exact hro (hal h2) (by omega)
 have h3' : w2.heap[w.heap.size + 2]? = some (.cells #[.int .u8 0,.int .u32 0,.int .u32 0,.int .u8 0,.slice none 0 0,.int .u64 0,.slice none 0 0] 122 (0,0)) := by rw [hr2.eq]; exact hro (hal h3) (by omega)
 have h7 : w2.heap[w1.heap.size]? = some (.cells #[v0,v1,v2,v3,v4,v5,v6] 122 (0,0)) := by rw [hr2.eq]; exact hrs (hnew rfl)
 have HPk2 : Hid (PkC w2 w.heap.size k t D xs v0 v1 v2 v3 v4 v5 v6) := by rw [hr2.eq]; exact (HPk.out.keep (al (Below.refl _ _) (Nat.le_refl _))).row (hnew rfl) pkt_ne
 have hs2 : w1.heap.size + 1 ≤ w2.heap.size := by rw [hr2.eq]; simp [World.setRow]
 clear hr2 h1 h2 h3 c0 c1 c2 c3 c4 d4
 generalize hG7 : w1.heap.size = g7 at *
 have HG7 : Hid (w.heap.size + 3 ≤ g7) := hs
 clear hG7
 obtain ⟨c0,c1,c2,c3,c4⟩ := cells_five h1'
 have hmk := fun x => run_makeMapN (P := Tryz.prog) Tryz.underlying109 x w2
 have d4 : ∀ o',(w2.alloc o').cell? ⟨w.heap.size,4,none⟩ = some (.map none) := fun _ => calloc c4
 have hrn := fun W => run_range_nilMap (P := Tryz.prog) W 109 _ _ Tryz.underlying109
 go_wp2_with fail
 obtain ⟨b2,hb2⟩ : ∃ b2,b2 = w2.heap.size := ⟨_,rfl⟩
 have hm0 : (w2.alloc (.map #[] 0)).ownsMap Tryz.prog 35 (plainElem Tryz.prog 3) b2 0 (.map [] : DataW Unit) := by rw [hb2]; exact World.ownsMap_made _ _ _ _
 have hnx := run_next_nilMap (P := Tryz.prog) (w2.alloc (.map #[] 0)) 0 0 0 #[]
 rw [show (w2.alloc (.map #[] 0)).heap.size = w2.heap.size + 1 by simp] at hnx
 have R2 : Hid (((w2.alloc (.map #[] 0)).alloc (.mapIter none 0 #[] 0)).ownsMap Tryz.prog 35 (plainElem Tryz.prog 3) b2 0 (.map [] : DataW Unit)) := hm0.alloc _
 have R5 : Hid (Below w2.heap.size w2 ((w2.alloc (.map #[] 0)).alloc (.mapIter none 0 #[] 0))) := al (al (Below.refl _ _) (Nat.le_refl _)) (by simp)
 have HZ : Hid (b2 = w2.heap.size) := hb2
 rw [← hb2] at hnx ⊢
 have HNX := Lib.hid hnx
 clear hm0 hnx hmk d4 hb2 hrn c0 c1 c2 c3 c4
 obtain ⟨W3,hW3⟩ : ∃ W3,W3 = (w2.alloc (.map #[] 0)).alloc (.mapIter none 0 #[] 0) := ⟨_,rfl⟩
 rw [← hW3] at R2 R5 HNX ⊢
 clear hW3
 rw [← HC2.out] at R2
 go_loopw [10] (fun _ wr => Hid (wr = W3)) (fun _ _ => 0)
 case atStart => rfl
 case round =>
   have hwr := hrel.out
   subst hwr
   have hnx := HNX.out
   have hkE := keyE k t D xs
   rw [HE.out] at hkE
   have HKE := Lib.hid hkE
   have HBW := Lib.hid (bl HB2.out R5.out HB2.out.size)
   have q1 := (R5.out.block _ (by have := lt_of_block h1'; omega)).trans h1'
   have q2 := (R5.out.block _ (by have := lt_of_block h2'; omega)).trans h2'
   have q3 := (R5.out.block _ (by have := lt_of_block h3'; omega)).trans h3'
   have q7 := (R5.out.block _ (by have := lt_of_block h7; omega)).trans h7
   have HPk3 := Lib.hid (HPk2.out.keep R5.out)
   have HL2 : Hid (g7 < w2.heap.size) := lt_of_block h7
   clear h1' h2' h3' h7 hkE
   go_wp2_with (first | (at_lookup; refine wpList_lookup_own_int _ rfl _ _ 109 rfl 35 3 .i64 keyedG Tryz.underlying109 Tryz.underlying3 (zeroI _) b2 0 _ rfl R2.out _ _ rfl HKE.out ?_) | (at_mapUpdate; fail) | fail)
   intro cc hat hwc
   have eN : cc = getN C2 E := by unfold getN; rw [hat]
   have hsmE := HSm.out E
   rw [← eN] at hsmE
   have ec : wrap64 (cc + 1) = cc + 1 := by unfold wrap64; omega
   have hw1 : (Lit.int .i64 (cc + 1)).wf = true := by simp [Lit.wf,IntKind.min,IntKind.max,IntKind.signed,IntKind.bits]; omega
   have HEN := Lib.hid eN
   clear hat eN
   go_wp2_with (first | (at_mapUpdate; refine wpList_mapUpdate_own _ rfl _ _ _ 109 rfl 35 3 keyedG Tryz.underlying109 (plainElem Tryz.prog 3) b2 0 C2 rfl R2.out (by unfold maxLen; omega) _ _ (.int .i64 E) rfl rfl HKE.out (.lit (.int .i64 (cc + 1))) [] (plainElem_int Tryz.underlying3 hw1) ?_) | fail)
   intro w5 hown5 hg5
   have HO5 := Lib.hid hown5
   have HSZ2 := HZ.out
   have B5 := R5.out.grown hg5 R5.out.size (fun r hr => by cases hr; omega)
   have hx5 := B5.size
   have HB5 := Lib.hid (bl HB2.out B5 HB2.out.size)
   have p1 := (hg5.block _ (lt_of_block q1) (by have := HL2.out; have := HG7.out; simp; omega)).trans q1
   have p2 := (hg5.block _ (lt_of_block q2) (by have := HL2.out; have := HG7.out; simp; omega)).trans q2
   have p3 := (hg5.block _ (lt_of_block q3) (by have := HL2.out; have := HG7.out; simp; omega)).trans q3
   have p7 := (hg5.block _ (lt_of_block q7) (by have := HL2.out; simp; omega)).trans q7
   have HPk5 := Lib.hid (HPk2.out.keep B5)
   have HE1 := Lib.hid ec
   have hne7 : g7 ≠ w.heap.size + 1 ∧ g7 ≠ w.heap.size + 2 := by have := HG7.out; omega
   clear hown5 hg5 B5 q1 q2 q3 q7 ec hw1 hsmE hwc HSZ2 hx5
   obtain ⟨c0,c1,c2,c3,c4⟩ := cells_five p1
   obtain ⟨e0,e1,e2,e3,e4,e5,e6⟩ := cells_seven p7
   go_wp2_with fail
   refine wp_region_pair (fun ix => ([.pointer (some ⟨w.heap.size,0,none⟩),PVal L t k D,.map (some b2),.agg #[.int .i64 (L : Nat),.int .i64 (t : Nat),.int .i64 (k : Nat),.int .u32 (D : Nat),.map (some b2)],.agg #[v0,v1,v2,v3,v4,v5,v6],.int .i64 E,undef,undef,.int .i64 E][ix]?).getD undef) 45 6 7 (w.heap.size + 1) (w.heap.size + 1 + 1) 111 122 #[.int .i64 (L : Nat),.int .i64 (t : Nat),.int .i64 (k : Nat),.int .u32 (D : Nat),.map (some b2)] #[v0,v1,v2,v3,v4,v5,v6] rfl (by kernel_rfl) (by decide) (by decide) (by decide) (by decide) (by omega) ⟨_,p2,rfl⟩ ⟨_,p3,rfl⟩ ?_ ?_ ?_ (by decide) (by decide) ?_
   ·intro i o h1 h2 ho a W hE hs hp hi
    match i,h1,h2,ho with
    | 0,_,_,ho =>
     simp at ho; subst ho
     have t2 : sl a 2 = .pointer (some ⟨w.heap.size,0,none⟩) := hi 2 (by decide)
     simp only [execOp,eval_tmp,t2]; simp [go_sem]
    | 1,_,_,ho =>
     simp at ho; subst ho
     have t39 : sl a 39 = .pointer (some ⟨w.heap.size,0,none⟩) := hp 0 39 (by decide) (by decide) (by decide) rfl
     have f0 := hE.cell (by omega) (by omega) c0; have f1 := hE.cell (by omega) (by omega) c1; have f2 := hE.cell (by omega) (by omega) c2; have f3 := hE.cell (by omega) (by omega) c3
     simp only [execOp,eval_tmp,t39]; simp [go_sem,f0,f1,f2,f3]
    | 2,_,_,ho =>
     simp at ho; subst ho
     have t9 : sl a 9 = .map (some b2) := hi 9 (by decide)
     simp only [execOp,eval_tmp,t9]; rfl
    | 3,_,_,ho =>
     simp at ho; subst ho
     have t40 : sl a 40 = PVal L t k D := hp 1 40 (by decide) (by decide) (by decide) rfl
     have t41 : sl a 41 = .map (some b2) := hp 2 41 (by decide) (by decide) (by decide) rfl
     have u40 : a.tmps[40]?.getD undef = sl a 40 := by simp [sl]
     have u41 : a.tmps[41]?.getD undef = sl a 41 := by simp [sl]
     rw [t40] at u40; rw [t41] at u41
     simp only [execOp,eval_tmp,t40,t41]; simp [go_sem,u40,u41,Tryz.underlying111,Tryz.underlying27]
    | 4,_,_,ho =>
     simp at ho; subst ho
     have t7 : sl a 7 = .pointer (some ⟨g7,0,none⟩) := hi 7 (by decide)
     have f0 := hE.cell hne7.1 hne7.2 e0; have f1 := hE.cell hne7.1 hne7.2 e1; have f2 := hE.cell hne7.1 hne7.2 e2; have f3 := hE.cell hne7.1 hne7.2 e3; have f4 := hE.cell hne7.1 hne7.2 e4; have f5 := hE.cell hne7.1 hne7.2 e5; have f6 := hE.cell hne7.1 hne7.2 e6
     simp only [execOp,eval_tmp,t7]; simp [go_sem,f0,f1,f2,f3,f4,f5,f6]
    | 5,_,_,ho =>
     simp at ho; subst ho
     have t8 : sl a 8 = .int .i64 E := hi 8 (by decide)
     simp only [execOp,eval_tmp,t8]; rfl
    | 8,_,_,ho =>
     simp at ho; subst ho
     have t44 : sl a 44 = .int .i64 E := hp 5 44 (by decide) (by decide) (by decide) rfl
     simp only [execOp,eval_tmp,t44]; rfl
    | 6,h,_,_ => exact absurd rfl h
    | 7,_,h,_ => exact absurd rfl h
    | j + 9,_,_,ho => simp at ho
   ·intro o ho a W hE hs hp hi old hold hsz
    simp at ho; subst ho
    have t4 : sl a 4 = .pointer (some ⟨w.heap.size + 1,0,none⟩) := hi 4 (by decide)
    have t42 : sl a 42 = .agg #[.int .i64 (L : Nat),.int .i64 (t : Nat),.int .i64 (k : Nat),.int .u32 (D : Nat),.map (some b2)] := hp 3 42 (by decide) (by decide) (by decide) rfl
    exact wp_store_row 111 (.tmp 4) (.tmp 42) rfl (w.heap.size + 1) #[.int .i64 (L : Nat),.int .i64 (t : Nat),.int .i64 (k : Nat),.int .u32 (D : Nat),.map (some b2)] (by rw [eval_tmp]; exact t4) (by rw [eval_tmp]; exact t42) _ old hold info_gate hsz (by simp [Value.oneCell']) ⟨rfl,rfl⟩
   ·intro o ho a W hE hs hp hi old hold hsz
    simp at ho; subst ho
    have t5 : sl a 5 = .pointer (some ⟨w.heap.size + 1 + 1,0,none⟩) := hi 5 (by decide)
    have t43 : sl a 43 = .agg #[v0,v1,v2,v3,v4,v5,v6] := hp 4 43 (by decide) (by decide) (by decide) rfl
    exact wp_store_row 122 (.tmp 5) (.tmp 43) rfl (w.heap.size + 1 + 1) #[v0,v1,v2,v3,v4,v5,v6] (by rw [eval_tmp]; exact t5) (by rw [eval_tmp]; exact t43) _ old hold info_packet hsz (by simp [o0,o1,o2,o3,o4,o5,o6]) ⟨rfl,rfl⟩
   ·intro a W hE i1 i2 hs hd hI ht
    have ha := act_is [39,40,41,42,43,44,6] hs hd ht (by decide)
    have t6 : sl a 6 = .int .i64 E := hI 8 6 (by decide) (by decide) (by decide) rfl
    simp only [List.foldl,t6] at ha
    generalize sl a 39 = u39 at ha
    generalize sl a 40 = u40 at ha
    generalize sl a 41 = u41 at ha
    generalize sl a 42 = u42 at ha
    generalize sl a 43 = u43 at ha
    generalize sl a 44 = u44 at ha
    simp only [Act.put,List.setIfInBounds_toArray,List.set_cons_zero,List.set_cons_succ] at ha
    rw [ha]
    clear ha hI ht hs hd t6 c0 c1 c2 c3 c4 e0 e1 e2 e3 e4 e5 e6
    have hW := hE.size
    have HO6 : Hid (W.ownsMap Tryz.prog 35 (plainElem Tryz.prog 3) b2 (0 + 1) (C2.put (.int .i64 E) (.lit (.int .i64 (cc + 1))))) := by
     obtain ⟨es,clock,m1,F,m2,m3⟩ := HO5.out
     exact ⟨es,clock,(hE.block b2 (by have := HL2.out; have := HG7.out; have := HZ.out; omega) (by have := HL2.out; have := HG7.out; have := HZ.out; omega)).trans m1,F,m2,m3⟩
    have HPk6 := Lib.hid (HPk5.out.two hE p2 p3 gate_ne pkt_ne)
    have HB6 : Hid (Below w.heap.size w W) := HB5.out.trans (hE.below (by omega) (by omega))
    have HMp : Hid (IsMap C2) := R2.out.isMap
    clear hE p1 p2 p3 p7 hW
    go_wp2
    refine bodyPost_ret (res_cct rfl _ _ _ _ 111 122 #[.int .i64 (L : Nat),.int .i64 (t : Nat),.int .i64 (k : Nat),.int .u32 (D : Nat),.map (some b2)] #[v0,v1,v2,v3,v4,v5,v6] (0,0) (0,0) _ _ (.int .i64 E) rfl i1 rfl i2 rfl Tryz.underlying111 rfl info_gate Tryz.underlying122 rfl info_packet) rfl ?_
    refine ⟨b2,v0,v1,v2,v3,v4,v5,v6,rfl,⟨.inr ⟨b2,rfl,?_⟩,fun x => ?_⟩,HPk6.out,HB6.out⟩
    ·rw [← HEN.out]
     exact HO6.out
    ·rw [getN_put HMp.out (keyedG.key HKE.out),← HEN.out]
     have g1 := HSm.out x
     have g2 := HSm.out E
     rw [← HEN.out] at g2
     split <;> omega
theorem CntM.mono {w : World} {M : Value} {N N' : Nat} {C : DataW Unit} (h : CntM w M N C) (hN : N ≤ N') : CntM w M N' C := by
 refine ⟨?_,fun x => by have := h.small x; omega⟩
 rcases h.at_ with h1 | ⟨b,e,ho⟩
 ·exact .inl h1
 ·exact .inr ⟨b,e,ho.mono hN⟩
def bump (C : DataW Unit) (x : Int) : DataW Unit := C.put (.int .i64 x) (.lit (.int .i64 (getN C x + 1)))
theorem GLook_any (L t k D N : Nat) (M : Value) (C : DataW Unit) (p : Option Addr) (n c : Nat) (xs : List UInt8) (w : World) (hP : POK L t k D) (hT : HalfT w) (hC : CntM w M N C) (hN : N < 1000000) (h : Sl B8 w p n c xs) (hr : Room n) :
  Calls Tryz.prog 62 #[GVal L t k D M,.slice p n c] w fun e w' => ∃ b2 v0 v1 v2 v3 v4 v5 v6,e = .returned (.tuple #[GVal L t k D (.map (some b2)),.agg #[v0,v1,v2,v3,v4,v5,v6],.int .i64 (readC k t D xs)]) ∧
   CntM w' (.map (some b2)) (N + 1) (bump C (readC k t D xs)) ∧ PkC w' w.heap.size k t D xs v0 v1 v2 v3 v4 v5 v6 ∧ Below w.heap.size w w' := by
 rcases hC.at_ with ⟨rfl,rfl⟩ | ⟨b,rfl,ho⟩
 ·refine Calls.mono (GLook_nil L t k D p n c xs w hP hT h hr) ?_
  rintro e w' ⟨b2,v0,v1,v2,v3,v4,v5,v6,rfl,g1,g2,g3⟩
  exact ⟨b2,v0,v1,v2,v3,v4,v5,v6,rfl,g1.mono (by omega),g2,g3⟩
 ·exact GLook_own L t k D b N C p n c xs w hP hT ho hC.small hN h hr
end Go.Proofs.YtccaiiigdfieoaaGreatDoor
namespace Go.Proofs.YtccaiiigdfieoaaGreatDoor
open Go.RowKit Go.By
end Go.Proofs.YtccaiiigdfieoaaGreatDoor
namespace Go.Proofs.YtccaiiigdfieoaaGreatDoor
open Go.RowKit Go.By
end Go.Proofs.YtccaiiigdfieoaaGreatDoor
namespace Go.Proofs.YtccaiiigdfieoaaGreatDoor
open Go.RowKit Go.By
end Go.Proofs.YtccaiiigdfieoaaGreatDoor
namespace Go.By
open Go.RowKit
end Go.By
namespace Go.Proofs.YtccaiiigdfieoaaGreatDoor
open Go.RowKit Go.By
end Go.Proofs.YtccaiiigdfieoaaGreatDoor
namespace Go.By
open Go.RowKit
end Go.By
namespace Go.Proofs.YtccaiiigdfieoaaGreatDoor
open Go.RowKit Go.By
end Go.Proofs.YtccaiiigdfieoaaGreatDoor
namespace Go.By
open Go.RowKit
end Go.By
namespace Go.Proofs.YtccaiiigdfieoaaGreatDoor
open Go.RowKit Go.By
end Go.Proofs.YtccaiiigdfieoaaGreatDoor
namespace Go.By
open Go.RowKit
def cntS (v : List UInt8) : Nat := v.countP (fun x => decide (x ≠ 0))
theorem cnt_one {v : List UInt8} {l : Nat} {a : UInt8} (h : v[l]? = some a) (ha : a ≠ 0) (hc : cntS v = 1) {j : Nat} {b : UInt8} (hj : v[j]? = some b) (hne : j ≠ l) : b = 0 := by
 obtain ⟨hl,e⟩ := List.getElem?_eq_some_iff.1 h
 have hv : v = v.take l ++ a :: v.drop (l + 1) := by rw [← e,List.getElem_cons_drop hl,List.take_append_drop]
 have h2 : List.countP (fun x : UInt8 => decide (x ≠ 0)) (v.take l) + (List.countP (fun x : UInt8 => decide (x ≠ 0)) (v.drop (l + 1)) + 1) = 1 := by
  have h3 := hc
  unfold cntS at h3
  rw [hv,List.countP_append,List.countP_cons,if_pos (by simpa using ha)] at h3
  exact h3
 have h0 : ∀ x,x ∈ v.take l ∨ x ∈ v.drop (l + 1) → x = 0 := fun x hx => by
  rcases hx with hx | hx
  ·have := List.countP_eq_zero.1 (show List.countP (fun x : UInt8 => decide (x ≠ 0)) (v.take l) = 0 by omega) x hx
   simpa using this
  ·have := List.countP_eq_zero.1 (show List.countP (fun x : UInt8 => decide (x ≠ 0)) (v.drop (l + 1)) = 0 by omega) x hx
   simpa using this
 refine h0 b ?_
 rcases Nat.lt_or_ge j l with g | g
 ·exact .inl (List.mem_of_getElem? (i := j) (by rw [List.getElem?_take,if_pos g]; exact hj))
 ·exact .inr (List.mem_of_getElem? (i := j - (l + 1)) (by rw [List.getElem?_drop,show l + 1 + (j - (l + 1)) = j by omega]; exact hj))
end Go.By
namespace Go.Proofs.YtccaiiigdfieoaaGreatDoor
open Go.RowKit Go.By
theorem cnt_unit (n i : Nat) (hi : i < n) : cntS ((List.replicate n 0).set i 1) = 1 := by
 unfold cntS
 rw [List.set_eq_take_append_cons_drop,if_pos (by simpa using hi),List.countP_append,List.countP_cons]
 simp [List.countP_replicate]
theorem unit_iff {wd t : Nat} {r : Rw} {i : Nat} (hf : Fit wd t r) (hl : Led r) (hi : i < wd) : (cntS r.1 = 1 ∧ leadS r.1 = (i : Int)) ↔ r.1 = (List.replicate wd 0).set i 1 := by
 obtain ⟨l,e1,e2,e3⟩ := hl
 constructor
 ·rintro ⟨hc,hle⟩
  obtain rfl : l = i := by rw [e1] at hle; omega
  apply List.ext_getElem?
  intro j
  by_cases hj : j < wd
  ·obtain ⟨b,hb⟩ : ∃ b,r.1[j]? = some b := ⟨_,List.getElem?_eq_getElem (by rw [hf.1]; exact hj)⟩
   rw [List.getElem?_set]
   by_cases e : l = j
   ·subst e; rw [if_pos rfl,if_pos (by simpa using hj)]; exact e2
   ·rw [if_neg e,List.getElem?_replicate,if_pos hj,hb,cnt_one e2 (by decide) hc hb (fun h => e h.symm)]
  ·rw [List.getElem?_eq_none (by rw [hf.1]; omega),List.getElem?_eq_none (by simp; omega)]
 ·intro h
  refine ⟨by rw [h]; exact cnt_unit wd i hi,?_⟩
  rw [e1]
  have h1 : r.1[i]? = some 1 := by rw [h,List.getElem?_set,if_pos rfl,if_pos (by simpa using hi)]
  have : ¬ i < l := fun hil => by have := e3 i 1 hil h1; exact absurd this (by decide)
  have : ¬ l < i := fun hli => by
   have h2 : r.1[l]? = some 0 := by rw [h,List.getElem?_set,if_neg (by omega),List.getElem?_replicate,if_pos (by omega)]
   rw [h2] at e2; cases e2
  omega
def mtS (i : Int) (r : Rw) : Bool := decide (cntS r.1 = 1) && decide (leadS r.1 = i)
theorem known_find {wd t : Nat} {K : List Rw} (hK : ∀ k,k ∈ K → Fit wd t k ∧ Led k) (hw : wd ≤ 65536) (i : Int) : knownS wd K i = match K.find? (mtS i) with
  | some r => (r.2,true)
  | none => ([],false) := by
 unfold knownS unitS
 by_cases hi : i < 0 ∨ (wd : Int) ≤ i
 ·rw [if_pos (show (wd : Int) < 0 ∨ (65536 : Int) < (wd : Int) ∨ i < 0 ∨ (wd : Int) ≤ i by omega)]
  have : K.find? (mtS i) = none := List.find?_eq_none.2 fun r hr => by
   obtain ⟨hf,l,e1,-⟩ := hK r hr
   have hl : l < wd := by obtain ⟨-,l',hl'⟩ := hK r hr; have := hl'.lt hf; have e := hl'.1; rw [e1] at e; omega
   unfold mtS
   rw [e1,decide_eq_false (show ¬ ((l : Int) = i) by omega)]
   simp
  rw [this]; rfl
 ·rw [if_neg (show ¬ ((wd : Int) < 0 ∨ (65536 : Int) < (wd : Int) ∨ i < 0 ∨ (wd : Int) ≤ i) by omega)]
  obtain ⟨n,rfl⟩ := Int.eq_ofNat_of_zero_le (show 0 ≤ i by omega)
  have hn : n < wd := by omega
  have e : K.find? (fun r => decide (r.1 = (List.replicate wd 0).set n 1)) = K.find? (mtS n) := by
   have : ∀ (L : List Rw),(∀ k,k ∈ L → Fit wd t k ∧ Led k) → L.find? (fun r => decide (r.1 = (List.replicate wd 0).set n 1)) = L.find? (mtS n) := by
    intro L
    induction L with
    | nil => intro _; rfl
    | cons a L ih =>
     intro h
     rw [List.find?_cons,List.find?_cons,ih (fun k hk => h k (by simp [hk]))]
     have hu := unit_iff (h a (by simp)).1 (h a (by simp)).2 hn
     have : mtS n a = decide (a.1 = (List.replicate wd 0).set n 1) := by
      unfold mtS
      by_cases hx : a.1 = (List.replicate wd 0).set n 1
      ·rw [decide_eq_true hx,decide_eq_true (hu.2 hx).1,decide_eq_true (hu.2 hx).2]; rfl
      ·rw [decide_eq_false hx]
       by_cases h1 : cntS a.1 = 1
       ·rw [decide_eq_false (fun h2 => hx (hu.1 ⟨h1,h2⟩))]; simp
       ·rw [decide_eq_false h1]; simp
     rw [this]
   exact this K hK
  simp only [ne_eq,not_true_eq_false,if_false,Int.toNat_natCast]
  rw [e]
  all_goals (cases K.find? (mtS n) <;> rfl)
end Go.Proofs.YtccaiiigdfieoaaGreatDoor
namespace Go.By
open Go.RowKit
end Go.By
namespace Go.Proofs.YtccaiiigdfieoaaGreatDoor
open Go.RowKit Go.By
end Go.Proofs.YtccaiiigdfieoaaGreatDoor
namespace Go.Proofs.YtccaiiigdfieoaaGreatDoor
open Go.RowKit Go.By
theorem RwL.made {w : World} {base g n : Nat} (hh : w.heap[g]? = some (.cells (madeCells #[.slice none 0 0,.slice none 0 0] (n * 2)) 99 (0,0))) (hb : base ≤ g) (hn : n ≤ maxLen) : RwL 99 5 w base (.slice (some ⟨g,0,none⟩) n n) n (List.replicate n ([],[])) := by
 have hfl : (madeCells #[.slice none 0 0,.slice none 0 0] (n * 2)).toList = fl2 (List.replicate n ((.slice none 0 0 : Value),(.slice none 0 0 : Value))) := by
  apply List.ext_getElem?
  intro i
  by_cases hi : i < n * 2
  ·have e1 : (madeCells #[.slice none 0 0,.slice none 0 0] (n * 2)).toList[i]? = some (.slice none 0 0) := by
    rcases Nat.mod_two_eq_zero_or_one i with h | h <;> simp [madeCells,hi,h]
   have hd : i / 2 < n := by omega
   obtain ⟨f1,f2⟩ := fl2_at (vs := List.replicate n ((.slice none 0 0 : Value),(.slice none 0 0 : Value))) (i := i / 2) (u := (.slice none 0 0,.slice none 0 0)) (by rw [List.getElem?_replicate,if_pos hd])
   rw [e1]
   rcases Nat.mod_two_eq_zero_or_one i with h | h
   ·rw [show i / 2 * 2 = i by omega] at f1; exact f1.symm
   ·rw [show i / 2 * 2 + 1 = i by omega] at f2; exact f2.symm
  ·rw [List.getElem?_eq_none (by simp [madeCells]; omega),List.getElem?_eq_none (by rw [fl2_length,List.length_replicate]; omega)]
 refine ⟨List.replicate n (.slice none 0 0,.slice none 0 0),by simp,by simp,⟨by rw [fl2_length,List.length_replicate],.inr ⟨g,n,_,rfl,hb,hh,Nat.le_refl _,hn,by simp [madeCells],?_⟩⟩,?_⟩
 ·rw [hfl,List.take_of_length_le (by rw [fl2_length,List.length_replicate]; omega)]
 ·intro j u hj
  obtain ⟨h1,h2⟩ := List.getElem?_eq_some_iff.1 hj
  rw [List.length_replicate] at h1
  simp at h2
  subst h2
  exact ⟨([],[]),by rw [List.getElem?_replicate,if_pos h1],⟨none,0,0,rfl,rfl,World.ownsRow_nil _ _ _ _⟩,⟨none,0,0,rfl,rfl,World.ownsRow_nil _ _ _ _⟩⟩
theorem fill_step {α : Type} {K : List α} {j n : Nat} {a z : α} (hj : K[j]? = some a) (hn : K.length = n) : (K.take j ++ List.replicate (n - j) z).set j a = K.take (j + 1) ++ List.replicate (n - (j + 1)) z := by
 have hl := (List.getElem?_eq_some_iff.1 hj).1
 have lj : (K.take j).length = j := by rw [List.length_take]; omega
 rw [List.set_append_right _ _ (by omega),lj,Nat.sub_self,List.take_add_one,hj]
 rw [show n - j = (n - (j + 1)) + 1 by omega,List.replicate_succ]
 simp
theorem heap_owns2 {w : World} {base E g n : Nat} {L : List Value} (h : w.ownsRow base E 2 (.slice (some ⟨g,0,none⟩) n n) n L) : w.heap[g]? = some (.cells L.toArray E (0,0)) := by
 rcases h.2 with ⟨h1,_⟩ | ⟨g',cap,cur,hv,_,hh,_,_,hs,ht⟩
 ·cases h1
 ·cases hv
  rw [hh]
  have : cur = L.toArray := by
   rw [← ht,List.take_of_length_le (by simp [hs])]
  rw [this]
set_option maxRecDepth 100000 in
set_option maxHeartbeats 4000000 in
theorem ERows_any (base be k t n : Nat) (v : Value) (K : List Rw) (w : World) (hE : Elm w base be k t v n K) (hr : ∀ r,r ∈ K → Room r.1.length ∧ Room r.2.length) (hn : n ≤ 4096) :
  Calls Tryz.prog 78 #[.pointer (some ⟨be,0,none⟩)] w fun e w' => ∃ v',e = .returned v' ∧ RwL 99 5 w' w.heap.size v' n K ∧ Below w.heap.size w w' := by
 obtain ⟨r0,hr0,hrz,hr1,hr2⟩ := info_parts info_vrow
 obtain ⟨q,c,rfl⟩ := hE.rows.shape
 have HLEN := Lib.hid hE.rows.len; have HR := Lib.hid hr; have HE := Lib.hid hE
 have HM1 : Hid (n ≤ maxLen) := by show n ≤ maxLen; unfold maxLen; omega
 have HM2 : Hid (48 * n ≤ 281474976710656) := by show 48 * n ≤ _; omega
 obtain ⟨g,hg⟩ : ∃ g,g = w.heap.size := ⟨_,rfl⟩
 have HG := Lib.hid hg
 clear hg
 obtain ⟨f0,f1,f2⟩ := cells3 hE.box
 clear hE hr
 go_enter Tryz.func78,Tryz.ntmps78
 go_wp2_with (at_make; refine wpList_make_full _ rfl _ _ 44 rfl w.heap.size 99 r0 (.agg #[.slice none 0 0,.slice none 0 0]) 2 Tryz.underlying44 hr0 hrz hr1 .i64 .i64 _ _ n rfl rfl rfl rfl (by rw [hr2]; exact HM2.out) HM1.out (by simp) ?_)
 intro w1 ho hg
 have hg' : Below w.heap.size w w1 := (Below.refl _ _).grown hg (by simp) (by simp)
 have RM := heap_owns2 ho
 have R1 : Hid (RwL 99 5 w1 w.heap.size (.slice (some ⟨w.heap.size,0,none⟩) n n) n (List.replicate n ([],[]))) := RwL.made (by simpa using RM) (Nat.le_refl _) HM1.out
 have E1 := Lib.hid (HE.out.keep hg')
 have B1 := Lib.hid hg'
 rw [← HG.out] at R1 ⊢
 clear RM ho hg hg' f0 f1 f2 hr0 hrz hr1 hr2 HM1 HM2
 obtain ⟨f0,f1,f2⟩ := cells3 E1.out.box
 go_wp2
 clear f0 f1 f2
 go_loopw [19] (fun i wr => ∃ j : Nat,j ≤ n ∧ i = .int .i64 j ∧ Hid (RwL 99 5 wr g (.slice (some ⟨g,0,none⟩) n n) n (K.take j ++ List.replicate (n - j) ([],[]))) ∧ Hid (Below g w wr)) (fun i _ => n - (intOf i).toNat)
 case atStart => exact ⟨0,Nat.zero_le _,rfl,by show RwL _ _ _ _ _ _ _; simpa using R1.out,by show Below _ _ _; rw [HG.out]; exact B1.out⟩
 case round =>
  clear R1 E1 B1
  obtain ⟨j,hj,rfl,hR,hB⟩ := hrel
  have hE := Lib.hid (HE.out.keep (w' := wr) (by rw [← HG.out]; exact hB.out))
  by_cases hjl : j < n
  ·have jn : (j : Int) < (n : Int) := by omega
   obtain ⟨gs,kk,a1,b1,d1,a2,b2,d2,rfl,e1,e2,hkk,t1,t2⟩ := hE.out.rows.at hjl
   have T1 := Lib.hid t1; have T2 := Lib.hid t2; have HK := Lib.hid hkk.out
   have HRR := Lib.hid (HR.out kk (List.mem_of_getElem? hkk.out))
   clear t1 t2 hkk
   go_wp2_with fail
   clear e1 e2
   refine use_w1 (fun W => Below wr.heap.size wr W) (al (Below.refl _ _) (Nat.le_refl _)) ?_
   rintro w7 b7
   refine Calls.mono (RClone_any a1 a2 b1 d1 b2 d2 kk.1 kk.2 w7 (T1.out.keep b7) (T2.out.keep b7) (by rw [← T1.out.len]; exact HRR.out.1) (by rw [← T2.out.len]; exact HRR.out.2)) ?_
   rintro e w8 ⟨q1,m1,g1,q2,m2,g2,l1,l2,rfl,o1,o2,hb⟩
   have hgs : g ≤ w7.heap.size := Nat.le_trans (by rw [HG.out]; exact hB.out.size) b7.size
   have B8' := Lib.hid (b7.trans (hb.mono b7.size))
   have Y1 : Hid (Bw 5 w8 g (.slice q1 m1 g1) kk.1) := Bw.mk (owns_mono o1 hgs) l1.out
   have Y2 : Hid (Bw 5 w8 g (.slice q2 m2 g2) kk.2) := Bw.mk (owns_mono o2 hgs) l2.out
   have R8 := Lib.hid (hR.out.keep B8'.out)
   have E8 := Lib.hid (hE.out.keep B8'.out)
   have B9 := Lib.hid (hB.out.trans (B8'.out.mono (by rw [HG.out]; exact hB.out.size)))
   obtain ⟨cur,hcur⟩ := R8.out.blk
   have z0 : w8.frozen? ⟨g,j * 2,none⟩ = false := frozen_of_row _ _ _ _ _ hcur
   have z1 : w8.frozen? ⟨g,j * 2 + 1,none⟩ = false := frozen_of_row _ _ _ _ _ hcur
   obtain ⟨gx,kx,x1,xb1,xd1,x2,xb2,xd2,hgx,c1,c2,-,-,-⟩ := R8.out.at hjl
   obtain rfl : g = gx := by injection hgx with h; injection h
   have HP := Lib.hid (R8.out.put (by decide) hjl Y1.out Y2.out)
   have hs8 : g ≤ w8.heap.size := Nat.le_trans hgs hb.size
   clear hcur hgx o1 o2 hb b7 hR hE hB T1 T2 l1 l2 B8' hgs
   rw [fill_step HK.out HLEN.out] at HP
   have BX : Hid (∀ o1 o2 v1 v2,Below g w ((w8.setCell ⟨g,o1,none⟩ v1).setCell ⟨g,o2,none⟩ v2)) := fun o1 o2 v1 v2 => (B9.out.setCell (Nat.le_refl _) _).setCell (Nat.le_refl _) _
   clear B9 E8 R8 hs8
   go_wp2
   go_roundw
   case rel => exact ⟨j + 1,by omega,by go_num,HP.out,BX.out _ _ _ _⟩
   case measure => simp [intOf]; omega
  ·have hjn : j = n := by omega
   have hge : (n : Int) ≤ (j : Int) := by omega
   have HF := Lib.hid hR.out
   rw [List.take_of_length_le (by rw [HLEN.out]; omega),hjn,Nat.sub_self,List.replicate_zero,List.append_nil] at HF
   have BF := Lib.hid hB.out
   clear hR hE hB hjn
   go_wp2
   go_ret
   exact ⟨_,rfl,by rw [← HG.out]; exact HF.out,by rw [← HG.out]; exact BF.out⟩
end Go.Proofs.YtccaiiigdfieoaaGreatDoor
namespace Go.By
open Go.RowKit
theorem RwL.mono {T2 T1 base b2 n : Nat} {w : World} {v : Value} {K : List (List UInt8 × List UInt8)} (h : RwL T2 T1 w base v n K) (hb : b2 ≤ base) : RwL T2 T1 w b2 v n K := by
 obtain ⟨vs,a,b,o,r⟩ := h
 refine ⟨vs,a,b,?_,fun j u hj => by obtain ⟨k,hk,g1,g2⟩ := r j u hj; exact ⟨k,hk,g1.mono hb,g2.mono hb⟩⟩
 obtain ⟨q,c,rfl⟩ := owns_shape o
 exact owns_mono o hb
end Go.By
namespace Go.Proofs.YtccaiiigdfieoaaGreatDoor
open Go.RowKit Go.By
end Go.Proofs.YtccaiiigdfieoaaGreatDoor
namespace Go.By
open Go.RowKit
section
variable {T2 T1 : TypeId} {w w' : World} {base n : Nat} {v : Value} {xss : List (List UInt8)}
theorem Own2.mono {b2 : Nat} (h : Own2 T2 T1 w base v n xss) (hb : b2 ≤ base) : Own2 T2 T1 w b2 v n xss := by
 obtain ⟨vs,a,b,r⟩ := h
 obtain ⟨q,c,rfl⟩ := owns_shape a
 exact ⟨vs,owns_mono a hb,b,fun j u hj => by obtain ⟨xs,q',c',e1,e2,e3⟩ := r j u hj; exact ⟨xs,q',c',e1,e2,owns_mono e3 hb⟩⟩
theorem Own2.made {q : Value} (ho : w.ownsRow base T2 1 q n (madeCells #[Value.slice none 0 0] n).toList) : Own2 T2 T1 w base q n (List.replicate n []) := by
 have e : (madeCells #[Value.slice none 0 0] n).toList = List.replicate n (Value.slice none 0 0) := toList_madeCells_one _ _
 rw [e] at ho
 refine ⟨_,ho,by simp,fun j u hj => ?_⟩
 obtain ⟨h1,h2⟩ := List.getElem?_eq_some_iff.1 hj
 rw [List.length_replicate] at h1
 simp at h2
 exact ⟨[],none,0,by rw [List.getElem?_replicate,if_pos h1],h2.symm,World.ownsRow_nil _ _ _ _⟩
theorem Own2.put {g c i m c3 : Nat} {q3 : Option Addr} {xs : List UInt8} (h : Own2 T2 T1 w base (.slice (some ⟨g,0,none⟩) n c) n xss) (hT : T1 ≠ T2) (hi : i < n) (h1 : w.ownsRow base T1 1 (.slice q3 m c3) m (xs.map B8)) :
  Own2 T2 T1 (w.setCell ⟨g,i,none⟩ (.slice q3 m c3)) base (.slice (some ⟨g,0,none⟩) n c) n (xss.set i xs) := by
 obtain ⟨vs,a,b,r⟩ := h
 have hml : m = xs.length := by have := h1.1; simp at this; exact this.symm
 subst hml
 have hvl : vs.length = n := by simpa using a.1
 have hst := a.stored i (.slice q3 xs.length c3)
 refine ⟨vs.set i (.slice q3 xs.length c3),hst.1,by simp [b],fun j u hj => ?_⟩
 rw [List.getElem?_set] at hj
 by_cases e : i = j
 ·subst e
  rw [if_pos rfl,if_pos (by omega)] at hj
  cases hj
  exact ⟨xs,q3,c3,by rw [List.getElem?_set,if_pos rfl,if_pos (by omega)],rfl,owns_kept h1 hst.2 (owns_ne h1 a hT)⟩
 ·rw [if_neg e] at hj
  obtain ⟨xs',q',c',e1,e2,e3⟩ := r j u hj
  exact ⟨xs',q',c',by rw [List.getElem?_set,if_neg e]; exact e1,e2,owns_kept e3 hst.2 (owns_ne e3 a hT)⟩
theorem Own2.blk {g c i : Nat} (h : Own2 T2 T1 w base (.slice (some ⟨g,0,none⟩) n c) n xss) (hi : i < n) : (∃ u,w.cell? ⟨g,i,none⟩ = some u) ∧ w.frozen? ⟨g,i,none⟩ = false ∧ base ≤ g := by
 obtain ⟨vs,a,b,r⟩ := h
 have hvl : vs.length = n := by simpa using a.1
 exact ⟨⟨_,(a.cellAt i (by omega)).trans (List.getElem?_eq_getElem (by omega))⟩,a.frozenAt _,(a.lt g rfl).1⟩
end
end Go.By
namespace Go.Proofs.YtccaiiigdfieoaaGreatDoor
open Go.RowKit Go.By
theorem snds_step {K : List Rw} {j n : Nat} {r : Rw} (hj : K[j]? = some r) (hn : K.length = n) : ((K.take j).map (fun x : Rw => x.2) ++ List.replicate (n - j) []).set j r.2 = (K.take (j + 1)).map (fun x : Rw => x.2) ++ List.replicate (n - (j + 1)) [] := by
 have e := fill_step (K := K.map (fun x : Rw => x.2)) (j := j) (n := n) (a := r.2) (z := []) (by rw [List.getElem?_map,hj]; rfl) (by rw [List.length_map]; exact hn)
 rw [List.map_take,List.map_take]; exact e
set_option maxRecDepth 100000 in
set_option maxHeartbeats 4000000 in
theorem ESolve_full (base be k t : Nat) (v : Value) (K : List Rw) (w : World) (hE : Elm w base be k t v k K) (hr : ∀ r,r ∈ K → Room r.2.length) (hk : k ≤ 4096) :
  Calls Tryz.prog 75 #[.pointer (some ⟨be,0,none⟩)] w fun e w' => ∃ q c,e = .returned (.tuple #[.slice q k c,.int .i64 0]) ∧ Own2 22 5 w' w.heap.size (.slice q k c) k (K.map (·.2)) ∧ Below w.heap.size w w' := by
 obtain ⟨r0,hr0,hrz,hr1,hr2⟩ := info_parts info_rows
 obtain ⟨q,c,rfl⟩ := hE.rows.shape
 have HLEN := Lib.hid hE.rows.len; have HR := Lib.hid hr; have HE := Lib.hid hE
 have HM1 : Hid (k ≤ maxLen) := by show k ≤ maxLen; unfold maxLen; omega
 have HM2 : Hid (24 * k ≤ 281474976710656) := by show 24 * k ≤ _; omega
 obtain ⟨g,hg⟩ : ∃ g,g = w.heap.size := ⟨_,rfl⟩
 have HG := Lib.hid hg
 clear hg
 obtain ⟨n,hn⟩ : ∃ n,n = k := ⟨_,rfl⟩
 have hE' : Elm w base be k t (.slice q n c) n K := by rw [hn]; exact hE
 have hd : ((n : Int) < (k : Int)) = False := by simp; omega
 have hd2 : ¬ n < k := by omega
 have HN := Lib.hid hn
 obtain ⟨f0,f1,f2⟩ := cells3 hE'.box
 clear hE hr hE' hn
 go_enter Tryz.func75,Tryz.ntmps75
 go_wp2_with fail
 refine wp_region_shapes (fun ix => ([.val (.pointer (some ⟨be,0,none⟩)),.val (.pointer (some ⟨be,0,none⟩)),.val (.pointer (some ⟨be,2,none⟩)),.val (.slice q n c),.val (.int .i64 (n : Nat)),.val (.pointer (some ⟨be,0,none⟩)),.val (.pointer (some ⟨be,0,none⟩)),.val (.pointer (some ⟨be,0,none⟩)),.val (.int .i64 k),.val (.bool false)][ix]?).getD (.any)) 42 rfl (by kernel_rfl) (by decide) (by decide) (by decide) ?_ ?_
 ·refine ⟨?_,?_,?_,?_,?_,?_,?_,?_,?_,?_,trivial⟩
  ·intro a W hb0 hs hp hi; have hb := undrew hb0; clear hb0
   have t0 : sl a 0 = .pointer (some ⟨be,0,none⟩) := hi 0 (by decide)
   exact ite_y rfl (wp_val (sl a 0) rfl ⟨_,rfl,Below.refl _ _,t0⟩)
  ·intro a W hb0 hs hp hi; have hb := undrew hb0; clear hb0
   have tt : sl a 9 = .pointer (some ⟨be,0,none⟩) := hp 0 (by decide)
   refine ite_y rfl (wp_val (.pointer (some ⟨be,0,none⟩)) ?_ ?_)
   ·simp only [execOp,eval_tmp,tt]; simp [go_sem]
   ·exact ⟨_,rfl,Below.refl _ _,rfl⟩
  ·intro a W hb0 hs hp hi; have hb := undrew hb0; clear hb0
   have t10 : sl a 10 = .pointer (some ⟨be,0,none⟩) := hp 1 (by decide)
   refine ite_y rfl (wp_val (.pointer (some ⟨be,2,none⟩)) ?_ ?_)
   ·simp only [execOp,eval_tmp,eval_const,t10]; simp [go_sem]
   ·exact ⟨_,rfl,Below.refl _ _,rfl⟩
  ·intro a W hb0 hs hp hi; have hb := undrew hb0; clear hb0
   have tt : sl a 11 = .pointer (some ⟨be,2,none⟩) := hp 2 (by decide)
   have dd := (hb.cell (p := ⟨be,2,none⟩) (lt_of_cell f2)).trans f2
   refine ite_y rfl (wp_val (.slice q n c) ?_ ?_)
   ·simp only [execOp,eval_tmp,tt]; simp [go_sem,dd]
   ·exact ⟨_,rfl,Below.refl _ _,rfl⟩
  ·intro a W hb0 hs hp hi; have hb := undrew hb0; clear hb0
   have t12 : sl a 12 = .slice q n c := hp 3 (by decide)
   refine ite_y rfl (wp_val (.int .i64 (n : Nat)) ?_ ?_)
   ·simp only [execOp,resolve,List.map_toArray,List.map,eval_tmp,eval_func,eval_const,t12]; simp [go_sem]
   ·exact ⟨_,rfl,Below.refl _ _,rfl⟩
  ·intro a W hb0 hs hp hi; have hb := undrew hb0; clear hb0
   have t0 : sl a 0 = .pointer (some ⟨be,0,none⟩) := hi 0 (by decide)
   exact ite_y rfl (wp_val (sl a 0) rfl ⟨_,rfl,Below.refl _ _,t0⟩)
  ·intro a W hb0 hs hp hi; have hb := undrew hb0; clear hb0
   have tt : sl a 14 = .pointer (some ⟨be,0,none⟩) := hp 5 (by decide)
   refine ite_y rfl (wp_val (.pointer (some ⟨be,0,none⟩)) ?_ ?_)
   ·simp only [execOp,eval_tmp,tt]; simp [go_sem]
   ·exact ⟨_,rfl,Below.refl _ _,rfl⟩
  ·intro a W hb0 hs hp hi; have hb := undrew hb0; clear hb0
   have t15 : sl a 15 = .pointer (some ⟨be,0,none⟩) := hp 6 (by decide)
   refine ite_y rfl (wp_val (.pointer (some ⟨be,0,none⟩)) ?_ ?_)
   ·simp only [execOp,eval_tmp,eval_const,t15]; simp [go_sem]
   ·exact ⟨_,rfl,Below.refl _ _,rfl⟩
  ·intro a W hb0 hs hp hi; have hb := undrew hb0; clear hb0
   have tt : sl a 16 = .pointer (some ⟨be,0,none⟩) := hp 7 (by decide)
   have dd := (hb.cell (p := ⟨be,0,none⟩) (lt_of_cell f0)).trans f0
   refine ite_y rfl (wp_val (.int .i64 k) ?_ ?_)
   ·simp only [execOp,eval_tmp,tt]; simp [go_sem,dd]
   ·exact ⟨_,rfl,Below.refl _ _,rfl⟩
  ·intro a W hb0 hs hp hi; have hb := undrew hb0; clear hb0
   have t13 : sl a 13 = .int .i64 (n : Nat) := hp 4 (by decide)
   have t17 : sl a 17 = .int .i64 k := hp 8 (by decide)
   refine ite_y rfl (wp_val (.bool false) ?_ ?_)
   ·simp only [execOp,eval_tmp,eval_const,t13,t17]; simp [go_sem,hd,hd2]
   ·exact ⟨_,rfl,Below.refl _ _,rfl⟩
 intro a w3 hb hs hd hI ht
 have ha := act_is [9,10,11,12,13,14,15,16,17,18] hs hd ht (by decide)
 have t18 : sl a 18 = .bool false := hI 9 (by decide)
 simp only [List.foldl,t18] at ha
 generalize sl a 9 = u9 at ha
 generalize sl a 10 = u10 at ha
 generalize sl a 11 = u11 at ha
 generalize sl a 12 = u12 at ha
 generalize sl a 13 = u13 at ha
 generalize sl a 14 = u14 at ha
 generalize sl a 15 = u15 at ha
 generalize sl a 16 = u16 at ha
 generalize sl a 17 = u17 at ha
 simp only [Act.put,List.setIfInBounds_toArray,List.set_cons_zero,List.set_cons_succ] at ha
 rw [ha]
 clear ha hI ht
 have HE3 := Lib.hid (HE.out.keep hb)
 have B3 := Lib.hid hb
 obtain rfl := HN.out
 clear hb f0 f1 f2 hd hd2 HE
 obtain ⟨f0,f1,f2⟩ := cells3 HE3.out.box
 obtain ⟨g,hg⟩ : ∃ g,g = w3.heap.size := ⟨_,rfl⟩
 have HG := Lib.hid hg
 clear hg
 go_wp2_with (at_make; refine wpList_make_full _ rfl _ _ 31 rfl w3.heap.size 22 r0 (.slice none 0 0) 1 Tryz.underlying31 hr0 hrz hr1 .i64 .i64 _ _ n rfl rfl rfl rfl (by rw [hr2]; exact HM2.out) HM1.out (by simp) ?_)
 intro w1 ho hg
 have hg' : Below w3.heap.size w3 w1 := (Below.refl _ _).grown hg (by simp) (by simp)
 have R1 : Hid (Own2 22 5 w1 w3.heap.size (.slice (some ⟨w3.heap.size,0,none⟩) n n) n (List.replicate n [])) := Own2.made (by simpa using ho)
 have E1 := Lib.hid (HE3.out.keep hg')
 have B1 := Lib.hid hg'
 rw [← HG.out] at R1 ⊢
 clear ho hg hg' f0 f1 f2 hr0 hrz hr1 hr2 HM1 HM2
 obtain ⟨f0,f1,f2⟩ := cells3 E1.out.box
 go_wp2
 clear f0 f1 f2
 go_loopw [29] (fun i wr => ∃ j : Nat,j ≤ n ∧ i = .int .i64 j ∧ Hid (Own2 22 5 wr g (.slice (some ⟨g,0,none⟩) n n) n ((K.take j).map (·.2) ++ List.replicate (n - j) [])) ∧ Hid (Below g w3 wr)) (fun i _ => n - (intOf i).toNat)
 case atStart => exact ⟨0,Nat.zero_le _,rfl,by show Own2 _ _ _ _ _ _ _; simpa using R1.out,by show Below _ _ _; rw [HG.out]; exact B1.out⟩
 case round =>
  clear R1 E1 B1
  obtain ⟨j,hj,rfl,hR,hB⟩ := hrel
  have hE := Lib.hid (HE3.out.keep (w' := wr) (by rw [← HG.out]; exact hB.out))
  by_cases hjl : j < n
  ·have jn : (j : Int) < (n : Int) := by omega
   obtain ⟨gs,kk,a1,b1,d1,a2,b2,d2,rfl,e1,e2,hkk,t1,t2⟩ := hE.out.rows.at hjl
   have T2 := Lib.hid t2; have HK := Lib.hid hkk.out
   have HRR := Lib.hid (HR.out kk (List.mem_of_getElem? hkk.out))
   clear t1 t2 hkk
   go_wp2_with fail
   clear e1 e2
   refine use_w1 (fun W => Below wr.heap.size wr W) (al (Below.refl _ _) (Nat.le_refl _)) ?_
   rintro w7 b7
   refine Calls.mono (CloneB_any a2 b2 d2 kk.2 w7 (T2.out.keep b7) (by rw [← T2.out.len]; exact HRR.out)) ?_
   rintro e w8 ⟨q1,g1,rfl,o1,hb⟩
   have hgs : g ≤ w7.heap.size := Nat.le_trans (by rw [HG.out]; exact hB.out.size) b7.size
   have B8' := Lib.hid (b7.trans (hb.mono b7.size))
   have R8 := Lib.hid (hR.out.keep B8'.out)
   have B9 := Lib.hid (hB.out.trans (B8'.out.mono (by rw [HG.out]; exact hB.out.size)))
   obtain ⟨⟨cu,c1⟩,z0,-⟩ := R8.out.blk hjl
   have HP := Lib.hid (R8.out.put (by decide) hjl (owns_mono o1 hgs))
   have hs8 : g ≤ w8.heap.size := Nat.le_trans hgs hb.size
   clear o1 hb b7 hR hE hB T2 B8' hgs
   rw [snds_step HK.out HLEN.out] at HP
   have BX : Hid (∀ o1 v1,Below g w3 (w8.setCell ⟨g,o1,none⟩ v1)) := fun o1 v1 => B9.out.setCell (Nat.le_refl _) _
   clear B9 R8 hs8
   go_wp2
   go_roundw
   case rel => exact ⟨j + 1,by omega,by go_num,HP.out,BX.out _ _⟩
   case measure => simp [intOf]; omega
  ·have hjn : j = n := by omega
   have hge : (n : Int) ≤ (j : Int) := by omega
   have HF := Lib.hid hR.out
   rw [List.take_of_length_le (by rw [HLEN.out]; omega),hjn,Nat.sub_self,List.replicate_zero,List.append_nil] at HF
   have BF : Hid (Below w.heap.size w wr) := B3.out.trans (hB.out.mono (by rw [HG.out]; exact B3.out.size))
   have hsg : w.heap.size ≤ g := by rw [HG.out]; exact B3.out.size
   clear hR hE hB hjn
   go_wp2
   go_ret2
   exact ⟨_,_,rfl,HF.out.mono hsg,BF.out⟩
end Go.Proofs.YtccaiiigdfieoaaGreatDoor
namespace Go.By
open Go.RowKit Go.Proofs.YtccaiiigdfieoaaGreatDoor
theorem owns_same {w w' : World} {base T k n : Nat} {v : Value} {L : List Value} (h : w.ownsRow base T k v n L) (hs : w.heap.size ≤ w'.heap.size) (hb : ∀ g,v.ownBlock = some g → w'.heap[g]? = w.heap[g]?) : w'.ownsRow base T k v n L := by
 have _ := hs
 refine ⟨h.1,?_⟩
 rcases h.2 with h1 | ⟨g,cap,cur,e,h1,h2,h3⟩
 ·exact .inl h1
 ·exact .inr ⟨g,cap,cur,e,h1,(hb g (by rw [e]; rfl)).trans h2,h3⟩
section
variable {w w' : World} {base be k t n : Nat} {v : Value} {K : List Rw}
theorem Chg.blk (h : Chg w w' be v) (hE : Elm w base be k t v n K) {g T : Nat} {cs : Array Value} {fr : Nat × Nat} (hg : w.heap[g]? = some (.cells cs T fr)) (h1 : T ≠ 191) (h2 : v.ownBlock ≠ some g) : w'.heap[g]? = some (.cells cs T fr) := by
 refine (h.block g (blk_lt hg) (fun e => ?_) h2).trans hg
 subst e
 rw [hE.box] at hg; injection hg with hg; injection hg with _ hg _; exact h1 hg.symm
theorem Chg.blk2 (h : Chg w w' be v) (hE : Elm w base be k t v n K) {g T : Nat} {cs : Array Value} {fr : Nat × Nat} (hg : w.heap[g]? = some (.cells cs T fr)) (h1 : T ≠ 191) (h2 : 99 ≠ T) : w'.heap[g]? = some (.cells cs T fr) :=
 h.blk hE hg h1 (hE.rows.ne_box hg h2)
theorem Chg.bw (h : Chg w w' be v) (hE : Elm w base be k t v n K) {b : Nat} {u : Value} {xs : List UInt8} (hu : Bw 5 w b u xs) : Bw 5 w' b u xs := by
 obtain ⟨q,m,c,e,l,o⟩ := hu
 refine ⟨q,m,c,e,l,owns_same o h.size fun g hg => ?_⟩
 rcases o.2 with ⟨e1,_⟩ | ⟨g',cap,cur,e1,_,hh,_⟩
 ·rw [e1] at hg; cases hg
 ·rw [e1] at hg; cases hg
  rw [h.blk2 hE hh (by decide) (by decide),hh]
theorem Chg.rwl (h : Chg w w' be v) (hE : Elm w base be k t v n K) {b2 n2 : Nat} {v2 : Value} {K2 : List Rw} (h2 : RwL 99 5 w b2 v2 n2 K2) (hne : ∀ g,v2.ownBlock = some g → v.ownBlock ≠ some g) : RwL 99 5 w' b2 v2 n2 K2 := by
 obtain ⟨vs,a,b,o,r⟩ := h2
 refine ⟨vs,a,b,owns_same o h.size fun g hg => ?_,fun j u hj => by obtain ⟨x,hk,g1,g2⟩ := r j u hj; exact ⟨x,hk,h.bw hE g1,h.bw hE g2⟩⟩
 rcases o.2 with ⟨e1,_⟩ | ⟨g',cap,cur,e1,_,hh,_⟩
 ·rw [e1] at hg; cases hg
 ·have hn := hne g hg
  rw [e1] at hg; cases hg
  rw [h.blk hE hh (by decide) hn,hh]
theorem Chg.elm (h : Chg w w' be v) (hE : Elm w base be k t v n K) {b2 be2 n2 k2 t2 : Nat} {v2 : Value} {K2 : List Rw} (h2 : Elm w b2 be2 k2 t2 v2 n2 K2) (hbe : be2 ≠ be) (hne : ∀ g,v2.ownBlock = some g → v.ownBlock ≠ some g) : Elm w' b2 be2 k2 t2 v2 n2 K2 :=
 ⟨(h.block be2 (blk_lt h2.box) hbe (hE.rows.ne_box h2.box (by decide))).trans h2.box,h.rwl hE h2.rows hne,h2.old⟩
end
end Go.By
namespace Go.Proofs.YtccaiiigdfieoaaGreatDoor
open Go.RowKit Go.By
def codeF (K : List Rw) (x : Rw) : Int := if leadS (restF K x).1 < 0 then (if zeroS (restF K x).2 = true then 1 else 2) else 0
def putK (K : List Rw) (x : Rw) : List Rw := if leadS (restF K x).1 < 0 then K else putF K x
theorem EPut_fit (base be k t n : Nat) (v : Value) (K : List Rw) (p1 p2 : Option Addr) (c1 c2 : Nat) (x : Rw) (w : World) (hE : Elm w base be k t v n K) (s1 : Sl B8 w p1 k c1 x.1) (s2 : Sl B8 w p2 t c2 x.2) (hR : Red k t K) (hk : k ≤ 4096) (ht : t ≤ 65535) (hnn : n ≤ 4096) :
  Calls Tryz.prog 64 #[.pointer (some ⟨be,0,none⟩),.agg #[.slice p1 k c1,.slice p2 t c2]] w fun e w' => e = .returned (.tuple #[.int .i64 (codeF K x),.int .i64 0]) ∧
   ∃ v' n',Elm w' base be k t v' n' (putK K x) ∧ Chg w w' be v ∧ (v'.ownBlock = v.ownBlock ∨ ∀ b,v'.ownBlock = some b → w.heap.size ≤ b) := by
 by_cases hn : leadS (restF K x).1 < 0
 ·refine (EPut_zero base be k t n v K p1 p2 c1 c2 x w hE s1 s2 hR.kept.rows hk ht hn).mono ?_
  rintro e w' ⟨rfl,hb⟩
  unfold codeF putK
  rw [if_pos hn,if_pos hn]
  exact ⟨rfl,v,n,hE.keep hb,Chg.of be v hb,.inl rfl⟩
 ·refine (EPut_grown base be k t n v K p1 p2 c1 c2 x w hE s1 s2 hR hk ht hn hnn).mono ?_
  rintro e w' ⟨rfl,v',h1,h2,h3⟩
  unfold codeF putK
  rw [if_neg hn,if_neg hn]
  exact ⟨rfl,v',n + 1,h1,h2,h3⟩
theorem incr_ge {l : List Nat} (h : l.Pairwise (· < ·)) : ∀ (i : Nat) (hi : i < l.length),i ≤ l[i]
 | 0,_ => Nat.zero_le _
 | i + 1,hi => by
  have h1 := incr_ge h i (by omega)
  have h2 := List.pairwise_iff_getElem.1 h i (i + 1) (by omega) hi (by omega)
  omega
theorem incr_le {l : List Nat} {B : Nat} (h : l.Pairwise (· < ·)) (hB : ∀ a,a ∈ l → a < B) : ∀ (d i : Nat) (hi : i < l.length),i + d + 1 = l.length → l[i] + d < B
 | 0,i,hi,_ => hB _ (List.getElem_mem hi)
 | d + 1,i,hi,he => by
  have h1 := incr_le h hB d (i + 1) (by omega) (by omega)
  have h2 := List.pairwise_iff_getElem.1 h i (i + 1) hi (by omega) (by omega)
  omega
theorem incr_len {l : List Nat} {B : Nat} (h : l.Pairwise (· < ·)) (hB : ∀ a,a ∈ l → a < B) : l.length ≤ B := by
 rcases Nat.eq_zero_or_pos l.length with h0 | h0
 ·omega
 ·have h1 := incr_ge h (l.length - 1) (by omega)
  have h2 := hB _ (List.getElem_mem (show l.length - 1 < l.length by omega))
  omega
theorem incr_range {l : List Nat} {B : Nat} (h : l.Pairwise (· < ·)) (hB : ∀ a,a ∈ l → a < B) (hl : l.length = B) : ∀ i,i < B → l[i]? = some i := fun i hi => by
 have hi' : i < l.length := by omega
 have h1 := incr_ge h i hi'
 have h2 := incr_le h hB (B - 1 - i) i hi' (by omega)
 rw [List.getElem?_eq_getElem hi']
 congr 1; omega
theorem full_units {k t : Nat} {K : List Rw} (h : Red k t K) (hl : K.length = k) {i : Nat} {r : Rw} (hr : K[i]? = some r) : r.1 = (List.replicate k 0).set i 1 := by
 have hik : i < k := by have := (List.getElem?_eq_some_iff.1 hr).1; omega
 have hlead : ∀ j,j < k → (K.map leadN)[j]? = some j := incr_range h.leads (B := k) (fun a ha => by
  obtain ⟨x,hx,rfl⟩ := List.mem_map.1 ha
  obtain ⟨hf,hl⟩ := h.kept.rows x hx
  exact hl.at.lt hf) (by rw [List.length_map,hl])
 have hf := (h.kept.rows r (List.mem_of_getElem? hr)).1
 apply List.ext_getElem?
 intro j
 by_cases hj : j < k
 ·obtain ⟨s,hs⟩ : ∃ s,K[j]? = some s := ⟨_,List.getElem?_eq_getElem (by omega)⟩
  have hd := h.delta hr hs
  have hls : leadN s = j := by
   have := hlead j hj
   rw [List.getElem?_map,hs] at this
   simpa using this
  rw [hls] at hd
  have e1 := vR_at (x := r) (l := j) hf hj
  rw [hd] at e1
  unfold atS at e1
  rw [if_pos (Int.natCast_nonneg _),Int.toNat_natCast,List.getD_eq_getElem?_getD,List.getElem?_eq_getElem (by rw [hf.1]; exact hj)] at e1
  rw [List.getElem?_eq_getElem (by rw [hf.1]; exact hj),List.getElem?_set]
  by_cases e : i = j
  ·rw [if_pos e] at e1
   rw [if_pos e,if_pos (by simpa using hik)]
   simpa using e1
  ·rw [if_neg e] at e1
   rw [if_neg e,List.getElem?_replicate,if_pos hj]
   simpa using e1
 ·rw [List.getElem?_eq_none (by rw [hf.1]; omega),List.getElem?_eq_none (by simp; omega)]
theorem known_full {k t : Nat} {K : List Rw} (h : Red k t K) (hl : K.length = k) (hk : k ≤ 65536) {i : Nat} {r : Rw} (hr : K[i]? = some r) : knownS k K i = (r.2,true) := by
 rw [known_find h.kept.rows hk]
 have hik : i < k := by have := (List.getElem?_eq_some_iff.1 hr).1; omega
 have hmt : ∀ (j : Nat) (s : Rw),K[j]? = some s → mtS i s = decide (j = i) := fun j s hs => by
  have hjk : j < k := by have := (List.getElem?_eq_some_iff.1 hs).1; omega
  have hu := full_units h hl hs
  obtain ⟨hf,hd⟩ := h.kept.rows s (List.mem_of_getElem? hs)
  have := (unit_iff hf hd hjk).2 hu
  unfold mtS
  rw [this.1,this.2]
  by_cases e : j = i
  ·subst e; simp
  ·rw [decide_eq_false e,decide_eq_false (show ¬ ((j : Int) = (i : Int)) by omega)]; simp
 have : K.find? (mtS i) = some r := by
  rw [List.find?_eq_some_iff_getElem]
  obtain ⟨hik',e⟩ := List.getElem?_eq_some_iff.1 hr
  refine ⟨by rw [hmt i r hr]; simp,i,hik',e,fun a ha => ?_⟩
  have hak : a < K.length := by omega
  rw [hmt a K[a] (List.getElem?_eq_getElem hak),decide_eq_false (show ¬ a = i by omega)]; rfl
 rw [this]
theorem Red.le {k t : Nat} {K : List Rw} (h : Red k t K) : K.length ≤ k := by
 have := incr_len h.leads (B := k) (fun a ha => by
  obtain ⟨x,hx,rfl⟩ := List.mem_map.1 ha
  obtain ⟨hf,hl⟩ := h.kept.rows x hx
  exact hl.at.lt hf)
 rwa [List.length_map] at this
end Go.Proofs.YtccaiiigdfieoaaGreatDoor
namespace Go.Proofs.YtccaiiigdfieoaaGreatDoor
open Go.RowKit Go.By Go.Maps
theorem ones_gate {a b c d : Int} {M : Value} (hM : M.oneCell' = true) : (#[Value.int .i64 a,.int .i64 b,.int .i64 c,.int .u32 d,M].all (·.oneCell')) = true := by
 simp only [List.all_toArray,List.all_cons,List.all_nil,hM]; rfl
structure Tkr (w : World) (base gt be L t k D N : Nat) (M v : Value) (C : DataW Unit) (K : List Rw) (st : Nat) : Prop where
 ok : POK L t k D
 box : w.heap[gt]? = some (.cells #[.int .i64 (L : Nat),.int .i64 (t : Nat),.int .i64 (k : Nat),.int .u32 (D : Nat),M,.pointer (some ⟨be,0,none⟩),.int .i64 (st : Nat)] 118 (0,0))
 cnt : CntM w M N C
 elm : Elm w base be k t v K.length K
 red : Red k t K
 old : base ≤ gt
theorem Tkr.keep {w w' : World} {base gt be L t k D N : Nat} {M v : Value} {C : DataW Unit} {K : List Rw} {st : Nat} (h : Tkr w base gt be L t k D N M v C K st) (hb : Below w.heap.size w w') : Tkr w' base gt be L t k D N M v C K st :=
 ⟨h.ok,(hb.block _ (lt_of_block h.box)).trans h.box,h.cnt.keep hb,h.elm.keep hb,h.red,h.old⟩
set_option maxRecDepth 100000 in
set_option maxHeartbeats 2000000 in
theorem TNew_ok (L t k D : Nat) (w : World) (hP : POK L t k D) :
  Calls Tryz.prog 15 #[PVal L t k D] w fun e w' => ∃ gt be v,e = .returned (.tuple #[.pointer (some ⟨gt,0,none⟩),.int .i64 0]) ∧ Tkr w' w.heap.size gt be L t k D 0 (.map none) v (.map []) [] 0 ∧ Below w.heap.size w w' := by
 have HP := Lib.hid hP
 have HG : Hid (∀ w,Calls Tryz.prog 60 #[PVal L t k D] w fun e w' => e = .returned (.tuple #[GVal L t k D (.map none),.int .i64 0]) ∧ Below w.heap.size w w') := fun w => GNew_ok L t k D w hP
 have HE : Hid (∀ w,Calls Tryz.prog 61 #[.int .i64 (k : Nat),.int .i64 (t : Nat)] w _) := fun w => New_good k t w hP.k1 hP.k2 hP.t2
 clear hP
 go_enter Tryz.func15,Tryz.ntmps15
 go_wp2_with fail
 refine Calls.mono (HG.out _) ?_
 rintro e w1 ⟨rfl,hb⟩
 obtain ⟨hb1,h1,hs⟩ := one_of hb
 have HB := Lib.hid hb1
 obtain ⟨c0,c1,c2,c3⟩ := cells_four h1
 have a1 : ∀ o',(w1.alloc o').cell? ⟨w.heap.size,1,none⟩ = _ := fun _ => calloc c1
 have a2 : ∀ o',(w1.alloc o').cell? ⟨w.heap.size,2,none⟩ = _ := fun _ => calloc c2
 clear hb hb1 c0 c1 c2 c3
 go_wp2_with fail
 refine Calls.mono (HE.out _) ?_
 rintro e w2 ⟨be,rfl,hE,hb⟩
 obtain ⟨hb2,h2,hs2⟩ := one_of hb
 have HB2 := Lib.hid (bl HB.out hb2 HB.out.size)
 have HEl := Lib.hid (⟨hE.box,hE.rows.mono (by have := HB.out.size; simp; omega),Nat.le_trans (by have := HB.out.size; simp; omega) hE.old⟩ : Elm w2 w.heap.size be k t (.slice none 0 0) 0 [])
 obtain ⟨d0,d1,d2,d3,d4⟩ := cells_five h2
 clear hb hb2 hE a1 a2
 go_wp2
 go_ret2
 exact ⟨w2.heap.size,be,.slice none 0 0,rfl,⟨HP.out,hnew rfl,CntM.none _ _,HEl.out.keep (al (Below.refl _ _) (Nat.le_refl _)),Red.nil _ _,HB2.out.size⟩,al HB2.out HB2.out.size⟩
set_option maxRecDepth 100000 in
set_option maxHeartbeats 1000000 in
theorem TRows_any (base gt be L t k D N : Nat) (M v : Value) (C : DataW Unit) (K : List Rw) (st : Nat) (w : World) (h : Tkr w base gt be L t k D N M v C K st) :
  Calls Tryz.prog 21 #[.pointer (some ⟨gt,0,none⟩)] w fun e w' => ∃ v',e = .returned v' ∧ RwL 99 5 w' w.heap.size v' K.length K ∧ Below w.heap.size w w' := by
 have hl := Red.le h.red
 have hk2 := h.ok.k2
 have ht2 := h.ok.t2
 have hR := h.red
 have HE := Lib.hid (ERows_any base be k t K.length v K w h.elm (fun r hr => ⟨by have := (hR.kept.rows r hr).1.1; show _ ≤ _; omega,by have := (hR.kept.rows r hr).1.2; show _ ≤ _; omega⟩) (by omega))
 obtain ⟨c0,c1,c2,c3,c4,c5,c6⟩ := cells_seven h.box
 clear h hl hk2 ht2 hR
 go_enter Tryz.func21,Tryz.ntmps21
 go_wp2_with fail
 refine Calls.mono HE.out ?_
 rintro e w1 ⟨v',rfl,hr,hb⟩
 have HR := Lib.hid hr
 have HB := Lib.hid hb
 clear hr hb
 go_wp2
 go_ret
 exact ⟨v',rfl,HR.out,HB.out⟩
set_option maxRecDepth 100000 in
set_option maxHeartbeats 1000000 in
theorem TGate_any (base gt be L t k D N : Nat) (M v : Value) (C : DataW Unit) (K : List Rw) (st : Nat) (w : World) (h : Tkr w base gt be L t k D N M v C K st) :
  Calls Tryz.prog 71 #[.pointer (some ⟨gt,0,none⟩)] w fun e w' => e = .returned (GVal L t k D M) ∧ Below w.heap.size w w' := by
 have hM : M.oneCell' = true := by rcases h.cnt.at_ with ⟨rfl,_⟩ | ⟨b,rfl,_⟩ <;> rfl
 obtain ⟨c0,c1,c2,c3,c4,c5,c6⟩ := cells_seven h.box
 have a0 : ∀ o',(w.alloc o').cell? ⟨gt,0,none⟩ = _ := fun _ => calloc c0
 have a1 : ∀ o',(w.alloc o').cell? ⟨gt,1,none⟩ = _ := fun _ => calloc c1
 have a2 : ∀ o',(w.alloc o').cell? ⟨gt,2,none⟩ = _ := fun _ => calloc c2
 have a3 : ∀ o',(w.alloc o').cell? ⟨gt,3,none⟩ = _ := fun _ => calloc c3
 have a4 : ∀ o',(w.alloc o').cell? ⟨gt,4,none⟩ = _ := fun _ => calloc c4
 clear h c0 c1 c2 c3 c4 c5 c6
 go_enter Tryz.func71,Tryz.ntmps71
 go_wp2_with (refine wpList_store_row (o := ⟨none,.store 111 (.tmp 2) (.tmp 9),_,_,_,_⟩) rfl 111 (.tmp 2) (.tmp 9) rfl w.heap.size #[.int .i64 (L : Nat),.int .i64 (t : Nat),.int .i64 (k : Nat),.int .u32 (D : Nat),M] rfl rfl _ _ (hnew rfl) info_gate rfl (ones_gate hM) ?_)
 refine bodyPost_ret (results_cell_row rfl _ _ _ 111 #[.int .i64 (L : Nat),.int .i64 (t : Nat),.int .i64 (k : Nat),.int .u32 (D : Nat),M] (0,0) _ rfl (hrs (hnew rfl)) Tryz.underlying111 rfl info_gate) rfl ?_
 exact ⟨rfl,below_row (al (Below.refl _ _) (Nat.le_refl _)) (Nat.le_refl _)⟩
end Go.Proofs.YtccaiiigdfieoaaGreatDoor
namespace Go.By
open Go.RowKit
section
variable {P : Program} {ops : Array Oper} {Q : Exit → Act → World → Prop}
def StepDn (P : Program) (ops : Array Oper) (Q : Exit → Act → World → Prop) (a0 : Act) (E : (Nat → Bool) → World → Prop) (R : Nat → World → World → Prop) (Inv : Nat → (Nat → Value) → World → Prop) (i : Nat) (o : Oper) : Prop :=
 ∀ (a : Act) (w : World) (dn : Nat → Bool),dn i = false → E dn w → a.tmps.size = a0.tmps.size → (∀ k,k ∈ preds o → Inv k (sl a) w) → (∀ t,initAt ops i t = true → sl a t = sl a0 t) →
  if Region.wanted o (yielded ops a.tmps) = true then o.wp P a w (fun a' w' => ∃ v,a' = a.put o.dst v ∧ R i w w' ∧ Inv i (sl a') w') Q
  else R i w w ∧ Inv i (sl (a.put o.dst undef)) w
def EachDn (P : Program) (ops : Array Oper) (Q : Exit → Act → World → Prop) (a0 : Act) (E : (Nat → Bool) → World → Prop) (R : Nat → World → World → Prop) (Inv : Nat → (Nat → Value) → World → Prop) : List Oper → Nat → Prop
 | [],_ => True
 | o :: rest,i => StepDn P ops Q a0 E R Inv i o ∧ EachDn P ops Q a0 E R Inv rest (i + 1)
theorem EachDn.get {a0 : Act} {E : (Nat → Bool) → World → Prop} {R : Nat → World → World → Prop} {Inv : Nat → (Nat → Value) → World → Prop} : ∀ (l : List Oper) (k : Nat),EachDn P ops Q a0 E R Inv l k → ∀ j o,l[j]? = some o → StepDn P ops Q a0 E R Inv (k + j) o := by
 intro l
 induction l with
 | nil => intro k _ j o h; simp at h
 | cons x l ih =>
  intro k h j o hj
  cases j with
  | zero => simp at hj; subst hj; exact h.1
  | succ j =>
   have := ih (k + 1) h.2 j o (by simpa using hj)
   rwa [show k + 1 + j = k + (j + 1) by omega] at this
theorem wp_region_done {id : Nat} {a0 : Act} {w0 : World} (hm : P.follows .mixedOrders = true) (hback : backB ops = true)
  (E : (Nat → Bool) → World → Prop) (R : Nat → World → World → Prop) (Inv : Nat → (Nat → Value) → World → Prop)
  (E0 : E (fun _ => false) w0.drew) (ER : ∀ dn i w w',dn i = false → E dn w → R i w w' → E (fun j => if i = j then true else dn j) w')
  (stable : ∀ i j oi oj (σ σ' : Nat → Value) w w',i ≠ j → ops[i]? = some oi → ops[j]? = some oj → i ∉ preds oj ∨ True → Inv j σ w → R i w w' → (∀ t,oi.dst ≠ some t → σ' t = σ t) → (j ∉ preds oi → True) → (∀ d,oi.dst = some d → i ∈ preds oj → False) → Inv j σ' w')
  (each : EachDn P ops Q a0 E R Inv ops.toList 0)
  (fin : ∀ a w dn,E dn w → a.tmps.size = a0.tmps.size → a.defers = a0.defers → (∀ j,j < ops.size → Inv j (sl a) w) → (∀ t,(ops.toList.all fun o => o.dst != some t) = true → sl a t = sl a0 t) → Q .normal a w) :
  (Code.region id ops true).wp P Q a0 w0 := by
 refine wp_region_any hm ?_
 show wpAny P .any ops Q ops.size (Array.replicate ops.size false) a0 w0.drew
 have main : ∀ (fuel : Nat) (listed : Array Bool) (a : Act) (w : World),unl ops.size listed ≤ fuel → E (fun j => listed.getD j false) w → a.tmps.size = a0.tmps.size → a.defers = a0.defers →
   (∀ j o,listed.getD j false = true → ops[j]? = some o → ∀ k,k ∈ preds o → listed.getD k false = true) →
   (∀ j,j < ops.size → listed.getD j true = true → listed.getD j false = true) →
   (∀ j,j < ops.size → listed.getD j false = true → Inv j (sl a) w) →
   (∀ t,(∀ j o,j < ops.size → listed.getD j false = true → ops[j]? = some o → o.dst ≠ some t) → sl a t = sl a0 t) → wpAny P .any ops Q fuel listed a w := by
  intro fuel
  induction fuel with
  | zero =>
   intro listed a w hu hE hs hd hcl hlt hI ht
   have hall : ∀ j,j < ops.size → listed.getD j false = true := by
    intro j hj
    refine hlt j hj ?_
    have h0 : unl ops.size listed = 0 := by omega
    unfold unl at h0
    have := List.countP_eq_zero.1 h0 j (List.mem_range.2 hj)
    simpa using this
   refine ⟨?_,fin a w _ hE hs hd (fun j hj => hI j hj (hall j hj)) (fun t htt => ht t (fun j o _ _ ho => ?_))⟩
   ·rw [List.eq_nil_iff_forall_not_mem]
    intro i hi
    obtain ⟨h1,h2,_⟩ := mem_ready.1 hi
    have hx := hall i h1
    rcases Nat.lt_or_ge i listed.size with h | h
    ·simp [Array.getD_eq_getD_getElem?,h] at h2 hx; rw [h2] at hx; cases hx
    ·simp [Array.getD_eq_getD_getElem?,Array.getElem?_eq_none h] at hx
   ·have := List.all_eq_true.1 htt o (by rw [Array.mem_toList_iff]; exact Array.mem_of_getElem? ho)
    simpa using this
  | succ fuel ih =>
   intro listed a w hu hE hs hd hcl hlt hI ht
   refine ⟨fun hr => ?_,fun i hi => ?_⟩
   ·have hall : ∀ n j,j < n → j < ops.size → listed.getD j false = true := by
     intro n
     induction n with
     | zero => intro j hj; omega
     | succ n ihn =>
      intro j hj hjs
      refine hlt j hjs ?_
      cases hb : listed.getD j true with
      | true => rfl
      | false =>
       exfalso
       have ho : ops[j]? = some ops[j] := Array.getElem?_eq_getElem hjs
       have : j ∈ Region.ready .any ops listed := mem_ready.2 ⟨hjs,hb,_,ho,fun k hk => by
        have hbk := List.all_eq_true.1 hback j (List.mem_range.2 hjs)
        rw [ho] at hbk
        have hkj := of_decide_eq_true (List.all_eq_true.1 hbk k hk)
        exact ihn k (by omega) (by omega)⟩
       rw [hr] at this; cases this
    exact fin a w _ hE hs hd (fun j hj => hI j hj (hall (j + 1) j (by omega) hj)) (fun t htt => ht t (fun j o _ _ ho => by
     have := List.all_eq_true.1 htt o (by rw [Array.mem_toList_iff]; exact Array.mem_of_getElem? ho)
     simpa using this))
   ·obtain ⟨h1,h2,o,ho,h3⟩ := mem_ready.1 hi
    have hst := EachDn.get ops.toList 0 each i o (by simpa using ho)
    rw [Nat.zero_add] at hst
    have hnl : listed.getD i false ≠ true := by
     intro hx
     rcases Nat.lt_or_ge i listed.size with h | h
     ·simp [Array.getD_eq_getD_getElem?,h] at h2 hx; rw [h2] at hx; cases hx
     ·simp [Array.getD_eq_getD_getElem?,Array.getElem?_eq_none h] at hx
    have his : i < listed.size := by
     rcases Nat.lt_or_ge i listed.size with h | h
     ·exact h
     ·simp [Array.getD_eq_getD_getElem?,Array.getElem?_eq_none h] at h2
    have gset : ∀ j (d : Bool),(listed.setIfInBounds i true).getD j d = if i = j then true else listed.getD j d := by
     intro j d
     simp only [Array.getD_eq_getD_getElem?,Array.getElem?_setIfInBounds]
     by_cases e : i = j
     ·subst e; simp [his]
     ·simp [e]
    have hst' := hst a w _ (by simpa using hnl) hE hs (fun k hk => hI k (by
      have hbk := List.all_eq_true.1 hback i (List.mem_range.2 h1)
      rw [ho] at hbk
      have := of_decide_eq_true (List.all_eq_true.1 hbk k hk); omega) (h3 k hk)) (fun t hti => by
     refine ht t (fun j oj hj hlj hoj hdj => ?_)
     have := List.all_eq_true.1 hti j (List.mem_range.2 hj)
     rw [hoj] at this
     by_cases e : j = i
     ·subst e; exact hnl hlj
     ·simp [e,hdj] at this
      exact hnl (hcl j oj hlj hoj i this))
    have next : ∀ (v : Value) (w' : World),R i w w' → Inv i (sl (a.put o.dst v)) w' → wpAny P .any ops Q fuel (listed.setIfInBounds i true) (a.put o.dst v) w' := by
     intro v w' hR hIi
     refine ih _ _ _ (by have := unl_set (n := ops.size) h1 h2; omega) (by have h := ER _ i w w' (by simpa using hnl) hE hR; have e : (fun j => if i = j then true else listed.getD j false) = fun j => (listed.setIfInBounds i true).getD j false := funext fun j => (gset j false).symm; rw [e] at h; exact h) ((put_size _ _ _).trans hs) ((put_defers _ _ _).trans hd) ?_ ?_ ?_ ?_
     ·intro j oj hj hoj k hk
      rw [gset] at hj ⊢
      by_cases e : i = k
      ·rw [if_pos e]
      ·rw [if_neg e]
       by_cases e' : i = j
       ·subst e'; rw [ho] at hoj; cases hoj; exact h3 k hk
       ·rw [if_neg e'] at hj; exact hcl j oj hj hoj k hk
     ·intro j hj hl
      rw [gset] at hl ⊢
      by_cases e : i = j
      ·rw [if_pos e]
      ·rw [if_neg e] at hl ⊢; exact hlt j hj hl
     ·intro j hj hl
      rw [gset] at hl
      by_cases e : i = j
      ·subst e; exact hIi
      ·rw [if_neg e] at hl
       have hoj : ops[j]? = some ops[j] := Array.getElem?_eq_getElem hj
       exact stable i j o _ (sl a) _ w w' e ho hoj (.inr trivial) (hI j hj hl) hR (fun t h => put_sl _ _ _ _ h) (fun _ => trivial) (fun d hdd hp => hnl (hcl j _ hl hoj i hp))
     ·intro t htt
      have hdt : o.dst ≠ some t := htt i o h1 (by rw [gset,if_pos rfl]) ho
      rw [put_sl _ _ _ _ hdt]
      exact ht t (fun j oj hj hl hoj => htt j oj hj (by rw [gset]; split <;> simp [hl]) hoj)
    unfold wpOp
    rw [ho]
    show if Region.wanted o (yielded ops a.tmps) = true then _ else _
    split
    ·rename_i hw
     rw [if_pos hw] at hst'
     exact .inl (Oper.wp_mono (fun a' w' ⟨v,e,hR,hIi⟩ => by rw [e] at hIi ⊢; exact next v w' hR hIi) hst')
    ·rename_i hw
     rw [if_neg hw] at hst'
     exact next undef w hst'.1 hst'.2
 refine main ops.size _ a0 w0.drew ?_ (by have e : (fun j => (Array.replicate ops.size false).getD j false) = fun _ => false := funext fun j => (by simp [Array.getD_eq_getD_getElem?,Array.getElem?_replicate]; split <;> rfl); rw [e]; exact E0) rfl rfl ?_ ?_ ?_ ?_
 ·unfold unl; exact Nat.le_trans List.countP_le_length (by simp)
 ·intro j o hj; simp [Array.getD_eq_getD_getElem?,Array.getElem?_replicate] at hj
  split at hj <;> simp at hj
 ·intro j hj hl; simp [Array.getD_eq_getD_getElem?,Array.getElem?_replicate,hj] at hl
 ·intro j hj hl; simp [Array.getD_eq_getD_getElem?,Array.getElem?_replicate,hj] at hl
 ·intro t _; rfl
def InvD (ops : Array Oper) (sh : Nat → Value → World → Prop) (i : Nat) (σ : Nat → Value) (w : World) : Prop := match dstOf ops i with
 | some d => sh i (σ d) w
 | none => True
def StepE (P : Program) (ops : Array Oper) (Q : Exit → Act → World → Prop) (a0 : Act) (E : (Nat → Bool) → World → Prop) (R : Nat → World → World → Prop) (sh : Nat → Value → World → Prop) (i : Nat) (o : Oper) : Prop :=
 ∀ (a : Act) (w : World) (dn : Nat → Bool),dn i = false → E dn w → a.tmps.size = a0.tmps.size → (∀ k,k ∈ preds o → InvD ops sh k (sl a) w) → (∀ t,initAt ops i t = true → sl a t = sl a0 t) →
  if Region.wanted o (yielded ops a.tmps) = true then o.wp P a w (fun a' w' => ∃ v,a' = a.put o.dst v ∧ R i w w' ∧ sh i v w') Q
  else R i w w ∧ sh i undef w
def EachE (P : Program) (ops : Array Oper) (Q : Exit → Act → World → Prop) (a0 : Act) (E : (Nat → Bool) → World → Prop) (R : Nat → World → World → Prop) (sh : Nat → Value → World → Prop) : List Oper → Nat → Prop
 | [],_ => True
 | o :: rest,i => StepE P ops Q a0 E R sh i o ∧ EachE P ops Q a0 E R sh rest (i + 1)
theorem eachE_of {a0 : Act} {E : (Nat → Bool) → World → Prop} {R : Nat → World → World → Prop} {sh : Nat → Value → World → Prop} {n : Nat} (hn : a0.tmps.size = n) : ∀ (l : List Oper) (k : Nat),(∀ j o,l[j]? = some o → ops[k + j]? = some o) → (l.all fun o => match o.dst with
  | some d => decide (d < n)
  | none => false) = true →
  EachE P ops Q a0 E R sh l k → EachDn P ops Q a0 E R (InvD ops sh) l k := by
 intro l
 induction l with
 | nil => intro k _ _ _; trivial
 | cons o l ih =>
  intro k hk hd h
  simp only [List.all_cons,Bool.and_eq_true] at hd
  refine ⟨?_,ih (k + 1) (fun j o' hj => by have := hk (j + 1) o' (by simpa using hj); rwa [show k + (j + 1) = k + 1 + j by omega] at this) hd.2 h.2⟩
  intro a w dn hdn hE hs hp hi
  have ho : ops[k]? = some o := by have := hk 0 o (by simp); simpa using this
  have hs1 := h.1 a w dn hdn hE hs hp hi
  cases hdo : o.dst with
  | none => rw [hdo] at hd; simp at hd
  | some d =>
   rw [hdo] at hd
   have hd1 : d < n := of_decide_eq_true hd.1
   have hdn : d < a.tmps.size := by rw [hs,hn]; exact hd1
   have hdst : dstOf ops k = some d := by simp [dstOf,ho,hdo]
   split
   ·rename_i hw
    rw [if_pos hw] at hs1
    refine Oper.wp_mono ?_ hs1
    rintro a' w' ⟨v,e,hb,hok⟩
    refine ⟨v,e.trans (by rw [hdo]),hb,?_⟩
    unfold InvD
    rw [hdst]
    show sh k (sl a' d) w'
    rw [e,hdo,put_same _ _ _ hdn]; exact hok
   ·rename_i hw
    rw [if_neg hw] at hs1
    refine ⟨hs1.1,?_⟩
    unfold InvD
    rw [hdst]
    show sh k (sl (a.put (some d) undef) d) w
    rw [put_same _ _ _ hdn]; exact hs1.2
def predB (ops : Array Oper) (i j : Nat) : Bool := match ops[j]? with
 | some o => (preds o).contains i
 | none => false
theorem wp_region_dones {id : Nat} {a0 : Act} {w0 : World} (E : (Nat → Bool) → World → Prop) (R : Nat → World → World → Prop) (sh : Nat → Value → World → Prop) (n : Nat) (hn : a0.tmps.size = n) (hm : P.follows .mixedOrders = true) (hback : backB ops = true) (hdist : distB ops = true) (hdsts : dstsB ops n = true)
  (E0 : E (fun _ => false) w0.drew) (ER : ∀ dn i w w',dn i = false → E dn w → R i w w' → E (fun j => if i = j then true else dn j) w') (keep : ∀ i j v w w',i ≠ j → predB ops i j = false → sh j v w → R i w w' → sh j v w')
  (each : EachE P ops Q a0 E R sh ops.toList 0)
  (fin : ∀ a w dn,E dn w → a.tmps.size = a0.tmps.size → a.defers = a0.defers → (∀ j,j < ops.size → InvD ops sh j (sl a) w) → (∀ t,(ops.toList.all fun o => o.dst != some t) = true → sl a t = sl a0 t) → Q .normal a w) :
  (Code.region id ops true).wp P Q a0 w0 := by
 refine wp_region_done hm hback E R (InvD ops sh) E0 ER ?_ (eachE_of hn _ 0 (fun j o hj => by simpa using hj) hdsts each) fin
 intro i j oi oj σ σ' w w' hij hoi hoj _ hI hR hσ _ hnp
 unfold InvD at hI ⊢
 cases hdj : dstOf ops j with
 | none => trivial
 | some d =>
  rw [hdj] at hI
  show sh j (σ' d) w'
  have hne : oi.dst ≠ some d := by
   intro e
   have hi' : i < ops.size := (Array.getElem?_eq_some_iff.1 hoi).1
   have hj' : j < ops.size := (Array.getElem?_eq_some_iff.1 hoj).1
   have := List.all_eq_true.1 (List.all_eq_true.1 hdist i (List.mem_range.2 hi')) j (List.mem_range.2 hj')
   rw [hoi,hoj] at this
   have hdj' : oj.dst = some d := by simpa [dstOf,hoj] using hdj
   simp [e,hdj',hij] at this
  rw [hσ d hne]
  refine keep i j _ _ _ hij ?_ hI hR
  unfold predB
  rw [hoj]
  show (preds oj).contains i = false
  cases hc : (preds oj).contains i with
  | false => rfl
  | true =>
   have hdo := List.all_eq_true.1 hdsts oi (by rw [Array.mem_toList_iff]; exact Array.mem_of_getElem? hoi)
   cases hd : oi.dst with
   | none => rw [hd] at hdo; simp at hdo
   | some d => exact (hnp d hd (by simpa using hc)).elim
end
end Go.By
namespace Go.By
open Go.RowKit
theorem eachE_all {P : Program} {ops : Array Oper} {Q : Exit → Act → World → Prop} {a0 : Act} {E : (Nat → Bool) → World → Prop} {R : Nat → World → World → Prop} {sh : Nat → Value → World → Prop} (key : ∀ i o,ops[i]? = some o → StepE P ops Q a0 E R sh i o) :
  ∀ (l : List Oper) (k : Nat),(∀ j o,l[j]? = some o → ops[k + j]? = some o) → EachE P ops Q a0 E R sh l k := by
 intro l
 induction l with
 | nil => intro k _; trivial
 | cons x l ih =>
  intro k h
  exact ⟨key k x (by have := h 0 x rfl; simpa using this),ih (k + 1) fun j o hj => by have := h (j + 1) o (by simpa using hj); rwa [show k + 1 + j = k + (j + 1) by omega]⟩
def freeB (ops : Array Oper) : Bool := ops.toList.all fun o => o.guard.isNone
theorem wp_region_call {P : Program} {ops : Array Oper} {Q : Exit → Act → World → Prop} {id : Nat} {a0 : Act} {w0 : World} (sv : Nat → Value) (n s : Nat) (P1 : World → Prop) (hn : a0.tmps.size = n) (hm : P.follows .mixedOrders = true) (hback : backB ops = true) (hdist : distB ops = true) (hdsts : dstsB ops n = true) (hfree : freeB ops = true) (hs : s < ops.size)
  (each : ∀ i o,i ≠ s → ops[i]? = some o → ∀ a w,(w = w0.drew ∨ P1 w) → a.tmps.size = a0.tmps.size → (∀ k d,k ∈ preds o → dstOf ops k = some d → sl a d = sv k) → (∀ t,initAt ops i t = true → sl a t = sl a0 t) → (execOp a.eval o).run P w = .ok (.value (sv i)) w)
  (call : ∀ o,ops[s]? = some o → ∀ a,a.tmps.size = a0.tmps.size → (∀ k d,k ∈ preds o → dstOf ops k = some d → sl a d = sv k) → (∀ t,initAt ops s t = true → sl a t = sl a0 t) → o.wp P a w0.drew (fun a' w' => a' = a.put o.dst (sv s) ∧ P1 w') Q)
  (fin : ∀ a w,P1 w → a.tmps.size = a0.tmps.size → a.defers = a0.defers → (∀ j d,j < ops.size → dstOf ops j = some d → sl a d = sv j) → (∀ t,(ops.toList.all fun o => o.dst != some t) = true → sl a t = sl a0 t) → Q .normal a w) :
  (Code.region id ops true).wp P Q a0 w0 := by
 have hg : ∀ (i : Nat) (o : Oper),ops[i]? = some o → o.guard = none := fun i o ho => by
  have := List.all_eq_true.1 hfree o (by rw [Array.mem_toList_iff]; exact Array.mem_of_getElem? ho)
  cases hx : o.guard <;> simp [hx] at this ⊢
 refine wp_region_dones (fun dn w => (dn s = true → P1 w) ∧ (dn s = false → w = w0.drew)) (fun i w w' => if i = s then w = w0.drew ∧ P1 w' else w' = w) (fun j v w => v = sv j ∧ (j = s → P1 w)) n hn hm hback hdist hdsts ?_ ?_ ?_ ?_ ?_
 ·exact ⟨fun h => absurd h (by simp),fun _ => rfl⟩
 ·intro dn i w w' hdn hE hR
  by_cases hi : i = s
  ·have hR' : w = w0.drew ∧ P1 w' := by simpa [hi] using hR
   exact ⟨fun _ => hR'.2,fun h => by simp [hi] at h⟩
  ·have hR' : w' = w := by simpa [hi] using hR
   subst hR'
   exact ⟨fun h => hE.1 (by simpa [hi] using h),fun h => hE.2 (by simpa [hi] using h)⟩
 ·intro i j v w w' hij _ hv hR
  refine ⟨hv.1,fun hj => ?_⟩
  by_cases hi : i = s
  ·exact absurd (hi.trans hj.symm) hij
  ·rw [if_neg hi] at hR
   rw [hR]; exact hv.2 hj
 ·refine eachE_all ?_ ops.toList 0 (fun j o hj => by simpa using hj)
  intro i o ho a w dn hdn hE hsz hp hi
  have hp' : ∀ k d,k ∈ preds o → dstOf ops k = some d → sl a d = sv k := fun k d hk hd => by
   have := hp k hk
   unfold InvD at this
   rw [hd] at this
   exact this.1
  rw [if_pos (by simp [Region.wanted,hg i o ho])]
  by_cases his : i = s
  ·subst his
   have hw := hE.2 hdn
   subst hw
   refine Oper.wp_mono (fun a' w' hq => ?_) (call o ho a hsz hp' hi)
   obtain ⟨rfl,h1⟩ := hq
   refine ⟨sv i,rfl,?_,rfl,fun _ => h1⟩
   dsimp only
   rw [if_pos rfl]
   exact ⟨rfl,h1⟩
  ·have hw : w = w0.drew ∨ P1 w := by
    cases hx : dn s with
    | true => exact .inr (hE.1 hx)
    | false => exact .inl (hE.2 hx)
   refine wp_val (sv i) (each i o his ho a w hw hsz hp' hi) ⟨sv i,rfl,?_,rfl,fun h => absurd h his⟩
   dsimp only
   rw [if_neg his]
 ·intro a w dn hE hsz hd hI ht
  have hos : ops[s]? = some ops[s] := Array.getElem?_eq_getElem hs
  have hds : ∃ d,dstOf ops s = some d := by
   have := List.all_eq_true.1 hdsts ops[s] (Array.getElem_mem_toList hs)
   cases hx : ops[s].dst with
   | none => rw [hx] at this; cases this
   | some d => exact ⟨d,by simp [dstOf,hos,hx]⟩
  obtain ⟨d,hds⟩ := hds
  have h1 := hI s hs
  unfold InvD at h1
  rw [hds] at h1
  refine fin a w (h1.2 rfl) hsz hd (fun j d' hj hdj => ?_) ht
  have := hI j hj
  unfold InvD at this
  rw [hdj] at this
  exact this.1
end Go.By
namespace Go.By
open Go.RowKit Go.Maps Go.Proofs.YtccaiiigdfieoaaGreatDoor
structure OneE (w : World) (g : Nat) (w' : World) : Prop where
 os : w'.os = w.os
 tape : w'.tape = w.tape
 output : w'.output = w.output
 size : w'.heap.size = w.heap.size
 block : ∀ b,b ≠ g → w'.heap[b]? = w.heap[b]?
theorem OneE.refl (w : World) (g : Nat) : OneE w g w := ⟨rfl,rfl,rfl,rfl,fun _ _ => rfl⟩
theorem OneE.set {w w' : World} {g i : Nat} (h : OneE w g w') (v : Value) : OneE w g (w'.setCell ⟨g,i,none⟩ v) :=
 ⟨h.os,h.tape,h.output,by simp [World.setCell]; exact h.size,fun b hb => (Below.heap_setCell _ _ _ _ hb).trans (h.block b hb)⟩
theorem OneE.below {w w' : World} {g B : Nat} (h : OneE w g w') (hB : B ≤ g) : Below B w w' := ⟨h.os,h.tape,h.output,by rw [h.size]; exact Nat.le_refl _,fun i hi => h.block i (by omega)⟩
theorem OneE.fresh {T T' B g n c : Nat} {w w' : World} {q : Option Addr} {xs : List UInt8} {old : Array Value} {fr : Nat × Nat} (hE : OneE w g w') (h : Fresh T B w q n c xs) (hg : w.heap[g]? = some (.cells old T' fr)) (hne : T' ≠ T) : Fresh T B w' q n c xs := by
 have hd : ∀ a,q = some a → a.block ≠ g := fun a ha e1 => by
  obtain ⟨cs,fr,e⟩ := h.ty a ha
  rw [e1,hg] at e; injection e with e; injection e with _ e _; exact hne e
 refine ⟨⟨h.sl.len,h.sl.le,h.sl.max,h.sl.nil,fun i hi => ?_⟩,h.new,fun a ha => ?_⟩
 ·obtain ⟨b,o,e,hc⟩ := h.sl.rs i hi
  exact ⟨b,o,e,(World.cell?_of_block (a := ⟨b,o + i,none⟩) (hE.block b (hd _ e))).trans hc⟩
 ·obtain ⟨cs,fr,e⟩ := h.ty a ha
  exact ⟨cs,fr,(hE.block _ (hd a ha)).trans e⟩
theorem OneE.bw {T g b : Nat} {w w' : World} {u : Value} {xs : List UInt8} {old : Array Value} {T' : Nat} {fr : Nat × Nat} (hE : OneE w g w') (h : Bw T w b u xs) (hg : w.heap[g]? = some (.cells old T' fr)) (hne : T' ≠ T) : Bw T w' b u xs := by
 obtain ⟨q,m,c,e,l,o⟩ := h
 refine ⟨q,m,c,e,l,owns_same o (by rw [hE.size]; exact Nat.le_refl _) fun g2 hg2 => hE.block _ fun e2 => ?_⟩
 rcases o.2 with ⟨e1,_⟩ | ⟨g',cap,cur,e1,_,hh,_⟩
 ·rw [e1] at hg2; cases hg2
 ·rw [e1] at hg2; cases hg2
  have e3 : g' = g := e2
  rw [e3,hg] at hh; injection hh with hh; injection hh with _ hh _; exact hne hh
theorem OneE.elm {g base be k t n : Nat} {w w' : World} {v : Value} {K : List Rw} {old : Array Value} {T' : Nat} {fr : Nat × Nat} (hE : OneE w g w') (h : Elm w base be k t v n K) (hg : w.heap[g]? = some (.cells old T' fr)) (h1 : T' ≠ 191) (h2 : 99 ≠ T') (h3 : T' ≠ 5) : Elm w' base be k t v n K := by
 refine ⟨(hE.block be fun e => ?_).trans h.box,?_,h.old⟩
 ·have := h.box
  rw [e,hg] at this; injection this with this; injection this with _ this _; exact h1 this
 ·have hv := h.rows.ne_box hg h2
  obtain ⟨vs,a,b,o,r⟩ := h.rows
  exact ⟨vs,a,b,owns_same o (by rw [hE.size]; exact Nat.le_refl _) fun g2 hg2 => hE.block _ fun e2 => hv (by rw [hg2,e2]),fun j u hj => by obtain ⟨x,hk,g1,g2⟩ := r j u hj; exact ⟨x,hk,hE.bw g1 hg h3,hE.bw g2 hg h3⟩⟩
structure TChg (w w' : World) (gt be : Nat) (v : Value) : Prop where
 os : w'.os = w.os
 tape : w'.tape = w.tape
 output : w'.output = w.output
 size : w.heap.size ≤ w'.heap.size
 block : ∀ b,b < w.heap.size → b ≠ gt → b ≠ be → v.ownBlock ≠ some b → w'.heap[b]? = w.heap[b]?
theorem TChg.of {w w' : World} (gt be : Nat) (v : Value) (h : Below w.heap.size w w') : TChg w w' gt be v := ⟨h.os,h.tape,h.output,h.size,fun b hb _ _ _ => h.block b hb⟩
theorem TChg.one {w a b : World} {gt be : Nat} {v : Value} (h : TChg w a gt be v) (g : OneE a gt b) : TChg w b gt be v :=
 ⟨g.os.trans h.os,g.tape.trans h.tape,g.output.trans h.output,by rw [g.size]; exact h.size,fun i hi h1 h2 h3 => (g.block i h1).trans (h.block i hi h1 h2 h3)⟩
theorem TChg.then {w a b : World} {gt be : Nat} {v : Value} (h : TChg w a gt be v) (g : Below a.heap.size a b) : TChg w b gt be v :=
 ⟨g.os.trans h.os,g.tape.trans h.tape,g.output.trans h.output,Nat.le_trans h.size g.size,fun i hi h1 h2 h3 => (g.block i (Nat.lt_of_lt_of_le hi h.size)).trans (h.block i hi h1 h2 h3)⟩
theorem TChg.chg {w a b : World} {gt be : Nat} {v : Value} (h : TChg w a gt be v) (g : Chg a b be v) : TChg w b gt be v :=
 ⟨g.os.trans h.os,g.tape.trans h.tape,g.output.trans h.output,Nat.le_trans h.size g.size,fun i hi h1 h2 h3 => (g.block i (Nat.lt_of_lt_of_le hi h.size) h2 h3).trans (h.block i hi h1 h2 h3)⟩
end Go.By
namespace Go.Proofs.YtccaiiigdfieoaaGreatDoor
open Go.RowKit Go.By Go.Maps
theorem CntM.row {w : World} {M : Value} {N : Nat} {C : DataW Unit} (h : CntM w M N C) {g T : Nat} {old cs : Array Value} {fr : Nat × Nat} (hg : w.heap[g]? = some (.cells old T fr)) : CntM (w.setRow g cs) M N C := by
 refine ⟨?_,h.small⟩
 rcases h.at_ with h1 | ⟨b,e,ho⟩
 ·exact .inl h1
 ·refine .inr ⟨b,e,?_⟩
  obtain ⟨es,clock,h1,F,hs,hD⟩ := ho
  exact ⟨es,clock,hro h1 (fun e => by rw [e,hg] at h1; cases h1),F,hs,hD⟩
theorem CntM.one {w w' : World} {M : Value} {N g : Nat} {C : DataW Unit} (h : CntM w M N C) (hE : OneE w g w') {T : Nat} {old : Array Value} {fr : Nat × Nat} (hg : w.heap[g]? = some (.cells old T fr)) : CntM w' M N C := by
 refine ⟨?_,h.small⟩
 rcases h.at_ with h1 | ⟨b,e,ho⟩
 ·exact .inl h1
 ·refine .inr ⟨b,e,?_⟩
  obtain ⟨es,clock,h1,F,hs,hD⟩ := ho
  exact ⟨es,clock,(hE.block b (fun e => by rw [e,hg] at h1; cases h1)).trans h1,F,hs,hD⟩
theorem PkC.one {w w' : World} {B k t D : Nat} {xs : List UInt8} {v0 v1 v2 v3 v4 v5 v6 : Value} (h : PkC w B k t D xs v0 v1 v2 v3 v4 v5 v6) {T g : Nat} {o1 : Array Value} {f1 : Nat × Nat} (hE : OneE w g w') (h1 : w.heap[g]? = some (.cells o1 T f1)) (n1 : T ≠ 5) : PkC w' B k t D xs v0 v1 v2 v3 v4 v5 v6 :=
 ⟨h.1,fun hc => by obtain ⟨q,n,c,q2,n2',c2,e0,e1,e2,e3,e4,e5,e6,f1,f2⟩ := h.2 hc; exact ⟨q,n,c,q2,n2',c2,e0,e1,e2,e3,e4,e5,e6,hE.fresh f1 h1 n1,hE.fresh f2 h1 n1⟩⟩
theorem tk_ne : 118 ≠ 5 ∧ 118 ≠ 191 ∧ 99 ≠ 118 := by decide
def TkRet (w : World) (base gt be L t k D N : Nat) (v : Value) (C : DataW Unit) (K : List Rw) (st : Nat) (code : Int) (e : Ending) (w' : World) : Prop :=
 e = .returned (.int .i64 code) ∧ ∃ M' v',Tkr w' base gt be L t k D N M' v' C K st ∧ TChg w w' gt be v ∧ (v'.ownBlock = v.ownBlock ∨ ∀ b,v'.ownBlock = some b → w.heap.size ≤ b)
set_option maxRecDepth 100000 in
set_option maxHeartbeats 4000000 in
theorem TTake_bad (base gt be L t k D N : Nat) (M v : Value) (C : DataW Unit) (K : List Rw) (st : Nat) (p : Option Addr) (n c : Nat) (xs : List UInt8) (w : World) (h : Tkr w base gt be L t k D N M v C K st) (hT : HalfT w) (hN : N < 1000000) (hs : Sl B8 w p n c xs) (hr : Room n) (hc : readC k t D xs ≠ 0) :
  Calls Tryz.prog 16 #[.pointer (some ⟨gt,0,none⟩),.slice p n c] w (TkRet w base gt be L t k D (N + 1) v (bump C (readC k t D xs)) K st (readC k t D xs)) := by
 have HG : Hid (∀ w,HalfT w → CntM w M N C → Sl B8 w p n c xs → Calls Tryz.prog 62 #[GVal L t k D M,.slice p n c] w fun e w' => ∃ b2 v0 v1 v2 v3 v4 v5 v6,e = .returned (.tuple #[GVal L t k D (.map (some b2)),.agg #[v0,v1,v2,v3,v4,v5,v6],.int .i64 (readC k t D xs)]) ∧
   CntM w' (.map (some b2)) (N + 1) (bump C (readC k t D xs)) ∧ PkC w' w.heap.size k t D xs v0 v1 v2 v3 v4 v5 v6 ∧ Below w.heap.size w w') := fun w hT hC hs => GLook_any L t k D N M C p n c xs w h.ok hT hC hN hs hr
 have H := Lib.hid h
 have HT := Lib.hid hT
 have HS := Lib.hid hs
 obtain ⟨c0,c1,c2,c3,c4,c5,c6⟩ := cells_seven h.box
 have e0 : (readC k t D xs != 0) = true := bne_iff_ne.2 hc
 generalize readC k t D xs = E at *
 clear h hT hs hr hN hc
 go_enter Tryz.func16,Tryz.ntmps16
 go_wp2_with fail
 refine Calls.mono (HG.out _ HT.out H.out.cnt HS.out) ?_
 rintro e w1 ⟨b2,v0,v1,v2,v3,v4,v5,v6,rfl,hcn,hpk,hb⟩
 have HB := Lib.hid hb
 have HCn := Lib.hid hcn
 have HPk := Lib.hid hpk
 obtain ⟨o0,o1,o2,o3,o4,o5,o6⟩ := hpk.1
 clear c0 c1 c2 c3 c4 c5 c6 hb hcn hpk
 go_wp2_with (first | (refine wpList_store_row (o := ⟨none,.store 111 (.tmp 5) (.tmp 19),_,_,_,_⟩) rfl 111 (.tmp 5) (.tmp 19) rfl w1.heap.size #[.int .i64 (L : Nat),.int .i64 (t : Nat),.int .i64 (k : Nat),.int .u32 (D : Nat),.map (some b2)] rfl rfl _ _ (hal (hnew rfl)) info_gate rfl (ones_gate rfl) ?_) | (refine wpList_store_rowS (o := ⟨none,.store 122 (.tmp 6) (.tmp 20),_,_,_,_⟩) rfl 122 (.tmp 6) (.tmp 20) rfl (w1.heap.size + 1) #[v0,v1,v2,v3,v4,v5,v6] rfl rfl _ _ (hro (hnew (by simp)) (by omega)) info_packet rfl (by simp [o0,o1,o2,o3,o4,o5,o6]) ?_))
 intro w2 hr2
 have HB2 : Hid (Below w.heap.size w w2) := by rw [hr2.eq]; exact below_row (below_row (al (al HB.out HB.out.size) (by have := HB.out.size; simp; omega)) HB.out.size) (by have := HB.out.size; omega)
 have k5 : w2.heap[w1.heap.size]? = some (.cells #[.int .i64 (L : Nat),.int .i64 (t : Nat),.int .i64 (k : Nat),.int .u32 (D : Nat),.map (some b2)] 111 (0,0)) := by rw [hr2.eq]; exact hro (hrs (hal (hnew rfl))) (by omega)
 have k6 : w2.heap[w1.heap.size + 1]? = some (.cells #[v0,v1,v2,v3,v4,v5,v6] 122 (0,0)) := by rw [hr2.eq]; exact hrs (hro (hnew (by simp)) (by omega))
 have kt := (HB2.out.block _ (lt_of_block H.out.box)).trans H.out.box
 have HPk2 : Hid (PkC w2 w.heap.size k t D xs v0 v1 v2 v3 v4 v5 v6) := by rw [hr2.eq]; exact ((HPk.out.keep (al (al (Below.refl _ _) (Nat.le_refl _)) (by simp))).row (hal (hnew rfl)) gate_ne).row (hro (hnew (by simp)) (by omega)) pkt_ne
 have HCn2 : Hid (CntM w2 (.map (some b2)) (N + 1) (bump C E)) := by rw [hr2.eq]; exact ((HCn.out.keep (al (al (Below.refl _ _) (Nat.le_refl _)) (by simp))).row (hal (hnew rfl))).row (hro (hnew (by simp)) (by omega))
 have hgt := lt_of_block H.out.box
 have hG5 := HB.out.size
 clear hr2 HCn HPk HB
 obtain ⟨g5,hg5⟩ : ∃ g5,g5 = w1.heap.size := ⟨_,rfl⟩
 rw [← hg5] at k5 k6 hG5 ⊢
 clear hg5
 obtain ⟨c0,c1,c2,c3,c4,c5,c6⟩ := cells_seven kt
 obtain ⟨d0,d1,d2,d3,d4⟩ := cells_five k5
 have z0 := frozen_of_row _ _ 0 _ _ kt
 have z1 := frozen_of_row _ _ 1 _ _ kt
 have z2 := frozen_of_row _ _ 2 _ _ kt
 have z3 := frozen_of_row _ _ 3 _ _ kt
 have z4 := frozen_of_row _ _ 4 _ _ kt
 go_wp2
 go_ret
 have hO : OneE w2 gt (((((w2.setCell ⟨gt,0,none⟩ (.int .i64 (L : Nat))).setCell ⟨gt,1,none⟩ (.int .i64 (t : Nat))).setCell ⟨gt,2,none⟩ (.int .i64 (k : Nat))).setCell ⟨gt,3,none⟩ (.int .u32 (D : Nat))).setCell ⟨gt,4,none⟩ (.map (some b2))) := (((((OneE.refl w2 gt).set _).set _).set _).set _).set _
 exact ⟨rfl,.map (some b2),v,⟨H.out.ok,hss (hss (hss (hss (hss kt)))),HCn2.out.one hO kt,hO.elm (H.out.elm.keep HB2.out) kt tk_ne.2.1 tk_ne.2.2 tk_ne.1,H.out.red,H.out.old⟩,(TChg.of gt be v HB2.out).one hO,.inl rfl⟩
end Go.Proofs.YtccaiiigdfieoaaGreatDoor
namespace Go.By
open Go.RowKit Go.Maps Go.Proofs.YtccaiiigdfieoaaGreatDoor
theorem wpList_store_five {P : Program} {ops : Array Oper} {rest : List Oper} {o : Oper} {a : Act} {w : World} {Q : Exit → Act → World → Prop} (hgd : o.guard = none) (ty : TypeId) (x y : Operand) (ho : o.op = .store ty x y)
  (g : Nat) (a0 a1 a2 a3 : Int) (m : Nat) (b0 b1 b2 b3 b4 b5 b6 : Value) (T : TypeId) (hx : a.eval x = .pointer (some ⟨g,0,none⟩)) (hy : a.eval y = .agg #[.int .i64 a0,.int .i64 a1,.int .i64 a2,.int .u32 a3,.map (some m)])
  (kt : w.heap[g]? = some (.cells #[b0,b1,b2,b3,b4,b5,b6] T (0,0))) (hi : (P.info? ty).map (·.size) = some 5) {d : TypeDesc} (hu : P.underlying ty = some d)
  (h : ∀ w',OneE w g w' → w'.heap[g]? = some (.cells #[.int .i64 a0,.int .i64 a1,.int .i64 a2,.int .u32 a3,.map (some m),b5,b6] T (0,0)) → wpList P ops Q rest (a.put o.dst undef) w') : wpList P ops Q (o :: rest) a w := by
 refine wpList_plain hgd fun K hK => ?_
 have hK' := hK _ _ (h (((((w.setCell ⟨g,0,none⟩ (.int .i64 a0)).setCell ⟨g,1,none⟩ (.int .i64 a1)).setCell ⟨g,2,none⟩ (.int .i64 a2)).setCell ⟨g,3,none⟩ (.int .u32 a3)).setCell ⟨g,4,none⟩ (.map (some m))) ((((((OneE.refl w g).set _).set _).set _).set _).set _) (hss (hss (hss (hss (hss kt))))))
 obtain ⟨c0,c1,c2,c3,c4,c5,c6⟩ := cells_seven kt
 have z0 := frozen_of_row _ _ 0 _ _ kt
 have z1 := frozen_of_row _ _ 1 _ _ kt
 have z2 := frozen_of_row _ _ 2 _ _ kt
 have z3 := frozen_of_row _ _ 3 _ _ kt
 have z4 := frozen_of_row _ _ 4 _ _ kt
 have hsz : (sizeOf ty).run P w = .ok 5 w := by
  cases hI : P.info? ty with
  | none => rw [hI] at hi; cases hi
  | some i =>
   rw [hI] at hi
   simp at hi
   simp [sizeOf,typeInfo,hI,hi]
 have _ := hu
 unfold Oper.wp
 simp only [execOp,ho,hx,hy]
 simp [go_sem,hsz,c0,c1,c2,c3,c4,z0,z1,z2,z3,z4]
 exact hK'
end Go.By
namespace Go.Proofs.YtccaiiigdfieoaaGreatDoor
open Go.RowKit Go.By Go.Maps
def eqX (k t : Nat) (xs : List UInt8) : Rw := (vecS (pktM xs) (pktX k xs) (pktS k xs) k,pktY k t xs)
def nextS (K : List Rw) (x : Rw) (k : Nat) : Nat := if codeF K x = 2 then 2 else if (putK K x).length = k then 1 else 0
set_option maxRecDepth 100000 in
set_option maxHeartbeats 4000000 in
theorem TTake_done (base gt be L t k D N : Nat) (M v : Value) (C : DataW Unit) (K : List Rw) (st : Nat) (p : Option Addr) (n c : Nat) (xs : List UInt8) (w : World) (h : Tkr w base gt be L t k D N M v C K st) (hT : HalfT w) (hN : N < 1000000) (hs : Sl B8 w p n c xs) (hr : Room n) (hc : readC k t D xs = 0) (hst : st ≠ 0) :
  Calls Tryz.prog 16 #[.pointer (some ⟨gt,0,none⟩),.slice p n c] w (TkRet w base gt be L t k D (N + 1) v (bump C (readC k t D xs)) K st (readC k t D xs)) := by
 have HG : Hid (∀ w,HalfT w → CntM w M N C → Sl B8 w p n c xs → Calls Tryz.prog 62 #[GVal L t k D M,.slice p n c] w fun e w' => ∃ b2 v0 v1 v2 v3 v4 v5 v6,e = .returned (.tuple #[GVal L t k D (.map (some b2)),.agg #[v0,v1,v2,v3,v4,v5,v6],.int .i64 (readC k t D xs)]) ∧
   CntM w' (.map (some b2)) (N + 1) (bump C (readC k t D xs)) ∧ PkC w' w.heap.size k t D xs v0 v1 v2 v3 v4 v5 v6 ∧ Below w.heap.size w w') := fun w hT hC hs => GLook_any L t k D N M C p n c xs w h.ok hT hC hN hs hr
 have H := Lib.hid h
 have HT := Lib.hid hT
 have HS := Lib.hid hs
 obtain ⟨c0,c1,c2,c3,c4,c5,c6⟩ := cells_seven h.box
 rw [hc] at HG ⊢
 have HC := Lib.hid hc
 have e1 : ((st : Int) != 0) = true := bne_iff_ne.2 (by omega)
 clear h hT hs hr hN hc hst
 go_enter Tryz.func16,Tryz.ntmps16
 go_wp2_with fail
 refine Calls.mono (HG.out _ HT.out H.out.cnt HS.out) ?_
 rintro e w1 ⟨b2,v0,v1,v2,v3,v4,v5,v6,rfl,hcn,hpk,hb⟩
 have HB := Lib.hid hb
 have HCn := Lib.hid hcn
 have HPk := Lib.hid hpk
 obtain ⟨o0,o1,o2,o3,o4,o5,o6⟩ := hpk.1
 clear c0 c1 c2 c3 c4 c5 c6 hb hcn hpk
 go_wp2_with (first | (refine wpList_store_row (o := ⟨none,.store 111 (.tmp 5) (.tmp 19),_,_,_,_⟩) rfl 111 (.tmp 5) (.tmp 19) rfl w1.heap.size #[.int .i64 (L : Nat),.int .i64 (t : Nat),.int .i64 (k : Nat),.int .u32 (D : Nat),.map (some b2)] rfl rfl _ _ (hal (hnew rfl)) info_gate rfl (ones_gate rfl) ?_) | (refine wpList_store_rowS (o := ⟨none,.store 122 (.tmp 6) (.tmp 20),_,_,_,_⟩) rfl 122 (.tmp 6) (.tmp 20) rfl (w1.heap.size + 1) #[v0,v1,v2,v3,v4,v5,v6] rfl rfl _ _ (hro (hnew (by simp)) (by omega)) info_packet rfl (by simp [o0,o1,o2,o3,o4,o5,o6]) ?_))
 intro w2 hr2
 have HB2 : Hid (Below w.heap.size w w2) := by rw [hr2.eq]; exact below_row (below_row (al (al HB.out HB.out.size) (by have := HB.out.size; simp; omega)) HB.out.size) (by have := HB.out.size; omega)
 have k5 : w2.heap[w1.heap.size]? = some (.cells #[.int .i64 (L : Nat),.int .i64 (t : Nat),.int .i64 (k : Nat),.int .u32 (D : Nat),.map (some b2)] 111 (0,0)) := by rw [hr2.eq]; exact hro (hrs (hal (hnew rfl))) (by omega)
 have k6 : w2.heap[w1.heap.size + 1]? = some (.cells #[v0,v1,v2,v3,v4,v5,v6] 122 (0,0)) := by rw [hr2.eq]; exact hrs (hro (hnew (by simp)) (by omega))
 have kt := (HB2.out.block _ (lt_of_block H.out.box)).trans H.out.box
 have HPk2 : Hid (PkC w2 w.heap.size k t D xs v0 v1 v2 v3 v4 v5 v6) := by rw [hr2.eq]; exact ((HPk.out.keep (al (al (Below.refl _ _) (Nat.le_refl _)) (by simp))).row (hal (hnew rfl)) gate_ne).row (hro (hnew (by simp)) (by omega)) pkt_ne
 have HCn2 : Hid (CntM w2 (.map (some b2)) (N + 1) (bump C 0)) := by rw [hr2.eq]; exact ((HCn.out.keep (al (al (Below.refl _ _) (Nat.le_refl _)) (by simp))).row (hal (hnew rfl))).row (hro (hnew (by simp)) (by omega))
 have hgt := lt_of_block H.out.box
 have hG5 := HB.out.size
 clear hr2 HCn HPk HB
 obtain ⟨g5,hg5⟩ : ∃ g5,g5 = w1.heap.size := ⟨_,rfl⟩
 rw [← hg5] at k5 k6 hG5 ⊢
 clear hg5
 obtain ⟨c0,c1,c2,c3,c4,c5,c6⟩ := cells_seven kt
 obtain ⟨d0,d1,d2,d3,d4⟩ := cells_five k5
 go_wp2_with (refine wpList_store_five (o := ⟨none,.store 111 (.tmp 25) (.tmp 23),_,_,_,_⟩) rfl 111 (.tmp 25) (.tmp 23) rfl gt (L : Nat) (t : Nat) (k : Nat) (D : Nat) b2 _ _ _ _ _ _ _ _ rfl rfl kt info_gate Tryz.underlying111 ?_)
 intro w3 hO kt3
 have HO := Lib.hid hO
 have m5 := (hO.block g5 (by omega)).trans k5
 have m6 := (hO.block (g5 + 1) (by omega)).trans k6
 have HCn3 := Lib.hid (HCn2.out.one hO kt)
 have HPk3 := Lib.hid (HPk2.out.one hO kt tk_ne.1)
 have HEl := Lib.hid (hO.elm (H.out.elm.keep HB2.out) kt tk_ne.2.1 tk_ne.2.2 tk_ne.1)
 have HTC := Lib.hid ((TChg.of gt be v HB2.out).one hO)
 have HT3 := Lib.hid (HT.out.keep HB2.out)
 have hs3 : w3.heap.size = w2.heap.size := hO.size
 have hl6 := lt_of_block k6
 clear k5 k6 kt hO c0 c1 c2 c3 c4 c5 c6 d0 d1 d2 d3 d4 HCn2 HPk2
 obtain ⟨c0,c1,c2,c3,c4,c5,c6⟩ := cells_seven kt3
 go_wp2
 go_ret
 exact ⟨rfl,.map (some b2),v,⟨H.out.ok,kt3,HCn3.out,HEl.out,H.out.red,H.out.old⟩,HTC.out,.inl rfl⟩
end Go.Proofs.YtccaiiigdfieoaaGreatDoor
namespace Go.Proofs.YtccaiiigdfieoaaGreatDoor
open Go.RowKit Go.By Go.Maps
def PutP (base be k t : Nat) (v : Value) (K : List Rw) (x : Rw) (w5 W : World) : Prop := ∃ v' n',Elm W base be k t v' n' (putK K x) ∧ Chg w5 W be v ∧ (v'.ownBlock = v.ownBlock ∨ ∀ b,v'.ownBlock = some b → w5.heap.size ≤ b)
set_option maxRecDepth 100000 in
set_option maxHeartbeats 4000000 in
theorem TTake_put (base gt be L t k D N : Nat) (M v : Value) (C : DataW Unit) (K : List Rw) (st : Nat) (p : Option Addr) (n c : Nat) (xs : List UInt8) (w : World) (h : Tkr w base gt be L t k D N M v C K st) (hT : HalfT w) (hN : N < 1000000) (hs : Sl B8 w p n c xs) (hr : Room n) (hc : readC k t D xs = 0) (hst : st = 0) :
  Calls Tryz.prog 16 #[.pointer (some ⟨gt,0,none⟩),.slice p n c] w (TkRet w base gt be L t k D (N + 1) v (bump C (readC k t D xs)) (putK K (eqX k t xs)) (nextS K (eqX k t xs) k) (readC k t D xs)) := by
 have HG : Hid (∀ w,HalfT w → CntM w M N C → Sl B8 w p n c xs → Calls Tryz.prog 62 #[GVal L t k D M,.slice p n c] w fun e w' => ∃ b2 v0 v1 v2 v3 v4 v5 v6,e = .returned (.tuple #[GVal L t k D (.map (some b2)),.agg #[v0,v1,v2,v3,v4,v5,v6],.int .i64 (readC k t D xs)]) ∧
   CntM w' (.map (some b2)) (N + 1) (bump C (readC k t D xs)) ∧ PkC w' w.heap.size k t D xs v0 v1 v2 v3 v4 v5 v6 ∧ Below w.heap.size w w') := fun w hT hC hs => GLook_any L t k D N M C p n c xs w h.ok hT hC hN hs hr
 have H := Lib.hid h
 have HT := Lib.hid hT
 have HS := Lib.hid hs
 obtain ⟨c0,c1,c2,c3,c4,c5,c6⟩ := cells_seven h.box
 rw [hc] at HG ⊢
 have HC := Lib.hid hc
 subst hst
 obtain ⟨hmo,hX0,hYl⟩ := read_fits hc
 have hXl : (pktX k xs).length ≤ 4096 := by
  have := h.ok.k2
  by_cases h0 : pktM xs = 0
  ·rw [hX0 h0]; exact this
  ·have e : pktX k xs = [] := if_neg h0
   rw [e]; simp
 have hVl : (vecS (pktM xs) (pktX k xs) (pktS k xs) k).length = k := by
  unfold vecS
  by_cases h0 : pktM xs = 0
  ·rw [if_pos h0]; exact hX0 h0
  ·rw [if_neg h0,mixRow_len]
 have HQ : Hid (∀ w p j c s q d,j = (pktX k xs).length → s = pktS k xs → Sl B8 w p j c (pktX k xs) → Sl B8 w q t d (pktY k t xs) → Calls Tryz.prog 63 #[PkVal (pktM xs) D (pktN xs) (pktM xs) p j c s q t d,PVal L t k D] w (EqRet w (eqX k t xs).1 (eqX k t xs).2)) := fun w p j c s q d hj hs s1 s2 => by
  subst hs
  exact PEquation_ok L t k D (pktN xs) (pktM xs) p j c (pktS k xs) q d (pktX k xs) (pktY k t xs) w h.ok hmo (fun h0 => by rw [hj]; exact hX0 h0) (by rw [hj]; show _ ≤ _; omega) s1 s2
 obtain ⟨x,hx⟩ : ∃ x,eqX k t xs = x := ⟨_,rfl⟩
 have hx1 : x.1.length = k := by rw [← hx]; exact hVl
 have hx2 : x.2.length = t := by rw [← hx]; exact hYl
 rw [hx] at HQ ⊢
 have HX1 := Lib.hid hx1
 have HX2 := Lib.hid hx2
 have HYl := Lib.hid hYl
 clear h hT hs hr hN hc hmo hX0 hYl hXl hVl hx hx1 hx2
 go_enter Tryz.func16,Tryz.ntmps16
 go_wp2_with fail
 refine Calls.mono (HG.out _ HT.out H.out.cnt HS.out) ?_
 rintro e w1 ⟨b2,v0,v1,v2,v3,v4,v5,v6,rfl,hcn,hpk,hb⟩
 have HB := Lib.hid hb
 have HCn := Lib.hid hcn
 have HPk := Lib.hid hpk
 obtain ⟨o0,o1,o2,o3,o4,o5,o6⟩ := hpk.1
 clear c0 c1 c2 c3 c4 c5 c6 hb hcn hpk
 go_wp2_with (first | (refine wpList_store_row (o := ⟨none,.store 111 (.tmp 5) (.tmp 19),_,_,_,_⟩) rfl 111 (.tmp 5) (.tmp 19) rfl w1.heap.size #[.int .i64 (L : Nat),.int .i64 (t : Nat),.int .i64 (k : Nat),.int .u32 (D : Nat),.map (some b2)] rfl rfl _ _ (hal (hnew rfl)) info_gate rfl (ones_gate rfl) ?_) | (refine wpList_store_rowS (o := ⟨none,.store 122 (.tmp 6) (.tmp 20),_,_,_,_⟩) rfl 122 (.tmp 6) (.tmp 20) rfl (w1.heap.size + 1) #[v0,v1,v2,v3,v4,v5,v6] rfl rfl _ _ (hro (hnew (by simp)) (by omega)) info_packet rfl (by simp [o0,o1,o2,o3,o4,o5,o6]) ?_))
 intro w2 hr2
 have HB2 : Hid (Below w.heap.size w w2) := by rw [hr2.eq]; exact below_row (below_row (al (al HB.out HB.out.size) (by have := HB.out.size; simp; omega)) HB.out.size) (by have := HB.out.size; omega)
 have k5 : w2.heap[w1.heap.size]? = some (.cells #[.int .i64 (L : Nat),.int .i64 (t : Nat),.int .i64 (k : Nat),.int .u32 (D : Nat),.map (some b2)] 111 (0,0)) := by rw [hr2.eq]; exact hro (hrs (hal (hnew rfl))) (by omega)
 have k6 : w2.heap[w1.heap.size + 1]? = some (.cells #[v0,v1,v2,v3,v4,v5,v6] 122 (0,0)) := by rw [hr2.eq]; exact hrs (hro (hnew (by simp)) (by omega))
 have kt := (HB2.out.block _ (lt_of_block H.out.box)).trans H.out.box
 have HPk2 : Hid (PkC w2 w.heap.size k t D xs v0 v1 v2 v3 v4 v5 v6) := by rw [hr2.eq]; exact ((HPk.out.keep (al (al (Below.refl _ _) (Nat.le_refl _)) (by simp))).row (hal (hnew rfl)) gate_ne).row (hro (hnew (by simp)) (by omega)) pkt_ne
 have HCn2 : Hid (CntM w2 (.map (some b2)) (N + 1) (bump C 0)) := by rw [hr2.eq]; exact ((HCn.out.keep (al (al (Below.refl _ _) (Nat.le_refl _)) (by simp))).row (hal (hnew rfl))).row (hro (hnew (by simp)) (by omega))
 have hgt := lt_of_block H.out.box
 have hG5 := HB.out.size
 clear hr2 HCn HPk HB
 obtain ⟨g5,hg5⟩ : ∃ g5,g5 = w1.heap.size := ⟨_,rfl⟩
 rw [← hg5] at k5 k6 hG5 ⊢
 clear hg5
 obtain ⟨c0,c1,c2,c3,c4,c5,c6⟩ := cells_seven kt
 obtain ⟨d0,d1,d2,d3,d4⟩ := cells_five k5
 go_wp2_with (refine wpList_store_five (o := ⟨none,.store 111 (.tmp 25) (.tmp 23),_,_,_,_⟩) rfl 111 (.tmp 25) (.tmp 23) rfl gt (L : Nat) (t : Nat) (k : Nat) (D : Nat) b2 _ _ _ _ _ _ _ _ rfl rfl kt info_gate Tryz.underlying111 ?_)
 intro w3 hO kt3
 have HO := Lib.hid hO
 have m5 := (hO.block g5 (by omega)).trans k5
 have m6 := (hO.block (g5 + 1) (by omega)).trans k6
 have HCn3 := Lib.hid (HCn2.out.one hO kt)
 have HPk3 := Lib.hid (HPk2.out.one hO kt tk_ne.1)
 have HEl := Lib.hid (hO.elm (H.out.elm.keep HB2.out) kt tk_ne.2.1 tk_ne.2.2 tk_ne.1)
 have HTC := Lib.hid ((TChg.of gt be v HB2.out).one hO)
 have HT3 := Lib.hid (HT.out.keep HB2.out)
 have hs3 : w3.heap.size = w2.heap.size := hO.size
 have hl6 := lt_of_block k6
 clear k5 k6 kt hO c0 c1 c2 c3 c4 c5 c6 d0 d1 d2 d3 d4 HCn2 HPk2
 obtain ⟨c0,c1,c2,c3,c4,c5,c6⟩ := cells_seven kt3
 obtain ⟨q,j,cq,q2,j2,cq2,r0,r1,r2,r3,r4,r5,r6,f1,f2⟩ := HPk3.out.2 HC.out
 subst r0 r1 r2 r3 r4 r5 r6
 have hj2 : t = j2 := by rw [← f2.sl.len]; exact HYl.out.symm
 subst hj2
 have hj := f1.sl.len
 have F1 := Lib.hid f1.sl
 have F2 := Lib.hid f2.sl
 have HJ := Lib.hid hj.symm
 clear f1 f2 hj
 obtain ⟨d0,d1,d2,d3,d4⟩ := cells_five m5
 obtain ⟨f0,f1,f2,f3,f4,f5,f6⟩ := cells_seven m6
 go_wp2_with fail
 refine Calls.mono (HQ.out _ _ _ _ _ _ _ HJ.out rfl F1.out F2.out) ?_
 rintro e w4 ⟨qa,na,ca,qb,nb,cb,rfl,Fa,Fb,hb⟩
 have hna : k = na := by rw [← Fa.sl.len]; exact HX1.out.symm
 have hnb : t = nb := by rw [← Fb.sl.len]; exact HX2.out.symm
 subst hna hnb
 have kt4 := (hb.block _ (lt_of_block kt3)).trans kt3
 have n5 := (hb.block _ (lt_of_block m5)).trans m5
 have HCn4 := Lib.hid (HCn3.out.keep hb)
 have HEl4 := Lib.hid (HEl.out.keep hb)
 have HTC4 := Lib.hid (HTC.out.then hb)
 have SA := Lib.hid Fa.sl
 have SB := Lib.hid Fb.sl
 have hown : v.ownBlock ≠ some w4.heap.size := fun e => by have := (HEl4.out.rows.lt _ e).2; omega
 have HW := Lib.hid (lt_of_block m5)
 have hs4 := hb.size
 clear hb kt3 m5 m6 HCn3 HPk3 HEl HTC Fa Fb c0 c1 c2 c3 c4 c5 c6 d0 d1 d2 d3 d4 f0 f1 f2 f3 f4 f5 f6
 go_wp2_with fail
 have kt5 : (w4.alloc (.cells #[.slice qa k ca,.slice qb t cb] 99 (0,0))).heap[gt]? = some (.cells #[.int .i64 (L : Nat),.int .i64 (t : Nat),.int .i64 (k : Nat),.int .u32 (D : Nat),.map (some b2),.pointer (some ⟨be,0,none⟩),.int .i64 (0 : Nat)] 118 (0,0)) := hal kt4
 have kg5 : (w4.alloc (.cells #[.slice qa k ca,.slice qb t cb] 99 (0,0))).heap[g5]? = some (.cells #[.int .i64 (L : Nat),.int .i64 (t : Nat),.int .i64 (k : Nat),.int .u32 (D : Nat),.map (some b2)] 111 (0,0)) := hal n5
 have kr5 : (w4.alloc (.cells #[.slice qa k ca,.slice qb t cb] 99 (0,0))).heap[w4.heap.size]? = some (.cells #[.slice qa k ca,.slice qb t cb] 99 (0,0)) := hnew rfl
 have HCn5 := Lib.hid (HCn4.out.keep (al (o := .cells #[.slice qa k ca,.slice qb t cb] 99 (0,0)) (Below.refl _ _) (Nat.le_refl _)))
 have HEl5 := Lib.hid (HEl4.out.keep (al (o := .cells #[.slice qa k ca,.slice qb t cb] 99 (0,0)) (Below.refl _ _) (Nat.le_refl _)))
 have HTC5 := Lib.hid (HTC4.out.then (al (o := .cells #[.slice qa k ca,.slice qb t cb] 99 (0,0)) (Below.refl _ _) (Nat.le_refl _)))
 have SA5 := Lib.hid (SA.out.keep (al (o := .cells #[.slice qa k ca,.slice qb t cb] 99 (0,0)) (Below.refl _ _) (Nat.le_refl _)))
 have SB5 := Lib.hid (SB.out.keep (al (o := .cells #[.slice qa k ca,.slice qb t cb] 99 (0,0)) (Below.refl _ _) (Nat.le_refl _)))
 clear kt4 n5 HCn4 HEl4 HTC4 SA SB
 obtain ⟨g8,hg8⟩ : ∃ g8,g8 = w4.heap.size := ⟨_,rfl⟩
 rw [← hg8] at kr5 hown hs4 ⊢
 clear hg8
 generalize w4.alloc (.cells #[.slice qa k ca,.slice qb t cb] 99 (0,0)) = w5 at *
 have hmem : Hid (∀ W,(W = w5.drew ∨ PutP base be k t v K x w5 W) → W.heap[gt]? = some (.cells #[.int .i64 (L : Nat),.int .i64 (t : Nat),.int .i64 (k : Nat),.int .u32 (D : Nat),.map (some b2),.pointer (some ⟨be,0,none⟩),.int .i64 (0 : Nat)] 118 (0,0)) ∧ W.heap[g8]? = some (.cells #[.slice qa k ca,.slice qb t cb] 99 (0,0))) := by
  intro W hW
  rcases hW with rfl | ⟨v',n',-,hc,-⟩
  ·exact ⟨kt5,kr5⟩
  ·exact ⟨hc.blk2 HEl5.out kt5 tk_ne.2.1 tk_ne.2.2,hc.blk HEl5.out kr5 (by decide) hown⟩
 refine wp_region_call (fun ix => ([.pointer (some ⟨gt,0,none⟩),.pointer (some ⟨gt,0,none⟩),.pointer (some ⟨gt,5,none⟩),.pointer (some ⟨be,0,none⟩),.agg #[.slice qa k ca,.slice qb t cb],.tuple #[.int .i64 (codeF K x),.int .i64 0],.tuple #[.int .i64 (codeF K x),.int .i64 0],.int .i64 (codeF K x),.int .i64 0,.int .i64 (codeF K x),.int .i64 0][ix]?).getD undef) 75 5 (PutP base be k t v K x w5) rfl (by kernel_rfl) (by decide) (by decide) (by decide) (by decide) (by decide) ?_ ?_ ?_
 ·intro i o h1 ho a W hW hs hp hi
  obtain ⟨m1,m2⟩ := hmem.out W hW
  match i,h1,ho with
  | 0,_,ho =>
   simp at ho; subst ho
   have tt : sl a 0 = .pointer (some ⟨gt,0,none⟩) := hi 0 (by decide)
   simp only [execOp,eval_tmp,tt]; rfl
  | 1,_,ho =>
   simp at ho; subst ho
   have tt : sl a 47 = .pointer (some ⟨gt,0,none⟩) := hp 0 47 (by decide) rfl
   simp only [execOp,eval_tmp,tt]; simp [go_sem]
  | 2,_,ho =>
   simp at ho; subst ho
   have tt : sl a 48 = .pointer (some ⟨gt,0,none⟩) := hp 1 48 (by decide) rfl
   simp only [execOp,eval_tmp,tt]; simp [go_sem]
  | 3,_,ho =>
   simp at ho; subst ho
   have tt : sl a 49 = .pointer (some ⟨gt,5,none⟩) := hp 2 49 (by decide) rfl
   obtain ⟨x0,x1,x2,x3,x4,x5,x6⟩ := cells_seven m1
   simp only [execOp,eval_tmp,tt]; simp [go_sem,x5]
  | 4,_,ho =>
   simp at ho; subst ho
   have tt : sl a 8 = .pointer (some ⟨g8,0,none⟩) := hi 8 (by decide)
   obtain ⟨x0,x1⟩ := cells2 m2
   simp only [execOp,eval_tmp,tt]; simp [go_sem,x0,x1]
  | 6,_,ho =>
   simp at ho; subst ho
   have tt : sl a 52 = .tuple #[.int .i64 (codeF K x),.int .i64 0] := hp 5 52 (by decide) rfl
   simp only [execOp,eval_tmp,tt]; rfl
  | 7,_,ho =>
   simp at ho; subst ho
   have tt : sl a 46 = .tuple #[.int .i64 (codeF K x),.int .i64 0] := hp 6 46 (by decide) rfl
   simp only [execOp,eval_tmp,tt]; rfl
  | 8,_,ho =>
   simp at ho; subst ho
   have tt : sl a 46 = .tuple #[.int .i64 (codeF K x),.int .i64 0] := hp 6 46 (by decide) rfl
   simp only [execOp,eval_tmp,tt]; rfl
  | 9,_,ho =>
   simp at ho; subst ho
   have tt : sl a 53 = .int .i64 (codeF K x) := hp 7 53 (by decide) rfl
   simp only [execOp,eval_tmp,tt]; rfl
  | 10,_,ho =>
   simp at ho; subst ho
   have tt : sl a 54 = .int .i64 0 := hp 8 54 (by decide) rfl
   simp only [execOp,eval_tmp,tt]; rfl
  | 5,h,_ => exact absurd rfl h
  | j + 11,_,ho => simp at ho
 ·intro o ho a hs hp hi
  simp at ho; subst ho
  have t50 : sl a 50 = .pointer (some ⟨be,0,none⟩) := hp 3 50 (by decide) rfl
  have t51 : sl a 51 = .agg #[.slice qa k ca,.slice qb t cb] := hp 4 51 (by decide) rfl
  have hbd : Below w5.heap.size w5 w5.drew := ⟨rfl,rfl,rfl,Nat.le_refl _,fun _ _ => rfl⟩
  refine wp_enter 64 #[.pointer (some ⟨be,0,none⟩),.agg #[.slice qa k ca,.slice qb t cb]] ?_ (EPut_fit base be k t K.length v K qa qb ca cb x w5.drew (HEl5.out.keep hbd) (SA5.out.keep hbd) (SB5.out.keep hbd) H.out.red H.out.ok.k2 H.out.ok.t2 (Nat.le_trans (Red.le H.out.red) H.out.ok.k2)) ?_
  ·simp only [execOp,resolve,List.map_toArray,List.map,eval_tmp,eval_func,eval_const,t50,t51]; simp [go_sem]
  ·rintro e W' ⟨rfl,v',n',g1,g2,g3⟩
   exact ⟨_,rfl,rfl,v',n',g1,⟨g2.os,g2.tape,g2.output,g2.size,g2.block⟩,g3⟩
 ·intro a W hP1 hs hd hI ht
  have ha := act_is [47,48,49,50,51,52,46,53,54,9,7] hs hd ht (by decide)
  have t9 : sl a 9 = .int .i64 (codeF K x) := hI 9 9 (by decide) rfl
  have t7 : sl a 7 = .int .i64 0 := hI 10 7 (by decide) rfl
  simp only [List.foldl,t9,t7] at ha
  generalize sl a 47 = u47 at ha
  generalize sl a 48 = u48 at ha
  generalize sl a 49 = u49 at ha
  generalize sl a 50 = u50 at ha
  generalize sl a 51 = u51 at ha
  generalize sl a 52 = u52 at ha
  generalize sl a 46 = u46 at ha
  generalize sl a 53 = u53 at ha
  generalize sl a 54 = u54 at ha
  simp only [Act.put,List.setIfInBounds_toArray,List.set_cons_zero,List.set_cons_succ] at ha
  rw [ha]
  obtain ⟨kt6,-⟩ := hmem.out W (.inr hP1)
  have kg6 : W.heap[g5]? = some (.cells #[.int .i64 (L : Nat),.int .i64 (t : Nat),.int .i64 (k : Nat),.int .u32 (D : Nat),.map (some b2)] 111 (0,0)) := by
   obtain ⟨v',n',-,hc,-⟩ := hP1
   exact hc.blk2 HEl5.out kg5 (by decide) (by decide)
  have HCn6 : Hid (CntM W (.map (some b2)) (N + 1) (bump C 0)) := by
   obtain ⟨v',n',-,hc,-⟩ := hP1
   refine ⟨?_,HCn5.out.small⟩
   rcases HCn5.out.at_ with h1 | ⟨bb,e,ho⟩
   ·exact .inl h1
   ·refine .inr ⟨bb,e,?_⟩
    have hlt := ho.lt
    obtain ⟨es,clock,j1,F,j2,j3⟩ := ho
    refine ⟨es,clock,(hc.block bb hlt (fun e => ?_) (fun e => ?_)).trans j1,F,j2,j3⟩
    ·have := HEl5.out.box; rw [← e,j1] at this; cases this
    ·obtain ⟨vs,_,_,o,_⟩ := HEl5.out.rows
     rcases o.2 with ⟨e1,_⟩ | ⟨g',cap,cur,e1,_,hh,_⟩
     ·rw [e1] at e; cases e
     ·rw [e1] at e; cases e
      rw [j1] at hh; cases hh
  obtain ⟨v',n',hE6,hc6,ho6⟩ := hP1
  have hn' : n' = (putK K x).length := hE6.rows.len.symm
  subst hn'
  have HE6 := Lib.hid hE6
  have HTC6 := Lib.hid (HTC5.out.chg hc6)
  have HO6 : Hid (v'.ownBlock = v.ownBlock ∨ ∀ b,v'.ownBlock = some b → w.heap.size ≤ b) := by
   rcases ho6 with h | h
   ·exact .inl h
   ·exact .inr fun b hb => Nat.le_trans HTC5.out.size (h b hb)
  have HRd : Hid (Red k t (putK K x)) := by
   unfold putK
   by_cases hn : leadS (restF K x).1 < 0
   ·rw [if_pos hn]; exact H.out.red
   ·rw [if_neg hn]; exact (putF_red H.out.red ⟨HX1.out,HX2.out⟩ hn).1
  clear ha hI ht hs hd t9 t7 hE6 hc6 ho6 kt5 kg5 kr5 hmem hown
  obtain ⟨x0,x1,x2,x3,x4,x5,x6⟩ := cells_seven kt6
  have z6 := frozen_of_row _ _ 6 _ _ kt6
  have y2 := (cells_five kg6).2.2.1
  by_cases hcl : codeF K x = 2
  ·have HNX : Hid (nextS K x k = 2) := by unfold nextS; rw [if_pos hcl]; rfl
   go_wp2
   go_ret
   have hO : OneE W gt (W.setCell ⟨gt,6,none⟩ (.int .i64 2)) := (OneE.refl W gt).set _
   exact ⟨rfl,.map (some b2),v',⟨H.out.ok,by rw [HNX.out]; exact hss kt6,HCn6.out.one hO kt6,hO.elm HE6.out kt6 tk_ne.2.1 tk_ne.2.2 tk_ne.1,HRd.out,H.out.old⟩,HTC6.out.one hO,HO6.out⟩
  ·have e9 : (codeF K x == 2) = false := beq_eq_false_iff_ne.2 hcl
   by_cases hfull : (putK K x).length = k
   ·have HNX : Hid (nextS K x k = 1) := by unfold nextS; rw [if_neg hcl,if_pos hfull]; rfl
    have e15 : (((putK K x).length : Int) == (k : Int)) = true := by simp [hfull]
    clear hcl hfull
    go_wp2_with fail
    refine wp_region_shapes (fun ix => ([.val (.pointer (some ⟨gt,0,none⟩)),.val (.pointer (some ⟨gt,0,none⟩)),.val (.pointer (some ⟨gt,5,none⟩)),.val (.pointer (some ⟨be,0,none⟩)),.val (.int .i64 ((putK K x).length : Nat)),.val (.pointer (some ⟨g5,0,none⟩)),.val (.pointer (some ⟨g5,2,none⟩)),.val (.int .i64 (k : Nat)),.val (.bool true)][ix]?).getD (.any)) 75 rfl (by kernel_rfl) (by decide) (by decide) (by decide) ?_ ?_
    ·refine ⟨?_,?_,?_,?_,?_,?_,?_,?_,?_,trivial⟩
     ·intro a W hb0 hs hp hi; have hb := undrew hb0; clear hb0
      have t0 : sl a 0 = .pointer (some ⟨gt,0,none⟩) := hi 0 (by decide)
      exact ite_y rfl (wp_val (sl a 0) rfl ⟨_,rfl,Below.refl _ _,t0⟩)
     ·intro a W hb0 hs hp hi; have hb := undrew hb0; clear hb0
      have tt : sl a 63 = .pointer (some ⟨gt,0,none⟩) := hp 0 (by decide)
      refine ite_y rfl (wp_val (.pointer (some ⟨gt,0,none⟩)) ?_ ?_)
      ·simp only [execOp,eval_tmp,tt]; simp [go_sem]
      ·exact ⟨_,rfl,Below.refl _ _,rfl⟩
     ·intro a W hb0 hs hp hi; have hb := undrew hb0; clear hb0
      have t64 : sl a 64 = .pointer (some ⟨gt,0,none⟩) := hp 1 (by decide)
      refine ite_y rfl (wp_val (.pointer (some ⟨gt,5,none⟩)) ?_ ?_)
      ·simp only [execOp,eval_tmp,eval_const,t64]; simp [go_sem]
      ·exact ⟨_,rfl,Below.refl _ _,rfl⟩
     ·intro a W hb0 hs hp hi; have hb := undrew hb0; clear hb0
      have tt : sl a 65 = .pointer (some ⟨gt,5,none⟩) := hp 2 (by decide)
      have dd := (hb.cell (p := ⟨gt,5,none⟩) (lt_of_cell x5)).trans x5
      refine ite_y rfl (wp_val (.pointer (some ⟨be,0,none⟩)) ?_ ?_)
      ·simp only [execOp,eval_tmp,tt]; simp [go_sem,dd]
      ·exact ⟨_,rfl,Below.refl _ _,rfl⟩
     ·intro a W hb0 hs hp hi; have hb := undrew hb0; clear hb0
      have t66 : sl a 66 = .pointer (some ⟨be,0,none⟩) := hp 3 (by decide)
      refine ite_y rfl (wp_enter 65 #[.pointer (some ⟨be,0,none⟩)] ?_ (Rank_any' base be k t _ v' _ _ (HE6.out.keep hb)) ?_)
      ·simp only [execOp,resolve,List.map_toArray,List.map,eval_tmp,eval_func,eval_const,t66]; simp [go_sem]
      ·rintro e W' ⟨rfl,rfl⟩; exact ⟨_,rfl,_,rfl,Below.refl _ _,rfl⟩
     ·intro a W hb0 hs hp hi; have hb := undrew hb0; clear hb0
      have tt : sl a 5 = .pointer (some ⟨g5,0,none⟩) := hi 5 (by decide)
      refine ite_y rfl (wp_val (.pointer (some ⟨g5,0,none⟩)) ?_ ?_)
      ·simp only [execOp,eval_tmp,tt]; simp [go_sem]
      ·exact ⟨_,rfl,Below.refl _ _,rfl⟩
     ·intro a W hb0 hs hp hi; have hb := undrew hb0; clear hb0
      have tt : sl a 68 = .pointer (some ⟨g5,0,none⟩) := hp 5 (by decide)
      refine ite_y rfl (wp_val (.pointer (some ⟨g5,2,none⟩)) ?_ ?_)
      ·simp only [execOp,eval_tmp,tt]; simp [go_sem]
      ·exact ⟨_,rfl,Below.refl _ _,rfl⟩
     ·intro a W hb0 hs hp hi; have hb := undrew hb0; clear hb0
      have tt : sl a 69 = .pointer (some ⟨g5,2,none⟩) := hp 6 (by decide)
      have dd := (hb.cell (p := ⟨g5,2,none⟩) (lt_of_cell y2)).trans y2
      refine ite_y rfl (wp_val (.int .i64 (k : Nat)) ?_ ?_)
      ·simp only [execOp,eval_tmp,tt]; simp [go_sem,dd]
      ·exact ⟨_,rfl,Below.refl _ _,rfl⟩
     ·intro a W hb0 hs hp hi; have hb := undrew hb0; clear hb0
      have t67 : sl a 67 = .int .i64 ((putK K x).length : Nat) := hp 4 (by decide)
      have t70 : sl a 70 = .int .i64 (k : Nat) := hp 7 (by decide)
      refine ite_y rfl (wp_val (.bool true) ?_ ?_)
      ·simp only [execOp,eval_tmp,eval_const,t67,t70]; simp [go_sem,e15]
      ·exact ⟨_,rfl,Below.refl _ _,rfl⟩
    intro a w9 hb hs hd hI ht
    have ha := act_is [63,64,65,66,67,68,69,70,71] hs hd ht (by decide)
    have t71 : sl a 71 = .bool true := hI 8 (by decide)
    simp only [List.foldl,t71] at ha
    generalize sl a 63 = u63 at ha
    generalize sl a 64 = u64 at ha
    generalize sl a 65 = u65 at ha
    generalize sl a 66 = u66 at ha
    generalize sl a 67 = u67 at ha
    generalize sl a 68 = u68 at ha
    generalize sl a 69 = u69 at ha
    generalize sl a 70 = u70 at ha
    simp only [Act.put,List.setIfInBounds_toArray,List.set_cons_zero,List.set_cons_succ] at ha
    rw [ha]
    clear ha hI ht
    have kt7 := (hb.block _ (lt_of_block kt6)).trans kt6
    have HB7 := Lib.hid hb
    obtain ⟨x0,x1,x2,x3,x4,x5,x6⟩ := cells_seven kt7
    have z6 := frozen_of_row _ _ 6 _ _ kt7
    clear hb
    go_wp2
    go_ret
    have hO : OneE w9 gt (w9.setCell ⟨gt,6,none⟩ (.int .i64 1)) := (OneE.refl w9 gt).set _
    exact ⟨rfl,.map (some b2),v',⟨H.out.ok,by rw [HNX.out]; exact hss kt7,(HCn6.out.keep HB7.out).one hO kt7,hO.elm (HE6.out.keep HB7.out) kt7 tk_ne.2.1 tk_ne.2.2 tk_ne.1,HRd.out,H.out.old⟩,(HTC6.out.then HB7.out).one hO,HO6.out⟩
   ·have HNX : Hid (nextS K x k = 0) := by unfold nextS; rw [if_neg hcl,if_neg hfull]; rfl
    have e15 : (((putK K x).length : Int) == (k : Int)) = false := beq_eq_false_iff_ne.2 (by omega)
    clear hcl hfull
    go_wp2_with fail
    refine wp_region_shapes (fun ix => ([.val (.pointer (some ⟨gt,0,none⟩)),.val (.pointer (some ⟨gt,0,none⟩)),.val (.pointer (some ⟨gt,5,none⟩)),.val (.pointer (some ⟨be,0,none⟩)),.val (.int .i64 ((putK K x).length : Nat)),.val (.pointer (some ⟨g5,0,none⟩)),.val (.pointer (some ⟨g5,2,none⟩)),.val (.int .i64 (k : Nat)),.val (.bool false)][ix]?).getD (.any)) 75 rfl (by kernel_rfl) (by decide) (by decide) (by decide) ?_ ?_
    ·refine ⟨?_,?_,?_,?_,?_,?_,?_,?_,?_,trivial⟩
     ·intro a W hb0 hs hp hi; have hb := undrew hb0; clear hb0
      have t0 : sl a 0 = .pointer (some ⟨gt,0,none⟩) := hi 0 (by decide)
      exact ite_y rfl (wp_val (sl a 0) rfl ⟨_,rfl,Below.refl _ _,t0⟩)
     ·intro a W hb0 hs hp hi; have hb := undrew hb0; clear hb0
      have tt : sl a 63 = .pointer (some ⟨gt,0,none⟩) := hp 0 (by decide)
      refine ite_y rfl (wp_val (.pointer (some ⟨gt,0,none⟩)) ?_ ?_)
      ·simp only [execOp,eval_tmp,tt]; simp [go_sem]
      ·exact ⟨_,rfl,Below.refl _ _,rfl⟩
     ·intro a W hb0 hs hp hi; have hb := undrew hb0; clear hb0
      have t64 : sl a 64 = .pointer (some ⟨gt,0,none⟩) := hp 1 (by decide)
      refine ite_y rfl (wp_val (.pointer (some ⟨gt,5,none⟩)) ?_ ?_)
      ·simp only [execOp,eval_tmp,eval_const,t64]; simp [go_sem]
      ·exact ⟨_,rfl,Below.refl _ _,rfl⟩
     ·intro a W hb0 hs hp hi; have hb := undrew hb0; clear hb0
      have tt : sl a 65 = .pointer (some ⟨gt,5,none⟩) := hp 2 (by decide)
      have dd := (hb.cell (p := ⟨gt,5,none⟩) (lt_of_cell x5)).trans x5
      refine ite_y rfl (wp_val (.pointer (some ⟨be,0,none⟩)) ?_ ?_)
      ·simp only [execOp,eval_tmp,tt]; simp [go_sem,dd]
      ·exact ⟨_,rfl,Below.refl _ _,rfl⟩
     ·intro a W hb0 hs hp hi; have hb := undrew hb0; clear hb0
      have t66 : sl a 66 = .pointer (some ⟨be,0,none⟩) := hp 3 (by decide)
      refine ite_y rfl (wp_enter 65 #[.pointer (some ⟨be,0,none⟩)] ?_ (Rank_any' base be k t _ v' _ _ (HE6.out.keep hb)) ?_)
      ·simp only [execOp,resolve,List.map_toArray,List.map,eval_tmp,eval_func,eval_const,t66]; simp [go_sem]
      ·rintro e W' ⟨rfl,rfl⟩; exact ⟨_,rfl,_,rfl,Below.refl _ _,rfl⟩
     ·intro a W hb0 hs hp hi; have hb := undrew hb0; clear hb0
      have tt : sl a 5 = .pointer (some ⟨g5,0,none⟩) := hi 5 (by decide)
      refine ite_y rfl (wp_val (.pointer (some ⟨g5,0,none⟩)) ?_ ?_)
      ·simp only [execOp,eval_tmp,tt]; simp [go_sem]
      ·exact ⟨_,rfl,Below.refl _ _,rfl⟩
     ·intro a W hb0 hs hp hi; have hb := undrew hb0; clear hb0
      have tt : sl a 68 = .pointer (some ⟨g5,0,none⟩) := hp 5 (by decide)
      refine ite_y rfl (wp_val (.pointer (some ⟨g5,2,none⟩)) ?_ ?_)
      ·simp only [execOp,eval_tmp,tt]; simp [go_sem]
      ·exact ⟨_,rfl,Below.refl _ _,rfl⟩
     ·intro a W hb0 hs hp hi; have hb := undrew hb0; clear hb0
      have tt : sl a 69 = .pointer (some ⟨g5,2,none⟩) := hp 6 (by decide)
      have dd := (hb.cell (p := ⟨g5,2,none⟩) (lt_of_cell y2)).trans y2
      refine ite_y rfl (wp_val (.int .i64 (k : Nat)) ?_ ?_)
      ·simp only [execOp,eval_tmp,tt]; simp [go_sem,dd]
      ·exact ⟨_,rfl,Below.refl _ _,rfl⟩
     ·intro a W hb0 hs hp hi; have hb := undrew hb0; clear hb0
      have t67 : sl a 67 = .int .i64 ((putK K x).length : Nat) := hp 4 (by decide)
      have t70 : sl a 70 = .int .i64 (k : Nat) := hp 7 (by decide)
      refine ite_y rfl (wp_val (.bool false) ?_ ?_)
      ·simp only [execOp,eval_tmp,eval_const,t67,t70]; simp [go_sem,e15]
      ·exact ⟨_,rfl,Below.refl _ _,rfl⟩
    intro a w9 hb hs hd hI ht
    have ha := act_is [63,64,65,66,67,68,69,70,71] hs hd ht (by decide)
    have t71 : sl a 71 = .bool false := hI 8 (by decide)
    simp only [List.foldl,t71] at ha
    generalize sl a 63 = u63 at ha
    generalize sl a 64 = u64 at ha
    generalize sl a 65 = u65 at ha
    generalize sl a 66 = u66 at ha
    generalize sl a 67 = u67 at ha
    generalize sl a 68 = u68 at ha
    generalize sl a 69 = u69 at ha
    generalize sl a 70 = u70 at ha
    simp only [Act.put,List.setIfInBounds_toArray,List.set_cons_zero,List.set_cons_succ] at ha
    rw [ha]
    clear ha hI ht
    have kt7 := (hb.block _ (lt_of_block kt6)).trans kt6
    have HB7 := Lib.hid hb
    clear hb
    go_wp2
    go_ret
    exact ⟨rfl,.map (some b2),v',⟨H.out.ok,by rw [HNX.out]; exact kt7,HCn6.out.keep HB7.out,HE6.out.keep HB7.out,HRd.out,H.out.old⟩,HTC6.out.then HB7.out,HO6.out⟩
def takeK (k t D : Nat) (K : List Rw) (st : Nat) (xs : List UInt8) : List Rw := if readC k t D xs = 0 ∧ st = 0 then putK K (eqX k t xs) else K
def takeS (k t D : Nat) (K : List Rw) (st : Nat) (xs : List UInt8) : Nat := if readC k t D xs = 0 ∧ st = 0 then nextS K (eqX k t xs) k else st
theorem TTake_any (base gt be L t k D N : Nat) (M v : Value) (C : DataW Unit) (K : List Rw) (st : Nat) (p : Option Addr) (n c : Nat) (xs : List UInt8) (w : World) (h : Tkr w base gt be L t k D N M v C K st) (hT : HalfT w) (hN : N < 1000000) (hs : Sl B8 w p n c xs) (hr : Room n) :
  Calls Tryz.prog 16 #[.pointer (some ⟨gt,0,none⟩),.slice p n c] w (TkRet w base gt be L t k D (N + 1) v (bump C (readC k t D xs)) (takeK k t D K st xs) (takeS k t D K st xs) (readC k t D xs)) := by
 unfold takeK takeS
 by_cases hc : readC k t D xs = 0
 ·by_cases hst : st = 0
  ·rw [if_pos ⟨hc,hst⟩,if_pos ⟨hc,hst⟩]
   exact TTake_put base gt be L t k D N M v C K st p n c xs w h hT hN hs hr hc hst
  ·rw [if_neg (fun e => hst e.2),if_neg (fun e => hst e.2)]
   exact TTake_done base gt be L t k D N M v C K st p n c xs w h hT hN hs hr hc hst
 ·rw [if_neg (fun e => hc e.1),if_neg (fun e => hc e.1)]
  exact TTake_bad base gt be L t k D N M v C K st p n c xs w h hT hN hs hr hc
end Go.Proofs.YtccaiiigdfieoaaGreatDoor
namespace Go.Proofs.YtccaiiigdfieoaaGreatDoor
open Go.RowKit Go.By
def wholeS (l s n : Int) (xss : List (List UInt8)) : List UInt8 × Int :=
 if checkS l s n = 0 then (if (xss.length : Int) = n then (if xss.all (fun y => decide (y.length = s.toNat)) then (xss.flatten,0) else ([],4)) else ([],5)) else ([],checkS l s n)
theorem checkS_ok {l s n : Int} (h : checkS l s n = 0) : 0 ≤ l ∧ 1 ≤ s ∧ s ≤ 65535 ∧ n = needS l s ∧ n ≤ 4096 := by
 unfold checkS at h
 rcases fitS_cases l s with ⟨h0,h1⟩ | ⟨h0,h1,h2,h3,h4⟩
 ·rw [if_neg h0] at h; exact absurd h h0
 ·rw [if_pos h0] at h
  split at h
  ·omega
  ·omega
theorem flatP_len {xss : List (List UInt8)} {s : Nat} (h : ∀ x,x ∈ xss → x.length = s) : xss.flatten.length = xss.length * s := by
 induction xss with
 | nil => simp
 | cons x l ih =>
  rw [List.flatten_cons,List.length_append,ih (fun y hy => h y (List.mem_cons_of_mem _ hy)),h x List.mem_cons_self,List.length_cons,Nat.add_mul]
  omega
theorem wholeS_cases (l s n : Int) (xss : List (List UInt8)) : ((wholeS l s n xss).2 ≠ 0 ∧ (wholeS l s n xss).1 = []) ∨ ((wholeS l s n xss).2 = 0 ∧ checkS l s n = 0 ∧ (wholeS l s n xss).1 = xss.flatten ∧ 0 ≤ l ∧ l ≤ xss.flatten.length) := by
 by_cases h0 : checkS l s n = 0
 ·unfold wholeS; rw [if_pos h0]
  by_cases h1 : (xss.length : Int) = n
  ·rw [if_pos h1]
   by_cases h2 : xss.all (fun y => decide (y.length = s.toNat)) = true
   ·rw [if_pos h2]
    right
    obtain ⟨g1,g2,g3,g4,g5⟩ := checkS_ok h0
    refine ⟨rfl,h0,rfl,g1,?_⟩
    have hl := flatP_len (s := s.toNat) (fun x hx => by simpa using List.all_eq_true.1 h2 x hx)
    by_cases hz : l = 0
    ·omega
    ·obtain ⟨q1,q2⟩ := needS_spec (l := l) (s := s) (by omega) g2
     rw [hl,Int.natCast_mul,h1,g4,Int.toNat_of_nonneg (by omega)]
     exact q2
   ·rw [if_neg h2]; left; exact ⟨by simp,rfl⟩
  ·rw [if_neg h1]; left; exact ⟨by simp,rfl⟩
 ·left; unfold wholeS; rw [if_neg h0]; exact ⟨h0,rfl⟩
theorem enters_whole : Enters Tryz.prog 194 := enters_of Tryz.func194 (by kernel_rfl) rfl
set_option maxHeartbeats 400000 in
theorem whole1_any (q : Option Addr) (m c B s : Nat) (w : World) (hB : w.cell? ⟨B,1,none⟩ = some (.int .i64 s)) :
  Calls Tryz.prog 194 #[.slice q m c,.pointer (some ⟨B,0,none⟩)] w fun e w' => e = .returned (.bool ((m : Int) != s)) ∧ w = w' := by
 go_enter Tryz.func194,Tryz.ntmps194
 go_wp2
 go_ret
 exact ⟨rfl,rfl⟩
set_option maxRecDepth 100000 in
set_option maxHeartbeats 1000000 in
theorem whole_any (l s n d : Int) (p : Option Addr) (m c : Nat) (xss : List (List UInt8)) (w : World) (h : Sl2 w p m c xss) (hl2 : l ≤ 9223372036854775807) :
  Calls Tryz.prog 130 #[.agg #[.int .i64 l,.int .i64 s,.int .i64 n,.int .u32 d],.slice p m c] w (RetB 5 w (wholeS l s n xss).1 (wholeS l s n xss).2) := by
 have HC := Lib.hid (fun w => Check_any l s n d w hl2)
 have hB := fun o => al (o := o) (Below.refl w.heap.size w) (Nat.le_refl _)
 by_cases h0 : checkS l s n = 0
 ·rw [h0] at HC
  obtain ⟨g1,g2,g3,g4,g5⟩ := checkS_ok h0
  obtain ⟨s0,rfl⟩ := Int.eq_ofNat_of_zero_le (show 0 ≤ s by omega)
  have HW : Hid (wholeS l s0 n xss = if (m : Int) = n then (if xss.all (fun y => decide (y.length = s0)) then (xss.flatten,0) else ([],4)) else ([],5)) := by
   unfold wholeS; rw [Hid,if_pos h0,h.len,Int.toNat_natCast]
  have hmb := h.bound
  by_cases h1 : (m : Int) = n
  ·have hb : ((m : Int) != n) = false := by simpa using h1
   rw [if_pos h1] at HW
   obtain ⟨vs,hvs,hvv⟩ := h.vals
   have hax := any_vals (n := s0) (hvs.len.trans h.len.symm) hvv
   have H := Lib.hid h; have HV := Lib.hid hvs; have HVV := Lib.hid hvv; have HA := Lib.hid hax
   have HR : Hid (xss.all (fun y => decide (y.length = s0)) = true → Room xss.flatten.length) := fun ha => by
    have hl := flatP_len (s := s0) (fun x hx => by simpa using List.all_eq_true.1 ha x hx)
    have h5 : xss.length * s0 ≤ 4096 * 65535 := Nat.mul_le_mul (by have := h.len; omega) (by omega)
    unfold Room; omega
   clear h hvs hvv hax h0 g4 h1
   go_enter Tryz.func130,Tryz.ntmps130
   go_wp2_with fail
   refine (HC.out _).mono ?_; rintro e w1 ⟨rfl,hb1⟩
   have k1 : Below w.heap.size w w1 := bl (hB _) hb1 (by simp)
   have e1 : w1.heap[w.heap.size]? = some (.cells #[.int .i64 l,.int .i64 s0,.int .i64 n,.int .u32 d] 27 (0,0)) := by
    rw [hb1.block _ (by simp)]; exact hnew rfl
   have c2 : w1.cell? ⟨w.heap.size,2,none⟩ = some (.int .i64 n) := cell_of_row _ _ 2 _ _ _ e1
   have c1 : w1.cell? ⟨w.heap.size,1,none⟩ = some (.int .i64 s0) := cell_of_row _ _ 1 _ _ _ e1
   clear e1
   go_wp2_with fail
   refine (ContainsFuncBB_any id (lenNe s0) 194 _ enters_whole p m c vs w1 (HV.out.keep k1) ?_).mono ?_
   ·intro v hv
    obtain ⟨i,hi,e⟩ := List.getElem_of_mem hv
    obtain ⟨xs,q,c',hx,rfl,hs⟩ := HVV.out i v (by rw [List.getElem?_eq_getElem hi,e])
    exact whole1_any q _ c' _ s0 w1 c1
   rintro e w' ⟨rfl,rfl⟩
   rw [HA.out]
   by_cases h2 : xss.all (fun y => decide (y.length = s0)) = true
   ·have HR := Lib.hid (HR.out h2)
    rw [h2] at HW ⊢
    have HW' := Lib.hid HW.out
    clear HA h2
    go_wp2_with fail
    refine (Concat_any p m c xss w1 (H.out.keep k1) HR.out).mono ?_; rintro e w2 ⟨q,m',c',hm,rfl,ho,hb2⟩
    have HO := Lib.hid ho; clear ho
    go_wp2
    go_ret2
    rw [HW.out]
    exact ⟨q,m',c',hm,rfl,owns_mono HO.out k1.size,bl k1 hb2 k1.size⟩
   ·have h2' := eq_false_of_ne_true h2
    rw [h2'] at HW ⊢
    clear HA h2 h2'
    go_wp2
    go_ret2
    rw [HW.out]
    exact RetB.nil _ _ _ _ k1
  ·have hb : ((m : Int) != n) = true := by simpa using h1
   rw [if_neg h1] at HW
   clear h h0 g4 h1
   go_enter Tryz.func130,Tryz.ntmps130
   go_wp2_with fail
   refine (HC.out _).mono ?_; rintro e w1 ⟨rfl,hb1⟩
   have k1 : Below w.heap.size w w1 := bl (hB _) hb1 (by simp)
   have e1 : w1.heap[w.heap.size]? = some (.cells #[.int .i64 l,.int .i64 s0,.int .i64 n,.int .u32 d] 27 (0,0)) := by
    rw [hb1.block _ (by simp)]; exact hnew rfl
   have c2 : w1.cell? ⟨w.heap.size,2,none⟩ = some (.int .i64 n) := cell_of_row _ _ 2 _ _ _ e1
   clear e1
   go_wp2
   go_ret2
   rw [HW.out]
   exact RetB.nil _ _ _ _ k1
 ·have HW : Hid (wholeS l s n xss = ([],checkS l s n)) := by unfold wholeS; rw [Hid,if_neg h0]
  have hb : (checkS l s n != 0) = true := by simpa using h0
  generalize checkS l s n = k at *
  clear h h0
  go_enter Tryz.func130,Tryz.ntmps130
  go_wp2_with fail
  refine (HC.out _).mono ?_; rintro e w1 ⟨rfl,hb1⟩
  have k1 : Below w.heap.size w w1 := bl (hB _) hb1 (by simp)
  go_wp2
  go_ret2
  rw [HW.out]
  exact RetB.nil _ _ _ _ k1
end Go.Proofs.YtccaiiigdfieoaaGreatDoor
namespace Go.Proofs.YtccaiiigdfieoaaGreatDoor
open Go.RowKit Go.By
theorem Sl.take {α : Type} {enc : α → Value} {w : World} {p : Option Addr} {n c k c2 : Nat} {xs : List α} (h : Sl enc w p n c xs) (hk : k ≤ n) (h1 : k ≤ c2) (h2 : c2 ≤ c) : Sl enc w p k c2 (xs.take k) := by
 refine ⟨by rw [List.length_take,h.len]; omega,h1,Nat.le_trans h2 h.max,fun e => ?_,?_⟩
 ·have := h.nil e; omega
 ·intro i hi
  have hi' : i < xs.length := by rw [List.length_take] at hi; omega
  obtain ⟨b,o,hp,hc⟩ := h.rs i hi'
  exact ⟨b,o,hp,by rw [hc]; simp⟩
def RetL (w : World) (ys : List UInt8) (code : Int) (e : Ending) (w' : World) : Prop :=
 ∃ q m c',e = .returned (.tuple #[.slice q m c',.int .i64 code]) ∧ Sl B8 w' q m c' ys ∧ Below w.heap.size w w'
def NewT (T B : Nat) (w : World) (q : Option Addr) : Prop := ∀ a,q = some a → B ≤ a.block ∧ ∃ cs fr,w.heap[a.block]? = some (.cells cs T fr)
def RetLT (T : TypeId) (w : World) (ys : List UInt8) (code : Int) (e : Ending) (w' : World) : Prop :=
 ∃ q m c',e = .returned (.tuple #[.slice q m c',.int .i64 code]) ∧ Sl B8 w' q m c' ys ∧ NewT T w.heap.size w' q ∧ Below w.heap.size w w'
def joinS (l s n : Int) (xss : List (List UInt8)) : List UInt8 × Int := ((wholeS l s n xss).1.take l.toNat,(wholeS l s n xss).2)
set_option maxRecDepth 100000 in
set_option maxHeartbeats 1000000 in
theorem Join_anyT (l s n d : Int) (p : Option Addr) (m c : Nat) (xss : List (List UInt8)) (w : World) (h : Sl2 w p m c xss) (hl2 : l ≤ 9223372036854775807) :
  Calls Tryz.prog 76 #[.agg #[.int .i64 l,.int .i64 s,.int .i64 n,.int .u32 d],.slice p m c] w (RetLT 5 w (joinS l s n xss).1 (joinS l s n xss).2) := by
 have HC := Lib.hid (fun w h => whole_any l s n d p m c xss w h hl2)
 have hB := fun o => al (o := o) (Below.refl w.heap.size w) (Nat.le_refl _)
 have H := Lib.hid h
 clear h
 have HJ : Hid (joinS l s n xss = ((wholeS l s n xss).1.take l.toNat,(wholeS l s n xss).2)) := rfl
 rcases wholeS_cases l s n xss with ⟨g1,g2⟩ | ⟨g1,g2,g3,g4,g5⟩
 ·have hb : ((wholeS l s n xss).2 != 0) = true := by simpa using g1
  generalize wholeS l s n xss = X at *
  obtain ⟨X1,k⟩ := X
  simp only at g2 hb g1 HC HJ
  subst g2
  have HG := Lib.hid g1; clear g1
  go_enter Tryz.func76,Tryz.ntmps76
  go_wp2_with fail
  refine (HC.out _ (H.out.keep (hB _))).mono ?_; rintro e w1 ⟨q,m',c',hm,rfl,ho,hb1⟩
  have HO := Lib.hid ho; clear ho
  have k1 : Below w.heap.size w w1 := bl (hB _) hb1 (by simp)
  go_wp2
  go_ret2
  rw [HJ.out]
  exact ⟨none,0,0,rfl,by simpa using Sl.nil0 B8 w1,fun a h => (by cases h),k1⟩
 ·obtain ⟨l0,rfl⟩ := Int.eq_ofNat_of_zero_le g4
  have g5' : l0 ≤ xss.flatten.length := by omega
  generalize wholeS l0 s n xss = X at *
  obtain ⟨X1,k⟩ := X
  simp only at g3 g1 HC HJ
  subst g1
  subst g3
  clear g2 g4 g5
  have HJ2 := Lib.hid g5'; clear g5'
  generalize xss.flatten = Y at *
  go_enter Tryz.func76,Tryz.ntmps76
  go_wp2_with fail
  refine (HC.out _ (H.out.keep (hB _))).mono ?_; rintro e w1 ⟨q,m',c',hm,rfl,ho,hb1⟩
  have hcc := owns_cap ho
  have hs := Sl.of_owns ho
  have k1 : Below w.heap.size w w1 := bl (hB _) hb1 (by simp)
  have e1 : w1.heap[w.heap.size]? = some (.cells #[.int .i64 l0,.int .i64 s,.int .i64 n,.int .u32 d] 27 (0,0)) := by
   rw [hb1.block _ (by simp)]; exact hnew rfl
  have c0 : w1.cell? ⟨w.heap.size,0,none⟩ = some (.int .i64 l0) := cell_of_row _ _ 0 _ _ _ e1
  have b1 : l0 ≤ m' := by have := HJ2.out; have := hm.out; omega
  have b2 : m' ≤ c' := hcc.1
  have b3 : c' ≤ 9223372036854775807 := by have := hcc.2; unfold maxLen at this; omega
  have HS := Lib.hid (Sl.take hs b1 (Nat.le_refl _) (by omega))
  have HN : Hid (NewT 5 w.heap.size w1 q) := fun a ha => by
   rcases ho.2 with ⟨h2,_⟩ | ⟨g,cap,cur,hv,hb,hh,_⟩
   ·subst ha; cases h2
   ·subst ha; cases hv; exact ⟨Nat.le_trans (by simp) hb,_,_,hh⟩
  clear e1 ho hs hcc
  cases hq : q with
  | none =>
   subst hq
   obtain ⟨z1,z2⟩ := HS.out.nil rfl
   subst z1
   go_wp2
   go_ret2
   rw [HJ.out]
   exact ⟨_,_,_,rfl,by simpa using HS.out,HN.out,k1⟩
  | some ad =>
   subst hq
   go_wp2
   go_ret2
   rw [HJ.out]
   exact ⟨_,_,_,rfl,by simpa using HS.out,HN.out,k1⟩
end Go.Proofs.YtccaiiigdfieoaaGreatDoor
namespace Go.Proofs.YtccaiiigdfieoaaGreatDoor
open Go.RowKit Go.By
end Go.Proofs.YtccaiiigdfieoaaGreatDoor
namespace Go.Proofs.YtccaiiigdfieoaaGreatDoor
open Go.RowKit Go.By
end Go.Proofs.YtccaiiigdfieoaaGreatDoor
namespace Go.By
open Go.RowKit
end Go.By
namespace Go.Proofs.YtccaiiigdfieoaaGreatDoor
open Go.RowKit Go.By
theorem checkS_okC {l s n : Int} (h : checkS l s n = 0) : 0 ≤ l ∧ 1 ≤ s ∧ s ≤ 65535 ∧ n = needS l s ∧ n ≤ 4096 := by
 have hf : fitS l s = 0 := by
  unfold checkS at h
  by_cases e : fitS l s = 0
  ·exact e
  ·rw [if_neg e] at h; exact h
 have hn : n = needS l s := by
  unfold checkS at h
  rw [if_pos hf] at h
  by_cases e : n = needS l s
  ·exact e
  ·rw [if_neg e] at h; cases h
 rcases fitS_cases l s with ⟨a,_⟩ | ⟨_,h1,h2,h3,h4⟩
 ·exact absurd hf a
 ·exact ⟨h1,h2,h3,hn,by omega⟩
theorem info_bytesC : (Tryz.prog.info? 22).map (fun i => (i.zero,i.size,i.bytes)) = some (some (.slice none 0 0),1,24) := by kernel_rfl
end Go.Proofs.YtccaiiigdfieoaaGreatDoor
namespace Go.By
open Go.RowKit
theorem Fresh.cell {T T' B g i n c : Nat} {w : World} {q : Option Addr} {xs : List UInt8} {old : Array Value} {fr : Nat × Nat} {v : Value} (h : Fresh T B w q n c xs) (hg : w.heap[g]? = some (.cells old T' fr)) (hne : T' ≠ T) : Fresh T B (w.setCell ⟨g,i,Option.none⟩ v) q n c xs := by
 have hd : ∀ a,q = some a → a.block ≠ g := fun a ha e => by
  obtain ⟨c2,f2,e2⟩ := h.ty a ha
  rw [e,hg] at e2
  injection e2 with e2
  injection e2 with _ e3 _
  exact hne e3
 exact ⟨⟨h.sl.len,h.sl.le,h.sl.max,h.sl.nil,fun j hj => by
  obtain ⟨b,o,e,hc⟩ := h.sl.rs j hj
  exact ⟨b,o,e,(World.cell?_of_block (a := ⟨b,o + j,Option.none⟩) (Below.heap_setCell _ _ _ _ (hd _ e))).trans hc⟩⟩,h.new,fun a ha => by obtain ⟨c2,f2,e2⟩ := h.ty a ha; exact ⟨c2,f2,(Below.heap_setCell _ _ _ _ (hd a ha)).trans e2⟩⟩
end Go.By
namespace Go.Proofs.YtccaiiigdfieoaaGreatDoor
open Go.RowKit Go.By
end Go.Proofs.YtccaiiigdfieoaaGreatDoor
namespace Go.Proofs.YtccaiiigdfieoaaGreatDoor
open Go.RowKit Go.By
end Go.Proofs.YtccaiiigdfieoaaGreatDoor
namespace Go.By
open Go
section
variable {P : Program} (w : World)
theorem run_append_where (base : Nat) (t ty e : TypeId) (i : TypeInfo) (z : Value) (size bytes : Nat) (ht : P.underlying t = some (.slice e)) (hi : P.info? e = some i) (hz : i.zero = some z)
  (hsize : i.size = size) (hby : i.bytes = bytes) (hzs : z.cells.size = size) (hsz : 0 < size)
  (v : Value) (n : Nat) (xs : List Value) (hown : w.ownsRow base e size v n xs)
  (a : Addr) (m c : Nat) (news : List Value) (hl : news.length = m * size) (hnews : ∀ j u,news[j]? = some u → w.cell? (a.add j) = some u) (h1 : ∀ u ∈ news,u.oneCell' = true)
  (h63 : n + m ≤ maxLen) (hbytes : (n + m) * bytes ≤ 140737488355328) (hbase : base ≤ w.heap.size) (hm : 0 < m) :
  ∃ v' w',(Builtin.append_ #[t,t] ty #[v,.slice (some a) m c]).run P w = .ok v' w' ∧ w'.ownsRow base e size v' (n + m) (xs ++ news) ∧ w.grownBy w' v.ownBlock ∧ (v'.ownBlock = v.ownBlock ∨ v'.ownBlock = some w.heap.size) := by
 obtain ⟨v',w',hr,h2,h3,-⟩ := run_append_own w base t ty e i z size bytes ht hi hz hsize hby hzs hsz v n xs hown a m c news hl hnews h1 h63 hbytes hbase
 refine ⟨v',w',hr,h2,h3,?_⟩
 subst hsize
 subst hby
 have hm' : n + m ≤ 9223372036854775807 := by simp only [maxLen] at h63; omega
 rcases hown.2 with ⟨rfl,rfl⟩ | ⟨g,cap,cur,rfl,hbg,hg,hnc,hcm,hcs,htake⟩
 ·have hr2 := run_append_nil (P := P) w t ty e i z ht hi hz a m c news hl hnews (by omega) (by omega) (by have hb := hbytes; simp only [Nat.zero_add] at hb; omega)
  have e2 := hr.symm.trans hr2
  cases e2
  exact .inr rfl
 ·by_cases hroom : n + m ≤ cap
  ·have hfit : n * i.size + news.length ≤ cur.size := by rw [hl,hcs,← Nat.add_mul]; exact Nat.mul_le_mul_right _ hroom
   have hr2 := run_append_room (P := P) w t ty e i ht hi g n cap cur hg a m c news hl hnews h1 hroom hfit
   have e2 := hr.symm.trans hr2
   cases e2
   exact .inl rfl
  ·have holds : ∀ j u,xs[j]? = some u → w.cell? ((⟨g,0,none⟩ : Addr).add j) = some u := hown.cells (g := g) rfl
   have hr2 := run_append_grow (P := P) w t ty e i z ht hi hz ⟨g,0,none⟩ n cap xs hown.1 holds a m c news hl hnews (by omega) (by omega) (growslice_fits (by omega) hbytes)
   have e2 := hr.symm.trans hr2
   cases e2
   exact .inr rfl
theorem wpList_append_where {ops : Array Oper} {rest : List Oper} {o : Oper} {a : Act} {Q : Exit → Act → World → Prop} (hgd : o.guard = none) (s x : Operand) (t : TypeId)
  (ho : o.op = .call { callee := .builtin .append,args := #[s,x],argTypes := #[t,t] })
  (base : Nat) (e : TypeId) (i : TypeInfo) (z : Value) (size bytes : Nat) (ht : P.underlying t = some (.slice e)) (hi : P.info? e = some i) (hz : i.zero = some z)
  (hsize : i.size = size) (hby : i.bytes = bytes) (hzs : z.cells.size = size) (hsz : 0 < size)
  (v : Value) (n : Nat) (xs : List Value) (hs : a.eval s = v) (hown : w.ownsRow base e size v n xs)
  (ad : Addr) (m c : Nat) (news : List Value) (hx : a.eval x = .slice (some ad) m c) (hl : news.length = m * size) (hnews : ∀ j u,news[j]? = some u → w.cell? (ad.add j) = some u) (h1 : ∀ u ∈ news,u.oneCell' = true)
  (h63 : n + m ≤ maxLen) (hbytes : (n + m) * bytes ≤ 140737488355328) (hbase : base ≤ w.heap.size) (hm : 0 < m)
  (h : ∀ v' w',w'.ownsRow base e size v' (n + m) (xs ++ news) → w.grownBy w' v.ownBlock → (v'.ownBlock = v.ownBlock ∨ v'.ownBlock = some w.heap.size) → wpList P ops Q rest (a.put o.dst v') w') : wpList P ops Q (o :: rest) a w := by
 refine wpList_plain hgd fun _ hK => ?_
 obtain ⟨v',w',hr,h2,h3,h4⟩ := run_append_where (P := P) w base t o.type e i z size bytes ht hi hz hsize hby hzs hsz v n xs hown ad m c news hl hnews h1 h63 hbytes hbase hm
 unfold Oper.wp execOp
 simp only [ho,resolve,invoke,builtin,Sem.run_bind,Sem.run_pure,Result.andThen_ok,List.map_toArray,List.map_cons,List.map_nil,hs,hx,hr]
 exact hK _ _ (h v' w' h2 h3 h4)
end
end Go.By
namespace Go.Proofs.YtccaiiigdfieoaaGreatDoor
open Go.RowKit Go.By Go.Maps
end Go.Proofs.YtccaiiigdfieoaaGreatDoor
