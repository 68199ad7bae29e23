/- Chapter 19: taker.Take of a packet that is put. The contracts of the whole of the symbols,Join and Clean. The contracts of Join and Clean. The contracts of the reference's Needs and Check. The contracts of the reference's All and of the law's few; the chapter's example. The contract of the law's few; the chapter's example. Chapter 11: fits,piece,Cut,Spread. Chapter 17: a sender in memory; sender.New,Send,Explicit. Chapter 17: sender.Send. Chapter 21: a relay in memory; New,Next,Say of what says nothing. Chapter 21: relay.Say of what says something. What is written is read again; the numbers of the law's examples. Plain law: packets of one object. They never clash; the rows are as many as the rank of the vectors that came; full rows have the object. Chapter 21: what a turn of a sender,a taker,a relay leaves as it is; sender.Explicit. Chapter 19: taker.Status,Rank,Object. A sender while others turn; two takers beside each other. Of a plan that may not be there is no gate,no taker,no relay; a plan that may be as numbers. A region that draws its order,by shapes,by what holds of the world as operations run,and by ties between slots. Two slices of headers,each grown by one in a region that draws its order. A plan of an object; ranks of combinations; rows of headers of new bytes while others turn. A sender and a taker in memory,carried along. The contracts of the document's sum: Put,Sum (bit by bit). Plain law: a packet of which one stretch of four bytes has turned is not let in. What TakerHas,TripRuns,TripArrives carry: rows of bytes that grow; a sender that may refuse. A used strings.Builder,WriteByte with its whole frame. Chapter 19: a taker's clone. -/
import Derived.Test.YtccaiiigdfieoaaGreatDoorZm6
import Derived.Laws.OwnMore
import Derived.OwnWalk
import Derived.Deep.DeepCutAuto
namespace Go.Proofs.YtccaiiigdfieoaaGreatDoor
open Go.RowKit Go.By Go.Maps
def PutP (base be k t:Nat) (v:Value) (K:List Rw) (x:Rw) (w5 W:World):Prop:=∃ v' n',Elm W base be k t v' n' (putK K x)∧Chg w5 W be v∧(v'.ownBlock = v.ownBlock∨∀ b,v'.ownBlock = some b→w5.heap.size≤b)
set_option maxRecDepth 100000 in
set_option maxHeartbeats 4000000 in
theorem TTake_put (base gt be L t k D N:Nat) (M v:Value) (C:DataW Unit) (K:List Rw) (st:Nat) (p:Option Addr) (n c:Nat) (xs:List UInt8) (w:World) (h:Tkr w base gt be L t k D N M v C K st) (hT:HalfT w) (hN:N < 1000000) (hs:Sl B8 w p n c xs) (hr:Room n) (hc:readC k t D xs = 0) (hst:st = 0) :
  Calls Tryz.prog 16 #[.pointer (some ⟨gt,0,none⟩),.slice p n c] w (TkRet w base gt be L t k D (N + 1) v (bump C (readC k t D xs)) (putK K (eqX k t xs)) (nextS K (eqX k t xs) k) (readC k t D xs)):=by
 have HG:Hid (∀ w,HalfT w→CntM w M N C→Sl B8 w p n c xs→Calls Tryz.prog 62 #[GVal L t k D M,.slice p n c] w fun e w'=>∃ b2 v0 v1 v2 v3 v4 v5 v6,e = .returned (.tuple #[GVal L t k D (.map (some b2)),.agg #[v0,v1,v2,v3,v4,v5,v6],.int .i64 (readC k t D xs)]) ∧
   CntM w' (.map (some b2)) (N + 1) (bump C (readC k t D xs))∧PkC w' w.heap.size k t D xs v0 v1 v2 v3 v4 v5 v6∧Below w.heap.size w w'):=fun w hT hC hs=>GLook_any L t k D N M C p n c xs w h.ok hT hC hN hs hr
 have H:=Lib.hid h
 have HT:=Lib.hid hT
 have HS:=Lib.hid hs
 obtain ⟨c0,c1,c2,c3,c4,c5,c6⟩:=cells_seven h.box
 rw [hc] at HG ⊢
 have HC:=Lib.hid hc
 subst hst
 obtain ⟨hmo,hX0,hYl⟩:=read_fits hc
 have hXl:(pktX k xs).length≤4096:=by
  have:=h.ok.k2
  by_cases h0:pktM xs = 0
  ·rw [hX0 h0];exact this
  ·have e:pktX k xs = []:=if_neg h0
   rw [e];simp
 have hVl:(vecS (pktM xs) (pktX k xs) (pktS k xs) k).length = k:=by
  unfold vecS
  by_cases h0:pktM xs = 0
  ·rw [if_pos h0];exact hX0 h0
  ·rw [if_neg h0,mixRow_len]
 have HQ:Hid (∀ w p j c s q d,j = (pktX k xs).length→s = pktS k xs→Sl B8 w p j c (pktX k xs)→Sl B8 w q t d (pktY k t xs)→Calls Tryz.prog 63 #[PkVal (pktM xs) D (pktN xs) (pktM xs) p j c s q t d,PVal L t k D] w (EqRet w (eqX k t xs).1 (eqX k t xs).2)):=fun w p j c s q d hj hs s1 s2=>by
  subst hs
  exact PEquation_ok L t k D (pktN xs) (pktM xs) p j c (pktS k xs) q d (pktX k xs) (pktY k t xs) w h.ok hmo (fun h0=>by rw [hj];exact hX0 h0) (by rw [hj];show _≤_;omega) s1 s2
 obtain ⟨x,hx⟩:∃ x,eqX k t xs = x:=⟨_,rfl⟩
 have hx1:x.1.length = k:=by rw [← hx];exact hVl
 have hx2:x.2.length = t:=by rw [← hx];exact hYl
 rw [hx] at HQ ⊢
 have HX1:=Lib.hid hx1
 have HX2:=Lib.hid hx2
 have HYl:=Lib.hid hYl
 clear h hT hs hr hN hc hmo hX0 hYl hXl hVl hx hx1 hx2
 go_enter Tryz.func16,Tryz.ntmps16
 go_wp2_with fail
 refine Calls.mono (HG.out _ HT.out H.out.cnt HS.out) ?_
 rintro e w1 ⟨b2,v0,v1,v2,v3,v4,v5,v6,rfl,hcn,hpk,hb⟩
 have HB:=Lib.hid hb
 have HCn:=Lib.hid hcn
 have HPk:=Lib.hid hpk
 obtain ⟨o0,o1,o2,o3,o4,o5,o6⟩:=hpk.1
 clear c0 c1 c2 c3 c4 c5 c6 hb hcn hpk
 go_wp2_with (first | (refine wpList_store_row (o:=⟨none,.store 111 (.tmp 5) (.tmp 19),_,_,_,_⟩) rfl 111 (.tmp 5) (.tmp 19) rfl w1.heap.size #[.int .i64 (L:Nat),.int .i64 (t:Nat),.int .i64 (k:Nat),.int .u32 (D:Nat),.map (some b2)] rfl rfl _ _ (hal (hnew rfl)) info_gate rfl (ones_gate rfl) ?_) | (refine wpList_store_rowS (o:=⟨none,.store 122 (.tmp 6) (.tmp 20),_,_,_,_⟩) rfl 122 (.tmp 6) (.tmp 20) rfl (w1.heap.size + 1) #[v0,v1,v2,v3,v4,v5,v6] rfl rfl _ _ (hro (hnew (by simp)) (by omega)) info_packet rfl (by simp [o0,o1,o2,o3,o4,o5,o6]) ?_))
 intro w2 hr2
 have HB2:Hid (Below w.heap.size w w2):=by rw [hr2.eq];exact below_row (below_row (al (al HB.out HB.out.size) (by have:=HB.out.size;simp;omega)) HB.out.size) (by have:=HB.out.size;omega)
 have k5:w2.heap[w1.heap.size]? = some (.cells #[.int .i64 (L:Nat),.int .i64 (t:Nat),.int .i64 (k:Nat),.int .u32 (D:Nat),.map (some b2)] 111 (0,0)):=by rw [hr2.eq];exact hro (hrs (hal (hnew rfl))) (by omega)
 have k6:w2.heap[w1.heap.size + 1]? = some (.cells #[v0,v1,v2,v3,v4,v5,v6] 122 (0,0)):=by rw [hr2.eq];exact hrs (hro (hnew (by simp)) (by omega))
 have kt:=(HB2.out.block _ (lt_of_block H.out.box)).trans H.out.box
 have HPk2:Hid (PkC w2 w.heap.size k t D xs v0 v1 v2 v3 v4 v5 v6):=by rw [hr2.eq];exact ((HPk.out.keep (al (al (Below.refl _ _) (Nat.le_refl _)) (by simp))).row (hal (hnew rfl)) gate_ne).row (hro (hnew (by simp)) (by omega)) pkt_ne
 have HCn2:Hid (CntM w2 (.map (some b2)) (N + 1) (bump C 0)):=by rw [hr2.eq];exact ((HCn.out.keep (al (al (Below.refl _ _) (Nat.le_refl _)) (by simp))).row (hal (hnew rfl))).row (hro (hnew (by simp)) (by omega))
 have hgt:=lt_of_block H.out.box
 have hG5:=HB.out.size
 clear hr2 HCn HPk HB
 obtain ⟨g5,hg5⟩:∃ g5,g5 = w1.heap.size:=⟨_,rfl⟩
 rw [← hg5] at k5 k6 hG5 ⊢
 clear hg5
 obtain ⟨c0,c1,c2,c3,c4,c5,c6⟩:=cells_seven kt
 obtain ⟨d0,d1,d2,d3,d4⟩:=cells_five k5
 go_wp2_with (refine wpList_store_five (o:=⟨none,.store 111 (.tmp 25) (.tmp 23),_,_,_,_⟩) rfl 111 (.tmp 25) (.tmp 23) rfl gt (L:Nat) (t:Nat) (k:Nat) (D:Nat) b2 _ _ _ _ _ _ _ _ rfl rfl kt info_gate Tryz.underlying111 ?_)
 intro w3 hO kt3
 have HO:=Lib.hid hO
 have m5:=(hO.block g5 (by omega)).trans k5
 have m6:=(hO.block (g5 + 1) (by omega)).trans k6
 have HCn3:=Lib.hid (HCn2.out.one hO kt)
 have HPk3:=Lib.hid (HPk2.out.one hO kt tk_ne.1)
 have HEl:=Lib.hid (hO.elm (H.out.elm.keep HB2.out) kt tk_ne.2.1 tk_ne.2.2 tk_ne.1)
 have HTC:=Lib.hid ((TChg.of gt be v HB2.out).one hO)
 have HT3:=Lib.hid (HT.out.keep HB2.out)
 have hs3:w3.heap.size = w2.heap.size:=hO.size
 have hl6:=lt_of_block k6
 clear k5 k6 kt hO c0 c1 c2 c3 c4 c5 c6 d0 d1 d2 d3 d4 HCn2 HPk2
 obtain ⟨c0,c1,c2,c3,c4,c5,c6⟩:=cells_seven kt3
 obtain ⟨q,j,cq,q2,j2,cq2,r0,r1,r2,r3,r4,r5,r6,f1,f2⟩:=HPk3.out.2 HC.out
 subst r0 r1 r2 r3 r4 r5 r6
 have hj2:t = j2:=by rw [← f2.sl.len];exact HYl.out.symm
 subst hj2
 have hj:=f1.sl.len
 have F1:=Lib.hid f1.sl
 have F2:=Lib.hid f2.sl
 have HJ:=Lib.hid hj.symm
 clear f1 f2 hj
 obtain ⟨d0,d1,d2,d3,d4⟩:=cells_five m5
 obtain ⟨f0,f1,f2,f3,f4,f5,f6⟩:=cells_seven m6
 go_wp2_with fail
 refine Calls.mono (HQ.out _ _ _ _ _ _ _ HJ.out rfl F1.out F2.out) ?_
 rintro e w4 ⟨qa,na,ca,qb,nb,cb,rfl,Fa,Fb,hb⟩
 have hna:k = na:=by rw [← Fa.sl.len];exact HX1.out.symm
 have hnb:t = nb:=by rw [← Fb.sl.len];exact HX2.out.symm
 subst hna hnb
 have kt4:=(hb.block _ (lt_of_block kt3)).trans kt3
 have n5:=(hb.block _ (lt_of_block m5)).trans m5
 have HCn4:=Lib.hid (HCn3.out.keep hb)
 have HEl4:=Lib.hid (HEl.out.keep hb)
 have HTC4:=Lib.hid (HTC.out.then hb)
 have SA:=Lib.hid Fa.sl
 have SB:=Lib.hid Fb.sl
 have hown:v.ownBlock≠some w4.heap.size:=fun e=>by have:=(HEl4.out.rows.lt _ e).2;omega
 have HW:=Lib.hid (lt_of_block m5)
 have hs4:=hb.size
 clear hb kt3 m5 m6 HCn3 HPk3 HEl HTC Fa Fb c0 c1 c2 c3 c4 c5 c6 d0 d1 d2 d3 d4 f0 f1 f2 f3 f4 f5 f6
 go_wp2_with fail
 have kt5:(w4.alloc (.cells #[.slice qa k ca,.slice qb t cb] 99 (0,0))).heap[gt]? = some (.cells #[.int .i64 (L:Nat),.int .i64 (t:Nat),.int .i64 (k:Nat),.int .u32 (D:Nat),.map (some b2),.pointer (some ⟨be,0,none⟩),.int .i64 (0:Nat)] 118 (0,0)):=hal kt4
 have kg5:(w4.alloc (.cells #[.slice qa k ca,.slice qb t cb] 99 (0,0))).heap[g5]? = some (.cells #[.int .i64 (L:Nat),.int .i64 (t:Nat),.int .i64 (k:Nat),.int .u32 (D:Nat),.map (some b2)] 111 (0,0)):=hal n5
 have kr5:(w4.alloc (.cells #[.slice qa k ca,.slice qb t cb] 99 (0,0))).heap[w4.heap.size]? = some (.cells #[.slice qa k ca,.slice qb t cb] 99 (0,0)):=hnew rfl
 have HCn5:=Lib.hid (HCn4.out.keep (al (o:=.cells #[.slice qa k ca,.slice qb t cb] 99 (0,0)) (Below.refl _ _) (Nat.le_refl _)))
 have HEl5:=Lib.hid (HEl4.out.keep (al (o:=.cells #[.slice qa k ca,.slice qb t cb] 99 (0,0)) (Below.refl _ _) (Nat.le_refl _)))
 have HTC5:=Lib.hid (HTC4.out.then (al (o:=.cells #[.slice qa k ca,.slice qb t cb] 99 (0,0)) (Below.refl _ _) (Nat.le_refl _)))
 have SA5:=Lib.hid (SA.out.keep (al (o:=.cells #[.slice qa k ca,.slice qb t cb] 99 (0,0)) (Below.refl _ _) (Nat.le_refl _)))
 have SB5:=Lib.hid (SB.out.keep (al (o:=.cells #[.slice qa k ca,.slice qb t cb] 99 (0,0)) (Below.refl _ _) (Nat.le_refl _)))
 clear kt4 n5 HCn4 HEl4 HTC4 SA SB
 obtain ⟨g8,hg8⟩:∃ g8,g8 = w4.heap.size:=⟨_,rfl⟩
 rw [← hg8] at kr5 hown hs4 ⊢
 clear hg8
 generalize w4.alloc (.cells #[.slice qa k ca,.slice qb t cb] 99 (0,0)) = w5 at *
 have hmem:Hid (∀ W,(W = w5.drew∨PutP base be k t v K x w5 W)→W.heap[gt]? = some (.cells #[.int .i64 (L:Nat),.int .i64 (t:Nat),.int .i64 (k:Nat),.int .u32 (D:Nat),.map (some b2),.pointer (some ⟨be,0,none⟩),.int .i64 (0:Nat)] 118 (0,0))∧W.heap[g8]? = some (.cells #[.slice qa k ca,.slice qb t cb] 99 (0,0))):=by
  intro W hW
  rcases hW with rfl | ⟨v',n',-,hc,-⟩
  ·exact ⟨kt5,kr5⟩
  ·exact ⟨hc.blk2 HEl5.out kt5 tk_ne.2.1 tk_ne.2.2,hc.blk HEl5.out kr5 (by decide) hown⟩
 refine wp_region_call (fun ix=>([.pointer (some ⟨gt,0,none⟩),.pointer (some ⟨gt,0,none⟩),.pointer (some ⟨gt,5,none⟩),.pointer (some ⟨be,0,none⟩),.agg #[.slice qa k ca,.slice qb t cb],.tuple #[.int .i64 (codeF K x),.int .i64 0],.tuple #[.int .i64 (codeF K x),.int .i64 0],.int .i64 (codeF K x),.int .i64 0,.int .i64 (codeF K x),.int .i64 0][ix]?).getD undef) 75 5 (PutP base be k t v K x w5) rfl (by kernel_rfl) (by decide) (by decide) (by decide) (by decide) (by decide) ?_ ?_ ?_
 ·intro i o h1 ho a W hW hs hp hi
  obtain ⟨m1,m2⟩:=hmem.out W hW
  match i,h1,ho with
  | 0,_,ho =>
   simp at ho;subst ho
   have tt:sl a 0 = .pointer (some ⟨gt,0,none⟩):=hi 0 (by decide)
   simp only [execOp,eval_tmp,tt];rfl
  | 1,_,ho =>
   simp at ho;subst ho
   have tt:sl a 47 = .pointer (some ⟨gt,0,none⟩):=hp 0 47 (by decide) rfl
   simp only [execOp,eval_tmp,tt];simp [go_sem]
  | 2,_,ho =>
   simp at ho;subst ho
   have tt:sl a 48 = .pointer (some ⟨gt,0,none⟩):=hp 1 48 (by decide) rfl
   simp only [execOp,eval_tmp,tt];simp [go_sem]
  | 3,_,ho =>
   simp at ho;subst ho
   have tt:sl a 49 = .pointer (some ⟨gt,5,none⟩):=hp 2 49 (by decide) rfl
   obtain ⟨x0,x1,x2,x3,x4,x5,x6⟩:=cells_seven m1
   simp only [execOp,eval_tmp,tt];simp [go_sem,x5]
  | 4,_,ho =>
   simp at ho;subst ho
   have tt:sl a 8 = .pointer (some ⟨g8,0,none⟩):=hi 8 (by decide)
   obtain ⟨x0,x1⟩:=cells2 m2
   simp only [execOp,eval_tmp,tt];simp [go_sem,x0,x1]
  | 6,_,ho =>
   simp at ho;subst ho
   have tt:sl a 52 = .tuple #[.int .i64 (codeF K x),.int .i64 0]:=hp 5 52 (by decide) rfl
   simp only [execOp,eval_tmp,tt];rfl
  | 7,_,ho =>
   simp at ho;subst ho
   have tt:sl a 46 = .tuple #[.int .i64 (codeF K x),.int .i64 0]:=hp 6 46 (by decide) rfl
   simp only [execOp,eval_tmp,tt];rfl
  | 8,_,ho =>
   simp at ho;subst ho
   have tt:sl a 46 = .tuple #[.int .i64 (codeF K x),.int .i64 0]:=hp 6 46 (by decide) rfl
   simp only [execOp,eval_tmp,tt];rfl
  | 9,_,ho =>
   simp at ho;subst ho
   have tt:sl a 53 = .int .i64 (codeF K x):=hp 7 53 (by decide) rfl
   simp only [execOp,eval_tmp,tt];rfl
  | 10,_,ho =>
   simp at ho;subst ho
   have tt:sl a 54 = .int .i64 0:=hp 8 54 (by decide) rfl
   simp only [execOp,eval_tmp,tt];rfl
  | 5,h,_=>exact absurd rfl h
  | j + 11,_,ho=>simp at ho
 ·intro o ho a hs hp hi
  simp at ho;subst ho
  have t50:sl a 50 = .pointer (some ⟨be,0,none⟩):=hp 3 50 (by decide) rfl
  have t51:sl a 51 = .agg #[.slice qa k ca,.slice qb t cb]:=hp 4 51 (by decide) rfl
  have hbd:Below w5.heap.size w5 w5.drew:=⟨rfl,rfl,rfl,Nat.le_refl _,fun _ _=>rfl⟩
  refine wp_enter 64 #[.pointer (some ⟨be,0,none⟩),.agg #[.slice qa k ca,.slice qb t cb]] ?_ (EPut_fit base be k t K.length v K qa qb ca cb x w5.drew (HEl5.out.keep hbd) (SA5.out.keep hbd) (SB5.out.keep hbd) H.out.red H.out.ok.k2 H.out.ok.t2 (Nat.le_trans (Red.le H.out.red) H.out.ok.k2)) ?_
  ·simp only [execOp,resolve,List.map_toArray,List.map,eval_tmp,eval_func,eval_const,t50,t51];simp [go_sem]
  ·rintro e W' ⟨rfl,v',n',g1,g2,g3⟩
   exact ⟨_,rfl,rfl,v',n',g1,⟨g2.os,g2.tape,g2.output,g2.size,g2.block⟩,g3⟩
 ·intro a W hP1 hs hd hI ht
  have ha:=act_is [47,48,49,50,51,52,46,53,54,9,7] hs hd ht (by decide)
  have t9:sl a 9 = .int .i64 (codeF K x):=hI 9 9 (by decide) rfl
  have t7:sl a 7 = .int .i64 0:=hI 10 7 (by decide) rfl
  simp only [List.foldl,t9,t7] at ha
  generalize sl a 47 = u47 at ha
  generalize sl a 48 = u48 at ha
  generalize sl a 49 = u49 at ha
  generalize sl a 50 = u50 at ha
  generalize sl a 51 = u51 at ha
  generalize sl a 52 = u52 at ha
  generalize sl a 46 = u46 at ha
  generalize sl a 53 = u53 at ha
  generalize sl a 54 = u54 at ha
  simp only [Act.put,List.setIfInBounds_toArray,List.set_cons_zero,List.set_cons_succ] at ha
  rw [ha]
  obtain ⟨kt6,-⟩:=hmem.out W (.inr hP1)
  have kg6:W.heap[g5]? = some (.cells #[.int .i64 (L:Nat),.int .i64 (t:Nat),.int .i64 (k:Nat),.int .u32 (D:Nat),.map (some b2)] 111 (0,0)):=by
   obtain ⟨v',n',-,hc,-⟩:=hP1
   exact hc.blk2 HEl5.out kg5 (by decide) (by decide)
  have HCn6:Hid (CntM W (.map (some b2)) (N + 1) (bump C 0)):=by
   obtain ⟨v',n',-,hc,-⟩:=hP1
   refine ⟨?_,HCn5.out.small⟩
   rcases HCn5.out.at_ with h1 | ⟨bb,e,ho⟩
   ·exact .inl h1
   ·refine .inr ⟨bb,e,?_⟩
    have hlt:=ho.lt
    obtain ⟨es,clock,j1,F,j2,j3⟩:=ho
    refine ⟨es,clock,(hc.block bb hlt (fun e=>?_) (fun e=>?_)).trans j1,F,j2,j3⟩
    ·have:=HEl5.out.box;rw [← e,j1] at this;cases this
    ·obtain ⟨vs,_,_,o,_⟩:=HEl5.out.rows
     rcases o.2 with ⟨e1,_⟩ | ⟨g',cap,cur,e1,_,hh,_⟩
     ·rw [e1] at e;cases e
     ·rw [e1] at e;cases e
      rw [j1] at hh;cases hh
  obtain ⟨v',n',hE6,hc6,ho6⟩:=hP1
  have hn':n' = (putK K x).length:=hE6.rows.len.symm
  subst hn'
  have HE6:=Lib.hid hE6
  have HTC6:=Lib.hid (HTC5.out.chg hc6)
  have HO6:Hid (v'.ownBlock = v.ownBlock∨∀ b,v'.ownBlock = some b→w.heap.size≤b):=by
   rcases ho6 with h | h
   ·exact .inl h
   ·exact .inr fun b hb=>Nat.le_trans HTC5.out.size (h b hb)
  have HRd:Hid (Red k t (putK K x)):=by
   unfold putK
   by_cases hn:leadS (restF K x).1 < 0
   ·rw [if_pos hn];exact H.out.red
   ·rw [if_neg hn];exact (putF_red H.out.red ⟨HX1.out,HX2.out⟩ hn).1
  clear ha hI ht hs hd t9 t7 hE6 hc6 ho6 kt5 kg5 kr5 hmem hown
  obtain ⟨x0,x1,x2,x3,x4,x5,x6⟩:=cells_seven kt6
  have z6:=frozen_of_row _ _ 6 _ _ kt6
  have y2:=(cells_five kg6).2.2.1
  by_cases hcl:codeF K x = 2
  ·have HNX:Hid (nextS K x k = 2):=by unfold nextS;rw [if_pos hcl];rfl
   go_wp2
   go_ret
   have hO:OneE W gt (W.setCell ⟨gt,6,none⟩ (.int .i64 2)):=(OneE.refl W gt).set _
   exact ⟨rfl,.map (some b2),v',⟨H.out.ok,by rw [HNX.out];exact hss kt6,HCn6.out.one hO kt6,hO.elm HE6.out kt6 tk_ne.2.1 tk_ne.2.2 tk_ne.1,HRd.out,H.out.old⟩,HTC6.out.one hO,HO6.out⟩
  ·have e9:(codeF K x == 2) = false:=beq_eq_false_iff_ne.2 hcl
   by_cases hfull:(putK K x).length = k
   ·have HNX:Hid (nextS K x k = 1):=by unfold nextS;rw [if_neg hcl,if_pos hfull];rfl
    have e15:(((putK K x).length:Int) == (k:Int)) = true:=by simp [hfull]
    clear hcl hfull
    go_wp2_with fail
    refine wp_region_shapes (fun ix=>([.val (.pointer (some ⟨gt,0,none⟩)),.val (.pointer (some ⟨gt,0,none⟩)),.val (.pointer (some ⟨gt,5,none⟩)),.val (.pointer (some ⟨be,0,none⟩)),.val (.int .i64 ((putK K x).length:Nat)),.val (.pointer (some ⟨g5,0,none⟩)),.val (.pointer (some ⟨g5,2,none⟩)),.val (.int .i64 (k:Nat)),.val (.bool true)][ix]?).getD (.any)) 75 rfl (by kernel_rfl) (by decide) (by decide) (by decide) ?_ ?_
    ·refine ⟨?_,?_,?_,?_,?_,?_,?_,?_,?_,trivial⟩
     ·intro a W hb0 hs hp hi;have hb:=undrew hb0;clear hb0
      have t0:sl a 0 = .pointer (some ⟨gt,0,none⟩):=hi 0 (by decide)
      exact ite_y rfl (wp_val (sl a 0) rfl ⟨_,rfl,Below.refl _ _,t0⟩)
     ·intro a W hb0 hs hp hi;have hb:=undrew hb0;clear hb0
      have tt:sl a 63 = .pointer (some ⟨gt,0,none⟩):=hp 0 (by decide)
      refine ite_y rfl (wp_val (.pointer (some ⟨gt,0,none⟩)) ?_ ?_)
      ·simp only [execOp,eval_tmp,tt];simp [go_sem]
      ·exact ⟨_,rfl,Below.refl _ _,rfl⟩
     ·intro a W hb0 hs hp hi;have hb:=undrew hb0;clear hb0
      have t64:sl a 64 = .pointer (some ⟨gt,0,none⟩):=hp 1 (by decide)
      refine ite_y rfl (wp_val (.pointer (some ⟨gt,5,none⟩)) ?_ ?_)
      ·simp only [execOp,eval_tmp,eval_const,t64];simp [go_sem]
      ·exact ⟨_,rfl,Below.refl _ _,rfl⟩
     ·intro a W hb0 hs hp hi;have hb:=undrew hb0;clear hb0
      have tt:sl a 65 = .pointer (some ⟨gt,5,none⟩):=hp 2 (by decide)
      have dd:=(hb.cell (p:=⟨gt,5,none⟩) (lt_of_cell x5)).trans x5
      refine ite_y rfl (wp_val (.pointer (some ⟨be,0,none⟩)) ?_ ?_)
      ·simp only [execOp,eval_tmp,tt];simp [go_sem,dd]
      ·exact ⟨_,rfl,Below.refl _ _,rfl⟩
     ·intro a W hb0 hs hp hi;have hb:=undrew hb0;clear hb0
      have t66:sl a 66 = .pointer (some ⟨be,0,none⟩):=hp 3 (by decide)
      refine ite_y rfl (wp_enter 65 #[.pointer (some ⟨be,0,none⟩)] ?_ (Rank_any' base be k t _ v' _ _ (HE6.out.keep hb)) ?_)
      ·simp only [execOp,resolve,List.map_toArray,List.map,eval_tmp,eval_func,eval_const,t66];simp [go_sem]
      ·rintro e W' ⟨rfl,rfl⟩;exact ⟨_,rfl,_,rfl,Below.refl _ _,rfl⟩
     ·intro a W hb0 hs hp hi;have hb:=undrew hb0;clear hb0
      have tt:sl a 5 = .pointer (some ⟨g5,0,none⟩):=hi 5 (by decide)
      refine ite_y rfl (wp_val (.pointer (some ⟨g5,0,none⟩)) ?_ ?_)
      ·simp only [execOp,eval_tmp,tt];simp [go_sem]
      ·exact ⟨_,rfl,Below.refl _ _,rfl⟩
     ·intro a W hb0 hs hp hi;have hb:=undrew hb0;clear hb0
      have tt:sl a 68 = .pointer (some ⟨g5,0,none⟩):=hp 5 (by decide)
      refine ite_y rfl (wp_val (.pointer (some ⟨g5,2,none⟩)) ?_ ?_)
      ·simp only [execOp,eval_tmp,tt];simp [go_sem]
      ·exact ⟨_,rfl,Below.refl _ _,rfl⟩
     ·intro a W hb0 hs hp hi;have hb:=undrew hb0;clear hb0
      have tt:sl a 69 = .pointer (some ⟨g5,2,none⟩):=hp 6 (by decide)
      have dd:=(hb.cell (p:=⟨g5,2,none⟩) (lt_of_cell y2)).trans y2
      refine ite_y rfl (wp_val (.int .i64 (k:Nat)) ?_ ?_)
      ·simp only [execOp,eval_tmp,tt];simp [go_sem,dd]
      ·exact ⟨_,rfl,Below.refl _ _,rfl⟩
     ·intro a W hb0 hs hp hi;have hb:=undrew hb0;clear hb0
      have t67:sl a 67 = .int .i64 ((putK K x).length:Nat):=hp 4 (by decide)
      have t70:sl a 70 = .int .i64 (k:Nat):=hp 7 (by decide)
      refine ite_y rfl (wp_val (.bool true) ?_ ?_)
      ·simp only [execOp,eval_tmp,eval_const,t67,t70];simp [go_sem,e15]
      ·exact ⟨_,rfl,Below.refl _ _,rfl⟩
    intro a w9 hb hs hd hI ht
    have ha:=act_is [63,64,65,66,67,68,69,70,71] hs hd ht (by decide)
    have t71:sl a 71 = .bool true:=hI 8 (by decide)
    simp only [List.foldl,t71] at ha
    generalize sl a 63 = u63 at ha
    generalize sl a 64 = u64 at ha
    generalize sl a 65 = u65 at ha
    generalize sl a 66 = u66 at ha
    generalize sl a 67 = u67 at ha
    generalize sl a 68 = u68 at ha
    generalize sl a 69 = u69 at ha
    generalize sl a 70 = u70 at ha
    simp only [Act.put,List.setIfInBounds_toArray,List.set_cons_zero,List.set_cons_succ] at ha
    rw [ha]
    clear ha hI ht
    have kt7:=(hb.block _ (lt_of_block kt6)).trans kt6
    have HB7:=Lib.hid hb
    obtain ⟨x0,x1,x2,x3,x4,x5,x6⟩:=cells_seven kt7
    have z6:=frozen_of_row _ _ 6 _ _ kt7
    clear hb
    go_wp2
    go_ret
    have hO:OneE w9 gt (w9.setCell ⟨gt,6,none⟩ (.int .i64 1)):=(OneE.refl w9 gt).set _
    exact ⟨rfl,.map (some b2),v',⟨H.out.ok,by rw [HNX.out];exact hss kt7,(HCn6.out.keep HB7.out).one hO kt7,hO.elm (HE6.out.keep HB7.out) kt7 tk_ne.2.1 tk_ne.2.2 tk_ne.1,HRd.out,H.out.old⟩,(HTC6.out.then HB7.out).one hO,HO6.out⟩
   ·have HNX:Hid (nextS K x k = 0):=by unfold nextS;rw [if_neg hcl,if_neg hfull];rfl
    have e15:(((putK K x).length:Int) == (k:Int)) = false:=beq_eq_false_iff_ne.2 (by omega)
    clear hcl hfull
    go_wp2_with fail
    refine wp_region_shapes (fun ix=>([.val (.pointer (some ⟨gt,0,none⟩)),.val (.pointer (some ⟨gt,0,none⟩)),.val (.pointer (some ⟨gt,5,none⟩)),.val (.pointer (some ⟨be,0,none⟩)),.val (.int .i64 ((putK K x).length:Nat)),.val (.pointer (some ⟨g5,0,none⟩)),.val (.pointer (some ⟨g5,2,none⟩)),.val (.int .i64 (k:Nat)),.val (.bool false)][ix]?).getD (.any)) 75 rfl (by kernel_rfl) (by decide) (by decide) (by decide) ?_ ?_
    ·refine ⟨?_,?_,?_,?_,?_,?_,?_,?_,?_,trivial⟩
     ·intro a W hb0 hs hp hi;have hb:=undrew hb0;clear hb0
      have t0:sl a 0 = .pointer (some ⟨gt,0,none⟩):=hi 0 (by decide)
      exact ite_y rfl (wp_val (sl a 0) rfl ⟨_,rfl,Below.refl _ _,t0⟩)
     ·intro a W hb0 hs hp hi;have hb:=undrew hb0;clear hb0
      have tt:sl a 63 = .pointer (some ⟨gt,0,none⟩):=hp 0 (by decide)
      refine ite_y rfl (wp_val (.pointer (some ⟨gt,0,none⟩)) ?_ ?_)
      ·simp only [execOp,eval_tmp,tt];simp [go_sem]
      ·exact ⟨_,rfl,Below.refl _ _,rfl⟩
     ·intro a W hb0 hs hp hi;have hb:=undrew hb0;clear hb0
      have t64:sl a 64 = .pointer (some ⟨gt,0,none⟩):=hp 1 (by decide)
      refine ite_y rfl (wp_val (.pointer (some ⟨gt,5,none⟩)) ?_ ?_)
      ·simp only [execOp,eval_tmp,eval_const,t64];simp [go_sem]
      ·exact ⟨_,rfl,Below.refl _ _,rfl⟩
     ·intro a W hb0 hs hp hi;have hb:=undrew hb0;clear hb0
      have tt:sl a 65 = .pointer (some ⟨gt,5,none⟩):=hp 2 (by decide)
      have dd:=(hb.cell (p:=⟨gt,5,none⟩) (lt_of_cell x5)).trans x5
      refine ite_y rfl (wp_val (.pointer (some ⟨be,0,none⟩)) ?_ ?_)
      ·simp only [execOp,eval_tmp,tt];simp [go_sem,dd]
      ·exact ⟨_,rfl,Below.refl _ _,rfl⟩
     ·intro a W hb0 hs hp hi;have hb:=undrew hb0;clear hb0
      have t66:sl a 66 = .pointer (some ⟨be,0,none⟩):=hp 3 (by decide)
      refine ite_y rfl (wp_enter 65 #[.pointer (some ⟨be,0,none⟩)] ?_ (Rank_any' base be k t _ v' _ _ (HE6.out.keep hb)) ?_)
      ·simp only [execOp,resolve,List.map_toArray,List.map,eval_tmp,eval_func,eval_const,t66];simp [go_sem]
      ·rintro e W' ⟨rfl,rfl⟩;exact ⟨_,rfl,_,rfl,Below.refl _ _,rfl⟩
     ·intro a W hb0 hs hp hi;have hb:=undrew hb0;clear hb0
      have tt:sl a 5 = .pointer (some ⟨g5,0,none⟩):=hi 5 (by decide)
      refine ite_y rfl (wp_val (.pointer (some ⟨g5,0,none⟩)) ?_ ?_)
      ·simp only [execOp,eval_tmp,tt];simp [go_sem]
      ·exact ⟨_,rfl,Below.refl _ _,rfl⟩
     ·intro a W hb0 hs hp hi;have hb:=undrew hb0;clear hb0
      have tt:sl a 68 = .pointer (some ⟨g5,0,none⟩):=hp 5 (by decide)
      refine ite_y rfl (wp_val (.pointer (some ⟨g5,2,none⟩)) ?_ ?_)
      ·simp only [execOp,eval_tmp,tt];simp [go_sem]
      ·exact ⟨_,rfl,Below.refl _ _,rfl⟩
     ·intro a W hb0 hs hp hi;have hb:=undrew hb0;clear hb0
      have tt:sl a 69 = .pointer (some ⟨g5,2,none⟩):=hp 6 (by decide)
      have dd:=(hb.cell (p:=⟨g5,2,none⟩) (lt_of_cell y2)).trans y2
      refine ite_y rfl (wp_val (.int .i64 (k:Nat)) ?_ ?_)
      ·simp only [execOp,eval_tmp,tt];simp [go_sem,dd]
      ·exact ⟨_,rfl,Below.refl _ _,rfl⟩
     ·intro a W hb0 hs hp hi;have hb:=undrew hb0;clear hb0
      have t67:sl a 67 = .int .i64 ((putK K x).length:Nat):=hp 4 (by decide)
      have t70:sl a 70 = .int .i64 (k:Nat):=hp 7 (by decide)
      refine ite_y rfl (wp_val (.bool false) ?_ ?_)
      ·simp only [execOp,eval_tmp,eval_const,t67,t70];simp [go_sem,e15]
      ·exact ⟨_,rfl,Below.refl _ _,rfl⟩
    intro a w9 hb hs hd hI ht
    have ha:=act_is [63,64,65,66,67,68,69,70,71] hs hd ht (by decide)
    have t71:sl a 71 = .bool false:=hI 8 (by decide)
    simp only [List.foldl,t71] at ha
    generalize sl a 63 = u63 at ha
    generalize sl a 64 = u64 at ha
    generalize sl a 65 = u65 at ha
    generalize sl a 66 = u66 at ha
    generalize sl a 67 = u67 at ha
    generalize sl a 68 = u68 at ha
    generalize sl a 69 = u69 at ha
    generalize sl a 70 = u70 at ha
    simp only [Act.put,List.setIfInBounds_toArray,List.set_cons_zero,List.set_cons_succ] at ha
    rw [ha]
    clear ha hI ht
    have kt7:=(hb.block _ (lt_of_block kt6)).trans kt6
    have HB7:=Lib.hid hb
    clear hb
    go_wp2
    go_ret
    exact ⟨rfl,.map (some b2),v',⟨H.out.ok,by rw [HNX.out];exact kt7,HCn6.out.keep HB7.out,HE6.out.keep HB7.out,HRd.out,H.out.old⟩,HTC6.out.then HB7.out,HO6.out⟩
def takeK (k t D:Nat) (K:List Rw) (st:Nat) (xs:List UInt8):List Rw:=if readC k t D xs = 0∧st = 0 then putK K (eqX k t xs) else K
def takeS (k t D:Nat) (K:List Rw) (st:Nat) (xs:List UInt8):Nat:=if readC k t D xs = 0∧st = 0 then nextS K (eqX k t xs) k else st
theorem TTake_any (base gt be L t k D N:Nat) (M v:Value) (C:DataW Unit) (K:List Rw) (st:Nat) (p:Option Addr) (n c:Nat) (xs:List UInt8) (w:World) (h:Tkr w base gt be L t k D N M v C K st) (hT:HalfT w) (hN:N < 1000000) (hs:Sl B8 w p n c xs) (hr:Room n) :
  Calls Tryz.prog 16 #[.pointer (some ⟨gt,0,none⟩),.slice p n c] w (TkRet w base gt be L t k D (N + 1) v (bump C (readC k t D xs)) (takeK k t D K st xs) (takeS k t D K st xs) (readC k t D xs)):=by
 unfold takeK takeS
 by_cases hc:readC k t D xs = 0
 ·by_cases hst:st = 0
  ·rw [if_pos ⟨hc,hst⟩,if_pos ⟨hc,hst⟩]
   exact TTake_put base gt be L t k D N M v C K st p n c xs w h hT hN hs hr hc hst
  ·rw [if_neg (fun e=>hst e.2),if_neg (fun e=>hst e.2)]
   exact TTake_done base gt be L t k D N M v C K st p n c xs w h hT hN hs hr hc hst
 ·rw [if_neg (fun e=>hc e.1),if_neg (fun e=>hc e.1)]
  exact TTake_bad base gt be L t k D N M v C K st p n c xs w h hT hN hs hr hc
end Go.Proofs.YtccaiiigdfieoaaGreatDoor
namespace Go.Proofs.YtccaiiigdfieoaaGreatDoor
open Go.RowKit Go.By
end Go.Proofs.YtccaiiigdfieoaaGreatDoor
namespace Go.Proofs.YtccaiiigdfieoaaGreatDoor
open Go.RowKit Go.By
theorem Sl.take {α:Type} {enc:α→Value} {w:World} {p:Option Addr} {n c k c2:Nat} {xs:List α} (h:Sl enc w p n c xs) (hk:k≤n) (h1:k≤c2) (h2:c2≤c):Sl enc w p k c2 (xs.take k):=by
 refine ⟨by rw [List.length_take,h.len];omega,h1,Nat.le_trans h2 h.max,fun e=>?_,?_⟩
 ·have:=h.nil e;omega
 ·intro i hi
  have hi':i < xs.length:=by rw [List.length_take] at hi;omega
  obtain ⟨b,o,hp,hc⟩:=h.rs i hi'
  exact ⟨b,o,hp,by rw [hc];simp⟩
theorem Sl.drop_at {α:Type} {enc:α→Value} {w:World} {ad:Addr} {n c k:Nat} {xs:List α} (h:Sl enc w (some ad) n c xs) (hk:k≤n):Sl enc w (some (ad.add k)) (n - k) (c - k) (xs.drop k):=by
 refine ⟨by rw [List.length_drop,h.len],by have:=h.le;omega,by have:=h.max;omega,fun e=>(by cases e),?_⟩
 intro i hi
 have hi':k + i < xs.length:=by rw [List.length_drop] at hi;omega
 obtain ⟨b,o,hp,hc⟩:=h.rs (k + i) hi'
 cases hp
 exact ⟨b,o + k,by rw [Addr.add_lit],by rw [show o + k + i = o + (k + i) by omega,hc];simp⟩
end Go.Proofs.YtccaiiigdfieoaaGreatDoor
namespace Go.Proofs.YtccaiiigdfieoaaGreatDoor
open Go.RowKit Go.By
end Go.Proofs.YtccaiiigdfieoaaGreatDoor
namespace Go.Proofs.YtccaiiigdfieoaaGreatDoor
open Go.RowKit Go.By
end Go.Proofs.YtccaiiigdfieoaaGreatDoor
namespace Go.Proofs.YtccaiiigdfieoaaGreatDoor
open Go.RowKit Go.By
theorem lt_of_blk {w:World} {b:Nat} {o:Obj} (h:w.heap[b]? = some o):b < w.heap.size:=by
 rcases Nat.lt_or_ge b w.heap.size with g | g
 ·exact g
 ·rw [Array.getElem?_eq_none g] at h;cases h
theorem cells4 {w:World} {b T:Nat} {u v x y:Value} (h:w.heap[b]? = some (.cells #[u,v,x,y] T (0,0))):w.cell? ⟨b,0,none⟩ = some u∧w.cell? ⟨b,1,none⟩ = some v∧w.cell? ⟨b,2,none⟩ = some x∧w.cell? ⟨b,3,none⟩ = some y :=
 ⟨cell_of_row _ _ 0 _ _ _ h,cell_of_row _ _ 1 _ _ _ h,cell_of_row _ _ 2 _ _ _ h,cell_of_row _ _ 3 _ _ _ h⟩
end Go.Proofs.YtccaiiigdfieoaaGreatDoor
namespace Go.By
open Go.RowKit
def pieceS (o:List UInt8) (s i:Nat):List UInt8:=fillC (List.replicate s 0) (o.drop (i * s))
theorem pieceS_len (o:List UInt8) (s i:Nat):(pieceS o s i).length = s:=by unfold pieceS;rw [fillS_lenC,List.length_replicate]
def tabC (m s:Nat) (G:List Nat):Array Value:=(G.map (fun g=>Value.slice (some ⟨g,0,none⟩) s s) ++ List.replicate (m - G.length) (Value.slice none 0 0)).toArray
theorem tabC_at {m s k:Nat} {G:List Nat} (h:G.length = k) (hk:k < m):(tabC m s G)[k]? = some (.slice none 0 0):=by
 subst h
 unfold tabC
 rw [List.getElem?_toArray,List.getElem?_append_right (by simp),List.length_map,Nat.sub_self,List.getElem?_replicate,if_pos (by omega)]
theorem tabC_set {m s k g:Nat} {G:List Nat} (h:G.length = k) (hk:k < m):(tabC m s G).setIfInBounds k (.slice (some ⟨g,0,none⟩) s s) = tabC m s (G ++ [g]):=by
 subst h
 unfold tabC
 rw [List.setIfInBounds_toArray]
 congr 1
 have e:m - G.length = (m - (G ++ [g]).length) + 1:=by simp;omega
 rw [e,List.replicate_succ,List.map_append,List.append_assoc]
 have hl:G.length = (G.map (fun g=>Value.slice (some ⟨g,0,none⟩) s s)).length:=by simp
 conv=>lhs;rw [hl]
 rw [List.set_append_right _ _ (Nat.le_refl _),Nat.sub_self];rfl
theorem blk_ltC {w:World} {b:Nat} {o:Obj} (h:w.heap[b]? = some o):b < w.heap.size:=by
 rcases Nat.lt_or_ge b w.heap.size with g | g
 ·exact g
 ·rw [Array.getElem?_eq_none g] at h;cases h
def PcsC (T:TypeId) (o:List UInt8) (s gL:Nat) (G:List Nat) (W:World):Prop:=∀ (j g:Nat),G[j]? = some g→W.heap[g]? = some (.cells ((pieceS o s j).map B8).toArray T (0,0))∧gL < g
theorem PcsC.keep {T:TypeId} {o:List UInt8} {s gL:Nat} {G:List Nat} {W W':World} (h:PcsC T o s gL G W) (hb:Below W.heap.size W W'):PcsC T o s gL G W':=fun j g hj=>⟨(hb.block _ (blk_ltC (h j g hj).1)).trans (h j g hj).1,(h j g hj).2⟩
theorem PcsC.set {T:TypeId} {o:List UInt8} {s gL i:Nat} {G:List Nat} {W:World} {v:Value} (h:PcsC T o s gL G W):PcsC T o s gL G (W.setCell ⟨gL,i,none⟩ v):=fun j g hj=>⟨hsc (h j g hj).1 (by have:=(h j g hj).2;show g≠gL;omega),(h j g hj).2⟩
theorem PcsC.push {T:TypeId} {o:List UInt8} {s gL g:Nat} {G:List Nat} {W:World} (h:PcsC T o s gL G W) (hg:W.heap[g]? = some (.cells ((pieceS o s G.length).map B8).toArray T (0,0))) (hl:gL < g):PcsC T o s gL (G ++ [g]) W:=fun j g' hj=>by
 rcases Nat.lt_or_ge j G.length with h1 | h1
 ·rw [List.getElem?_append_left h1] at hj;exact h j g' hj
 ·rw [List.getElem?_append_right h1] at hj
  have h2:j - G.length = 0:=by
   rcases Nat.eq_zero_or_pos (j - G.length) with e | e
   ·exact e
   ·rw [List.getElem?_eq_none (by simp;omega)] at hj;cases hj
  rw [h2] at hj
  cases hj
  obtain rfl:j = G.length:=by omega
  exact ⟨hg,hl⟩
theorem range_atC {n i k:Nat} (h:(List.range n)[i]? = some k):i < n∧k = i:=by
 obtain ⟨h1,h2⟩:=List.getElem?_eq_some_iff.1 h
 rw [List.getElem_range] at h2
 exact ⟨by simpa using h1,h2.symm⟩
theorem PcsC.sl2 {T U:TypeId} {o:List UInt8} {s gL:Nat} {G:List Nat} {W:World} {fr:Nat × Nat} (h:PcsC T o s gL G W) (hL:W.heap[gL]? = some (.cells (tabC G.length s G) U fr)) (hm:G.length≤maxLen) (hs:s≤maxLen):Sl2 W (some ⟨gL,0,none⟩) G.length G.length ((List.range G.length).map (pieceS o s)):=by
 refine sl2_block ((List.range G.length).map (pieceS o s)) G.length hL (by simp [tabC]) (by simp) hm ?_
 intro i xs hi
 rw [List.getElem?_map] at hi
 obtain ⟨k,hk,rfl⟩:=Option.map_eq_some_iff.1 hi
 obtain ⟨hk1,e⟩:=range_atC hk
 rw [e]
 obtain ⟨g,hg⟩:∃ g,G[i]? = some g:=⟨G[i]'hk1,List.getElem?_eq_getElem _⟩
 refine ⟨some ⟨g,0,none⟩,s,s,?_,?_⟩
 ·unfold tabC
  rw [List.getElem?_toArray,List.getElem?_append_left (by simpa using hk1),List.getElem?_map,hg];rfl
 ·exact sl_block (pieceS o s i) s (h i g hg).1 rfl (pieceS_len o s i) hs
end Go.By
namespace Go.Proofs.YtccaiiigdfieoaaGreatDoor
open Go.RowKit Go.By
set_option maxRecDepth 100000 in
theorem slice_fromC {q:Option Addr} {n c k:Nat} {o:List UInt8} {w:World} (h:Sl B8 w q n c o) (hk:k≤n):∃ q' c',(∀ W,(Instr.sliceAt 22 (.slice q n c) (some (.int .i64 (k:Int))) none none).run Tryz.prog W = .ok (.slice q' (n - k) c') W)∧Sl B8 w q' (n - k) c' (o.drop k):=by
 have hel:Tryz.prog.underlying 22 = some (.slice (Tryz.prog.elem 22)):=by simp [Program.elem,Tryz.underlying22]
 refine ⟨if c = k then q else q.map (·.add k),c - k,fun W=>?_,?_⟩
 ·rw [run_sliceAt_slice (h:=hel),run_slice_l (ht:=hel) (h0:=by omega) (h1:=by omega)]
  clear hel
  go_simp
 ·have hle:=h.le
  by_cases hc:c = k
  ·rw [if_pos hc]
   have hn:n = k:=by omega
   have e:o.drop k = []:=List.drop_eq_nil_of_le (by rw [h.len];omega)
   rw [e,hn,Nat.sub_self]
   refine ⟨rfl,by omega,by have:=h.max;omega,fun hq=>⟨rfl,?_⟩,fun i hi=>absurd hi (by simp)⟩
   have:=h.nil hq;omega
  ·rw [if_neg hc]
   cases q with
   | none =>
    obtain ⟨e1,e2⟩:=h.nil rfl
    omega
   | some ad=>exact Sl.drop_at h hk
theorem checkS_okC {l s n:Int} (h:checkS l s n = 0):0≤l∧1≤s∧s≤65535∧n = needS l s∧n≤4096:=by
 have hf:fitS l s = 0:=by
  unfold checkS at h
  by_cases e:fitS l s = 0
  ·exact e
  ·rw [if_neg e] at h;exact h
 have hn:n = needS l s:=by
  unfold checkS at h
  rw [if_pos hf] at h
  by_cases e:n = needS l s
  ·exact e
  ·rw [if_neg e] at h;cases h
 rcases fitS_cases l s with ⟨a,_⟩ | ⟨_,h1,h2,h3,h4⟩
 ·exact absurd hf a
 ·exact ⟨h1,h2,h3,hn,by omega⟩
set_option maxRecDepth 100000 in
set_option maxHeartbeats 2000000 in
theorem cfits_any (l s m d:Int) (q:Option Addr) (n c:Nat) (w:World) (hl2:l≤9223372036854775807) (hk:checkS l s m = 0) (hn:(n:Int) = l) :
  Calls Tryz.prog 158 #[.agg #[.int .i64 l,.int .i64 s,.int .i64 m,.int .u32 d],.slice q n c] w fun e w'=>e = .returned (.int .i64 0)∧Below w.heap.size w w':=by
 have HC:=Lib.hid (fun w=>Check_any l s m d w hl2)
 rw [hk] at HC
 have HX:Hid (∀ o,(w.alloc o).heap[w.heap.size]? = some o):=fun o=>hnew rfl
 clear hk
 subst hn
 go_enter Tryz.func158,Tryz.ntmps158
 go_wp2_with fail
 refine Calls.mono (HC.out _) ?_
 rintro e w1 ⟨rfl,hb⟩
 have h1:=(hb.block _ (lt_of_blk (HX.out _))).trans (HX.out _)
 obtain ⟨c0,c1,c2,c3⟩:=cells4 h1
 have HB:Hid (Below w.heap.size w w1):=bl (al (Below.refl _ _) (Nat.le_refl _)) hb (by simp)
 clear hb h1
 go_wp2
 go_ret
 exact ⟨rfl,HB.out⟩
set_option maxRecDepth 100000 in
set_option maxHeartbeats 2000000 in
theorem piece_any (l m d:Int) (s i:Nat) (q:Option Addr) (n c:Nat) (o:List UInt8) (w:World) (h:Sl B8 w q n c o) (hs1:1≤s) (hs:s≤65535) (hi:i * s≤n) :
  Calls Tryz.prog 159 #[.agg #[.int .i64 l,.int .i64 (s:Int),.int .i64 m,.int .u32 d],.slice q n c,.int .i64 (i:Int)] w fun e w'=>∃ g,e = .returned (.slice (some ⟨g,0,none⟩) s s)∧w.heap.size≤g∧w'.heap[g]? = some (.cells ((pieceS o s i).map B8).toArray 5 (0,0))∧Below w.heap.size w w':=by
 obtain ⟨i0,hi0,hz0,hz1,hz2⟩:=info_parts info_u8
 have hnb:=h.bound
 have H:=Lib.hid h
 have HM1:Hid (s≤maxLen):=by show s≤maxLen;unfold maxLen;omega
 have HM2:Hid (1 * s≤281474976710656):=by show 1 * s≤_;omega
 obtain ⟨k,hk⟩:∃ k,k = i * s:=⟨_,rfl⟩
 have hki:(i:Int) * (s:Int) = (k:Int):=by rw [hk];simp
 have hkn:k≤n:=by omega
 have hkn':(k:Int)≤(n:Int):=by omega
 have hw:IntKind.i64.wrap ((i:Int) * (s:Int)) = (k:Int):=by rw [hki,IntKind.wrap_i64];omega
 have hw2:wrap64 ((i:Int) * (s:Int)) = (k:Int):=by rw [hki];unfold wrap64;omega
 have HE:Hid (pieceS o s i = fillC (List.replicate s 0) (o.drop k)):=by show _ = _;unfold pieceS;rw [hk]
 have HX:Hid (∀ o,(w.alloc o).heap[w.heap.size]? = some o):=fun o=>hnew rfl
 clear h hk hi
 go_enter Tryz.func159,Tryz.ntmps159
 go_wp2_with (at_make;refine wpList_make_full _ rfl _ _ 22 rfl w.heap.size 5 i0 (.int .u8 0) 1 Tryz.underlying22 hi0 hz0 hz1 .i64 .i64 _ _ s rfl rfl rfl rfl (by rw [hz2];exact HM2.out) HM1.out (by simp) ?_)
 intro w5 ho hg
 have HV:Hid (w5.heap[w.heap.size + 1]? = some (.cells ((List.replicate s (0:UInt8)).map B8).toArray 5 (0,0))):=by
  have e:(madeCells #[Value.int .u8 0] s).toList = List.replicate s (B8 0):=toList_madeCells_one _ _
  rw [e] at ho
  show _ = _
  rw [List.map_replicate]
  have:=heap_of_ownsC ho
  simpa using this
 have B5:Hid (Below w.heap.size w w5):=(al (Below.refl _ _) (Nat.le_refl _)).grown hg (by simp) (by simp)
 have HS1:=Lib.hid (H.out.keep B5.out)
 have h1:w5.heap[w.heap.size]? = some (.cells #[.int .i64 l,.int .i64 (s:Int),.int .i64 m,.int .u32 d] 27 (0,0)):=(hg.block _ (by simp) (by simp)).trans (HX.out _)
 obtain ⟨c0,c1,c2,c3⟩:=cells4 h1
 obtain ⟨q',c',hsl,hs2⟩:=slice_fromC HS1.out hkn
 have HS2:=Lib.hid hs2
 clear ho hg h1 hs2 H
 go_wp2_with (first | simp only [hsl] | (with_reducible refine wpList_copy_bytesC w5 rfl (.tmp 11) (.tmp 17) 22 22 rfl 5 Tryz.underlying22 (by kernel_rfl) (w.heap.size + 1) s q' (n - k) c' rfl rfl (List.replicate s 0) (o.drop k) 5 HV.out (by simp) HS2.out ?_))
 intro w6 z hh hg2
 have B6:Hid (Below w.heap.size w w6):=B5.out.grown hg2 (by have:=B5.out.size;exact this) (fun r hr=>by cases hr;omega)
 have HH:Hid (w6.heap[w.heap.size + 1]? = some (.cells ((pieceS o s i).map B8).toArray 5 (0,0))):=by rw [HE.out];exact hh
 clear hh hg2
 go_wp2
 go_ret
 exact ⟨_,rfl,by omega,HH.out,B6.out⟩
theorem info_bytesC:(Tryz.prog.info? 22).map (fun i=>(i.zero,i.size,i.bytes)) = some (some (.slice none 0 0),1,24):=by kernel_rfl
set_option maxRecDepth 100000 in
set_option maxHeartbeats 4000000 in
theorem Cut_any (d:Int) (n s m:Nat) (q:Option Addr) (c:Nat) (o:List UInt8) (w:World) (h:Sl B8 w q n c o) (hk:checkS n s m = 0) (hfit:∀ i:Nat,i < m→i * s≤n) :
  Calls Tryz.prog 96 #[.agg #[.int .i64 (n:Int),.int .i64 (s:Int),.int .i64 (m:Int),.int .u32 d],.slice q n c] w fun e w'=>∃ g,e = .returned (.tuple #[.slice (some ⟨g,0,none⟩) m m,.int .i64 0])∧w.heap.size≤g∧Sl2 w' (some ⟨g,0,none⟩) m m ((List.range m).map (pieceS o s))∧Below w.heap.size w w':=by
 obtain ⟨i0,hi0,hz0,hz1,hz2⟩:=info_parts info_bytesC
 obtain ⟨-,hs1,hs2,-,hm4⟩:=checkS_okC hk
 have hnb:=h.bound
 have H:=Lib.hid h
 have HFT:=Lib.hid hfit
 have HF:=Lib.hid (fun w=>cfits_any n s m d q n c w (by omega) hk rfl)
 have hm5:m≤4096:=by omega
 have hs3:1≤s:=by omega
 have hs4:s≤65535:=by omega
 have HM1:Hid (m≤maxLen):=by show m≤maxLen;unfold maxLen;omega
 have HM2:Hid (24 * m≤281474976710656):=by show 24 * m≤_;omega
 have HX:Hid (∀ o,(w.alloc o).heap[w.heap.size]? = some o):=fun o=>hnew rfl
 have HBA:Hid (∀ (W:World) o,Below W.heap.size W (W.alloc o)):=fun W o=>al (Below.refl _ _) (Nat.le_refl _)
 clear h hk hfit hs1 hs2 hm4
 go_enter Tryz.func96,Tryz.ntmps96
 go_wp2_with fail
 refine Calls.mono (HF.out _) ?_
 rintro e w1 ⟨rfl,hb⟩
 have X1:Hid (w1.heap[w.heap.size]? = some (.cells #[.int .i64 (n:Int),.int .i64 (s:Int),.int .i64 (m:Int),.int .u32 d] 27 (0,0))):=(hb.block _ (lt_of_blk (HX.out _))).trans (HX.out _)
 have B1:Hid (Below w.heap.size w w1):=bl (HBA.out _ _) hb (by simp)
 obtain ⟨c0,c1,c2,c3⟩:=cells4 X1.out
 obtain ⟨b0,hb0⟩:∃ b0,b0 = w.heap.size:=⟨_,rfl⟩
 have HB0:=Lib.hid hb0
 rw [← hb0] at X1 c0 c1 c2 c3 ⊢
 clear hb HX hb0
 go_wp2_with (at_make;refine wpList_make_full _ rfl _ _ 31 rfl w1.heap.size 22 i0 (.slice none 0 0) 1 Tryz.underlying31 hi0 hz0 hz1 .i64 .i64 _ _ m rfl rfl rfl rfl (by rw [hz2];exact HM2.out) HM1.out (by simp) ?_)
 intro w2 ho hg
 have T2:Hid (w2.heap[w1.heap.size]? = some (.cells (tabC m s []) 22 (0,0))):=by
  have e:(madeCells #[Value.slice none 0 0] m).toList = List.replicate m (Value.slice none 0 0):=toList_madeCells_one _ _
  rw [e] at ho
  have:=heap_of_ownsC ho
  show _ = _
  rw [this]
  rfl
 have X2:Hid (w2.heap[b0]? = some (.cells #[.int .i64 (n:Int),.int .i64 (s:Int),.int .i64 (m:Int),.int .u32 d] 27 (0,0))):=(hg.block _ (lt_of_blk X1.out) (by simp)).trans X1.out
 have B2:Hid (Below w.heap.size w w2):=B1.out.grown hg B1.out.size (by simp)
 have hlt0:b0 < w1.heap.size:=lt_of_blk X1.out
 have hgl:w1.heap.size < w2.heap.size:=lt_of_blk T2.out
 have hwl:w.heap.size≤w1.heap.size:=B1.out.size
 generalize w1.heap.size = gL at *
 clear ho hg c0 c1 c2 c3 X1 B1
 go_wp2
 go_loopw [20] (fun i wr=>∃ (G:List Nat),i = .int .i64 (G.length:Int)∧G.length≤m∧Hid (wr.heap[gL]? = some (.cells (tabC m s G) 22 (0,0)))∧Hid (PcsC 5 o s gL G wr)∧Hid (wr.heap[b0]? = some (.cells #[.int .i64 (n:Int),.int .i64 (s:Int),.int .i64 (m:Int),.int .u32 d] 27 (0,0)))∧Hid (Below w.heap.size w wr)) (fun i _=>m - (intOf i).toNat)
 case atStart=>exact ⟨[],rfl,Nat.zero_le _,T2.out,fun j g hj=>by simp at hj,X2.out,B2.out⟩
 case round =>
  obtain ⟨G,rfl,hG,hT,hP,hX,hB⟩:=hrel
  obtain ⟨k,hk⟩:∃ k,k = G.length:=⟨_,rfl⟩
  rw [← hk] at hG ⊢
  by_cases hlt:k < m
  ·have hlt':(k:Int) < (m:Int):=by omega
   have HP2:=Lib.hid (fun W (hW:Below w.heap.size w W)=>piece_any n m d s k q n c o W (H.out.keep hW) hs3 hs4 (HFT.out k hlt))
   obtain ⟨c0,c1,c2,c3⟩:=cells4 hX.out
   have HK:=Lib.hid hk
   clear hk hlt
   go_wp2_with fail
   refine Calls.mono (HP2.out _ hB.out) ?_
   rintro e w3 ⟨g,rfl,hg0,hgh,hb⟩
   have T3:Hid (w3.heap[gL]? = some (.cells (tabC m s G) 22 (0,0))):=(hb.block _ (lt_of_blk hT.out)).trans hT.out
   have X3:Hid (w3.heap[b0]? = some (.cells #[.int .i64 (n:Int),.int .i64 (s:Int),.int .i64 (m:Int),.int .u32 d] 27 (0,0))):=(hb.block _ (lt_of_blk hX.out)).trans hX.out
   have hgg:gL < g:=Nat.lt_of_lt_of_le (lt_of_blk hT.out) hg0
   have P3:Hid (PcsC 5 o s gL (G ++ [g]) w3):=(hP.out.keep hb).push (by rw [← HK.out];exact hgh) hgg
   have B3:Hid (Below w.heap.size w w3):=bl hB.out hb hB.out.size
   have e0:w3.cell? ⟨gL,k,none⟩ = some (.slice none 0 0):=by rw [cell_of_row _ _ _ _ _ _ T3.out];exact tabC_at HK.out.symm (by omega)
   have e1:w3.frozen? ⟨gL,k,none⟩ = false:=frozen_of_row _ _ k _ _ T3.out
   have T4:Hid ((w3.setCell ⟨gL,k,none⟩ (.slice (some ⟨g,0,none⟩) s s)).heap[gL]? = some (.cells (tabC m s (G ++ [g])) 22 (0,0))):=by
    have:=hss (i:=k) (v:=.slice (some ⟨g,0,none⟩) s s) T3.out
    rw [tabC_set HK.out.symm (by omega)] at this;exact this
   have X4:Hid ((w3.setCell ⟨gL,k,none⟩ (.slice (some ⟨g,0,none⟩) s s)).heap[b0]? = some (.cells #[.int .i64 (n:Int),.int .i64 (s:Int),.int .i64 (m:Int),.int .u32 d] 27 (0,0))):=hsc X3.out (by show b0≠gL;omega)
   have P4:Hid (PcsC 5 o s gL (G ++ [g]) (w3.setCell ⟨gL,k,none⟩ (.slice (some ⟨g,0,none⟩) s s))):=P3.out.set
   have B4:Hid (Below w.heap.size w (w3.setCell ⟨gL,k,none⟩ (.slice (some ⟨g,0,none⟩) s s))):=B3.out.setCell hwl _
   clear hT hP hX hB hgh hb c0 c1 c2 c3 HP2
   go_wp2
   go_roundw
   case rel=>exact ⟨G ++ [g],by rw [List.length_append,← HK.out];go_num,by rw [List.length_append,← HK.out];simp;omega,T4.out,P4.out,X4.out,B4.out⟩
   case measure=>simp [intOf];omega
  ·obtain rfl:k = m:=by omega
   have HS:Hid (Sl2 wr (some ⟨gL,0,none⟩) k k ((List.range k).map (pieceS o s))):=by
    have:=PcsC.sl2 hP.out (U:=22) (fr:=(0,0)) (by rw [← hk];exact hT.out) (by rw [← hk];exact HM1.out) (by unfold maxLen;omega)
    rw [← hk] at this;exact this
   clear hlt
   go_wp2
   go_ret2
   exact ⟨gL,rfl,hwl,HS.out,hB.out⟩
end Go.Proofs.YtccaiiigdfieoaaGreatDoor
namespace Go.By
open Go.RowKit
def SRT (ys:List UInt8) (code:Int) (v:Value) (w:World):Prop:=∃ q n c,v = .tuple #[.slice q n c,.int .i64 code]∧Sl B8 w q n c ys
def ShSR (ys:List UInt8) (code:Int):Shp:=⟨SRT ys code,fun _ _ _ ⟨q,n,c,e,h⟩ hb=>⟨q,n,c,e,h.keep hb⟩⟩
theorem cells_six {w:World} {b T:Nat} {u v x y z r:Value} (h:w.heap[b]? = some (.cells #[u,v,x,y,z,r] T (0,0))):w.cell? ⟨b,0,none⟩ = some u∧w.cell? ⟨b,1,none⟩ = some v∧w.cell? ⟨b,2,none⟩ = some x∧w.cell? ⟨b,3,none⟩ = some y∧w.cell? ⟨b,4,none⟩ = some z∧w.cell? ⟨b,5,none⟩ = some r :=
 ⟨cell_of_row _ _ 0 _ _ _ h,cell_of_row _ _ 1 _ _ _ h,cell_of_row _ _ 2 _ _ _ h,cell_of_row _ _ 3 _ _ _ h,cell_of_row _ _ 4 _ _ _ h,cell_of_row _ _ 5 _ _ _ h⟩
theorem sl_noByte {w:World} {q:Option Addr} {n c g i T:Nat} {ys:List UInt8} {cs:Array Value} {fr:Nat × Nat} {v:Value} (h:Sl B8 w q n c ys) (hg:w.heap[g]? = some (.cells cs T fr)) (hno:∀ (j:Nat) (x:UInt8),cs[j]?≠some (B8 x)):Sl B8 (w.setCell ⟨g,i,none⟩ v) q n c ys :=
 ⟨h.len,h.le,h.max,h.nil,fun j hj=>by
  obtain ⟨b,o,e,hc⟩:=h.rs j hj
  refine ⟨b,o,e,?_⟩
  have hne:b≠g:=fun e1=>by
   rw [e1,cell_of_row _ _ (o + j) _ _ _ hg] at hc
   exact hno _ _ hc
  exact (World.cell?_of_block (a:=⟨b,o + j,none⟩) (Below.heap_setCell _ _ _ _ hne)).trans hc⟩
theorem sl2_noByte {w:World} {q:Option Addr} {n c g i T:Nat} {yss:List (List UInt8)} {cs:Array Value} {fr:Nat × Nat} {v:Value} (h:Sl2 w q n c yss) (hq:∀ a,q = some a→a.block≠g) (hg:w.heap[g]? = some (.cells cs T fr)) (hno:∀ (j:Nat) (x:UInt8),cs[j]?≠some (B8 x)):Sl2 (w.setCell ⟨g,i,none⟩ v) q n c yss :=
 ⟨h.len,h.le,h.max,h.nil,fun j ys hj=>by
  obtain ⟨b,o,q',c',e,hc,hs⟩:=h.rs j ys hj
  exact ⟨b,o,q',c',e,(World.cell?_of_block (a:=⟨b,o + j,none⟩) (Below.heap_setCell _ _ _ _ (hq _ e))).trans hc,sl_noByte hs hg hno⟩⟩
theorem Fresh.cell {T T' B g i n c:Nat} {w:World} {q:Option Addr} {xs:List UInt8} {old:Array Value} {fr:Nat × Nat} {v:Value} (h:Fresh T B w q n c xs) (hg:w.heap[g]? = some (.cells old T' fr)) (hne:T'≠T):Fresh T B (w.setCell ⟨g,i,Option.none⟩ v) q n c xs:=by
 have hd:∀ a,q = some a→a.block≠g:=fun a ha e=>by
  obtain ⟨c2,f2,e2⟩:=h.ty a ha
  rw [e,hg] at e2
  injection e2 with e2
  injection e2 with _ e3 _
  exact hne e3
 exact ⟨⟨h.sl.len,h.sl.le,h.sl.max,h.sl.nil,fun j hj=>by
  obtain ⟨b,o,e,hc⟩:=h.sl.rs j hj
  exact ⟨b,o,e,(World.cell?_of_block (a:=⟨b,o + j,Option.none⟩) (Below.heap_setCell _ _ _ _ (hd _ e))).trans hc⟩⟩,h.new,fun a ha=>by obtain ⟨c2,f2,e2⟩:=h.ty a ha;exact ⟨c2,f2,(Below.heap_setCell _ _ _ _ (hd a ha)).trans e2⟩⟩
theorem noByte6 {l t k D nx:Int} {q:Option Addr} {n c:Nat}:∀ (j:Nat) (x:UInt8),#[Value.int .i64 l,.int .i64 t,.int .i64 k,.int .u32 D,.slice q n c,.int .u64 nx][j]?≠some (B8 x):=by
 intro j x h
 match j with
 | 0=>simp at h
 | 1=>simp at h
 | 2=>simp at h
 | 3=>simp at h
 | 4=>simp at h
 | 5=>simp at h
 | j + 6=>simp at h
structure GChg (w:World) (g:Nat) (w':World):Prop where
 os:w'.os = w.os
 tape:w'.tape = w.tape
 output:w'.output = w.output
 size:w.heap.size≤w'.heap.size
 block:∀ b,b < w.heap.size→b≠g→w'.heap[b]? = w.heap[b]?
theorem GChg.of {w w':World} (g:Nat) (h:Below w.heap.size w w'):GChg w g w':=⟨h.os,h.tape,h.output,h.size,fun b hb _=>h.block b hb⟩
theorem GChg.below {w w':World} {g B:Nat} (h:GChg w g w') (hB:B≤g) (hw:B≤w.heap.size):Below B w w':=⟨h.os,h.tape,h.output,h.size,fun i hi=>h.block i (by omega) (by omega)⟩
theorem GChg.set {w w':World} {g i:Nat} (h:GChg w g w') (v:Value):GChg w g (w'.setCell ⟨g,i,none⟩ v) :=
 ⟨h.os,h.tape,h.output,by simp [World.setCell];exact h.size,fun b hb hg=>(Below.heap_setCell _ _ _ _ hg).trans (h.block b hb hg)⟩
end Go.By
namespace Go.Proofs.YtccaiiigdfieoaaGreatDoor
open Go.RowKit Go.By
structure Snd (w:World) (gs L t k D nx:Nat) (xss:List (List UInt8)):Prop where
 ok:POK L t k D
 mem:∃ q c,w.heap[gs]? = some (.cells #[.int .i64 (L:Nat),.int .i64 (t:Nat),.int .i64 (k:Nat),.int .u32 (D:Nat),.slice q k c,.int .u64 (nx:Nat)] 174 (0,0))∧Sl2 w q k c xss∧∀ a,q = some a→a.block≠gs
 fit:∀ xs,xs ∈ xss→xs.length = t
set_option maxRecDepth 100000 in
set_option maxHeartbeats 1000000 in
theorem SNew_ok (L t k D:Nat) (q:Option Addr) (n c:Nat) (o:List UInt8) (w:World) (hP:POK n t k D) (h:Sl B8 w q n c o) (hfit:∀ i:Nat,i < k→i * t≤n) (hL:L = n) :
  Calls Tryz.prog 45 #[PVal L t k D,.slice q n c] w fun e w'=>∃ gs,e = .returned (.tuple #[.pointer (some ⟨gs,0,none⟩),.int .i64 0])∧w.heap.size≤gs∧Snd w' gs L t k D 0 ((List.range k).map (pieceS o t))∧Below w.heap.size w w':=by
 subst hL
 have HC:Hid (∀ w,Sl B8 w q L c o→Calls Tryz.prog 96 #[PVal L t k D,.slice q L c] w fun e w'=>∃ g,e = .returned (.tuple #[.slice (some ⟨g,0,none⟩) k k,.int .i64 0])∧w.heap.size≤g∧Sl2 w' (some ⟨g,0,none⟩) k k ((List.range k).map (pieceS o t))∧Below w.heap.size w w'):=fun w h=>Cut_any (D:Int) L t k q c o w h hP.chk hfit
 have HP:=Lib.hid hP
 have H:=Lib.hid h
 clear hP h hfit
 go_enter Tryz.func45,Tryz.ntmps45
 go_wp2_with fail
 refine Calls.mono (HC.out _ (H.out.keep (al (Below.refl _ _) (Nat.le_refl _)))) ?_
 rintro e w1 ⟨g,rfl,hg,hs2,hb⟩
 obtain ⟨hb1,h1,hs⟩:=one_of hb
 have HB:=Lib.hid hb1
 have HS2:=Lib.hid hs2
 have HLG:Hid (g < w1.heap.size):=by
  obtain ⟨b,o,_,_,_,_,e,hc,_⟩:=hs2.at 0 (by have:=HP.out.k1;omega)
  cases e
  exact lt_of_cell hc
 obtain ⟨c0,c1,c2,c3⟩:=cells_four h1
 clear hb hb1 hs2
 go_wp2
 go_ret2
 exact ⟨w1.heap.size,rfl,HB.out.size,⟨HP.out,⟨_,_,hnew rfl,HS2.out.keep (al (Below.refl _ _) (Nat.le_refl _)),fun a ha=>by cases ha;have:=HLG.out;show g≠w1.heap.size;omega⟩,fun xs hx=>by obtain ⟨i,_,rfl⟩:=List.mem_map.1 hx;exact pieceS_len o t i⟩,al HB.out HB.out.size⟩
end Go.Proofs.YtccaiiigdfieoaaGreatDoor
namespace Go.Proofs.YtccaiiigdfieoaaGreatDoor
open Go.RowKit Go.By
theorem srcC_zero {m:UInt8} {j k:Nat} (h:srcC m j k = 0):modeC m = 0∧(m = 0→j = k):=by
 unfold srcC at h
 by_cases h0:m = 0
 ·rw [if_pos h0] at h
  refine ⟨by rw [h0];rfl,fun _=>?_⟩
  split at h
  ·assumption
  ·cases h
 ·rw [if_neg h0] at h
  exact ⟨h,fun e=>absurd e h0⟩
theorem vecS_len {m:UInt8} {xs:List UInt8} {s j k:Nat} (h:srcC m j k = 0) (hj:xs.length = j):(vecS m xs s k).length = k:=by
 unfold vecS
 by_cases h0:m = 0
 ·rw [if_pos h0,hj];exact (srcC_zero h).2 h0
 ·rw [if_neg h0,mixRow_len]
theorem combS_fit {V:List UInt8} {xss:List (List UInt8)} {k t:Nat} (hk:1≤k) (h1:V.length = k) (h2:xss.length = k) (h:∀ xs,xs ∈ xss→xs.length = t):(combS V xss).2 = 0∧(combS V xss).1.length = t:=by
 have hx0:xss[0]? = some xss[0]:=List.getElem?_eq_getElem (by omega)
 have hm0:xss[0] ∈ xss:=List.getElem_mem (by omega)
 have e:=noughtS_of hx0 (h _ hm0) h
 unfold combS
 rw [if_pos (h1.trans h2.symm),e,if_pos rfl]
 exact ⟨rfl,combF_len V xss t h _ (by simp)⟩
def SdRet (w:World) (gs L t k D:Nat) (xss:List (List UInt8)) (ys:List UInt8) (nx':Nat) (code:Int) (e:Ending) (w':World):Prop :=
 ∃ q n c,e = .returned (.tuple #[.slice q n c,.int .i64 code])∧Sl B8 w' q n c ys∧Snd w' gs L t k D nx' xss∧GChg w gs w'
def SdRetQ (w:World) (gs L t k D:Nat) (xss:List (List UInt8)) (ys:List UInt8) (nx nx':Nat) (code:Int) (e:Ending) (w':World):Prop :=
 SdRet w gs L t k D xss ys nx' code e w'∧∀ q c,w.heap[gs]? = some (.cells #[.int .i64 (L:Nat),.int .i64 (t:Nat),.int .i64 (k:Nat),.int .u32 (D:Nat),.slice q k c,.int .u64 (nx:Nat)] 174 (0,0))→w'.heap[gs]? = some (.cells #[.int .i64 (L:Nat),.int .i64 (t:Nat),.int .i64 (k:Nat),.int .u32 (D:Nat),.slice q k c,.int .u64 (nx':Nat)] 174 (0,0))
def SdRetF (w:World) (gs L t k D:Nat) (xss:List (List UInt8)) (ys:List UInt8) (nx nx':Nat) (code:Int) (e:Ending) (w':World):Prop :=
 (∃ q n c,e = .returned (.tuple #[.slice q n c,.int .i64 code])∧Fresh 5 w.heap.size w' q n c ys)∧SdRetQ w gs L t k D xss ys nx nx' code e w'
set_option maxRecDepth 100000 in
set_option maxHeartbeats 4000000 in
theorem SSend_okF (gs L t k D nx:Nat) (xss:List (List UInt8)) (m:UInt8) (p:Option Addr) (j c s:Nat) (xs:List UInt8) (w:World) (hS:Snd w gs L t k D nx xss) (hnx:nx < 4294967296) (hm:srcC m j k = 0) (h:Sl B8 w p j c xs) (hr:Room j) (hT:HalfT w) :
  Calls Tryz.prog 46 #[.pointer (some ⟨gs,0,none⟩),SVal m p j c s] w (SdRetF w gs L t k D xss (pktB m D nx xs s (combS (vecS m xs s k) xss).1) nx (nx + 1) 0):=by
 obtain ⟨qs,cs,hbox,hsx,hqs⟩:=hS.mem
 have HBX0:=Lib.hid hbox
 have HQS:=Lib.hid hqs
 have hV:Hid (∀ w,Sl B8 w p j c xs→Calls Tryz.prog 97 #[SVal m p j c s,.int .i64 (k:Nat)] w (SRet w (vecS m xs s k) 0)):=fun w h=>by have:=SVector_any m p j c s k xs hS.ok.k1 hS.ok.k2 w h hr;rw [hm,if_pos rfl] at this;exact this
 obtain ⟨hc0,hcl⟩:=combS_fit hS.ok.k1 (vecS_len (s:=s) hm h.len) hsx.len hS.fit
 have ht2:=hS.ok.t2
 have hK:Hid (∀ w p n c,Sl B8 w p n c (vecS m xs s k)→Sl2 w qs k cs xss→Calls Tryz.prog 98 #[.slice p n c,.slice qs k cs] w (SRet w (combS (vecS m xs s k) xss).1 0)):=fun w p n c h1 h2=>by
  refine Calls.mono (Comb_any p qs n k c cs _ _ w h1 h2 (fun xs hx=>by rw [hS.fit xs hx];show t≤_;omega)) ?_
  intro e w' he
  rw [hc0] at he
  exact SRet.of he
 obtain ⟨hmo,hmj⟩:=srcC_zero hm
 obtain ⟨Y,hY⟩:∃ Y,(combS (vecS m xs s k) xss).1 = Y:=⟨_,rfl⟩
 rw [hY] at hK hcl ⊢
 have hWr:Hid (∀ w q ty d,ty = t→Sl B8 w p j c xs→Sl B8 w q ty d Y→HalfT w→Calls Tryz.prog 82 #[PkVal m D nx m p j c s q ty d,PVal L t k D] w (SRetF 5 w (pktB m D nx xs s Y) 0)):=fun w q ty d e h1 h2 hT=>by
  subst e
  exact PWrite_okF L _ k D nx m p j c s q d xs Y w hS.ok hnx hmo hmj hr h1 h2 hT
 obtain ⟨V,hVV⟩:∃ V,vecS m xs s k = V:=⟨_,rfl⟩
 rw [hVV] at hV hK
 obtain ⟨O,hO⟩:∃ O,pktB m D nx xs s Y = O:=⟨_,rfl⟩
 rw [hO] at hWr ⊢
 have hnx1:IntKind.u64.wrap ((nx:Int) + 1) = ((nx + 1:Nat):Int):=by rw [IntKind.wrap_u64];omega
 have hnx2:IntKind.u32.wrap (nx:Int) = (nx:Int):=by rw [IntKind.wrap_u32];omega
 have e0:((nx:Int) == 4294967296) = false:=beq_eq_false_iff_ne.2 (by omega)
 have HS:=Lib.hid hS
 have H:=Lib.hid h
 have HT:=Lib.hid hT
 have HSX:=Lib.hid hsx
 have HCL:=Lib.hid hcl
 have HBOX:=Lib.hid hbox
 have a0:∀ o',(w.alloc o').cell? ⟨gs,5,none⟩ = some (.int .u64 (nx:Nat)):=fun _=>calloc (cells_six hbox).2.2.2.2.2
 clear hqs hS h hT hsx hcl hbox hY hVV hO hc0 hmo hmj hm hr hnx ht2
 go_enter Tryz.func46,Tryz.ntmps46
 go_wp2_with fail
 have hgs:=lt_of_block HBOX.out
 have B0:Hid (Below w.heap.size w (w.alloc (.cells #[B8 m,.slice p j c,.int .u64 (s:Nat)] 83 (0,0)))):=al (Below.refl _ _) (Nat.le_refl _)
 have k1:(w.alloc (.cells #[B8 m,.slice p j c,.int .u64 (s:Nat)] 83 (0,0))).heap[w.heap.size]? = some (.cells #[B8 m,.slice p j c,.int .u64 (s:Nat)] 83 (0,0)):=hnew rfl
 have k2:=(B0.out.block _ hgs).trans HBOX.out
 have hs0:w.heap.size + 1≤(w.alloc (.cells #[B8 m,.slice p j c,.int .u64 (s:Nat)] 83 (0,0))).heap.size:=by simp
 generalize w.alloc (.cells #[B8 m,.slice p j c,.int .u64 (s:Nat)] 83 (0,0)) = w1 at *
 have H1:=Lib.hid (H.out.keep B0.out)
 obtain ⟨b0,b1,b2⟩:=cells_three k1
 obtain ⟨c0,c1,c2,c3,c4,c5⟩:=cells_six k2
 refine wp_region_shapes (fun ix=>([.val (.agg #[B8 m,.slice p j c,.int .u64 (s:Nat)]),.val (.pointer (some ⟨gs,0,none⟩)),.val (.pointer (some ⟨gs,0,none⟩)),.val (.pointer (some ⟨gs,0,none⟩)),.val (.pointer (some ⟨gs,2,none⟩)),.val (.int .i64 (k:Nat)),ShSR (V) (0),ShSR (V) (0),.bytes (V),.val (.int .i64 0),.bytes (V),.val (.int .i64 0)][ix]?).getD (.any)) 79 rfl (by kernel_rfl) (by decide +kernel) (by decide +kernel) (by decide +kernel) ?_ ?_
 ·refine ⟨?_,?_,?_,?_,?_,?_,?_,?_,?_,?_,?_,?_,trivial⟩
  ·intro a W hb0 hs hp hi;have hb:=undrew hb0;clear hb0
   have tt:sl a 3 = .pointer (some ⟨w.heap.size,0,none⟩):=hi 3 (by decide)
   have dd0:=(hb.cell (p:=⟨w.heap.size,0,none⟩) (lt_of_cell b0)).trans b0
   have dd1:=(hb.cell (p:=⟨w.heap.size,1,none⟩) (lt_of_cell b1)).trans b1
   have dd2:=(hb.cell (p:=⟨w.heap.size,2,none⟩) (lt_of_cell b2)).trans b2
   refine ite_y rfl (wp_val (.agg #[B8 m,.slice p j c,.int .u64 (s:Nat)]) ?_ ?_)
   ·simp only [execOp,eval_tmp,tt];simp [go_sem,dd0,dd1,dd2]
   ·exact ⟨_,rfl,Below.refl _ _,rfl⟩
  ·intro a W hb0 hs hp hi;have hb:=undrew hb0;clear hb0
   have t0:sl a 0 = .pointer (some ⟨gs,0,none⟩):=hi 0 (by decide)
   exact ite_y rfl (wp_val (sl a 0) rfl ⟨_,rfl,Below.refl _ _,t0⟩)
  ·intro a W hb0 hs hp hi;have hb:=undrew hb0;clear hb0
   have tt:sl a 20 = .pointer (some ⟨gs,0,none⟩):=hp 1 (by decide)
   refine ite_y rfl (wp_val (.pointer (some ⟨gs,0,none⟩)) ?_ ?_)
   ·simp only [execOp,eval_tmp,tt];simp [go_sem]
   ·exact ⟨_,rfl,Below.refl _ _,rfl⟩
  ·intro a W hb0 hs hp hi;have hb:=undrew hb0;clear hb0
   have tt:sl a 21 = .pointer (some ⟨gs,0,none⟩):=hp 2 (by decide)
   refine ite_y rfl (wp_val (.pointer (some ⟨gs,0,none⟩)) ?_ ?_)
   ·simp only [execOp,eval_tmp,tt];simp [go_sem]
   ·exact ⟨_,rfl,Below.refl _ _,rfl⟩
  ·intro a W hb0 hs hp hi;have hb:=undrew hb0;clear hb0
   have tt:sl a 22 = .pointer (some ⟨gs,0,none⟩):=hp 3 (by decide)
   refine ite_y rfl (wp_val (.pointer (some ⟨gs,2,none⟩)) ?_ ?_)
   ·simp only [execOp,eval_tmp,tt];simp [go_sem]
   ·exact ⟨_,rfl,Below.refl _ _,rfl⟩
  ·intro a W hb0 hs hp hi;have hb:=undrew hb0;clear hb0
   have tt:sl a 23 = .pointer (some ⟨gs,2,none⟩):=hp 4 (by decide)
   have dd:=(hb.cell (p:=⟨gs,2,none⟩) (lt_of_cell c2)).trans c2
   refine ite_y rfl (wp_val (.int .i64 (k:Nat)) ?_ ?_)
   ·simp only [execOp,eval_tmp,tt];simp [go_sem,dd]
   ·exact ⟨_,rfl,Below.refl _ _,rfl⟩
  ·intro a W hb0 hs hp hi;have hb:=undrew hb0;clear hb0
   have t19:sl a 19 = .agg #[B8 m,.slice p j c,.int .u64 (s:Nat)]:=hp 0 (by decide)
   have t24:sl a 24 = .int .i64 (k:Nat):=hp 5 (by decide)
   refine ite_y rfl (wp_enter 97 #[SVal m p j c s,.int .i64 (k:Nat)] ?_ (hV.out _ (H1.out.keep hb)) ?_)
   ·simp only [execOp,resolve,List.map_toArray,List.map,eval_tmp,eval_func,eval_const,t19,t24];simp [go_sem]
   ·rintro e W' ⟨q5,n5,g5,rfl,o5,hw⟩;exact ⟨_,rfl,_,rfl,hw,q5,n5,g5,rfl,o5⟩
  ·intro a W hb0 hs hp hi;have hb:=undrew hb0;clear hb0
   exact ite_y rfl (wp_val (sl a 25) rfl ⟨_,rfl,Below.refl _ _,hp 6 (by decide)⟩)
  ·intro a W hb0 hs hp hi;have hb:=undrew hb0;clear hb0
   have tt:SRT (V) (0) (sl a 18) W:=hp 7 (by decide)
   obtain ⟨q5,n5,g5,tt,z5⟩:=tt
   refine ite_y rfl (wp_val (.slice q5 n5 g5) ?_ ?_)
   ·simp only [execOp,eval_tmp,tt];rfl
   ·exact ⟨_,rfl,Below.refl _ _,q5,n5,g5,rfl,z5⟩
  ·intro a W hb0 hs hp hi;have hb:=undrew hb0;clear hb0
   have tt:SRT (V) (0) (sl a 18) W:=hp 7 (by decide)
   obtain ⟨q5,n5,g5,tt,z5⟩:=tt
   refine ite_y rfl (wp_val (.int .i64 0) ?_ ?_)
   ·simp only [execOp,eval_tmp,tt];rfl
   ·exact ⟨_,rfl,Below.refl _ _,rfl⟩
  ·intro a W hb0 hs hp hi;have hb:=undrew hb0;clear hb0
   exact ite_y rfl (wp_val (sl a 26) rfl ⟨_,rfl,Below.refl _ _,hp 8 (by decide)⟩)
  ·intro a W hb0 hs hp hi;have hb:=undrew hb0;clear hb0
   have t27:sl a 27 = .int .i64 0:=hp 9 (by decide)
   exact ite_y rfl (wp_val (sl a 27) rfl ⟨_,rfl,Below.refl _ _,t27⟩)
 intro a w2 hb hs hd hI ht
 have ha:=act_is [19,20,21,22,23,24,25,18,26,27,6,7] hs hd ht (by decide)
 have t7:sl a 7 = .int .i64 0:=hI 11 (by decide)
 have y6:=hI 10 (by decide)
 obtain ⟨q6,n6,c6,t6,z6⟩:=y6
 simp only [List.foldl,t7,t6] at ha
 generalize sl a 19 = u19 at ha
 generalize sl a 20 = u20 at ha
 generalize sl a 21 = u21 at ha
 generalize sl a 22 = u22 at ha
 generalize sl a 23 = u23 at ha
 generalize sl a 24 = u24 at ha
 generalize sl a 25 = u25 at ha
 generalize sl a 18 = u18 at ha
 generalize sl a 26 = u26 at ha
 generalize sl a 27 = u27 at ha
 simp only [Act.put,List.setIfInBounds_toArray,List.set_cons_zero,List.set_cons_succ] at ha
 rw [ha]
 clear ha hI ht
 have HB2:=Lib.hid (bl B0.out hb B0.out.size)
 have ZV:=Lib.hid z6
 have k1':=(hb.block _ (by omega)).trans k1
 have k2':=(hb.block _ (by omega)).trans k2
 have hs2:=hb.size
 clear hb z6 k1 k2 b0 b1 b2 c0 c1 c2 c3 c4 c5 H1
 obtain ⟨c0,c1,c2,c3,c4,c5⟩:=cells_six k2'
 go_wp2_with fail
 refine Calls.mono (hK.out _ _ _ _ ZV.out (HSX.out.keep HB2.out)) ?_
 rintro e w3 ⟨qy,ty,cy,rfl,hy,hb⟩
 have hty:ty = t:=by rw [← hy.len];exact HCL.out
 have HB3:=Lib.hid (bl HB2.out hb HB2.out.size)
 have HY:=Lib.hid hy
 have k1:=(hb.block _ (by omega)).trans k1'
 have k2:=(hb.block _ (by omega)).trans k2'
 have hs3:=hb.size
 have HTY:=Lib.hid hty
 clear hb hy k1' k2' c0 c1 c2 c3 c4 c5 hty
 obtain ⟨b0,b1,b2⟩:=cells_three k1
 obtain ⟨c0,c1,c2,c3,c4,c5⟩:=cells_six k2
 go_wp2_with fail
 refine wp_region_tail (fun ix=>([.val (.pointer (some ⟨w.heap.size,0,none⟩)),.val (B8 m),.val (.pointer (some ⟨gs,0,none⟩)),.val (.pointer (some ⟨gs,0,none⟩)),.val (.pointer (some ⟨gs,0,none⟩)),.val (.pointer (some ⟨gs,3,none⟩)),.val (.int .u32 (D:Nat)),.val (.pointer (some ⟨gs,0,none⟩)),.val (.pointer (some ⟨gs,0,none⟩)),.val (.pointer (some ⟨gs,5,none⟩)),.val (.int .u64 (nx:Nat)),.val (.int .u32 (nx:Nat)),(.val (HVal m D nx)),.val (.agg #[B8 m,.slice p j c,.int .u64 (s:Nat)]),.val (.slice qy ty cy),(.val (PkVal m D nx m p j c s qy ty cy)),(ShNew 122 w3.heap.size #[.int .u8 0,.int .u32 0,.int .u32 0,.int .u8 0,.slice none 0 0,.int .u64 0,.slice none 0 0]),.any][ix]?).getD (.any)) 79 17 rfl (by kernel_rfl) (by decide +kernel) (by decide +kernel) (by decide +kernel) (by decide +kernel) ?_ ?_
 ·refine ⟨?_,?_,?_,?_,?_,?_,?_,?_,?_,?_,?_,?_,?_,?_,?_,?_,?_,trivial⟩
  ·intro a W hb0 hs hp hi;have hb:=undrew hb0;clear hb0
   have t3:sl a 3 = .pointer (some ⟨w.heap.size,0,none⟩):=hi 3 (by decide)
   refine ite_y rfl (wp_val (.pointer (some ⟨w.heap.size,0,none⟩)) ?_ ?_)
   ·simp only [execOp,eval_tmp,eval_const,t3];simp [go_sem]
   ·exact ⟨_,rfl,Below.refl _ _,rfl⟩
  ·intro a W hb0 hs hp hi;have hb:=undrew hb0;clear hb0
   have tt:sl a 43 = .pointer (some ⟨w.heap.size,0,none⟩):=hp 0 (by decide)
   have dd:=(hb.cell (p:=⟨w.heap.size,0,none⟩) (lt_of_cell b0)).trans b0
   refine ite_y rfl (wp_val (B8 m) ?_ ?_)
   ·simp only [execOp,eval_tmp,tt];simp [go_sem,dd]
   ·exact ⟨_,rfl,Below.refl _ _,rfl⟩
  ·intro a W hb0 hs hp hi;have hb:=undrew hb0;clear hb0
   have t0:sl a 0 = .pointer (some ⟨gs,0,none⟩):=hi 0 (by decide)
   exact ite_y rfl (wp_val (sl a 0) rfl ⟨_,rfl,Below.refl _ _,t0⟩)
  ·intro a W hb0 hs hp hi;have hb:=undrew hb0;clear hb0
   have tt:sl a 45 = .pointer (some ⟨gs,0,none⟩):=hp 2 (by decide)
   refine ite_y rfl (wp_val (.pointer (some ⟨gs,0,none⟩)) ?_ ?_)
   ·simp only [execOp,eval_tmp,tt];simp [go_sem]
   ·exact ⟨_,rfl,Below.refl _ _,rfl⟩
  ·intro a W hb0 hs hp hi;have hb:=undrew hb0;clear hb0
   have tt:sl a 46 = .pointer (some ⟨gs,0,none⟩):=hp 3 (by decide)
   refine ite_y rfl (wp_val (.pointer (some ⟨gs,0,none⟩)) ?_ ?_)
   ·simp only [execOp,eval_tmp,tt];simp [go_sem]
   ·exact ⟨_,rfl,Below.refl _ _,rfl⟩
  ·intro a W hb0 hs hp hi;have hb:=undrew hb0;clear hb0
   have tt:sl a 47 = .pointer (some ⟨gs,0,none⟩):=hp 4 (by decide)
   refine ite_y rfl (wp_val (.pointer (some ⟨gs,3,none⟩)) ?_ ?_)
   ·simp only [execOp,eval_tmp,tt];simp [go_sem]
   ·exact ⟨_,rfl,Below.refl _ _,rfl⟩
  ·intro a W hb0 hs hp hi;have hb:=undrew hb0;clear hb0
   have tt:sl a 48 = .pointer (some ⟨gs,3,none⟩):=hp 5 (by decide)
   have dd:=(hb.cell (p:=⟨gs,3,none⟩) (lt_of_cell c3)).trans c3
   refine ite_y rfl (wp_val (.int .u32 (D:Nat)) ?_ ?_)
   ·simp only [execOp,eval_tmp,tt];simp [go_sem,dd]
   ·exact ⟨_,rfl,Below.refl _ _,rfl⟩
  ·intro a W hb0 hs hp hi;have hb:=undrew hb0;clear hb0
   have t0:sl a 0 = .pointer (some ⟨gs,0,none⟩):=hi 0 (by decide)
   exact ite_y rfl (wp_val (sl a 0) rfl ⟨_,rfl,Below.refl _ _,t0⟩)
  ·intro a W hb0 hs hp hi;have hb:=undrew hb0;clear hb0
   have tt:sl a 50 = .pointer (some ⟨gs,0,none⟩):=hp 7 (by decide)
   refine ite_y rfl (wp_val (.pointer (some ⟨gs,0,none⟩)) ?_ ?_)
   ·simp only [execOp,eval_tmp,tt];simp [go_sem]
   ·exact ⟨_,rfl,Below.refl _ _,rfl⟩
  ·intro a W hb0 hs hp hi;have hb:=undrew hb0;clear hb0
   have tt:sl a 51 = .pointer (some ⟨gs,0,none⟩):=hp 8 (by decide)
   refine ite_y rfl (wp_val (.pointer (some ⟨gs,5,none⟩)) ?_ ?_)
   ·simp only [execOp,eval_tmp,tt];simp [go_sem]
   ·exact ⟨_,rfl,Below.refl _ _,rfl⟩
  ·intro a W hb0 hs hp hi;have hb:=undrew hb0;clear hb0
   have tt:sl a 52 = .pointer (some ⟨gs,5,none⟩):=hp 9 (by decide)
   have dd:=(hb.cell (p:=⟨gs,5,none⟩) (lt_of_cell c5)).trans c5
   refine ite_y rfl (wp_val (.int .u64 (nx:Nat)) ?_ ?_)
   ·simp only [execOp,eval_tmp,tt];simp [go_sem,dd]
   ·exact ⟨_,rfl,Below.refl _ _,rfl⟩
  ·intro a W hb0 hs hp hi;have hb:=undrew hb0;clear hb0
   have tt:sl a 53 = .int .u64 (nx:Nat):=hp 10 (by decide)
   refine ite_y rfl (wp_val (.int .u32 (nx:Nat)) ?_ ?_)
   ·simp only [execOp,eval_tmp,tt];simp [go_sem,Tryz.underlying81,Tryz.underlying23,hnx2]
   ·exact ⟨_,rfl,Below.refl _ _,rfl⟩
  ·intro a W hb0 hs hp hi;have hb:=undrew hb0;clear hb0
   have t44:sl a 44 = B8 m:=hp 1 (by decide)
   have t49:sl a 49 = .int .u32 (D:Nat):=hp 6 (by decide)
   have t54:sl a 54 = .int .u32 (nx:Nat):=hp 11 (by decide)
   have v44:a.tmps[44]?.getD undef = sl a 44:=by simp [sl]
   rw [t44] at v44
   have v49:a.tmps[49]?.getD undef = sl a 49:=by simp [sl]
   rw [t49] at v49
   have v54:a.tmps[54]?.getD undef = sl a 54:=by simp [sl]
   rw [t54] at v54
   refine ite_y rfl (wp_val (HVal m D nx) ?_ ?_)
   ·simp only [execOp,eval_tmp,t44,t49,t54];simp [go_sem,v44,v49,v54,Tryz.underlying120]
   ·exact ⟨_,rfl,Below.refl _ _,rfl⟩
  ·intro a W hb0 hs hp hi;have hb:=undrew hb0;clear hb0
   have tt:sl a 3 = .pointer (some ⟨w.heap.size,0,none⟩):=hi 3 (by decide)
   have dd0:=(hb.cell (p:=⟨w.heap.size,0,none⟩) (lt_of_cell b0)).trans b0
   have dd1:=(hb.cell (p:=⟨w.heap.size,1,none⟩) (lt_of_cell b1)).trans b1
   have dd2:=(hb.cell (p:=⟨w.heap.size,2,none⟩) (lt_of_cell b2)).trans b2
   refine ite_y rfl (wp_val (.agg #[B8 m,.slice p j c,.int .u64 (s:Nat)]) ?_ ?_)
   ·simp only [execOp,eval_tmp,tt];simp [go_sem,dd0,dd1,dd2]
   ·exact ⟨_,rfl,Below.refl _ _,rfl⟩
  ·intro a W hb0 hs hp hi;have hb:=undrew hb0;clear hb0
   have t8:sl a 8 = .slice qy ty cy:=hi 8 (by decide)
   exact ite_y rfl (wp_val (sl a 8) rfl ⟨_,rfl,Below.refl _ _,t8⟩)
  ·intro a W hb0 hs hp hi;have hb:=undrew hb0;clear hb0
   have t55:sl a 55 = HVal m D nx:=hp 12 (by decide)
   have t56:sl a 56 = SVal m p j c s:=hp 13 (by decide)
   have t57:sl a 57 = .slice qy ty cy:=hp 14 (by decide)
   have v55:a.tmps[55]?.getD undef = sl a 55:=by simp [sl]
   rw [t55] at v55
   have v56:a.tmps[56]?.getD undef = sl a 56:=by simp [sl]
   rw [t56] at v56
   have v57:a.tmps[57]?.getD undef = sl a 57:=by simp [sl]
   rw [t57] at v57
   refine ite_y rfl (wp_val (PkVal m D nx m p j c s qy ty cy) ?_ ?_)
   ·simp only [execOp,eval_tmp,t55,t56,t57];simp [go_sem,v55,v56,v57,Tryz.underlying120,Tryz.underlying83,Tryz.underlying122]
   ·exact ⟨_,rfl,Below.refl _ _,rfl⟩
  ·intro a W hb0 hs hp hi;have hb:=undrew hb0;clear hb0
   refine ite_y rfl (wp_val' (w':=W.alloc (.cells #[.int .u8 0,.int .u32 0,.int .u32 0,.int .u8 0,.slice none 0 0,.int .u64 0,.slice none 0 0] 122)) (.pointer (some ⟨W.heap.size,0,none⟩)) ?_ ?_)
   ·simp only [execOp];simp [go_sem]
   ·exact ⟨_,rfl,al (Below.refl _ _) (Nat.le_refl _),_,rfl,hb.size,hnew rfl⟩
 intro a w4 hb hs hd hI ht
 have ha:=act_is [43,44,45,46,47,48,49,50,51,52,53,54,55,56,57,58,9] hs hd ht (by decide)
 have t58:sl a 58 = (PkVal m D nx m p j c s qy ty cy):=hI 15 (by decide)
 have y9:=hI 16 (by decide)
 obtain ⟨g9,t9,hg9,hh9⟩:=y9
 simp only [List.foldl,t58,t9] at ha
 generalize sl a 43 = u43 at ha
 generalize sl a 44 = u44 at ha
 generalize sl a 45 = u45 at ha
 generalize sl a 46 = u46 at ha
 generalize sl a 47 = u47 at ha
 generalize sl a 48 = u48 at ha
 generalize sl a 49 = u49 at ha
 generalize sl a 50 = u50 at ha
 generalize sl a 51 = u51 at ha
 generalize sl a 52 = u52 at ha
 generalize sl a 53 = u53 at ha
 generalize sl a 54 = u54 at ha
 generalize sl a 55 = u55 at ha
 generalize sl a 56 = u56 at ha
 generalize sl a 57 = u57 at ha
 simp only [Act.put,List.setIfInBounds_toArray,List.set_cons_zero,List.set_cons_succ] at ha
 rw [ha];clear ha hI ht hs hd
 simp only [List.drop_succ_cons,List.drop_zero]
 have hg9':gs < g9:=by have:=HB3.out.size;omega
 have hs4:=hb.size
 have B4:=bl HB3.out hb HB3.out.size
 have q2:=(hb.block _ (by omega)).trans k2
 have Y4:=HY.out.keep hb
 have HZ4:=Lib.hid hg9
 clear hb c0 c1 c2 c3 c4 c5 b0 b1 b2 k1 k2
 go_wp2_with (refine wpList_store_rowS (o:=⟨none,.store 122 (.tmp 9) (.tmp 58),_,_,_,_⟩) rfl 122 (.tmp 9) (.tmp 58) rfl g9 #[B8 m,.int .u32 (D:Nat),.int .u32 (nx:Nat),B8 m,.slice p j c,.int .u64 (s:Nat),.slice qy ty cy] rfl rfl _ _ hh9 info_packet rfl (by simp [Value.oneCell']) ?_)
 intro w5 hr5
 have HB5:Hid (Below w.heap.size w w5):=by rw [hr5.eq];exact below_row B4 (by have:=HB3.out.size;omega)
 have k2:w5.heap[gs]? = some (.cells #[.int .i64 (L:Nat),.int .i64 (t:Nat),.int .i64 (k:Nat),.int .u32 (D:Nat),.slice qs k cs,.int .u64 (nx:Nat)] 174 (0,0)):=by rw [hr5.eq];exact hro q2 (by omega)
 have k9:w5.heap[g9]? = some (.cells #[B8 m,.int .u32 (D:Nat),.int .u32 (nx:Nat),B8 m,.slice p j c,.int .u64 (s:Nat),.slice qy ty cy] 122 (0,0)):=by rw [hr5.eq];exact hrs hh9
 have HX5:=Lib.hid (H.out.keep HB5.out)
 have HY5:Hid (Sl B8 w5 qy ty cy Y):=by
  rw [hr5.eq]
  exact sl_setRow Y4 fun a ha=>by
   obtain ⟨b,o,e,hl⟩:=HY.out.has (by
    rcases Nat.eq_zero_or_pos ty with h0 | h0
    ·exfalso
     have:=HTY.out;have:=HS.out.ok.t1;omega
    ·exact h0)
   rw [ha] at e;cases e
   show b≠g9
   have:=HZ4.out;omega
 have HT5:=Lib.hid (HT.out.keep HB5.out)
 clear hr5 q2 Y4 hh9 B4
 obtain ⟨c0,c1,c2,c3,c4,c5⟩:=cells_six k2
 obtain ⟨f0,f1,f2,f3,f4,f5,f6⟩:=cells_seven k9
 go_wp2_with fail
 refine wp_region_shapes (fun ix=>([.val (.agg #[B8 m,.int .u32 (D:Nat),.int .u32 (nx:Nat),B8 m,.slice p j c,.int .u64 (s:Nat),.slice qy ty cy]),.val (.pointer (some ⟨gs,0,none⟩)),.val (.pointer (some ⟨gs,0,none⟩)),.val (.pointer (some ⟨gs,0,none⟩)),.val (PVal L t k D),(ShSRF 5 (w.heap.size) (O) (0)),(ShSRF 5 (w.heap.size) (O) (0)),(ShF 5 (w.heap.size) (O)),.val (.int .i64 0),(ShF 5 (w.heap.size) (O)),.val (.int .i64 0)][ix]?).getD (.any)) 79 rfl (by kernel_rfl) (by decide +kernel) (by decide +kernel) (by decide +kernel) ?_ ?_
 ·refine ⟨?_,?_,?_,?_,?_,?_,?_,?_,?_,?_,?_,trivial⟩
  ·intro a W hb0 hs hp hi;have hb:=undrew hb0;clear hb0
   have tt:sl a 9 = .pointer (some ⟨g9,0,none⟩):=hi 9 (by decide)
   have dd0:=(hb.cell (p:=⟨g9,0,none⟩) (lt_of_cell f0)).trans f0
   have dd1:=(hb.cell (p:=⟨g9,1,none⟩) (lt_of_cell f1)).trans f1
   have dd2:=(hb.cell (p:=⟨g9,2,none⟩) (lt_of_cell f2)).trans f2
   have dd3:=(hb.cell (p:=⟨g9,3,none⟩) (lt_of_cell f3)).trans f3
   have dd4:=(hb.cell (p:=⟨g9,4,none⟩) (lt_of_cell f4)).trans f4
   have dd5:=(hb.cell (p:=⟨g9,5,none⟩) (lt_of_cell f5)).trans f5
   have dd6:=(hb.cell (p:=⟨g9,6,none⟩) (lt_of_cell f6)).trans f6
   refine ite_y rfl (wp_val (.agg #[B8 m,.int .u32 (D:Nat),.int .u32 (nx:Nat),B8 m,.slice p j c,.int .u64 (s:Nat),.slice qy ty cy]) ?_ ?_)
   ·simp only [execOp,eval_tmp,tt];simp [go_sem,dd0,dd1,dd2,dd3,dd4,dd5,dd6]
   ·exact ⟨_,rfl,Below.refl _ _,rfl⟩
  ·intro a W hb0 hs hp hi;have hb:=undrew hb0;clear hb0
   have t0:sl a 0 = .pointer (some ⟨gs,0,none⟩):=hi 0 (by decide)
   exact ite_y rfl (wp_val (sl a 0) rfl ⟨_,rfl,Below.refl _ _,t0⟩)
  ·intro a W hb0 hs hp hi;have hb:=undrew hb0;clear hb0
   have tt:sl a 61 = .pointer (some ⟨gs,0,none⟩):=hp 1 (by decide)
   refine ite_y rfl (wp_val (.pointer (some ⟨gs,0,none⟩)) ?_ ?_)
   ·simp only [execOp,eval_tmp,tt];simp [go_sem]
   ·exact ⟨_,rfl,Below.refl _ _,rfl⟩
  ·intro a W hb0 hs hp hi;have hb:=undrew hb0;clear hb0
   have tt:sl a 62 = .pointer (some ⟨gs,0,none⟩):=hp 2 (by decide)
   refine ite_y rfl (wp_val (.pointer (some ⟨gs,0,none⟩)) ?_ ?_)
   ·simp only [execOp,eval_tmp,tt];simp [go_sem]
   ·exact ⟨_,rfl,Below.refl _ _,rfl⟩
  ·intro a W hb0 hs hp hi;have hb:=undrew hb0;clear hb0
   have tt:sl a 63 = .pointer (some ⟨gs,0,none⟩):=hp 3 (by decide)
   have d0':=(hb.cell (p:=⟨gs,0,none⟩) (lt_of_cell c0)).trans c0
   have d1':=(hb.cell (p:=⟨gs,1,none⟩) (lt_of_cell c1)).trans c1
   have d2':=(hb.cell (p:=⟨gs,2,none⟩) (lt_of_cell c2)).trans c2
   have d3':=(hb.cell (p:=⟨gs,3,none⟩) (lt_of_cell c3)).trans c3
   refine ite_y rfl (wp_val (PVal L t k D) ?_ ?_)
   ·simp only [execOp,eval_tmp,tt];simp [go_sem,d0',d1',d2',d3']
   ·exact ⟨_,rfl,Below.refl _ _,rfl⟩
  ·intro a W hb0 hs hp hi;have hb:=undrew hb0;clear hb0
   have t60:sl a 60 = .agg #[B8 m,.int .u32 (D:Nat),.int .u32 (nx:Nat),B8 m,.slice p j c,.int .u64 (s:Nat),.slice qy ty cy]:=hp 0 (by decide)
   have t64:sl a 64 = PVal L t k D:=hp 4 (by decide)
   refine ite_y rfl (wp_enter 82 #[PkVal m D nx m p j c s qy ty cy,PVal L t k D] ?_ (hWr.out _ _ _ _ HTY.out (HX5.out.keep hb) (HY5.out.keep hb) (HT5.out.keep hb)) ?_)
   ·simp only [execOp,resolve,List.map_toArray,List.map,eval_tmp,eval_func,eval_const,t60,t64];simp [go_sem]
   ·rintro e W' ⟨q5,n5,g5,rfl,o5,hw⟩;exact ⟨_,rfl,_,rfl,hw,q5,n5,g5,rfl,o5.mono (Nat.le_trans HB5.out.size hb.size)⟩
  ·intro a W hb0 hs hp hi;have hb:=undrew hb0;clear hb0
   exact ite_y rfl (wp_val (sl a 65) rfl ⟨_,rfl,Below.refl _ _,hp 5 (by decide)⟩)
  ·intro a W hb0 hs hp hi;have hb:=undrew hb0;clear hb0
   have tt:SRTF 5 (w.heap.size) (O) (0) (sl a 59) W:=hp 6 (by decide)
   obtain ⟨q5,n5,g5,tt,z5⟩:=tt
   refine ite_y rfl (wp_val (.slice q5 n5 g5) ?_ ?_)
   ·simp only [execOp,eval_tmp,tt];rfl
   ·exact ⟨_,rfl,Below.refl _ _,q5,n5,g5,rfl,z5⟩
  ·intro a W hb0 hs hp hi;have hb:=undrew hb0;clear hb0
   have tt:SRTF 5 (w.heap.size) (O) (0) (sl a 59) W:=hp 6 (by decide)
   obtain ⟨q5,n5,g5,tt,z5⟩:=tt
   refine ite_y rfl (wp_val (.int .i64 0) ?_ ?_)
   ·simp only [execOp,eval_tmp,tt];rfl
   ·exact ⟨_,rfl,Below.refl _ _,rfl⟩
  ·intro a W hb0 hs hp hi;have hb:=undrew hb0;clear hb0
   exact ite_y rfl (wp_val (sl a 66) rfl ⟨_,rfl,Below.refl _ _,hp 7 (by decide)⟩)
  ·intro a W hb0 hs hp hi;have hb:=undrew hb0;clear hb0
   have t67:sl a 67 = .int .i64 0:=hp 8 (by decide)
   exact ite_y rfl (wp_val (sl a 67) rfl ⟨_,rfl,Below.refl _ _,t67⟩)
 intro a w6 hb hs hd hI ht
 have ha:=act_is [60,61,62,63,64,65,59,66,67,10,7] hs hd ht (by decide)
 have t7:sl a 7 = .int .i64 0:=hI 10 (by decide)
 have y10:(ShF 5 (w.heap.size) (O)).ok (sl a 10) w6:=hI 9 (by decide)
 obtain ⟨q10,n10,c10,t10,z10⟩:=y10
 simp only [List.foldl,t7,t10] at ha
 generalize sl a 60 = u60 at ha
 generalize sl a 61 = u61 at ha
 generalize sl a 62 = u62 at ha
 generalize sl a 63 = u63 at ha
 generalize sl a 64 = u64 at ha
 generalize sl a 65 = u65 at ha
 generalize sl a 59 = u59 at ha
 generalize sl a 66 = u66 at ha
 generalize sl a 67 = u67 at ha
 simp only [Act.put,List.setIfInBounds_toArray,List.set_cons_zero,List.set_cons_succ] at ha
 rw [ha]
 clear ha hI ht
 have k2':=(hb.block _ (lt_of_block k2)).trans k2
 have HB6:=Lib.hid (bl HB5.out hb HB5.out.size)
 have HO:=Lib.hid z10
 obtain ⟨x0,x1,x2,x3,x4,x5⟩:=cells_six k2'
 have z5:=frozen_of_row _ _ 5 _ _ k2'
 clear hb z10 c0 c1 c2 c3 c4 c5 f0 f1 f2 f3 f4 f5 f6 k2 k9
 go_wp2
 go_ret2
 refine ⟨⟨q10,n10,c10,rfl,HO.out.cell k2' (by decide)⟩,⟨q10,n10,c10,rfl,(HO.out.cell k2' (by decide)).sl,⟨HS.out.ok,⟨qs,cs,hss k2',sl2_noByte (HSX.out.keep HB6.out) HQS.out k2' noByte6,HQS.out⟩,HS.out.fit⟩,(GChg.of gs HB6.out).set _⟩,fun q c h=>?_⟩
 rw [HBX0.out] at h
 cases h
 exact hss k2'
end Go.Proofs.YtccaiiigdfieoaaGreatDoor
namespace Go.Proofs.YtccaiiigdfieoaaGreatDoor
open Go.RowKit Go.By Go.Maps
end Go.Proofs.YtccaiiigdfieoaaGreatDoor
namespace Go.By
open Go.RowKit
def Hdr (T:TypeId) (w1:World) (base:Nat) (w:World) (v:Value) (i:Nat) (xss:List (List UInt8)):Prop :=
 ∃ vs,w.ownsRow base T 1 v i vs∧xss.length = i∧∀ (j:Nat) (u:Value),vs[j]? = some u→∃ q m c xs,u = .slice q m c∧xss[j]? = some xs∧Sl B8 w1 q m c xs
theorem Hdr.shape {T base i:Nat} {w1 w:World} {v:Value} {xss:List (List UInt8)} (h:Hdr T w1 base w v i xss):∃ q c,v = .slice q i c:=by
 obtain ⟨vs,o,_⟩:=h;exact owns_shape o
theorem Hdr.nil (T base:Nat) (w1 w:World):Hdr T w1 base w (.slice none 0 0) 0 []:=⟨[],World.ownsRow_nil _ _ _ _,rfl,fun j u h=>by simp at h⟩
theorem Hdr.push {T base i:Nat} {w1 w:World} {v:Value} {xss:List (List UInt8)} {vs:List Value} {q:Option Addr} {m c:Nat} {xs:List UInt8} (ho:w.ownsRow base T 1 v (i + 1) (vs ++ [.slice q m c])) (hl:xss.length = i) (hv:vs.length = i) (h:∀ (j:Nat) (u:Value),vs[j]? = some u→∃ q m c xs,u = .slice q m c∧xss[j]? = some xs∧Sl B8 w1 q m c xs) (hs:Sl B8 w1 q m c xs):Hdr T w1 base w v (i + 1) (xss ++ [xs]):=by
 refine ⟨_,ho,by simp [hl],fun j u hj=>?_⟩
 rcases Nat.lt_trichotomy j i with h1 | h1 | h1
 ·rw [List.getElem?_append_left (by omega)] at hj
  obtain ⟨q',m',c',xs',e,hx,hs'⟩:=h j u hj
  exact ⟨q',m',c',xs',e,by rw [List.getElem?_append_left (by omega)];exact hx,hs'⟩
 ·subst h1
  rw [List.getElem?_append_right (by omega),hv,Nat.sub_self] at hj
  simp at hj
  exact ⟨q,m,c,xs,hj.symm,by rw [List.getElem?_append_right (by omega),hl,Nat.sub_self];rfl,hs⟩
 ·rw [List.getElem?_eq_none (by simp [hv];omega)] at hj;cases hj
theorem Hdr.sl2 {T base i:Nat} {w1 w:World} {q:Option Addr} {c:Nat} {xss:List (List UInt8)} (h:Hdr T w1 base w (.slice q i c) i xss) (hb:Below w1.heap.size w1 w):Sl2 w q i c xss:=by
 obtain ⟨vs,o,hl,hr⟩:=h
 have hc:=owns_cap o
 have hvl:vs.length = i:=owns_len o
 refine ⟨hl,hc.1,hc.2,fun hp=>?_,fun j xs hj=>?_⟩
 ·rcases o.2 with ⟨h2,rfl⟩ | ⟨g,cap,cur,hv,_⟩
  ·simp at h2;exact ⟨rfl,h2.2⟩
  ·rw [hp] at hv;cases hv
 ·have hji:j < i:=by rw [← hl];exact (List.getElem?_eq_some_iff.1 hj).1
  obtain ⟨q',m',c',xs',e,hx,hs⟩:=hr j vs[j] (List.getElem?_eq_getElem (by omega))
  rw [hj] at hx;cases hx
  obtain ⟨g,rfl,_,_⟩:=owns_at o (by omega)
  refine ⟨g,0,q',c',rfl,?_,?_⟩
  ·rw [Nat.zero_add,o.cellAt j (by omega),List.getElem?_eq_getElem (by omega),e,hs.len]
  ·rw [hs.len];exact hs.keep hb
theorem Hdr.kept {T base i:Nat} {w1 w w':World} {v:Value} {row:Option Nat} {xss:List (List UInt8)} (h:Hdr T w1 base w v i xss) (hg:w.grownBy w' row) (hne:∀ b,v.ownBlock = some b→row≠some b):Hdr T w1 base w' v i xss:=by
 obtain ⟨vs,o,hl,hr⟩:=h
 refine ⟨vs,o.kept hg ?_,hl,hr⟩
 cases hv:v.ownBlock with
 | none=>simp
 | some b=>have:=hne b hv;simp;intro e;exact this e.symm
end Go.By
namespace Go.Proofs.YtccaiiigdfieoaaGreatDoor
open Go.RowKit Go.By Go.Maps
theorem field_gate (L t k D:Nat) (M:Value) (w:World):(Instr.field 111 (GVal L t k D M) 0).run Tryz.prog w = .ok (PVal L t k D) w:=by
 simp [Instr.field,go_sem,asAgg,Tryz.underlying111,Tryz.underlying27]
end Go.Proofs.YtccaiiigdfieoaaGreatDoor
namespace Go.Proofs.YtccaiiigdfieoaaGreatDoor
open Go.RowKit Go.By
theorem read_write {m:UInt8} {D n s k t:Nat} {xs ys:List UInt8} (hm:modeC m = 0) (hx:m = 0→xs.length = k) (hy:ys.length = t) (hD:D < 4294967296) (hn:n < 4294967296) :
  readC k t D (pktB m D n xs s ys) = 0∧pktM (pktB m D n xs s ys) = m∧pktN (pktB m D n xs s ys) = n∧pktX k (pktB m D n xs s ys) = rdX m (srcB m xs s)∧pktS k (pktB m D n xs s ys) = rdS m (srcB m xs s)∧pktY k t (pktB m D n xs s ys) = ys:=by
 have hm01:m = 0∨m = 1:=by
  unfold modeC at hm
  split at hm
  ·assumption
  ·cases hm
 have hS:(srcB m xs s).length = widS m k:=by
  unfold srcB widS
  rcases hm01 with h | h
  ·rw [if_pos h,if_pos h];exact hx h
  ·rw [if_neg (by rw [h];decide),if_neg (by rw [h];decide),if_pos h,put8_len]
 obtain ⟨S,hSS⟩:∃ S,srcB m xs s = S:=⟨_,rfl⟩
 obtain ⟨W,hW⟩:∃ W,widS m k = W:=⟨_,rfl⟩
 obtain ⟨c,hc⟩:∃ c,crcS (bodyP m D n xs s ys) = c:=⟨_,rfl⟩
 have hcl:c < 4294967296:=by rw [← hc];exact crcS_lt _
 have hB:pktB m D n xs s ys = [1,m] ++ (put4 D ++ (put4 n ++ (S ++ (ys ++ put4 c)))):=by
  unfold pktB
  rw [hc]
  unfold bodyP headB
  rw [hSS];simp
 have hbody:bodyP m D n xs s ys = [1,m] ++ (put4 D ++ (put4 n ++ (S ++ ys))):=by unfold bodyP headB;rw [hSS];simp
 rw [hSS,hW] at hS
 have g0:(pktB m D n xs s ys).getD 0 0 = 1:=by rw [hB];rfl
 have g1:(pktB m D n xs s ys).getD 1 0 = m:=by rw [hB];rfl
 have hlen:(pktB m D n xs s ys).length = 10 + W + t + 4:=by rw [hB];simp [put4_len,hS,hy];omega
 have d2:(pktB m D n xs s ys).drop 2 = put4 D ++ (put4 n ++ (S ++ (ys ++ put4 c))):=by rw [hB];exact List.drop_left' rfl
 have d6:(pktB m D n xs s ys).drop 6 = put4 n ++ (S ++ (ys ++ put4 c)):=by
  rw [show (6:Nat) = 2 + 4 from rfl,← List.drop_drop,d2];exact List.drop_left' (put4_len D)
 have d10:(pktB m D n xs s ys).drop 10 = S ++ (ys ++ put4 c):=by
  rw [show (10:Nat) = 6 + 4 from rfl,← List.drop_drop,d6];exact List.drop_left' (put4_len n)
 have dW:(pktB m D n xs s ys).drop (10 + W) = ys ++ put4 c:=by
  rw [← List.drop_drop,d10];exact List.drop_left' hS
 have dt:(pktB m D n xs s ys).drop (10 + W + t) = put4 c:=by
  rw [← List.drop_drop,dW];exact List.drop_left' hy
 have tk:(pktB m D n xs s ys).take (10 + W + t) = bodyP m D n xs s ys:=by
  have e:pktB m D n xs s ys = bodyP m D n xs s ys ++ put4 c:=by unfold pktB;rw [hc]
  rw [e]
  exact List.take_left' (by rw [hbody];simp [put4_len,hS,hy];omega)
 have t2:((pktB m D n xs s ys).drop 2).take 4 = put4 D:=by rw [d2];exact List.take_left' (put4_len D)
 have t6:((pktB m D n xs s ys).drop 6).take 4 = put4 n:=by rw [d6];exact List.take_left' (put4_len n)
 have t10:((pktB m D n xs s ys).drop 10).take W = S:=by rw [d10];exact List.take_left' hS
 have tW:((pktB m D n xs s ys).drop (10 + W)).take t = ys:=by rw [dW];exact List.take_left' hy
 have tc:((pktB m D n xs s ys).drop (10 + W + t)).take 4 = put4 c:=by rw [dt];exact List.take_of_length_le (Nat.le_of_eq (put4_len c))
 refine ⟨?_,g1,?_,?_,?_,?_⟩
 ·have hh:headC (pktB m D n xs s ys) = 0:=by
   unfold headC
   rw [if_neg (by rw [hlen];omega),g0,g1,if_neg (by simp)]
   exact hm
  unfold readC
  rw [if_neg (by simp [hh]),g1]
  have hl:(pktB m D n xs s ys).length = lenP m k t:=by unfold lenP;rw [hlen,hW]
  rw [if_neg (by simp [hl]),show (pktB m D n xs s ys).length - 4 = 10 + W + t by omega,tc,tk,hc,get4_put4 hcl,if_neg (by simp),t2,get4_put4 hD,if_neg (by simp)]
 ·unfold pktN;rw [t6,get4_put4 hn]
 ·unfold pktX;rw [g1,hW,t10,hSS]
 ·unfold pktS;rw [g1,hW,t10,hSS]
 ·unfold pktY;rw [g1,hW,tW]
end Go.Proofs.YtccaiiigdfieoaaGreatDoor
namespace Go.By
theorem get8_put8 {s:Nat} (h:s < 18446744073709551616):get8 (put8 s) = s:=by
 simp only [get8,put8,List.range,List.range.loop,List.map,List.foldl,put8At,UInt8.toNat_ofNat']
 simp only [Nat.reduceMul,Nat.reduceSub,Nat.reducePow,Nat.zero_mul,Nat.zero_add]
 omega
end Go.By
namespace Go.Proofs.YtccaiiigdfieoaaGreatDoor
open Go.RowKit Go.By Gf
theorem putF_len (K:List Rw) (x:Rw):(putF K x).length = K.length + 1:=by
 have h:=congrArg List.length (List.takeWhile_append_dropWhile (p:=fun r=>decide (leadS r.1≤leadS (normS (restF K x)).1)) (l:=K.map (clrF (normS (restF K x)))))
 rw [List.length_append,List.length_map] at h
 unfold putF putAt
 rw [List.length_append,List.length_cons]
 omega
structure OneObj (k t:Nat) (FX:List (List UInt8)) (X K:List Rw):Prop where
 sys:Sys k t (kD X) K
 fit:∀ y,y ∈ X→Fit k t y∧ConsV k (FX.map vf) (vR y)
theorem OneObj.nil (k t:Nat) (FX:List (List UInt8)):OneObj k t FX [] []:=⟨Sys.nil k t,fun y h=>by simp at h⟩
theorem OneObj.put {k t:Nat} {FX:List (List UInt8)} {X K:List Rw} {x:Rw} (h:OneObj k t FX X K) (hx:Fit k t x) (hc:ConsV k (FX.map vf) (vR x)):OneObj k t FX (X ++ [x]) (putK K x) :=
 ⟨h.sys.putX hx,fun y hy=>by
  rcases List.mem_append.1 hy with h1 | h1
  ·exact h.fit y h1
  ·rw [List.mem_singleton.1 h1];exact ⟨hx,hc⟩⟩
theorem OneObj.red {k t:Nat} {FX:List (List UInt8)} {X K:List Rw} (h:OneObj k t FX X K):Red k t K:=h.sys.red
theorem OneObj.code {k t:Nat} {FX:List (List UInt8)} {X K:List Rw} {x:Rw} (h:OneObj k t FX X K) (hx:Fit k t x) (hc:ConsV k (FX.map vf) (vR x)):codeF K x≠2:=by
 unfold codeF
 by_cases hl:leadS (restF K x).1 < 0
 ·rw [if_pos hl,if_pos (sys_code h.sys h.fit hx hc hl)];decide
 ·rw [if_neg hl];decide
theorem OneObj.full {k t:Nat} {FX:List (List UInt8)} {X K:List Rw} {x:Rw} (h:OneObj k t FX X K) (hx:Fit k t x) (hl:K.length = k):putK K x = K:=by
 unfold putK
 by_cases hn:leadS (restF K x).1 < 0
 ·rw [if_pos hn]
 ·exfalso
  have:=Red.le (putF_red h.red hx hn).1
  rw [putF_len] at this
  omega
theorem OneObj.data {k t:Nat} {FX:List (List UInt8)} {X K:List Rw} (h:OneObj k t FX X K) (hF:∀ x,x ∈ FX→x.length = t) (hk:FX.length = k) (hl:K.length = k):K.map (fun x:Rw=>x.2) = FX:=by
 refine List.ext_getElem? fun i=>?_
 rw [List.getElem?_map]
 by_cases hi:i < k
 ·have e1:K[i]? = some K[i]:=List.getElem?_eq_getElem (by omega)
  have e2:FX[i]? = some FX[i]:=List.getElem?_eq_getElem (by omega)
  rw [e1,e2,← sys_full h.sys h.fit hF hk hl e1 e2];rfl
 ·rw [List.getElem?_eq_none (by omega),List.getElem?_eq_none (by omega)];rfl
def stF (K:List Rw) (k:Nat):Nat:=if K.length = k then 1 else 0
theorem OneObj.take {k t D:Nat} {FX:List (List UInt8)} {X K:List Rw} {xs:List UInt8} (h:OneObj k t FX X K) (hx:Fit k t (eqX k t xs)) (hc:ConsV k (FX.map vf) (vR (eqX k t xs))) (hr:readC k t D xs = 0) :
  takeK k t D K (stF K k) xs = putK K (eqX k t xs)∧takeS k t D K (stF K k) xs = stF (putK K (eqX k t xs)) k:=by
 unfold takeK takeS
 by_cases hl:K.length = k
 ·have e:stF K k = 1:=if_pos hl
  rw [e,if_neg (by simp),if_neg (by simp),h.full hx hl,e];exact ⟨rfl,rfl⟩
 ·have e:stF K k = 0:=if_neg hl
  rw [e,if_pos ⟨hr,rfl⟩,if_pos ⟨hr,rfl⟩]
  refine ⟨rfl,?_⟩
  unfold nextS stF
  rw [if_neg (h.code hx hc)]
theorem comb_mulR {k t:Nat} {FX:List (List UInt8)} {v:List UInt8} (hF:∀ x,x ∈ FX→x.length = t) (hk:FX.length = k) (k1:1≤k) (hv:v.length = k):combS v FX = (mulR t FX v,0):=by
 rw [comb_ok hF (hv.trans hk.symm),if_neg (fun e=>by rw [e] at hk;simp at hk;omega)]
theorem vecS_back {m:UInt8} {xs:List UInt8} {s k:Nat} (hs:s < 18446744073709551616):vecS m (rdX m (srcB m xs s)) (rdS m (srcB m xs s)) k = vecS m xs s k:=by
 unfold vecS rdX rdS srcB
 by_cases h0:m = 0
 ·rw [if_pos h0,if_pos h0,if_pos h0,if_pos h0]
 ·rw [if_neg h0,if_neg h0,if_neg h0,if_neg h0,get8_put8 hs]
theorem sent_eq {k t D n s:Nat} {m:UInt8} {xs:List UInt8} {FX:List (List UInt8)} (hF:∀ x,x ∈ FX→x.length = t) (hk:FX.length = k) (k1:1≤k) (hm:srcC m xs.length k = 0) (hs:s < 18446744073709551616) (hD:D < 4294967296) (hn:n < 4294967296) :
  readC k t D (pktB m D n xs s (combS (vecS m xs s k) FX).1) = 0∧eqX k t (pktB m D n xs s (combS (vecS m xs s k) FX).1) = rowC t FX (vecS m xs s k):=by
 obtain ⟨hm0,hx⟩:=srcC_zero hm
 have hv:=vecS_len (s:=s) hm rfl
 have hc:=comb_mulR hF hk k1 hv
 have hy:(combS (vecS m xs s k) FX).1.length = t:=by rw [hc];exact mulR_len hF _
 obtain ⟨h1,h2,h3,h4,h5,h6⟩:=read_write (m:=m) (D:=D) (n:=n) (s:=s) (k:=k) (t:=t) (xs:=xs) (ys:=(combS (vecS m xs s k) FX).1) hm0 hx hy hD hn
 refine ⟨h1,?_⟩
 unfold eqX
 rw [h2,h4,h5,h6,vecS_back hs,hc];rfl
theorem rowC_ok {k t:Nat} {FX:List (List UInt8)} {v:List UInt8} (hF:∀ x,x ∈ FX→x.length = t) (hk:FX.length = k) (hv:v.length = k):Fit k t (rowC t FX v)∧ConsV k (FX.map vf) (vR (rowC t FX v)):=⟨rowC_fit hF hv,rowC_cons hF hk hv⟩
theorem pieces_len {o:List UInt8} {k t:Nat}:(∀ x,x ∈ (List.range k).map (pieceS o t)→x.length = t)∧((List.range k).map (pieceS o t)).length = k :=
 ⟨fun x hx=>by obtain ⟨i,_,rfl⟩:=List.mem_map.1 hx;exact pieceS_len o t i,by simp⟩
theorem OneObj.rows {k t:Nat} {FX:List (List UInt8)} {X K:List Rw} (h:OneObj k t FX X K):∀ r,r ∈ K→Fit k t r∧ConsV k (FX.map vf) (vR r):=fun r hr=>by
 have s:=spn_kD h.fit
 obtain ⟨-,r2,-,-⟩:=redL_red h.sys.kept
 rw [← h.sys.same] at r2
 exact ⟨(h.red.kept.rows r hr).1,cons_sp (fun a ha=>by obtain ⟨q,hq,rfl⟩:=List.mem_map.1 ha;exact s.consK q hq) (r2 r hr)⟩
end Go.Proofs.YtccaiiigdfieoaaGreatDoor
namespace Go.By
open Go.RowKit Go.Maps Go.Proofs.YtccaiiigdfieoaaGreatDoor
section
variable {w w':World} {g:Nat} {old:Array Value} {T':Nat} {fr:Nat × Nat}
theorem GChg.blk (h:GChg w g w') (hg:w.heap[g]? = some (.cells old T' fr)) {b T:Nat} {cs:Array Value} {fr2:Nat × Nat} (hb:w.heap[b]? = some (.cells cs T fr2)) (hne:T'≠T):w'.heap[b]? = some (.cells cs T fr2):=by
 refine (h.block b (lt_of_block hb) fun e=>?_).trans hb
 rw [e,hg] at hb;injection hb with hb;injection hb with _ hb _;exact hne hb
theorem GChg.cnt (h:GChg w g w') (hg:w.heap[g]? = some (.cells old T' fr)) {M:Value} {N:Nat} {C:DataW Unit} (hc:CntM w M N C):CntM w' M N C:=by
 refine ⟨?_,hc.small⟩
 rcases hc.at_ with h1 | ⟨b,e,ho⟩
 ·exact .inl h1
 ·refine .inr ⟨b,e,?_⟩
  have hlt:=ho.lt
  obtain ⟨es,clock,h1,F,hs,hD⟩:=ho
  exact ⟨es,clock,(h.block b hlt (fun e=>by rw [e,hg] at h1;cases h1)).trans h1,F,hs,hD⟩
theorem GChg.owns (h:GChg w g w') (hg:w.heap[g]? = some (.cells old T' fr)) {base T e n:Nat} {v:Value} {L:List Value} (ho:w.ownsRow base T e v n L) (hne:T'≠T):w'.ownsRow base T e v n L:=by
 refine owns_same ho h.size fun g2 hg2=>?_
 rcases ho.2 with ⟨e1,_⟩ | ⟨g',cap,cur,e1,_,hh,_⟩
 ·rw [e1] at hg2;cases hg2
 ·rw [e1] at hg2;cases hg2
  exact (h.blk hg hh hne).trans hh.symm
theorem GChg.elm (h:GChg w g w') (hg:w.heap[g]? = some (.cells old T' fr)) {base be k t n:Nat} {v:Value} {K:List Rw} (hE:Elm w base be k t v n K) (h1:T'≠191) (h2:T'≠99) (h3:T'≠5):Elm w' base be k t v n K:=by
 refine ⟨h.blk hg hE.box h1,?_,hE.old⟩
 obtain ⟨vs,a,b,o,r⟩:=hE.rows
 refine ⟨vs,a,b,h.owns hg o h2,fun j u hj=>?_⟩
 obtain ⟨x,hk,⟨q1,m1,c1,e1,l1,o1⟩,⟨q2,m2,c2,e2,l2,o2⟩⟩:=r j u hj
 exact ⟨x,hk,⟨q1,m1,c1,e1,l1,h.owns hg o1 h3⟩,⟨q2,m2,c2,e2,l2,h.owns hg o2 h3⟩⟩
theorem GChg.tkr (h:GChg w g w') (hg:w.heap[g]? = some (.cells old T' fr)) {base gt be L t k D N:Nat} {M v:Value} {C:DataW Unit} {K:List Rw} {st:Nat} (hT:Tkr w base gt be L t k D N M v C K st) (h1:T'≠191) (h2:T'≠99) (h3:T'≠5) (h4:T'≠118):Tkr w' base gt be L t k D N M v C K st :=
 ⟨hT.ok,h.blk hg hT.box h4,h.cnt hg hT.cnt,h.elm hg hT.elm h1 h2 h3,hT.red,hT.old⟩
end
theorem TChg.blk {w w':World} {base gt be L t k D N:Nat} {M v:Value} {C:DataW Unit} {K:List Rw} {st:Nat} (h:TChg w w' gt be v) (hT:Tkr w base gt be L t k D N M v C K st) {b T:Nat} {cs:Array Value} {fr:Nat × Nat} (hb:w.heap[b]? = some (.cells cs T fr)) (h1:T≠118) (h2:T≠191) (h3:99≠T):w'.heap[b]? = some (.cells cs T fr):=by
 refine (h.block b (lt_of_block hb) (fun e=>?_) (fun e=>?_) (hT.elm.rows.ne_box hb h3)).trans hb
 ·have:=hT.box;rw [← e,hb] at this;injection this with this;injection this with _ this _;exact h1 this
 ·have:=hT.elm.box;rw [← e,hb] at this;injection this with this;injection this with _ this _;exact h2 this
theorem TChg.below {w w':World} {B base gt be L t k D N:Nat} {M v:Value} {C:DataW Unit} {K:List Rw} {st:Nat} (h:TChg w w' gt be v) (hT:Tkr w base gt be L t k D N M v C K st) (hB:B≤base) (hw:B≤w.heap.size):Below B w w':=by
 refine ⟨h.os,h.tape,h.output,h.size,fun i hi=>h.block i (by omega) (by have:=hT.old;omega) (by have:=hT.elm.old;omega) (fun e=>?_)⟩
 have:=(hT.elm.rows.lt _ e).1
 omega
end Go.By
namespace Go.Proofs.YtccaiiigdfieoaaGreatDoor
open Go.RowKit Go.By Go.Maps
theorem Snd.keep {w w':World} {gs L t k D nx:Nat} {xss:List (List UInt8)} (h:Snd w gs L t k D nx xss) (hb:Below w.heap.size w w'):Snd w' gs L t k D nx xss:=by
 obtain ⟨q,c,h1,h2,h3⟩:=h.mem
 exact ⟨h.ok,⟨q,c,(hb.block _ (lt_of_block h1)).trans h1,h2.keep hb,h3⟩,h.fit⟩
end Go.Proofs.YtccaiiigdfieoaaGreatDoor
namespace Go.Proofs.YtccaiiigdfieoaaGreatDoor
open Go.RowKit Go.By Go.Maps
set_option maxRecDepth 100000 in
set_option maxHeartbeats 1000000 in
theorem TStatus_any (base gt be L t k D N:Nat) (M v:Value) (C:DataW Unit) (K:List Rw) (st:Nat) (w:World) (h:Tkr w base gt be L t k D N M v C K st) :
  Calls Tryz.prog 22 #[.pointer (some ⟨gt,0,none⟩)] w fun e w'=>e = .returned (.int .i64 (st:Nat))∧w = w':=by
 obtain ⟨c0,c1,c2,c3,c4,c5,c6⟩:=cells_seven h.box
 clear h
 go_enter Tryz.func22,Tryz.ntmps22
 go_wp2
 go_ret
 exact ⟨rfl,rfl⟩
set_option maxRecDepth 100000 in
set_option maxHeartbeats 1000000 in
theorem TRank_any (base gt be L t k D N:Nat) (M v:Value) (C:DataW Unit) (K:List Rw) (st:Nat) (w:World) (h:Tkr w base gt be L t k D N M v C K st) :
  Calls Tryz.prog 47 #[.pointer (some ⟨gt,0,none⟩)] w fun e w'=>e = .returned (.int .i64 (K.length:Nat))∧w = w':=by
 have HE:=Lib.hid (Rank_any' base be k t K.length v K w h.elm)
 obtain ⟨c0,c1,c2,c3,c4,c5,c6⟩:=cells_seven h.box
 clear h
 go_enter Tryz.func47,Tryz.ntmps47
 go_wp2_with fail
 refine Calls.mono HE.out ?_
 rintro e w1 ⟨rfl,rfl⟩
 go_wp2
 go_ret
 exact ⟨rfl,rfl⟩
end Go.Proofs.YtccaiiigdfieoaaGreatDoor
namespace Go.By
open Go.RowKit Go.Maps Go.Proofs.YtccaiiigdfieoaaGreatDoor
section
variable {w w':World} {base gt be L t k D N:Nat} {M v:Value} {C:DataW Unit} {K:List Rw} {st:Nat}
theorem TChg.owns (h:TChg w w' gt be v) (hT:Tkr w base gt be L t k D N M v C K st) {b2 T e n:Nat} {v2:Value} {ys:List Value} (ho:w.ownsRow b2 T e v2 n ys) (h1:T≠118) (h2:T≠191) (h3:∀ g,v2.ownBlock = some g→v.ownBlock≠some g):w'.ownsRow b2 T e v2 n ys:=by
 refine owns_same ho h.size fun g2 hg2=>?_
 rcases ho.2 with ⟨e1,_⟩ | ⟨g',cap,cur,e1,_,hh,_⟩
 ·rw [e1] at hg2;cases hg2
 ·have h4:=h3 g2 hg2
  rw [e1] at hg2;cases hg2
  refine h.block _ (lt_of_block hh) (fun e=>?_) (fun e=>?_) h4
  ·have:=hT.box;rw [← e,hh] at this;injection this with this;injection this with _ this _;exact h1 this
  ·have:=hT.elm.box;rw [← e,hh] at this;injection this with this;injection this with _ this _;exact h2 this
theorem tkr_owns_ne {b2 T e n:Nat} {v2:Value} {ys:List Value} (hT:Tkr w base gt be L t k D N M v C K st) (ho:w.ownsRow b2 T e v2 n ys) (h:99≠T):∀ g,v2.ownBlock = some g→v.ownBlock≠some g:=by
 intro g hg
 rcases ho.2 with ⟨e1,_⟩ | ⟨g',cap,cur,e1,_,hh,_⟩
 ·rw [e1] at hg;cases hg
 ·rw [e1] at hg;cases hg
  exact hT.elm.rows.ne_box hh h
theorem TChg.bw (h:TChg w w' gt be v) (hT:Tkr w base gt be L t k D N M v C K st) {b:Nat} {u:Value} {xs:List UInt8} (hu:Bw 5 w b u xs):Bw 5 w' b u xs:=by
 obtain ⟨q,m,c,e,l,o⟩:=hu
 exact ⟨q,m,c,e,l,h.owns hT o (by decide) (by decide) (tkr_owns_ne hT o (by decide))⟩
theorem TChg.rwl (h:TChg w w' gt be v) (hT:Tkr w base gt be L t k D N M v C K st) {b2 n2:Nat} {v2:Value} {K2:List Rw} (h2:RwL 99 5 w b2 v2 n2 K2) (hne:∀ g,v2.ownBlock = some g→v.ownBlock≠some g):RwL 99 5 w' b2 v2 n2 K2:=by
 obtain ⟨vs,a,b,o,r⟩:=h2
 exact ⟨vs,a,b,h.owns hT o (by decide) (by decide) hne,fun j u hj=>by obtain ⟨x,hk,g1,g2⟩:=r j u hj;exact ⟨x,hk,h.bw hT g1,h.bw hT g2⟩⟩
theorem TChg.cnt (h:TChg w w' gt be v) (hT:Tkr w base gt be L t k D N M v C K st) {M2:Value} {N2:Nat} {C2:DataW Unit} (hc:CntM w M2 N2 C2):CntM w' M2 N2 C2:=by
 refine ⟨?_,hc.small⟩
 rcases hc.at_ with h1 | ⟨b,e,ho⟩
 ·exact .inl h1
 ·refine .inr ⟨b,e,?_⟩
  have hlt:=ho.lt
  obtain ⟨es,clock,h1,F,hs,hD⟩:=ho
  refine ⟨es,clock,(h.block b hlt (fun e=>?_) (fun e=>?_) (fun e=>?_)).trans h1,F,hs,hD⟩
  ·have:=hT.box;rw [← e,h1] at this;cases this
  ·have:=hT.elm.box;rw [← e,h1] at this;cases this
  ·obtain ⟨vs,_,_,o,_⟩:=hT.elm.rows
   rcases o.2 with ⟨e1,_⟩ | ⟨g',cap,cur,e1,_,hh,_⟩
   ·rw [e1] at e;cases e
   ·rw [e1] at e;cases e
    rw [h1] at hh;cases hh
end
theorem sl_gchg {w w':World} {q:Option Addr} {n c g T:Nat} {ys:List UInt8} {cs:Array Value} {fr:Nat × Nat} (h:Sl B8 w q n c ys) (hg:w.heap[g]? = some (.cells cs T fr)) (hno:∀ (j:Nat) (x:UInt8),cs[j]?≠some (B8 x)) (hc:GChg w g w'):Sl B8 w' q n c ys :=
 ⟨h.len,h.le,h.max,h.nil,fun j hj=>by
  obtain ⟨b,o,e,hcl⟩:=h.rs j hj
  refine ⟨b,o,e,?_⟩
  have hne:b≠g:=fun e1=>by
   rw [e1,cell_of_row _ _ (o + j) _ _ _ hg] at hcl
   exact hno _ _ hcl
  exact (World.cell?_of_block (a:=⟨b,o + j,none⟩) (hc.block b (lt_of_cell hcl) hne)).trans hcl⟩
theorem sl2_gchg {w w':World} {q:Option Addr} {n c g T:Nat} {yss:List (List UInt8)} {cs:Array Value} {fr:Nat × Nat} (h:Sl2 w q n c yss) (hq:∀ a,q = some a→a.block≠g) (hg:w.heap[g]? = some (.cells cs T fr)) (hno:∀ (j:Nat) (x:UInt8),cs[j]?≠some (B8 x)) (hc:GChg w g w'):Sl2 w' q n c yss :=
 ⟨h.len,h.le,h.max,h.nil,fun j ys hj=>by
  obtain ⟨b,o,q',c',e,hcl,hs⟩:=h.rs j ys hj
  exact ⟨b,o,q',c',e,(World.cell?_of_block (a:=⟨b,o + j,none⟩) (hc.block b (lt_of_cell hcl) (hq _ e))).trans hcl,sl_gchg hs hg hno hc⟩⟩
theorem GChg.trans {w a b:World} {g:Nat} (h:GChg w g a) (h2:GChg a g b):GChg w g b :=
 ⟨h2.os.trans h.os,h2.tape.trans h.tape,h2.output.trans h.output,Nat.le_trans h.size h2.size,fun i hi hg=>(h2.block i (Nat.lt_of_lt_of_le hi h.size) hg).trans (h.block i hi hg)⟩
theorem GChg.then {w a b:World} {g B:Nat} (h:GChg w g a) (h2:Below B a b) (hB:w.heap.size≤B):GChg w g b :=
 ⟨h2.os.trans h.os,h2.tape.trans h.tape,h2.output.trans h.output,Nat.le_trans h.size h2.size,fun i hi hg=>(h2.block i (Nat.lt_of_lt_of_le hi hB)).trans (h.block i hi hg)⟩
end Go.By
namespace Go.Proofs.YtccaiiigdfieoaaGreatDoor
open Go.RowKit Go.By Go.Maps
structure SndO (w0 w:World) (gs L t k D nx:Nat) (xss:List (List UInt8)):Prop where
 ok:POK L t k D
 mem:∃ q c n0,w0.heap[gs]? = some (.cells #[.int .i64 (L:Nat),.int .i64 (t:Nat),.int .i64 (k:Nat),.int .u32 (D:Nat),.slice q k c,.int .u64 (n0:Nat)] 174 (0,0))∧w.heap[gs]? = some (.cells #[.int .i64 (L:Nat),.int .i64 (t:Nat),.int .i64 (k:Nat),.int .u32 (D:Nat),.slice q k c,.int .u64 (nx:Nat)] 174 (0,0))∧Sl2 w0 q k c xss∧∀ a,q = some a→a.block≠gs
 fit:∀ xs,xs ∈ xss→xs.length = t
 chg:GChg w0 gs w
theorem SndO.start {w:World} {gs L t k D nx:Nat} {xss:List (List UInt8)} (h:Snd w gs L t k D nx xss):SndO w w gs L t k D nx xss:=by
 obtain ⟨q,c,h1,h2,h3⟩:=h.mem
 exact ⟨h.ok,⟨q,c,nx,h1,h1,h2,h3⟩,h.fit,⟨rfl,rfl,rfl,Nat.le_refl _,fun _ _ _=>rfl⟩⟩
theorem SndO.snd {w0 w:World} {gs L t k D nx:Nat} {xss:List (List UInt8)} (h:SndO w0 w gs L t k D nx xss):Snd w gs L t k D nx xss:=by
 obtain ⟨q,c,n0,h1,h2,h3,h4⟩:=h.mem
 exact ⟨h.ok,⟨q,c,h2,sl2_gchg h3 h4 h1 noByte6 h.chg,h4⟩,h.fit⟩
theorem SndO.lt {w0 w:World} {gs L t k D nx:Nat} {xss:List (List UInt8)} (h:SndO w0 w gs L t k D nx xss):gs < w0.heap.size:=by
 obtain ⟨q,c,n0,h1,h2,h3,h4⟩:=h.mem
 exact lt_of_block h1
theorem SndO.keep {w0 w w':World} {gs L t k D nx B:Nat} {xss:List (List UInt8)} (h:SndO w0 w gs L t k D nx xss) (hb:Below B w w') (hB:w0.heap.size≤B):SndO w0 w' gs L t k D nx xss:=by
 have hl:=h.lt
 obtain ⟨q,c,n0,h1,h2,h3,h4⟩:=h.mem
 exact ⟨h.ok,⟨q,c,n0,h1,(hb.block _ (Nat.lt_of_lt_of_le hl hB)).trans h2,h3,h4⟩,h.fit,h.chg.then hb hB⟩
theorem SndO.sent {w0 w w':World} {gs L t k D nx nx':Nat} {xss:List (List UInt8)} {ys:List UInt8} {code:Int} {e:Ending} (h:SndO w0 w gs L t k D nx xss) (hs:SdRetQ w gs L t k D xss ys nx nx' code e w'):SndO w0 w' gs L t k D nx' xss:=by
 obtain ⟨q,c,n0,h1,h2,h3,h4⟩:=h.mem
 obtain ⟨⟨_,_,_,_,_,_,hg⟩,hq⟩:=hs
 exact ⟨h.ok,⟨q,c,n0,h1,hq q c h2,h3,h4⟩,h.fit,h.chg.trans hg⟩
set_option maxRecDepth 100000 in
set_option maxHeartbeats 1000000 in
theorem SSend_bad (gs L t k D nx:Nat) (xss:List (List UInt8)) (m:UInt8) (p:Option Addr) (j c s:Nat) (xs:List UInt8) (w:World) (hS:Snd w gs L t k D nx xss) (hnx:nx < 4294967296) (hm:srcC m j k≠0) (h:Sl B8 w p j c xs) (hr:Room j) :
  Calls Tryz.prog 46 #[.pointer (some ⟨gs,0,none⟩),SVal m p j c s] w fun e w'=>e = .returned (.tuple #[.slice none 0 0,.int .i64 (srcC m j k)])∧Below w.heap.size w w':=by
 obtain ⟨qs,cs,hbox,hsx,hqs⟩:=hS.mem
 have hV:Hid (∀ w,Sl B8 w p j c xs→Calls Tryz.prog 97 #[SVal m p j c s,.int .i64 (k:Nat)] w (SRet w (if srcC m j k = 0 then vecS m xs s k else []) (srcC m j k))):=fun w h=>SVector_any m p j c s k xs hS.ok.k1 hS.ok.k2 w h hr
 have e0:((nx:Int) == 4294967296) = false:=beq_eq_false_iff_ne.2 (by omega)
 have hz:(srcC m j k != 0) = true:=bne_iff_ne.2 hm
 generalize srcC m j k = R at *
 generalize (if R = 0 then vecS m xs s k else []) = V at *
 have H:=Lib.hid h
 have HBOX:=Lib.hid hbox
 have a0:∀ o',(w.alloc o').cell? ⟨gs,5,none⟩ = some (.int .u64 (nx:Nat)):=fun _=>calloc (cells_six hbox).2.2.2.2.2
 clear hS h hm hsx hqs hbox hr hnx
 go_enter Tryz.func46,Tryz.ntmps46
 go_wp2_with fail
 have hgs:=lt_of_block HBOX.out
 have B0:Hid (Below w.heap.size w (w.alloc (.cells #[B8 m,.slice p j c,.int .u64 (s:Nat)] 83 (0,0)))):=al (Below.refl _ _) (Nat.le_refl _)
 have k1:(w.alloc (.cells #[B8 m,.slice p j c,.int .u64 (s:Nat)] 83 (0,0))).heap[w.heap.size]? = some (.cells #[B8 m,.slice p j c,.int .u64 (s:Nat)] 83 (0,0)):=hnew rfl
 have k2:=(B0.out.block _ hgs).trans HBOX.out
 generalize w.alloc (.cells #[B8 m,.slice p j c,.int .u64 (s:Nat)] 83 (0,0)) = w1 at *
 have H1:=Lib.hid (H.out.keep B0.out)
 obtain ⟨b0,b1,b2⟩:=cells_three k1
 obtain ⟨c0,c1,c2,c3,c4,c5⟩:=cells_six k2
 refine wp_region_shapes (fun ix=>([.val (.agg #[B8 m,.slice p j c,.int .u64 (s:Nat)]),.val (.pointer (some ⟨gs,0,none⟩)),.val (.pointer (some ⟨gs,0,none⟩)),.val (.pointer (some ⟨gs,0,none⟩)),.val (.pointer (some ⟨gs,2,none⟩)),.val (.int .i64 (k:Nat)),ShSR (V) (R),ShSR (V) (R),.bytes (V),.val (.int .i64 (R)),.bytes (V),.val (.int .i64 (R))][ix]?).getD (.any)) 79 rfl (by kernel_rfl) (by decide) (by decide) (by decide) ?_ ?_
 ·refine ⟨?_,?_,?_,?_,?_,?_,?_,?_,?_,?_,?_,?_,trivial⟩
  ·intro a W hb0 hs hp hi;have hb:=undrew hb0;clear hb0
   have tt:sl a 3 = .pointer (some ⟨w.heap.size,0,none⟩):=hi 3 (by decide)
   have dd0:=(hb.cell (p:=⟨w.heap.size,0,none⟩) (lt_of_cell b0)).trans b0
   have dd1:=(hb.cell (p:=⟨w.heap.size,1,none⟩) (lt_of_cell b1)).trans b1
   have dd2:=(hb.cell (p:=⟨w.heap.size,2,none⟩) (lt_of_cell b2)).trans b2
   refine ite_y rfl (wp_val (.agg #[B8 m,.slice p j c,.int .u64 (s:Nat)]) ?_ ?_)
   ·simp only [execOp,eval_tmp,tt];simp [go_sem,dd0,dd1,dd2]
   ·exact ⟨_,rfl,Below.refl _ _,rfl⟩
  ·intro a W hb0 hs hp hi;have hb:=undrew hb0;clear hb0
   have t0:sl a 0 = .pointer (some ⟨gs,0,none⟩):=hi 0 (by decide)
   exact ite_y rfl (wp_val (sl a 0) rfl ⟨_,rfl,Below.refl _ _,t0⟩)
  ·intro a W hb0 hs hp hi;have hb:=undrew hb0;clear hb0
   have tt:sl a 20 = .pointer (some ⟨gs,0,none⟩):=hp 1 (by decide)
   refine ite_y rfl (wp_val (.pointer (some ⟨gs,0,none⟩)) ?_ ?_)
   ·simp only [execOp,eval_tmp,tt];simp [go_sem]
   ·exact ⟨_,rfl,Below.refl _ _,rfl⟩
  ·intro a W hb0 hs hp hi;have hb:=undrew hb0;clear hb0
   have tt:sl a 21 = .pointer (some ⟨gs,0,none⟩):=hp 2 (by decide)
   refine ite_y rfl (wp_val (.pointer (some ⟨gs,0,none⟩)) ?_ ?_)
   ·simp only [execOp,eval_tmp,tt];simp [go_sem]
   ·exact ⟨_,rfl,Below.refl _ _,rfl⟩
  ·intro a W hb0 hs hp hi;have hb:=undrew hb0;clear hb0
   have tt:sl a 22 = .pointer (some ⟨gs,0,none⟩):=hp 3 (by decide)
   refine ite_y rfl (wp_val (.pointer (some ⟨gs,2,none⟩)) ?_ ?_)
   ·simp only [execOp,eval_tmp,tt];simp [go_sem]
   ·exact ⟨_,rfl,Below.refl _ _,rfl⟩
  ·intro a W hb0 hs hp hi;have hb:=undrew hb0;clear hb0
   have tt:sl a 23 = .pointer (some ⟨gs,2,none⟩):=hp 4 (by decide)
   have dd:=(hb.cell (p:=⟨gs,2,none⟩) (lt_of_cell c2)).trans c2
   refine ite_y rfl (wp_val (.int .i64 (k:Nat)) ?_ ?_)
   ·simp only [execOp,eval_tmp,tt];simp [go_sem,dd]
   ·exact ⟨_,rfl,Below.refl _ _,rfl⟩
  ·intro a W hb0 hs hp hi;have hb:=undrew hb0;clear hb0
   have t19:sl a 19 = .agg #[B8 m,.slice p j c,.int .u64 (s:Nat)]:=hp 0 (by decide)
   have t24:sl a 24 = .int .i64 (k:Nat):=hp 5 (by decide)
   refine ite_y rfl (wp_enter 97 #[SVal m p j c s,.int .i64 (k:Nat)] ?_ (hV.out _ (H1.out.keep hb)) ?_)
   ·simp only [execOp,resolve,List.map_toArray,List.map,eval_tmp,eval_func,eval_const,t19,t24];simp [go_sem]
   ·rintro e W' ⟨q5,n5,g5,rfl,o5,hw⟩;exact ⟨_,rfl,_,rfl,hw,q5,n5,g5,rfl,o5⟩
  ·intro a W hb0 hs hp hi;have hb:=undrew hb0;clear hb0
   exact ite_y rfl (wp_val (sl a 25) rfl ⟨_,rfl,Below.refl _ _,hp 6 (by decide)⟩)
  ·intro a W hb0 hs hp hi;have hb:=undrew hb0;clear hb0
   have tt:SRT (V) (R) (sl a 18) W:=hp 7 (by decide)
   obtain ⟨q5,n5,g5,tt,z5⟩:=tt
   refine ite_y rfl (wp_val (.slice q5 n5 g5) ?_ ?_)
   ·simp only [execOp,eval_tmp,tt];rfl
   ·exact ⟨_,rfl,Below.refl _ _,q5,n5,g5,rfl,z5⟩
  ·intro a W hb0 hs hp hi;have hb:=undrew hb0;clear hb0
   have tt:SRT (V) (R) (sl a 18) W:=hp 7 (by decide)
   obtain ⟨q5,n5,g5,tt,z5⟩:=tt
   refine ite_y rfl (wp_val (.int .i64 (R)) ?_ ?_)
   ·simp only [execOp,eval_tmp,tt];rfl
   ·exact ⟨_,rfl,Below.refl _ _,rfl⟩
  ·intro a W hb0 hs hp hi;have hb:=undrew hb0;clear hb0
   exact ite_y rfl (wp_val (sl a 26) rfl ⟨_,rfl,Below.refl _ _,hp 8 (by decide)⟩)
  ·intro a W hb0 hs hp hi;have hb:=undrew hb0;clear hb0
   have t27:sl a 27 = .int .i64 (R):=hp 9 (by decide)
   exact ite_y rfl (wp_val (sl a 27) rfl ⟨_,rfl,Below.refl _ _,t27⟩)
 intro a w2 hb hs hd hI ht
 have ha:=act_is [19,20,21,22,23,24,25,18,26,27,6,7] hs hd ht (by decide)
 have t7:sl a 7 = .int .i64 (R):=hI 11 (by decide)
 have y6:=hI 10 (by decide)
 obtain ⟨q6,n6,c6,t6,z6⟩:=y6
 simp only [List.foldl,t7,t6] at ha
 generalize sl a 19 = u19 at ha
 generalize sl a 20 = u20 at ha
 generalize sl a 21 = u21 at ha
 generalize sl a 22 = u22 at ha
 generalize sl a 23 = u23 at ha
 generalize sl a 24 = u24 at ha
 generalize sl a 25 = u25 at ha
 generalize sl a 18 = u18 at ha
 generalize sl a 26 = u26 at ha
 generalize sl a 27 = u27 at ha
 simp only [Act.put,List.setIfInBounds_toArray,List.set_cons_zero,List.set_cons_succ] at ha
 rw [ha]
 clear ha hI ht
 have HB2:=Lib.hid (bl B0.out hb B0.out.size)
 clear hb z6 k1 k2 b0 b1 b2 c0 c1 c2 c3 c4 c5 H1
 go_wp2
 go_ret2
 exact ⟨rfl,HB2.out⟩
end Go.Proofs.YtccaiiigdfieoaaGreatDoor
namespace Go.Proofs.YtccaiiigdfieoaaGreatDoor
open Go.RowKit Go.By Go.Maps
theorem pok_of {l s n d:Int} (hl:l≤9223372036854775807) (hc:checkS l s n = 0) (h0:0≤d) (h1:d < 4294967296):∃ L t k D:Nat,l = L∧s = t∧n = k∧d = D∧POK L t k D:=by
 have hf:fitS l s = 0∧n = needS l s:=by
  unfold checkS at hc
  by_cases hf:fitS l s = 0
  ·rw [if_pos hf] at hc
   refine ⟨hf,?_⟩
   by_cases hn:n = needS l s
   ·exact hn
   ·rw [if_neg hn] at hc;omega
  ·rw [if_neg hf] at hc;exact absurd hc hf
 obtain ⟨hf,hn⟩:=hf
 have hs:0≤l∧1≤s∧s≤65535∧needS l s≤4096:=by
  unfold fitS at hf
  split at hf
  ·omega
  ·split at hf
   ·omega
   ·split at hf
    ·omega
    ·omega
 obtain ⟨g1,g2⟩:=needS_pos hs.1 hs.2.1
 refine ⟨l.toNat,s.toNat,n.toNat,d.toNat,by omega,by omega,by omega,by omega,⟨?_,by omega,by omega,by omega,by omega,by omega,by omega⟩⟩
 rw [show ((l.toNat:Nat):Int) = l by omega,show ((s.toNat:Nat):Int) = s by omega,show ((n.toNat:Nat):Int) = n by omega]
 exact hc
end Go.Proofs.YtccaiiigdfieoaaGreatDoor
namespace Go.By
open Go.RowKit
section
variable {P:Program} {ops:Array Oper} {Q:Exit→Act→World→Prop}
end
end Go.By
namespace Go.By
open Go.RowKit
theorem Hdr.keep {T base i:Nat} {w1 w w':World} {v:Value} {xss:List (List UInt8)} (h:Hdr T w1 base w v i xss) (hb:Below w.heap.size w w'):Hdr T w1 base w' v i xss:=by
 obtain ⟨vs,o,hl,hr⟩:=h
 exact ⟨vs,owns_keepv o hb,hl,hr⟩
section
variable {T:Nat} {wz W w w':World} {va vb:Value} {n i4 i9 i:Nat} {A B:List (List UInt8)} {dn:Nat→Bool}
end
end Go.By
namespace Go.Proofs.YtccaiiigdfieoaaGreatDoor
open Go.RowKit Go.By Gf Go.Maps
structure ObjP (n t k D:Nat):Prop where
 ok:POK n t k D
 fit:∀ i:Nat,i < k→i * t≤n
 le:n≤k * t
theorem of_obj {n:Nat} {s d:Int} (hf:fitS n s = 0) (hn:(n:Int)≤9223372036854775807) (d0:0≤d) (d1:d < 4294967296) :
  ∃ t k D:Nat,s = t∧d = D∧ObjP n t k D∧ofS n s d = .tuple #[PVal n t k D,.int .i64 0]:=by
 have hc:checkS (n:Int) s (needS n s) = 0:=by unfold checkS;rw [if_pos hf,if_pos rfl]
 obtain ⟨L,t,k,D,e1,e2,e3,e4,hP⟩:=pok_of hn hc d0 d1
 have e1':L = n:=by omega
 subst e1'
 subst e2
 subst e4
 refine ⟨t,k,D,rfl,rfl,⟨hP,?_,?_⟩,?_⟩
 ·intro i hi
  by_cases h0:(L:Int) = 0
  ·have:needS L t = 1:=by unfold needS;rw [if_pos h0]
   have:i = 0:=by omega
   subst this;omega
  ·have h5:=(needS_spec (l:=L) (s:=t) (by omega) (by have:=hP.t1;omega)).1
   rw [e3] at h5
   have h6:(i:Int) * t≤((k:Int) - 1) * t:=Int.mul_le_mul_of_nonneg_right (by omega) (by omega)
   have h7:((i * t:Nat):Int)≤(L:Int):=by rw [Int.natCast_mul];exact Int.le_of_lt (Int.lt_of_le_of_lt h6 h5)
   omega
 ·by_cases h0:(L:Int) = 0
  ·have:L = 0:=by omega
   subst this;omega
  ·have h5:=(needS_spec (l:=L) (s:=t) (by omega) (by have:=hP.t1;omega)).2
   rw [e3] at h5
   have h7:(L:Int)≤((k * t:Nat):Int):=by rw [Int.natCast_mul];exact h5
   omega
 ·unfold ofS;rw [if_pos hf,e3]
theorem of_none {n:Nat} {s d:Int} (hf:fitS n s≠0):ofS n s d = .tuple #[.agg #[.int .i64 0,.int .i64 0,.int .i64 0,.int .u32 0],.int .i64 (fitS n s)]:=by
 unfold ofS;rw [if_neg hf]
end Go.Proofs.YtccaiiigdfieoaaGreatDoor
namespace Go.By
open Go.RowKit Go.Maps Go.Proofs.YtccaiiigdfieoaaGreatDoor
theorem fresh_same {T:TypeId} {B:Nat} {w w':World} {q:Option Addr} {n c:Nat} {xs:List UInt8} (h:Fresh T B w q n c xs) (hp:∀ (b:Nat) (cs:Array Value) (fr:Nat × Nat),w.heap[b]? = some (.cells cs T fr)→w'.heap[b]? = w.heap[b]?):Fresh T B w' q n c xs:=by
 have hd:∀ a,q = some a→w'.heap[a.block]? = w.heap[a.block]?:=fun a ha=>by
  obtain ⟨cs,fr,e⟩:=h.ty a ha;exact hp _ cs fr e
 refine ⟨⟨h.sl.len,h.sl.le,h.sl.max,h.sl.nil,fun i hi=>?_⟩,h.new,fun a ha=>?_⟩
 ·obtain ⟨b,o,e,hc⟩:=h.sl.rs i hi
  exact ⟨b,o,e,(World.cell?_of_block (a:=⟨b,o + i,none⟩) (show w'.heap[b]? = w.heap[b]? from hd ⟨b,o,none⟩ e)).trans hc⟩
 ·obtain ⟨cs,fr,e⟩:=h.ty a ha
  exact ⟨cs,fr,(hd a ha).trans e⟩
theorem GChg.same {w w':World} {g T':Nat} {old:Array Value} {fr:Nat × Nat} (h:GChg w g w') (hg:w.heap[g]? = some (.cells old T' fr)) {T:TypeId} (hne:T'≠T):∀ (b:Nat) (cs:Array Value) (fr:Nat × Nat),w.heap[b]? = some (.cells cs T fr)→w'.heap[b]? = w.heap[b]?:=fun b cs fr hb =>
 (h.blk hg hb hne).trans hb.symm
theorem TChg.same {w w':World} {base gt be L t k D N:Nat} {M v:Value} {C:DataW Unit} {K:List Rw} {st:Nat} (h:TChg w w' gt be v) (hT:Tkr w base gt be L t k D N M v C K st) {T:TypeId} (h1:T≠118) (h2:T≠191) (h3:99≠T):∀ (b:Nat) (cs:Array Value) (fr:Nat × Nat),w.heap[b]? = some (.cells cs T fr)→w'.heap[b]? = w.heap[b]?:=fun b cs fr hb =>
 (h.blk hT hb h1 h2 h3).trans hb.symm
def HdrF (T2 T1:TypeId) (B:Nat) (w:World) (v:Value) (n:Nat) (xss:List (List UInt8)):Prop :=
 ∃ vs,w.ownsRow B T2 1 v n vs∧xss.length = n∧∀ (j:Nat) (u:Value),vs[j]? = some u→∃ q m c xs,u = .slice q m c∧xss[j]? = some xs∧Fresh T1 B w q m c xs
theorem HdrF.nil (T2 T1 B:Nat) (w:World):HdrF T2 T1 B w (.slice none 0 0) 0 []:=⟨[],World.ownsRow_nil _ _ _ _,rfl,fun j u h=>by simp at h⟩
theorem HdrF.shape {T2 T1 B n:Nat} {w:World} {v:Value} {xss:List (List UInt8)} (h:HdrF T2 T1 B w v n xss):∃ q c,v = .slice q n c:=by
 obtain ⟨vs,o,_⟩:=h;exact owns_shape o
theorem HdrF.len {T2 T1 B n:Nat} {w:World} {v:Value} {xss:List (List UInt8)} (h:HdrF T2 T1 B w v n xss):xss.length = n:=by
 obtain ⟨vs,o,l,_⟩:=h;exact l
theorem HdrF.keep {T2 T1 B n:Nat} {w w':World} {v:Value} {xss:List (List UInt8)} (h:HdrF T2 T1 B w v n xss) (hb:Below w.heap.size w w'):HdrF T2 T1 B w' v n xss:=by
 obtain ⟨vs,o,l,r⟩:=h
 refine ⟨vs,owns_keepv o hb,l,fun j u hj=>?_⟩
 obtain ⟨q,m,c,xs,e,hx,hf⟩:=r j u hj
 exact ⟨q,m,c,xs,e,hx,hf.keep hb⟩
theorem HdrF.same {T2 T1 B n:Nat} {w w':World} {v:Value} {xss:List (List UInt8)} (h:HdrF T2 T1 B w v n xss) (hs:w.heap.size≤w'.heap.size) (h2:∀ (b:Nat) (cs:Array Value) (fr:Nat × Nat),w.heap[b]? = some (.cells cs T2 fr)→w'.heap[b]? = w.heap[b]?) (h1:∀ (b:Nat) (cs:Array Value) (fr:Nat × Nat),w.heap[b]? = some (.cells cs T1 fr)→w'.heap[b]? = w.heap[b]?):HdrF T2 T1 B w' v n xss:=by
 obtain ⟨vs,o,l,r⟩:=h
 refine ⟨vs,owns_same o hs fun g hg=>?_,l,fun j u hj=>?_⟩
 ·rcases o.2 with ⟨e1,_⟩ | ⟨g',cap,cur,e1,_,hh,_⟩
  ·rw [e1] at hg;cases hg
  ·rw [e1] at hg;cases hg
   exact h2 _ _ _ hh
 ·obtain ⟨q,m,c,xs,e,hx,hf⟩:=r j u hj
  exact ⟨q,m,c,xs,e,hx,fresh_same hf h1⟩
theorem HdrF.sl2 {T2 T1 B n:Nat} {w:World} {q:Option Addr} {c:Nat} {xss:List (List UInt8)} (h:HdrF T2 T1 B w (.slice q n c) n xss):Sl2 w q n c xss:=by
 obtain ⟨vs,o,l,r⟩:=h
 have hd:Hdr T2 w B w (.slice q n c) n xss:=⟨vs,o,l,fun j u hj=>by
  obtain ⟨q,m,c,xs,e,hx,hf⟩:=r j u hj
  exact ⟨q,m,c,xs,e,hx,hf.sl⟩⟩
 exact hd.sl2 (Below.refl _ _)
theorem HdrF.push {T2 T1 B n:Nat} {w w':World} {v v':Value} {xss:List (List UInt8)} {vs:List Value} {q:Option Addr} {m c:Nat} {xs:List UInt8} (ho:w'.ownsRow B T2 1 v' (n + 1) (vs ++ [.slice q m c])) (hvl:vs.length = n) (hl:xss.length = n)
  (hr:∀ (j:Nat) (u:Value),vs[j]? = some u→∃ q m c xs,u = .slice q m c∧xss[j]? = some xs∧Fresh T1 B w q m c xs) (hx:Fresh T1 B w q m c xs) (hp:∀ (b:Nat) (cs:Array Value) (fr:Nat × Nat),w.heap[b]? = some (.cells cs T1 fr)→w'.heap[b]? = w.heap[b]?):HdrF T2 T1 B w' v' (n + 1) (xss ++ [xs]):=by
 refine ⟨_,ho,by simp [hl],fun j u hj=>?_⟩
 by_cases h:j < vs.length
 ·rw [List.getElem?_append_left h] at hj
  obtain ⟨q,m,c,ys,e,hy,hf⟩:=hr j _ hj
  exact ⟨q,m,c,ys,e,by rw [List.getElem?_append_left (by omega)];exact hy,fresh_same hf hp⟩
 ·rw [List.getElem?_append_right (by omega)] at hj
  by_cases h0:j - vs.length = 0
  ·rw [h0] at hj
   simp at hj
   refine ⟨q,m,c,xs,hj.symm,?_,fresh_same hx hp⟩
   rw [List.getElem?_append_right (by omega),show j - xss.length = 0 by omega];rfl
  ·rw [List.getElem?_eq_none (by simp;omega)] at hj;cases hj
end Go.By
namespace Go.By
open Go.RowKit Go.Maps Go.Proofs.YtccaiiigdfieoaaGreatDoor
def OthS (T:TypeId):Prop:=T≠118∧T≠191∧99≠T∧174≠T
structure KeepS (w w':World):Prop where
 size:w.heap.size≤w'.heap.size
 same:∀ T,OthS T→∀ (b:Nat) (cs:Array Value) (fr:Nat × Nat),w.heap[b]? = some (.cells cs T fr)→w'.heap[b]? = w.heap[b]?
theorem KeepS.of {w w':World} (h:Below w.heap.size w w'):KeepS w w':=⟨h.size,fun _ _ b _ _ hb=>h.block b (lt_of_block hb)⟩
theorem KeepS.trans {w a b:World} (h:KeepS w a) (h2:KeepS a b):KeepS w b :=
 ⟨Nat.le_trans h.size h2.size,fun T hT i cs fr hi=>(h2.same T hT i cs fr ((h.same T hT i cs fr hi).trans hi)).trans (h.same T hT i cs fr hi)⟩
theorem KeepS.blk {w w':World} (h:KeepS w w') {T b:Nat} {cs:Array Value} {fr:Nat × Nat} (hT:OthS T) (hb:w.heap[b]? = some (.cells cs T fr)):w'.heap[b]? = some (.cells cs T fr):=(h.same T hT b cs fr hb).trans hb
theorem KeepS.fresh {w w':World} (h:KeepS w w') {T B n c:Nat} {q:Option Addr} {xs:List UInt8} (hT:OthS T) (hf:Fresh T B w q n c xs):Fresh T B w' q n c xs:=fresh_same hf (h.same T hT)
theorem KeepS.hdr {w w':World} (h:KeepS w w') {T2 T1 B n:Nat} {v:Value} {xss:List (List UInt8)} (h2:OthS T2) (h1:OthS T1) (hf:HdrF T2 T1 B w v n xss):HdrF T2 T1 B w' v n xss:=hf.same h.size (h.same T2 h2) (h.same T1 h1)
theorem KeepS.owns {w w':World} (h:KeepS w w') {b2 T e n:Nat} {v:Value} {ys:List Value} (hT:OthS T) (ho:w.ownsRow b2 T e v n ys):w'.ownsRow b2 T e v n ys :=
 owns_same ho h.size fun g hg=>by
  rcases ho.2 with ⟨e1,_⟩ | ⟨g',cap,cur,e1,_,hh,_⟩
  ·rw [e1] at hg;cases hg
  ·rw [e1] at hg;cases hg
   exact h.same T hT _ _ _ hh
theorem os_plan:OthS 27:=⟨by decide,by decide,by decide,by decide⟩
theorem TChg.keepS {w w':World} {base gt be L t k D N:Nat} {M v:Value} {C:DataW Unit} {K:List Rw} {st:Nat} (h:TChg w w' gt be v) (hT:Tkr w base gt be L t k D N M v C K st):KeepS w w' :=
 ⟨h.size,fun T hO=>h.same hT hO.1 hO.2.1 hO.2.2.1⟩
theorem GChg.keepSS {w w':World} {g:Nat} {cs:Array Value} {fr:Nat × Nat} (h:GChg w g w') (hg:w.heap[g]? = some (.cells cs 174 fr)):KeepS w w' :=
 ⟨h.size,fun T hO=>h.same hg hO.2.2.2⟩
end Go.By
namespace Go.Proofs.YtccaiiigdfieoaaGreatDoor
open Go.RowKit Go.By Gf Go.Maps
structure ST (wI w0 w:World) (gs gt be base L t k D:Nat) (FX:List (List UInt8)) (nx N:Nat) (v:Value) (K:List Rw) (st:Nat):Prop where
 bel:Below wI.heap.size wI w
 i0:wI.heap.size≤w0.heap.size
 le:w0.heap.size≤w.heap.size
 b1:w0.heap.size≤base
 gs0:wI.heap.size≤gs
 snd:SndO w0 w gs L t k D nx FX
 tk:∃ M C,Tkr w base gt be L t k D N M v C K st
section
variable {wI w0 w w':World} {gs gt be base L t k D nx N st:Nat} {FX:List (List UInt8)} {v:Value} {K:List Rw}
theorem ST.keep (h:ST wI w0 w gs gt be base L t k D FX nx N v K st) (hb:Below w.heap.size w w'):ST wI w0 w' gs gt be base L t k D FX nx N v K st:=by
 obtain ⟨M,C,h1⟩:=h.tk
 exact ⟨bl h.bel hb h.bel.size,h.i0,Nat.le_trans h.le hb.size,h.b1,h.gs0,h.snd.keep hb h.le,⟨M,C,h1.keep hb⟩⟩
theorem ST.sbox (h:ST wI w0 w gs gt be base L t k D FX nx N v K st):∃ cs fr,w.heap[gs]? = some (.cells cs 174 fr):=by
 obtain ⟨q,c,n0,h1,h2,h3,h4⟩:=h.snd.mem
 exact ⟨_,_,h2⟩
theorem ST.grown (h:ST wI w0 w gs gt be base L t k D FX nx N v K st) {T e n:Nat} {u:Value} {ys:List Value} (ho:w.ownsRow w0.heap.size T e u n ys) (hg:w.grownBy w' u.ownBlock) (h1:T≠191) (h2:T≠99) (h3:T≠5) (h4:T≠118) :
  ST wI w0 w' gs gt be base L t k D FX nx N v K st∧(∀ T',T≠T'→∀ (b:Nat) (cs:Array Value) (fr:Nat × Nat),w.heap[b]? = some (.cells cs T' fr)→w'.heap[b]? = w.heap[b]?):=by
 rcases ho.2 with ⟨e1,_⟩ | ⟨g,cap,cur,e1,hgb,hh,_⟩
 ·have hb:Below w.heap.size w w':=⟨hg.os,hg.tape,hg.output,hg.size,fun b hb=>hg.block b hb (fun e=>by rw [e1] at e;cases e)⟩
  exact ⟨h.keep hb,fun T' _ b cs fr hc=>hb.block b (lt_of_block hc)⟩
 ·have hc:GChg w g w':=⟨hg.os,hg.tape,hg.output,hg.size,fun b hb hne=>hg.block b hb (fun e=>by rw [e1] at e;cases e;exact hne rfl)⟩
  obtain ⟨M,C,t1⟩:=h.tk
  exact ⟨⟨h.bel.trans (hc.below (Nat.le_trans h.i0 hgb) h.bel.size),h.i0,Nat.le_trans h.le hc.size,h.b1,h.gs0,h.snd.keep (hc.below hgb h.le) (Nat.le_refl _),⟨M,C,hc.tkr hh t1 h1 h2 h3 h4⟩⟩,fun T' hne=>hc.same hh hne⟩
theorem ST.sent (h:ST wI w0 w gs gt be base L t k D FX nx N v K st) {ys:List UInt8} {nx':Nat} {code:Int} {e:Ending} (hs:SdRetQ w gs L t k D FX ys nx nx' code e w'):ST wI w0 w' gs gt be base L t k D FX nx' N v K st∧KeepS w w':=by
 obtain ⟨cs,fr,hbx⟩:=h.sbox
 obtain ⟨M,C,t1⟩:=h.tk
 have hS:=h.snd.sent hs
 obtain ⟨⟨_,_,_,_,_,_,hg⟩,-⟩:=hs
 exact ⟨⟨h.bel.trans (hg.below h.gs0 h.bel.size),h.i0,Nat.le_trans h.le hg.size,h.b1,h.gs0,hS,⟨M,C,hg.tkr hbx t1 (by decide) (by decide) (by decide) (by decide)⟩⟩,hg.keepSS hbx⟩
theorem ST_take (h:ST wI w0 w gs gt be base L t k D FX nx N v K st) (hT:HalfT wI) (hN:N < 1000000) {p:Option Addr} {n c:Nat} {xs:List UInt8} (hs:Sl B8 w p n c xs) (hn:Room n) :
  Calls Tryz.prog 16 #[.pointer (some ⟨gt,0,none⟩),.slice p n c] w fun e w'=>e = .returned (.int .i64 (readC k t D xs))∧∃ v',ST wI w0 w' gs gt be base L t k D FX nx (N + 1) v' (takeK k t D K st xs) (takeS k t D K st xs)∧KeepS w w':=by
 obtain ⟨M,C,h1⟩:=h.tk
 refine Calls.mono (TTake_any base gt be L t k D N M v C K st p n c xs w h1 (hT.keep h.bel) hN hs hn) ?_
 rintro e w1 ⟨rfl,M',v',hT',hc',ho⟩
 have hB:=hc'.below h1 h.b1 h.le
 exact ⟨rfl,v',⟨h.bel.trans (hc'.below h1 (Nat.le_trans h.i0 h.b1) h.bel.size),h.i0,Nat.le_trans h.le hc'.size,h.b1,h.gs0,h.snd.keep hB (Nat.le_refl _),⟨M',_,hT'⟩⟩,hc'.keepS h1⟩
theorem ST_send (h:ST wI w0 w gs gt be base L t k D FX nx N v K st) (hT:HalfT wI) (hnx:nx < 4294967296) {m:UInt8} {p:Option Addr} {j c s:Nat} {xs:List UInt8} (hm:srcC m j k = 0) (hs:Sl B8 w p j c xs) (hr:Room j) :
  Calls Tryz.prog 46 #[.pointer (some ⟨gs,0,none⟩),SVal m p j c s] w fun e w'=>∃ q n c',e = .returned (.tuple #[.slice q n c',.int .i64 0])∧Fresh 5 w.heap.size w' q n c' (pktB m D nx xs s (combS (vecS m xs s k) FX).1)∧ST wI w0 w' gs gt be base L t k D FX (nx + 1) N v K st∧KeepS w w':=by
 refine Calls.mono (SSend_okF gs L t k D nx FX m p j c s xs w h.snd.snd hnx hm hs hr (hT.keep h.bel)) ?_
 rintro e w1 ⟨⟨q,n,c',he,hf⟩,hq⟩
 obtain ⟨g1,g2⟩:=h.sent hq
 exact ⟨q,n,c',he,hf,g1,g2⟩
theorem ST_rank (h:ST wI w0 w gs gt be base L t k D FX nx N v K st):Calls Tryz.prog 47 #[.pointer (some ⟨gt,0,none⟩)] w fun e w'=>e = .returned (.int .i64 (K.length:Nat))∧w = w':=by
 obtain ⟨M,C,h1⟩:=h.tk
 exact TRank_any base gt be L t k D N M v C K st w h1
end
theorem ST.start {wI w0 w1:World} {gs gt be L t k D nx:Nat} {FX:List (List UInt8)} {v M:Value} {C:DataW Unit} (hB:Below wI.heap.size wI w0) (hgs:wI.heap.size≤gs) (hs:Snd w0 gs L t k D nx FX) (ht:Tkr w1 w0.heap.size gt be L t k D 0 M v C [] 0) (hb:Below w0.heap.size w0 w1):ST wI w0 w1 gs gt be w0.heap.size L t k D FX nx 0 v [] 0 :=
 ⟨bl hB hb hB.size,hB.size,hb.size,Nat.le_refl _,hgs,(SndO.start hs).keep hb (Nat.le_refl _),⟨M,C,ht⟩⟩
end Go.Proofs.YtccaiiigdfieoaaGreatDoor
namespace Go.By
end Go.By
namespace Go.Proofs.YtccaiiigdfieoaaGreatDoor
open Go.RowKit Go.By
end Go.Proofs.YtccaiiigdfieoaaGreatDoor
namespace Go.By
end Go.By
namespace Go.Proofs.YtccaiiigdfieoaaGreatDoor
open Go.RowKit Go.By
end Go.Proofs.YtccaiiigdfieoaaGreatDoor
namespace Go.By
open Go.RowKit Go.Maps Go.Proofs.YtccaiiigdfieoaaGreatDoor
theorem HdrF.lt {T2 T1 B n:Nat} {w:World} {v:Value} {xss:List (List UInt8)} (h:HdrF T2 T1 B w v n xss):∀ g,v.ownBlock = some g→g < w.heap.size:=by
 obtain ⟨vs,o,_⟩:=h
 exact fun g hg=>(o.lt g hg).2
theorem HdrF.at {T2 T1 B n:Nat} {w:World} {q:Option Addr} {c:Nat} {xss:List (List UInt8)} (h:HdrF T2 T1 B w (.slice q n c) n xss) {j:Nat} (hj:j < n):∃ b o p m d xs,q = some ⟨b,o,none⟩∧w.cell? ⟨b,o + j,none⟩ = some (.slice p m d)∧Hid (xss[j]? = some xs)∧Fresh T1 B w p m d xs:=by
 obtain ⟨b,o,p,m,d,xs,e,hc,_,hx⟩:=h.sl2.at j hj
 obtain ⟨vs,ow,l,r⟩:=h
 have hl:vs.length = n:=owns_len ow
 obtain ⟨p',m',d',xs',e1,hx',hf⟩:=r j vs[j] (List.getElem?_eq_getElem (by omega))
 have hx:=hx.out
 rw [hx'] at hx;cases hx
 refine ⟨b,o,p,m,d,xs,e,hc,hx',?_⟩
 have hc2:w.cell? ⟨b,o + j,none⟩ = some (.slice p' m' d'):=by
  rcases ow.2 with ⟨h2,_⟩ | ⟨g,cap,cur,hv,_⟩
  ·cases h2;cases e
  ·cases hv;cases e
   have h3:=ow.cellAt j (by omega)
   rw [Nat.zero_add,h3,List.getElem?_eq_getElem (by omega),e1]
 rw [hc2] at hc;cases hc
 exact hf
end Go.By
namespace Go.Proofs.YtccaiiigdfieoaaGreatDoor
open Go.RowKit Go.By Gf Go.Maps
def sentX (D nx:Nat) (k:Nat) (FX:List (List UInt8)) (m:UInt8) (j s:Nat) (xs:List UInt8):List UInt8:=if srcC m j k = 0 then pktB m D nx xs s (combS (vecS m xs s k) FX).1 else []
def nextX (nx k:Nat) (m:UInt8) (j:Nat):Nat:=if srcC m j k = 0 then nx + 1 else nx
theorem nextX_le (nx k:Nat) (m:UInt8) (j:Nat):nextX nx k m j≤nx + 1:=by unfold nextX;split <;> omega
section
variable {wI w0 w w':World} {gs gt be base L t k D nx N st:Nat} {FX:List (List UInt8)} {v:Value} {K:List Rw}
theorem ST_sendA (h:ST wI w0 w gs gt be base L t k D FX nx N v K st) (hT:HalfT wI) (hnx:nx < 4294967296) {m:UInt8} {p:Option Addr} {j c s:Nat} {xs:List UInt8} (hs:Sl B8 w p j c xs) (hr:Room j) :
  Calls Tryz.prog 46 #[.pointer (some ⟨gs,0,none⟩),SVal m p j c s] w fun e w'=>∃ q n c',e = .returned (.tuple #[.slice q n c',.int .i64 (srcC m j k)])∧Fresh 5 w.heap.size w' q n c' (sentX D nx k FX m j s xs)∧ST wI w0 w' gs gt be base L t k D FX (nextX nx k m j) N v K st∧KeepS w w':=by
 unfold sentX nextX
 by_cases hm:srcC m j k = 0
 ·rw [if_pos hm,if_pos hm,hm]
  exact ST_send h hT hnx hm hs hr
 ·rw [if_neg hm,if_neg hm]
  refine Calls.mono (SSend_bad gs L t k D nx FX m p j c s xs w h.snd.snd hnx hm hs hr) ?_
  rintro e w1 ⟨rfl,hb⟩
  exact ⟨none,0,0,rfl,Fresh.none _ _ _,h.keep hb,KeepS.of hb⟩
end
theorem OneObj.takeV {k t D:Nat} {FX:List (List UInt8)} {X K:List Rw} {x y:List UInt8} (h:OneObj k t FX X K) (hF:∀ x,x ∈ FX→x.length = t) (hk:FX.length = k) (hr:readC k t D x = 0) (he:eqX k t x = rowC t FX y) (hy:y.length = k) :
  OneObj k t FX (X ++ [rowC t FX y]) (takeK k t D K (stF K k) x)∧takeS k t D K (stF K k) x = stF (takeK k t D K (stF K k) x) k:=by
 obtain ⟨e3,e4⟩:=rowC_ok (k:=k) hF hk hy
 have e3':=e3;have e4':=e4
 rw [← he] at e3' e4'
 obtain ⟨t1,t2⟩:=h.take e3' e4' hr
 rw [t1,t2,he]
 exact ⟨h.put e3 e4,rfl⟩
end Go.Proofs.YtccaiiigdfieoaaGreatDoor
namespace Go.Proofs.YtccaiiigdfieoaaGreatDoor
open Go.RowKit Go.By
def BG (w:World) (B b:Nat) (v:Value) (t:List UInt8):Prop :=
 w.heap[b]? = some (.cells #[.pointer (some ⟨b,0,none⟩),v] 135 (0,0))∧w.ownsRow B 5 1 v t.length (t.map B8)∧v.ownBlock≠some b∧B≤w.heap.size
def BGk (w w':World) (b:Nat) (v v':Value):Prop :=
 (∀ k,k < w.heap.size→k≠b→v.ownBlock≠some k→w'.heap[k]? = w.heap[k]?)∧w.heap.size≤w'.heap.size∧(v'.ownBlock = v.ownBlock∨∀ g,v'.ownBlock = some g→w.heap.size≤g)
theorem CopyCheck_g (w:World) (b:Nat) (h:w.cell? ⟨b,0,none⟩ = some (.pointer (some ⟨b,0,none⟩))) :
  Calls Tryz.prog 126 #[.pointer (some ⟨b,0,none⟩)] w fun e w'=>e = .returned (.tuple #[])∧w = w' :=
 (Any.Builder_copyCheck_used (ρ:=wbRen) { wbLays167 with } wbExtra.toX72 b w h).mono fun _ _ ⟨h1,h2⟩=>⟨h1,h2.symm⟩
set_option maxRecDepth 100000 in
set_option maxHeartbeats 2000000 in
theorem WriteB_g (B b:Nat) (v:Value) (t:List UInt8) (x:UInt8) (w:World) (h:BG w B b v t) (hl:t.length + 1≤100000000) :
  Calls Tryz.prog 73 #[.pointer (some ⟨b,0,none⟩),B8 x] w fun e w'=>e = .returned .nilIface∧∃ v',BG w' B b v' (t ++ [x])∧BGk w w' b v v'∧(B≤b→Below B w w'):=by
 obtain ⟨i0,hi,hz0,hz1,hz2⟩:=info_parts info_u8
 obtain ⟨hbk,hown,hne,hBw⟩:=h
 obtain ⟨c0,c1⟩:=cells2 hbk
 have hlt:=lt_of_block hbk
 have HC:=Lib.hid (CopyCheck_g w b c0)
 have HBK:=Lib.hid hbk
 have HOA:Hid (∀ o,(w.alloc o).ownsRow B 5 1 v t.length (t.map B8)):=fun o=>hown.alloc o
 have HO:=Lib.hid hown
 have HNE:=Lib.hid hne
 clear hbk hown hne c0
 go_enter Tryz.func73,Tryz.ntmps73
 go_wp2_with fail
 refine Calls.mono HC.out ?_
 rintro e w1 ⟨rfl,rfl⟩
 go_wp2_with (at_builtin;refine wpList_append_where _ rfl _ _ 22 rfl B 5 i0 (.int .u8 0) 1 1 Tryz.underlying22 hi hz0 hz1 hz2 rfl (by decide) v t.length (t.map B8) rfl (HOA.out _) ⟨w.heap.size,0,none⟩ 1 1 [B8 x] rfl rfl ?c1 ?c2 ?c3 ?c4 ?c5 (by decide) ?_)
 case c1 =>
  intro j u hj
  match j,hj with
  | 0,hj=>simp at hj;subst hj;rw [Addr.add_lit,cell_of_row _ _ _ _ _ _ (hnew (by simp))];rfl
 case c2=>intro u hu;simp at hu;subst hu;rfl
 case c3=>unfold maxLen;omega
 case c4=>omega
 case c5=>simp;omega
 intro v' w2 hown' hgrow hwh
 have hb2:w2.heap[b]? = some (.cells #[.pointer (some ⟨b,0,none⟩),v] 135 (0,0)):=by
  rw [hgrow.block b (by simp;omega) (fun e=>HNE.out e.symm),Lib.alloc_old w _ b hlt]
  exact HBK.out
 obtain ⟨d0,d1⟩:=cells2 hb2
 have f1:w2.frozen? ⟨b,1,none⟩ = false:=frozen_of_row _ _ 1 _ _ hb2
 have HW:=Lib.hid hwh
 have HG:=Lib.hid hgrow
 have HN:=Lib.hid hown'
 have HB2:=Lib.hid hb2
 obtain ⟨q,c,rfl⟩:=owns_shape hown'
 clear hown' hgrow hwh hb2
 go_wp2
 go_ret
 refine ⟨rfl,.slice q (t.length + 1) c,⟨?_,?_,?_,?_⟩,⟨?_,?_,?_⟩,fun hB=>?_⟩
 ·simp [World.setCell,Array.getElem?_modify,HB2.out]
 ·have hne:=Lib.ownBlock_ne HN.out HB2.out (by decide)
  have:=HN.out.kept (w':=w2.setCell ⟨b,1,none⟩ (.slice q (t.length + 1) c)) (row:=some b) ⟨rfl,rfl,rfl,by simp [World.setCell],fun k _ hk=>Below.heap_setCell _ _ _ _ (fun e=>hk (by simp [e]))⟩ (Or.inr hne)
  simpa [List.map_append] using this
 ·exact Lib.ownBlock_ne HN.out HB2.out (by decide)
 ·have:=HG.out.size;simp [World.setCell] at this ⊢;omega
 ·intro k hk hkb hkv
  rw [Below.heap_setCell _ _ _ _ (fun e=>hkb e),HG.out.block k (by simp;omega) (fun e=>hkv e.symm),Lib.alloc_old w _ k hk]
 ·have:=HG.out.size;simp [World.setCell] at this ⊢;omega
 ·rcases HW.out with e | e
  ·exact .inl e
  ·refine .inr fun g hg=>?_
   rw [e] at hg
   cases hg
   simp
 ·exact (((Below.refl B w).alloc hBw _).grown HG.out (by simp;omega) (fun k hk=>(HO.out.lt k hk).1)).setCell (p:=⟨b,1,none⟩) hB _
def MidW (w6 wr:World) (s5:Nat) (v:Value):Prop:=(∀ k,s5≤k→k < w6.heap.size→wr.heap[k]? = w6.heap[k]?)∧w6.heap.size≤wr.heap.size∧∀ g,v.ownBlock = some g→g < s5∨w6.heap.size≤g
theorem MidW.step {w6 wr w':World} {s5 b:Nat} {v v':Value} (h:MidW w6 wr s5 v) (hk:BGk wr w' b v v') (hb:b < s5):MidW w6 w' s5 v':=by
 obtain ⟨h1,h2,h3⟩:=h
 obtain ⟨k1,k2,k3⟩:=hk
 refine ⟨fun k a c=>?_,by omega,fun g hg=>?_⟩
 ·rw [k1 k (by omega) (by omega) (fun e=>by have:=h3 k e;omega)];exact h1 k a c
 ·rcases k3 with e | e
  ·exact h3 g (by rw [← e];exact hg)
  ·have:=e g hg;exact .inr (by omega)
theorem HdrF.mid {T2 T1 B n:Nat} {w w':World} {v:Value} {xss:List (List UInt8)} (h:HdrF T2 T1 B w v n xss) (hs:w.heap.size≤w'.heap.size) (hm:∀ k,B≤k→k < w.heap.size→w'.heap[k]? = w.heap[k]?):HdrF T2 T1 B w' v n xss:=by
 obtain ⟨vs,o,l,r⟩:=h
 refine ⟨vs,owns_same o hs fun g hg=>hm g (o.lt g hg).1 (o.lt g hg).2,l,fun j u hj=>?_⟩
 obtain ⟨q,m,c,xs,e,hx,hf⟩:=r j u hj
 have hd:∀ a,q = some a→w'.heap[a.block]? = w.heap[a.block]?:=fun a ha=>by
  obtain ⟨cs,fr,e⟩:=hf.ty a ha
  exact hm _ (hf.new a ha) (lt_of_block e)
 refine ⟨q,m,c,xs,e,hx,⟨hf.sl.len,hf.sl.le,hf.sl.max,hf.sl.nil,fun i hi=>?_⟩,hf.new,fun a ha=>?_⟩
 ·obtain ⟨b,o,e,hc⟩:=hf.sl.rs i hi
  exact ⟨b,o,e,(World.cell?_of_block (a:=⟨b,o + i,none⟩) (show w'.heap[b]? = w.heap[b]? from hd ⟨b,o,none⟩ e)).trans hc⟩
 ·obtain ⟨cs,fr,e⟩:=hf.ty a ha
  exact ⟨cs,fr,(hd a ha).trans e⟩
end Go.Proofs.YtccaiiigdfieoaaGreatDoor
namespace Go.Proofs.YtccaiiigdfieoaaGreatDoor
open Go.RowKit Go.By Go.Maps
end Go.Proofs.YtccaiiigdfieoaaGreatDoor
