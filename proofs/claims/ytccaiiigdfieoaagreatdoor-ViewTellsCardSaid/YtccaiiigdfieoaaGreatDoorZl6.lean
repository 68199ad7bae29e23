/- The contract of a system's Put: a row more. The contract of vec.Unit. The contract of a system's Known. The contract of the reference's Same of layer 7. The example of chapter 7. The law's example of chapter 8; what is told of no system. A system's Rest and Put,where the sizes don't fit,or nothing is left. The contract of the reference's Put of chapter 8. The contract of the reference's Known of chapter 8. The law's Same and Fit of chapter 8. A system's Rows and Clone. A system's Clone. A system's Solve. What a system's Put leaves as it is; Put of an equation that fits,and the reference's,whatever comes of it. Plain laws of GridTells: rows and what they are joined; a unit's bytes. GridTells: the walk,no unit. The walk of the grid's Inverse. Plain laws of GridReckons: rows and their vectors,products,columns,the inverse. The contract of the reference's Mul. GridTells: the walk,no grid,a unit. GridTells: the walk,a grid,a unit. GridTells: the walk,whole. What the laws of grids carry along from call to call. The contract of the reference's without. The contract of the reference's Det. Plain laws of GridRanks: ranks of turned grids and products,determinants,inverses of inverses. Plain law of ElimSolves: equations that symbols solve. Bytes made,and copied into a block known whole. Chapter 5: bytes out of a seed: New,Next,Bytes,Row; a seed as eight bytes. Chapter 5: mix.New,Row; a seed as eight bytes,and of eight bytes. The contracts of the plan's functions: needed,fits,Check,Of; and of the reference's Needs and Check. The contracts of slices.Grow and Concat at bytes; of the whole of the symbols (G0 holds them). Chapter 13: head.Check,Bytes. Chapter 14: row.Width,fits,Vector,Write. Chapter 14: row.Explicit,Seeded,Read. -/
import Derived.Test.YtccaiiigdfieoaaGreatDoorZl5
import Derived.OpenShut
import Derived.WalkLawsBesides
import Derived.BigQuiet
namespace Go.By
open Go.RowKit
structure Chg (w w':World) (be:Nat) (v:Value):Prop where
 os:w'.os = w.os
 tape:w'.tape = w.tape
 output:w'.output = w.output
 size:w.heap.size≤w'.heap.size
 block:∀ b,b < w.heap.size→b≠be→v.ownBlock≠some b→w'.heap[b]? = w.heap[b]?
theorem Chg.of {w w':World} (be:Nat) (v:Value) (h:Below w.heap.size w w'):Chg w w' be v:=⟨h.os,h.tape,h.output,h.size,fun b hb _ _=>h.block b hb⟩
theorem Chg.below {w a b:World} {be:Nat} {v:Value} (h:Chg w a be v) (g:Below a.heap.size a b):Chg w b be v:=⟨g.os.trans h.os,g.tape.trans h.tape,g.output.trans h.output,Nat.le_trans h.size g.size,fun k hk h1 h2=>(g.block k (Nat.lt_of_lt_of_le hk h.size)).trans (h.block k hk h1 h2)⟩
theorem Chg.grown {w a b:World} {be:Nat} {v:Value} (h:Chg w a be v) (g:a.grownBy b v.ownBlock):Chg w b be v:=⟨g.os.trans h.os,g.tape.trans h.tape,g.output.trans h.output,Nat.le_trans h.size g.size,fun k hk h1 h2=>(g.block k (Nat.lt_of_lt_of_le hk h.size) (fun e=>h2 e.symm)).trans (h.block k hk h1 h2)⟩
theorem Chg.box {w a:World} {be:Nat} {v:Value} (h:Chg w a be v) (o:Nat) (u:Value):Chg w (a.setCell ⟨be,o,none⟩ u) be v:=⟨h.os,h.tape,h.output,by simpa using h.size,fun k hk h1 h2=>(Below.heap_setCell _ _ _ _ h1).trans (h.block k hk h1 h2)⟩
theorem take_while {α:Type} (p:α→Bool):∀ (M:List α) (r:Nat),r≤M.length→(∀ j x,j < r→M[j]? = some x→p x = true)→(∀ x,M[r]? = some x→p x = false)→M.takeWhile p = M.take r∧M.dropWhile p = M.drop r
 | [],r,h,_,_=>by simp at h;subst h;exact ⟨rfl,rfl⟩
 | a :: M,0,_,_,h2=>by
  have:=h2 a rfl
  rw [List.takeWhile_cons,List.dropWhile_cons,this];exact ⟨rfl,rfl⟩
 | a :: M,r + 1,h,h1,h2=>by
  have:=h1 0 a (by omega) rfl
  obtain ⟨e1,e2⟩:=take_while p M r (by simpa using h) (fun j x hj hx=>h1 (j + 1) x (by omega) (by simpa using hx)) (fun x hx=>h2 x (by simpa using hx))
  rw [List.takeWhile_cons,List.dropWhile_cons,this,if_pos rfl,if_pos rfl,e1,e2];exact ⟨rfl,rfl⟩
theorem RwL.ne_box {T2 T1 TX g n base:Nat} {w:World} {v:Value} {K:List (List UInt8 × List UInt8)} {cs:Array Value} {fr:Nat × Nat} (h:RwL T2 T1 w base v n K) (hX:w.heap[g]? = some (.cells cs TX fr)) (hT:T2≠TX):v.ownBlock≠some g:=by
 obtain ⟨vs,a,b,o,r⟩:=h
 intro e
 rcases o.2 with ⟨hv,_⟩ | ⟨g',cap,cur,hv,_,hh,_⟩
 ·rw [hv] at e;simp [Value.ownBlock] at e
 ·rw [hv] at e;simp [Value.ownBlock] at e
  rw [e,hX] at hh
  injection hh with hh;injection hh with _ hh _;exact hT hh.symm
def shpOne (T B:Nat) (u1 u2:Value):Shp:=⟨fun v W=>∃ vb,v = .slice (some ⟨vb,0,none⟩) 1 1∧W.heap[vb]? = some (.cells #[u1,u2] T (0,0))∧B≤vb,fun _ _ _ ⟨vb,e,h,g⟩ hb=>⟨vb,e,(hb.block _ (blk_lt h)).trans h,g⟩⟩
def shpRowO (T B:Nat) (r:List UInt8 × List UInt8):Shp:=⟨fun v W=>∃ u1 u2,v = .agg #[u1,u2]∧Bw T W B u1 r.1∧Bw T W B u2 r.2,fun _ _ _ ⟨u1,u2,e,h1,h2⟩ hb=>⟨u1,u2,e,h1.keep hb,h2.keep hb⟩⟩
def shpRowTO (T B:Nat) (r:List UInt8 × List UInt8) (code:Int):Shp:=⟨fun v W=>∃ u,v = .tuple #[u,.int .i64 code]∧(shpRowO T B r).ok u W,fun _ _ _ ⟨u,e,h⟩ hb=>⟨u,e,(shpRowO T B r).keep _ _ _ h hb⟩⟩
theorem RwL.blk {T2 T1 base n c g:Nat} {w:World} {K:List (List UInt8 × List UInt8)} (h:RwL T2 T1 w base (.slice (some ⟨g,0,none⟩) n c) n K):∃ cur:Array Value,w.heap[g]? = some (.cells cur T2 (0,0)):=by
 obtain ⟨vs,a,b,o,r⟩:=h
 rcases o.2 with ⟨hv,_⟩ | ⟨g',cap,cur,hv,_,hh,_⟩
 ·simp at hv
 ·obtain ⟨rfl,rfl⟩:g = g'∧c = cap:=by simpa using hv
  exact ⟨cur,hh⟩
theorem Bw.sl' {T1 base m c:Nat} {w:World} {q:Option Addr} {xs:List UInt8} (h:Bw T1 w base (.slice q m c) xs):Sl B8 w q m c xs:=by
 obtain ⟨q',m',c',e,l,o⟩:=h;cases e;exact Sl.of_owns o
theorem Bw.mk {T1 base m c:Nat} {w:World} {q:Option Addr} {xs:List UInt8} (o:w.ownsRow base T1 1 (.slice q m c) m (xs.map B8)) (l:xs.length = m):Bw T1 w base (.slice q m c) xs:=⟨q,m,c,rfl,l,o⟩
theorem Bw.mono {T1 base b2:Nat} {w:World} {v:Value} {xs:List UInt8} (h:Bw T1 w base v xs) (hb:b2≤base):Bw T1 w b2 v xs:=by
 obtain ⟨q',m',c',e,l,o⟩:=h;exact ⟨q',m',c',e,l,owns_mono o hb⟩
end Go.By
namespace Go.Proofs.YtccaiiigdfieoaaGreatDoor
open Go.RowKit Go.By
theorem zero_lead {v:List UInt8} (h:¬ leadS v < 0):zeroS v = false:=by
 unfold zeroS
 cases e:v.all (fun x=>decide (x = 0)) with
 | false=>rfl
 | true =>
  refine absurd ?_ h
  have hz:∀ x,x ∈ v→x = 0:=fun x hx=>by simpa using List.all_eq_true.1 e x hx
  have:leadS v = -1:=idxf_none (k:=v.length) rfl fun j y _ hy=>by rw [hz y (List.mem_of_getElem? hy)];rfl
  rw [this];decide
set_option maxRecDepth 100000 in
set_option maxHeartbeats 8000000 in
theorem EPut_grown (base be k t n:Nat) (v:Value) (K:List Rw) (p1 p2:Option Addr) (c1 c2:Nat) (x:Rw) (w:World) (hE:Elm w base be k t v n K) (s1:Sl B8 w p1 k c1 x.1) (s2:Sl B8 w p2 t c2 x.2) (hR:Red k t K) (hk:k≤4096) (ht:t≤65535) (hn:¬ leadS (restF K x).1 < 0) (hnn:n≤4096) :
  Calls Tryz.prog 64 #[.pointer (some ⟨be,0,none⟩),.agg #[.slice p1 k c1,.slice p2 t c2]] w fun e w'=>e = .returned (.tuple #[.int .i64 0,.int .i64 0]) ∧
   ∃ v',Elm w' base be k t v' (n + 1) (putF K x)∧Chg w w' be v∧(v'.ownBlock = v.ownBlock∨∀ b,v'.ownBlock = some b→w.heap.size≤b):=by
 have hx:Fit k t x:=⟨s1.len,s2.len⟩
 obtain ⟨q,c,rfl⟩:=hE.rows.shape
 obtain ⟨l,hL,hF,h0,-,-⟩:=rest_norm hR.kept hx hn
 obtain ⟨Y,hY⟩:∃ Y,Y = normS (restF K x):=⟨_,rfl⟩
 have hput:Hid (putF K x = putAt (K.map (clrF Y)) Y):=by rw [hY];rfl
 rw [← hY] at hL hF h0
 have hKn:=hE.rows.len
 have hclr:Hid (∀ r,r ∈ K→Fit k t (clrF Y r)∧LeadAt (clrF Y r) (leadN r)):=fun r hr=>by
  have h:=clr_row hL hF (hR.kept.rows r hr).1 (hR.kept.rows r hr).2 (h0 r hr)
  exact ⟨h.1,h.2.1⟩
 obtain ⟨f,hf⟩:∃ f:Nat→Bool,f = fun i=>decide ((l:Int) < leadS ((K.map (clrF Y)).getD i ([],[])).1):=⟨_,rfl⟩
 have hfat:Hid (∀ i a,K[i]? = some a→f i = decide ((l:Int) < (leadN a:Int))):=fun i a ha=>by
  rw [hf]
  show decide ((l:Int) < leadS ((K.map (clrF Y)).getD i ([],[])).1) = _
  rw [List.getD_eq_getElem?_getD,List.getElem?_map,ha]
  show decide ((l:Int) < leadS (clrF Y a).1) = _
  rw [(hclr.out a (List.mem_of_getElem? ha)).2.1]
 have hmono:Hid (∀ i j,i≤j→j < n→f i = true→f j = true):=fun i j hij hj hfi=>by
  obtain ⟨a,ha⟩:∃ a,K[i]? = some a:=⟨_,List.getElem?_eq_getElem (by omega)⟩
  obtain ⟨b,hb⟩:∃ b,K[j]? = some b:=⟨_,List.getElem?_eq_getElem (by omega)⟩
  rw [hfat.out i a ha] at hfi
  rw [hfat.out j b hb]
  rcases Nat.lt_or_ge i j with g | g
  ·have h1:=List.pairwise_iff_getElem.1 hR.kept.sorted i j (by omega) (by omega) g
   have ea:K[i]'(by omega) = a:=by rw [List.getElem?_eq_getElem (by omega)] at ha;injection ha
   have eb:K[j]'(by omega) = b:=by rw [List.getElem?_eq_getElem (by omega)] at hb;injection hb
   rw [ea,eb] at h1
   have h2:=of_decide_eq_true hfi
   exact decide_eq_true (by omega)
  ·have e:i = j:=by omega
   subst e;rw [ha] at hb;cases hb;exact hfi
 have hfin:Hid (∀ r,r≤n→(∀ i,i < r→f i = false)→(∀ i,r≤i→i < n→f i = true)→(K.map (clrF Y)).take r ++ Y :: (K.map (clrF Y)).drop r = putF K x):=fun r hr h1 h2=>by
  rw [hput.out]
  unfold putAt
  rw [hL.1]
  obtain ⟨e1,e2⟩:=take_while (fun r:Rw=>decide (leadS r.1≤(l:Int))) (K.map (clrF Y)) r (by rw [List.length_map];omega) (fun j z hj hz=>by
   have h3:=h1 j hj
   rw [hf] at h3
   have h4:(K.map (clrF Y)).getD j ([],[]) = z:=by rw [List.getD_eq_getElem?_getD,hz];rfl
   simp only [h4] at h3
   have h5:=of_decide_eq_false h3
   exact decide_eq_true (by omega)) (fun z hz=>by
   have hrn:r < n:=by have:=(List.getElem?_eq_some_iff.1 hz).1;rw [List.length_map] at this;omega
   have h3:=h2 r (Nat.le_refl _) hrn
   rw [hf] at h3
   have h4:(K.map (clrF Y)).getD r ([],[]) = z:=by rw [List.getD_eq_getElem?_getD,hz];rfl
   simp only [h4] at h3
   have h5:=of_decide_eq_true h3
   exact decide_eq_false (by omega))
  rw [e1,e2]
 have hbe:=hE.old
 have HE:=Lib.hid hE;have S1:=Lib.hid s1;have S2:=Lib.hid s2;have HLY:=Lib.hid hL.1;have HFY:=Lib.hid hF;have HKL:=Lib.hid hR.kept.rows;have HKN:=Lib.hid hKn;have HYE:=Lib.hid hY
 have HZ:Hid (zeroS (restF K x).1 = false):=zero_lead hn
 have HBE:Hid (be < w.heap.size):=blk_lt hE.box
 have hlk:l < k:=hL.lt hF
 have HFF:=Lib.hid hf
 have HRF:Hid (Fit k t (restF K x)):=hx.rest (fun a ha=>(hR.kept.rows a ha).1)
 have hbw:base≤w.heap.size:=by have h1:=blk_lt hE.box;omega
 clear hE s1 s2 hR hn hx hL hF h0 hY hKn hf
 go_enter Tryz.func64,Tryz.ntmps64
 go_wp2_with fail
 refine use_w1 (fun W=>Below w.heap.size w W∧W.heap[w.heap.size]? = some (.cells #[.pointer (some ⟨be,0,none⟩)] 114 (0,0))∧w.heap.size + 2≤W.heap.size) ⟨al (al (Below.refl _ _) (Nat.le_refl _)) (by simp),hal (hnew rfl),by simp⟩ ?_
 rintro w2 ⟨b0,x0,z0⟩
 refine Calls.mono (ERest_any base be k t n _ K p1 p2 c1 c2 x w2 (HE.out.keep b0) (S1.out.keep b0) (S2.out.keep b0) HKL.out hk ht) ?_
 rintro e w3 ⟨q1,m1,g1,q2,m2,g2,l1,l2,rfl,o1,o2,hb⟩
 have B3:=Lib.hid (bl b0 hb b0.size)
 have X3:=Lib.hid ((hb.block _ (blk_lt x0)).trans x0)
 have L1:=Lib.hid (Sl.of_owns o1);have L2:=Lib.hid (Sl.of_owns o2)
 clear b0 x0 z0 o1 o2 hb l1 l2 S1 S2
 go_wp2_with fail
 refine use_w1 (fun W=>Below w3.heap.size w3 W∧W.heap[w3.heap.size]? = some (.cells #[.slice q1 m1 g1,.slice q2 m2 g2] 99 (0,0))) ⟨al (Below.refl _ _) (Nat.le_refl _),hnew rfl⟩ ?_
 rintro w4 ⟨b4,x4⟩
 obtain ⟨b6,h6⟩:∃ b6,b6 = w3.heap.size:=⟨_,rfl⟩
 rw [← h6] at x4 ⊢
 have hb6:w.heap.size < b6:=by rw [h6];exact blk_lt X3.out
 have hb64:b6 < w4.heap.size:=blk_lt x4
 refine Calls.mono (VZero_any q1 m1 g1 (restF K x).1 w4 (L1.out.keep b4)) ?_
 rintro e w' ⟨rfl,rfl⟩
 rw [HZ.out]
 have B4:=Lib.hid (bl B3.out b4 B3.out.size)
 have X24:=Lib.hid ((b4.block _ (blk_lt X3.out)).trans X3.out)
 have X64:=Lib.hid x4
 have L14:=Lib.hid (L1.out.keep b4);have L24:=Lib.hid (L2.out.keep b4)
 have hr1:m1≤4096:=by have h1:=L1.out.len;have h2:=HRF.out.1;omega
 have hr2:m2≤65535:=by have h1:=L2.out.len;have h2:=HRF.out.2;omega
 clear b4 x4 B3 X3 L1 L2 h6
 obtain ⟨y0,y1⟩:=cells2 X64.out
 go_wp2_with fail
 refine Calls.mono (Norm_any q1 q2 m1 g1 m2 g2 (restF K x).1 (restF K x).2 w4 L14.out L24.out (by unfold Room;omega) (by unfold Room;omega)) ?_
 rintro e w5 ⟨q5,m5,g5,q6,m6,g6,l5,l6,rfl,o5,o6,hb⟩
 rw [← show Y = normS ((restF K x).1,(restF K x).2) from HYE.out] at l5 l6 o5 o6
 have B5:=Lib.hid (bl B4.out hb B4.out.size)
 have X25:=Lib.hid ((hb.block _ (blk_lt X24.out)).trans X24.out)
 have X65:=Lib.hid ((hb.block _ (blk_lt X64.out)).trans X64.out)
 have ne1:w.heap.size≠b6:=by omega
 have N6:Hid (Below w.heap.size w ((w5.setCell ⟨b6,0,none⟩ (.slice q5 m5 g5)).setCell ⟨b6,1,none⟩ (.slice q6 m6 g6))∧((w5.setCell ⟨b6,0,none⟩ (.slice q5 m5 g5)).setCell ⟨b6,1,none⟩ (.slice q6 m6 g6)).heap[w.heap.size]? = some (.cells #[.pointer (some ⟨be,0,none⟩)] 114 (0,0)) ∧
   ((w5.setCell ⟨b6,0,none⟩ (.slice q5 m5 g5)).setCell ⟨b6,1,none⟩ (.slice q6 m6 g6)).heap[b6]? = some (.cells #[.slice q5 m5 g5,.slice q6 m6 g6] 99 (0,0)) ∧
   Bw 5 ((w5.setCell ⟨b6,0,none⟩ (.slice q5 m5 g5)).setCell ⟨b6,1,none⟩ (.slice q6 m6 g6)) w.heap.size (.slice q5 m5 g5) Y.1∧Bw 5 ((w5.setCell ⟨b6,0,none⟩ (.slice q5 m5 g5)).setCell ⟨b6,1,none⟩ (.slice q6 m6 g6)) w.heap.size (.slice q6 m6 g6) Y.2) :=
  ⟨(B5.out.setCell (by show w.heap.size≤b6;omega) _).setCell (by show w.heap.size≤b6;omega) _,hsc (hsc X25.out ne1) ne1,hss (hss X65.out),Bw.mk (owns_mono (owns_set (owns_set o5 hb64) hb64) (by omega)) l5.out,Bw.mk (owns_mono (owns_set (owns_set o6 hb64) hb64) (by omega)) l6.out⟩
 obtain ⟨y0',y1'⟩:=cells2 X65.out
 have z0:=frozen_of_row _ _ 0 _ _ X65.out
 have z1:=frozen_of_row _ _ 1 _ _ X65.out
 clear y0 y1 o5 o6 hb B4 X24 X64 L14 L24 B5 X25 X65 l5 l6
 go_wp2_with fail
 clear y0' y1' z0 z1
 refine use_w1 (fun W=>Below w.heap.size w W∧W.heap[w.heap.size]? = some (.cells #[.pointer (some ⟨be,0,none⟩)] 114 (0,0))∧W.heap[b6]? = some (.cells #[.slice q5 m5 g5,.slice q6 m6 g6] 99 (0,0))∧Bw 5 W w.heap.size (.slice q5 m5 g5) Y.1∧Bw 5 W w.heap.size (.slice q6 m6 g6) Y.2) N6.out ?_
 rintro w6 ⟨b6',x26,x66,yb1,yb2⟩
 clear N6
 refine Calls.mono (Lead_any q5 m5 g5 Y.1 w6 yb1.sl') ?_
 rintro e w' ⟨rfl,rfl⟩
 rw [HLY.out]
 have B6:=Lib.hid b6';have X26:=Lib.hid x26;have X66:=Lib.hid x66;have Y1:=Lib.hid yb1;have Y2:=Lib.hid yb2
 have E6:=Lib.hid (HE.out.keep b6')
 clear b6' x26 x66 yb1 yb2
 obtain ⟨f0,f1,f2⟩:=cells3 (hal (o:=.cells #[.int .i64 l] 3) E6.out.box)
 have p0:(w6.alloc (.cells #[.int .i64 l] 3)).cell? ⟨w.heap.size,0,none⟩ = some (.pointer (some ⟨be,0,none⟩)):=cell_of_row _ _ 0 _ _ _ (hal X26.out)
 obtain ⟨b8,h8⟩:∃ b8,b8 = w6.heap.size:=⟨_,rfl⟩
 have hb8:b6 < b8:=by rw [h8];exact blk_lt X66.out
 have NA:Hid (∀ o,Below w6.heap.size w6 (w6.alloc o)):=fun o=>al (Below.refl _ _) (Nat.le_refl _)
 obtain ⟨b2,hb2⟩:∃ b2,b2 = w.heap.size:=⟨_,rfl⟩
 go_wp2
 clear f0 f1 f2 p0
 rw [← h8]
 have H8:=Lib.hid h8
 clear h8
 go_loopw [39] (fun i wr=>∃ j:Nat,j≤n∧i = .int .i64 j∧Hid (RwL 99 5 wr base (.slice q n c) n ((K.take j).map (clrF Y) ++ K.drop j))∧Hid (wr.heap[be]? = some (.cells #[.int .i64 k,.int .i64 t,.slice q n c] 191 (0,0))) ∧
  Hid (wr.heap[w.heap.size]? = some (.cells #[.pointer (some ⟨be,0,none⟩)] 114 (0,0)))∧Hid (wr.heap[b6]? = some (.cells #[.slice q5 m5 g5,.slice q6 m6 g6] 99 (0,0)))∧Hid (wr.heap[b8]? = some (.cells #[.int .i64 l] 3 (0,0))) ∧
  Hid (Bw 5 wr w.heap.size (.slice q5 m5 g5) Y.1)∧Hid (Bw 5 wr w.heap.size (.slice q6 m6 g6) Y.2)∧Hid (Chg w wr be (.slice q n c))) (fun i _=>n - (intOf i).toNat)
 case atStart=>exact ⟨0,Nat.zero_le _,rfl,by show RwL _ _ _ _ _ _ _;simpa using (E6.out.keep (NA.out _)).rows,(E6.out.keep (NA.out _)).box,hal X26.out,hal X66.out,hnew H8.out,Y1.out.keep (NA.out _),Y2.out.keep (NA.out _),(Chg.of be _ B6.out).below (NA.out _)⟩
 case round =>
  clear B6 X26 X66 Y1 Y2 E6 NA
  obtain ⟨j,hj,rfl,hR,hX,h2,hX6,hX8,hY1,hY2,hC⟩:=hrel
  have HKJ:Hid (∀ a,K[j]? = some a→((K.take j).map (clrF Y) ++ K.drop j)[j]? = some a):=fun a ha=>by
   have lj:((K.take j).map (clrF Y)).length = j:=by rw [List.length_map,List.length_take,HKN.out];omega
   rw [List.getElem?_append_right (by omega),lj,Nat.sub_self,List.getElem?_drop];simpa using ha
  by_cases hjl:j < n
  ·have jn:(j:Int) < (n:Int):=by omega
   obtain ⟨A,hA⟩:∃ A,K[j]? = some A:=⟨_,List.getElem?_eq_getElem (by rw [HKN.out];exact hjl)⟩
   obtain ⟨g,kk,a1,b1,d1,a2,b2',d2,rfl,e1,e2,hkk,t1,t2⟩:=hR.out.at hjl
   have hkA:kk = A:=by have h:=hkk.out;rw [HKJ.out A hA] at h;cases h;rfl
   subst hkA
   have fA:=(HKL.out kk (List.mem_of_getElem? hA))
   have HA:=Lib.hid hA;have T1:=Lib.hid t1;have T2:=Lib.hid t2
   have HE1:=Lib.hid e1;have HE2:=Lib.hid e2
   obtain ⟨CJ,hCJ⟩:∃ CJ,CJ = atS kk.1 (l:Int):=⟨_,rfl⟩
   have HYJ:Hid (clrF Y kk = lessF kk CJ Y):=by show _ = _;unfold clrF;rw [HLY.out,hCJ]
   have HFA:=Lib.hid fA
   have HAT:Hid (∀ W,Sl B8 W a1 b1 d1 kk.1→Calls Tryz.prog 116 #[.slice a1 b1 d1,.int .i64 l] W fun e w'=>e = .returned (B8 CJ)∧W = w'):=fun W h=>by rw [hCJ];exact At_any _ _ _ _ l W h
   have c8:(wr.alloc (.cells #[.slice a1 b1 d1,.slice a2 b2' d2] 99)).cell? ⟨b8,0,none⟩ = some (.int .i64 l):=cell_of_row _ _ 0 _ _ _ (hal hX8.out)
   clear t1 t2 hkk hA fA hCJ
   go_wp2_with fail
   clear e1 e2 c8
   refine use_w1 (fun W=>Below wr.heap.size wr W∧W.heap[wr.heap.size]? = some (.cells #[.slice a1 b1 d1,.slice a2 b2' d2] 99 (0,0))) ⟨al (Below.refl _ _) (Nat.le_refl _),hnew rfl⟩ ?_
   rintro w7 ⟨b7,x7⟩
   refine Calls.mono (HAT.out w7 (T1.out.keep b7)) ?_
   rintro e w' ⟨rfl,rfl⟩
   have B7:=Lib.hid b7;have X7:=Lib.hid x7
   have R7:=Lib.hid (hR.out.keep b7);have E7:=Lib.hid ((b7.block _ (blk_lt hX.out)).trans hX.out);have P7:=Lib.hid ((b7.block _ (blk_lt h2.out)).trans h2.out)
   have X67:=Lib.hid ((b7.block _ (blk_lt hX6.out)).trans hX6.out);have X87:=Lib.hid ((b7.block _ (blk_lt hX8.out)).trans hX8.out)
   have Y17:=Lib.hid (hY1.out.keep b7);have Y27:=Lib.hid (hY2.out.keep b7);have C7:=Lib.hid (hC.out.below b7)
   have T17:=Lib.hid (T1.out.keep b7);have T27:=Lib.hid (T2.out.keep b7)
   clear b7 x7 HAT hR hX h2 hX6 hX8 hY1 hY2 hC T1 T2 HE1 HE2 HKJ
   have HKS:Hid ((K.take (j + 1)).map (clrF Y) ++ K.drop (j + 1) = ((K.take j).map (clrF Y) ++ K.drop j).set j (clrF Y kk)):=by
    show _ = _
    have lj:((K.take j).map (clrF Y)).length = j:=by rw [List.length_map,List.length_take,HKN.out];omega
    rw [List.set_append_right _ _ (by omega),lj,Nat.sub_self,List.take_add_one,HA.out,List.map_append]
    have:K.drop j = kk :: K.drop (j + 1):=by
     obtain ⟨hl,e⟩:=List.getElem?_eq_some_iff.1 HA.out
     rw [List.drop_eq_getElem_cons hl,e]
    rw [this];simp
   by_cases hc:CJ = 0
   ·have hz:((CJ.toNat:Int) != 0) = false:=by rw [hc];rfl
    have HKZ:Hid ((K.take (j + 1)).map (clrF Y) ++ K.drop (j + 1) = (K.take j).map (clrF Y) ++ K.drop j):=by
     show _ = _
     rw [HKS.out,HYJ.out,hc,less_zero HFA.out.1 HFY.out]
     refine List.ext_getElem? fun i=>?_
     rw [List.getElem?_set]
     by_cases e:j = i
     ·subst e
      have lj:((K.take j).map (clrF Y)).length = j:=by rw [List.length_map,List.length_take,HKN.out];omega
      rw [if_pos rfl,if_pos (by rw [List.length_append,lj,List.length_drop,HKN.out];omega),List.getElem?_append_right (by omega),lj,Nat.sub_self,List.getElem?_drop]
      have:=HA.out;simpa using this.symm
     ·rw [if_neg e]
    have R8:=Lib.hid R7.out
    rw [← HKZ.out] at R8
    clear hc HKZ HKS HYJ R7 HA T17 T27 HFA B7 X7
    go_wp2
    go_roundw
    case rel=>exact ⟨j + 1,by omega,by go_num,R8.out,E7.out,P7.out,X67.out,X87.out,Y17.out,Y27.out,C7.out⟩
    case measure=>simp [intOf];omega
   ·have hz:((CJ.toNat:Int) != 0) = true:=by simp;exact fun h=>hc (UInt8.toNat_inj.1 (by simpa using h))
    obtain ⟨YJ,hYJ⟩:∃ YJ,YJ = lessF kk CJ Y:=⟨_,rfl⟩
    have HLS:Hid (∀ W,Sl B8 W a1 b1 d1 kk.1→Sl B8 W a2 b2' d2 kk.2→Sl B8 W q5 m5 g5 Y.1→Sl B8 W q6 m6 g6 Y.2→Calls Tryz.prog 117 #[.agg #[.slice a1 b1 d1,.slice a2 b2' d2],B8 CJ,.agg #[.slice q5 m5 g5,.slice q6 m6 g6]] W (RetR2 5 W YJ 0)):=fun W g1 g2 g3 g4=>by
     have:=Less_any a1 a2 q5 q6 b1 d1 b2' d2 m5 g5 m6 g6 kk.1 kk.2 Y.1 Y.2 CJ W g1 g2 g3 g4 (by have h1:=g1.len;have h2:=HFA.out.1.1;unfold Room;omega) (by have h1:=g2.len;have h2:=HFA.out.1.2;unfold Room;omega)
     rw [lessS_fit (n:=k) (t:=t) (x:=kk) (k:=Y) HFA.out.1 HFY.out,← hYJ] at this
     exact this
    rw [HYJ.out,← hYJ] at HKS
    have hgw:g < w.heap.size:=(HE.out.rows.lt g (by simp [Value.ownBlock])).2
    have hgbe:g≠be:=fun e=>HE.out.rows.ne_box HE.out.box (by decide) (by simp [Value.ownBlock,e])
    have hbw7:base≤w7.heap.size:=by have:=C7.out.size;omega
    obtain ⟨u0,u1⟩:=cells2 X7.out
    obtain ⟨y0,y1⟩:=cells2 X67.out
    obtain ⟨f0,f1,f2⟩:=cells3 E7.out
    have p2:w7.cell? ⟨w.heap.size,0,none⟩ = some (.pointer (some ⟨be,0,none⟩)):=cell_of_row _ _ 0 _ _ _ P7.out
    clear hc hYJ HYJ HA HFA
    go_wp2
    refine wp_region_late (fun ix=>([.val (.pointer (some ⟨be,0,none⟩)),.val (.pointer (some ⟨be,0,none⟩)),.val (.pointer (some ⟨be,2,none⟩)),.val (.slice (some ⟨g,0,none⟩) n c),.val (.int .i64 j),.val (.agg #[.slice a1 b1 d1,.slice a2 b2' d2]),.val (B8 CJ),.val (.agg #[.slice q5 m5 g5,.slice q6 m6 g6]),(shpRowTO 5 base YJ 0),(shpRowTO 5 base YJ 0),(shpRowO 5 base YJ),.val (.int .i64 0),.val (.pointer (some ⟨g,j * 2,none⟩)),.any][ix]?).getD (.any)) 83 13 11 50 61 rfl (by kernel_rfl) (by decide) (by decide) (by decide) _ rfl rfl rfl (by decide) (fun a u x w h=>run_extract1 _ rfl h) (by decide) ?_ ?_
    ·refine ⟨?_,?_,?_,?_,?_,?_,?_,?_,?_,?_,?_,?_,?_,trivial⟩
     ·intro a W hb0 hs hp hi;have hb:=undrew hb0;clear hb0
      have tt:sl a 2 = .pointer (some ⟨w.heap.size,0,none⟩):=hi 2 (by decide)
      have dd0:=(hb.cell (p:=⟨w.heap.size,0,none⟩) (lt_of_cell p2)).trans p2
      refine ite_y rfl (wp_val (.pointer (some ⟨be,0,none⟩)) ?_ ?_)
      ·simp only [execOp,eval_tmp,tt];simp [go_sem,dd0]
      ·exact ⟨_,rfl,Below.refl _ _,rfl⟩
     ·intro a W hb0 hs hp hi;have hb:=undrew hb0;clear hb0
      have tt:sl a 51 = .pointer (some ⟨be,0,none⟩):=hp 0 (by decide)
      refine ite_y rfl (wp_val (.pointer (some ⟨be,0,none⟩)) ?_ ?_)
      ·simp only [execOp,eval_tmp,tt];simp [go_sem]
      ·exact ⟨_,rfl,Below.refl _ _,rfl⟩
     ·intro a W hb0 hs hp hi;have hb:=undrew hb0;clear hb0
      have t52:sl a 52 = .pointer (some ⟨be,0,none⟩):=hp 1 (by decide)
      refine ite_y rfl (wp_val (.pointer (some ⟨be,2,none⟩)) ?_ ?_)
      ·simp only [execOp,eval_tmp,eval_const,t52];simp [go_sem]
      ·exact ⟨_,rfl,Below.refl _ _,rfl⟩
     ·intro a W hb0 hs hp hi;have hb:=undrew hb0;clear hb0
      have tt:sl a 53 = .pointer (some ⟨be,2,none⟩):=hp 2 (by decide)
      have dd0:=(hb.cell (p:=⟨be,2,none⟩) (lt_of_cell f2)).trans f2
      refine ite_y rfl (wp_val (.slice (some ⟨g,0,none⟩) n c) ?_ ?_)
      ·simp only [execOp,eval_tmp,tt];simp [go_sem,dd0]
      ·exact ⟨_,rfl,Below.refl _ _,rfl⟩
     ·intro a W hb0 hs hp hi;have hb:=undrew hb0;clear hb0
      have t9:sl a 9 = .int .i64 j:=hi 9 (by decide)
      exact ite_y rfl (wp_val (sl a 9) rfl ⟨_,rfl,Below.refl _ _,t9⟩)
     ·intro a W hb0 hs hp hi;have hb:=undrew hb0;clear hb0
      have tt:sl a 10 = .pointer (some ⟨wr.heap.size,0,none⟩):=hi 10 (by decide)
      have dd0:=(hb.cell (p:=⟨wr.heap.size,0,none⟩) (lt_of_cell u0)).trans u0
      have dd1:=(hb.cell (p:=⟨wr.heap.size,1,none⟩) (lt_of_cell u1)).trans u1
      refine ite_y rfl (wp_val (.agg #[.slice a1 b1 d1,.slice a2 b2' d2]) ?_ ?_)
      ·simp only [execOp,eval_tmp,tt];simp [go_sem,dd0,dd1]
      ·exact ⟨_,rfl,Below.refl _ _,rfl⟩
     ·intro a W hb0 hs hp hi;have hb:=undrew hb0;clear hb0
      have t11:sl a 11 = B8 CJ:=hi 11 (by decide)
      exact ite_y rfl (wp_val (sl a 11) rfl ⟨_,rfl,Below.refl _ _,t11⟩)
     ·intro a W hb0 hs hp hi;have hb:=undrew hb0;clear hb0
      have tt:sl a 6 = .pointer (some ⟨b6,0,none⟩):=hi 6 (by decide)
      have dd0:=(hb.cell (p:=⟨b6,0,none⟩) (lt_of_cell y0)).trans y0
      have dd1:=(hb.cell (p:=⟨b6,1,none⟩) (lt_of_cell y1)).trans y1
      refine ite_y rfl (wp_val (.agg #[.slice q5 m5 g5,.slice q6 m6 g6]) ?_ ?_)
      ·simp only [execOp,eval_tmp,tt];simp [go_sem,dd0,dd1]
      ·exact ⟨_,rfl,Below.refl _ _,rfl⟩
     ·intro a W hb0 hs hp hi;have hb:=undrew hb0;clear hb0
      have t56:sl a 56 = .agg #[.slice a1 b1 d1,.slice a2 b2' d2]:=hp 5 (by decide)
      have t57:sl a 57 = B8 CJ:=hp 6 (by decide)
      have t58:sl a 58 = .agg #[.slice q5 m5 g5,.slice q6 m6 g6]:=hp 7 (by decide)
      refine ite_y rfl (wp_enter 117 #[.agg #[.slice a1 b1 d1,.slice a2 b2' d2],B8 CJ,.agg #[.slice q5 m5 g5,.slice q6 m6 g6]] ?_ (HLS.out W (T17.out.keep hb) (T27.out.keep hb) (Y17.out.keep hb).sl' (Y27.out.keep hb).sl') ?_)
      ·simp only [execOp,resolve,List.map_toArray,List.map,eval_tmp,eval_func,eval_const,t56,t57,t58];simp [go_sem]
      ·rintro e W' ⟨q7,m7,k7,q8,m8,k8,e7,e8,rfl,o7,o8,hw⟩;have hbs:=hb.size;exact ⟨_,rfl,_,rfl,hw,_,rfl,_,_,rfl,(Bw.mk o7 e7.out).mono (by omega),(Bw.mk o8 e8.out).mono (by omega)⟩
     ·intro a W hb0 hs hp hi;have hb:=undrew hb0;clear hb0
      have tt:(shpRowTO 5 base YJ 0).ok (sl a 59) W:=hp 8 (by decide)
      exact ite_y rfl (wp_val (sl a 59) rfl ⟨_,rfl,Below.refl _ _,tt⟩)
     ·intro a W hb0 hs hp hi;have hb:=undrew hb0;clear hb0
      have tt:(shpRowTO 5 base YJ 0).ok (sl a 50) W:=hp 9 (by decide)
      obtain ⟨u,tt,hr⟩:=tt
      exact ite_y rfl (wp_val u (by simp only [execOp,eval_tmp,tt];rfl) ⟨_,rfl,Below.refl _ _,hr⟩)
     ·intro a W hb0 hs hp hi;have hb:=undrew hb0;clear hb0
      have tt:(shpRowTO 5 base YJ 0).ok (sl a 50) W:=hp 9 (by decide)
      obtain ⟨u,tt,hr⟩:=tt
      exact ite_y rfl (wp_val (.int .i64 0) (by simp only [execOp,eval_tmp,tt];rfl) ⟨_,rfl,Below.refl _ _,rfl⟩)
     ·intro a W hb0 hs hp hi;have hb:=undrew hb0;clear hb0
      have t54:sl a 54 = .slice (some ⟨g,0,none⟩) n c:=hp 3 (by decide)
      have t55:sl a 55 = .int .i64 j:=hp 4 (by decide)
      refine ite_y rfl (wp_val (.pointer (some ⟨g,j * 2,none⟩)) ?_ ?_)
      ·simp only [execOp,eval_tmp,eval_const,t54,t55];simp [go_sem,jn,hjl]
      ·exact ⟨_,rfl,Below.refl _ _,rfl⟩
    ·intro a w9 o ho hb hs hd hI ht
     simp at ho;subst ho
     have t62:sl a 62 = .pointer (some ⟨g,j * 2,none⟩):=hI 12 (by decide) (by decide)
     have t50:(shpRowTO 5 base YJ 0).ok (sl a 50) w9:=hI 9 (by decide) (by decide)
     have t60:(shpRowO 5 base YJ).ok (sl a 60) w9:=hI 10 (by decide) (by decide)
     obtain ⟨uu,t50,-⟩:=t50
     obtain ⟨v1,v2,t60,hv1,hv2⟩:=t60
     have R9:=R7.out.keep hb
     obtain ⟨cur9,hcur⟩:=R9.blk
     obtain ⟨g',kx,x1,y1',z1',x2,y2',z2',eg,d0,d1,-⟩:=R9.at hjl
     cases eg
     have z0:w9.frozen? ⟨g,j * 2,none⟩ = false:=frozen_of_row _ _ _ _ _ hcur
     have z1:w9.frozen? ⟨g,j * 2 + 1,none⟩ = false:=frozen_of_row _ _ _ _ _ hcur
     have o1:=hv1.one
     have o2:=hv2.one
     obtain ⟨xq1,xm1,xc1,rfl,-⟩:=id hv1
     obtain ⟨xq2,xm2,xc2,rfl,-⟩:=id hv2
     refine ⟨⟨_,_,t50⟩,wp_skipX (w':=((w9.setCell ⟨g,j * 2,none⟩ (.slice xq1 xm1 xc1)).setCell ⟨g,j * 2 + 1,none⟩ (.slice xq2 xm2 xc2))) ?_ ⟨rfl,fun b hbs hbd hbt=>?_⟩⟩
     ·simp only [execOp,eval_tmp,t60,t62];simp [go_sem,d0,d1,z0,z1]
     have ha:=act_is [51,52,53,54,55,56,57,58,59,50,60,61,62] hbs hbd (fun t h=>(hbt t (fun e=>by subst e;revert h;decide)).trans (ht t h)) (by decide)
     simp only [List.foldl] at ha
     generalize sl b 51 = u51 at ha
     generalize sl b 52 = u52 at ha
     generalize sl b 53 = u53 at ha
     generalize sl b 54 = u54 at ha
     generalize sl b 55 = u55 at ha
     generalize sl b 56 = u56 at ha
     generalize sl b 57 = u57 at ha
     generalize sl b 58 = u58 at ha
     generalize sl b 59 = u59 at ha
     generalize sl b 50 = u50 at ha
     generalize sl b 60 = u60 at ha
     generalize sl b 61 = u61 at ha
     generalize sl b 62 = u62 at ha
     simp only [Act.put,List.setIfInBounds_toArray,List.set_cons_zero,List.set_cons_succ] at ha
     rw [ha];clear ha
     have RN:=R9.put (k:=YJ) (by decide) hjl hv1 hv2
     rw [← HKS.out] at RN
     have gb:=grown_trans (grownBy_setCell w9 g (j * 2) (.slice xq1 xm1 xc1)) (grownBy_setCell (w9.setCell ⟨g,j * 2,none⟩ (.slice xq1 xm1 xc1)) g (j * 2 + 1) (.slice xq2 xm2 xc2))
     have ne0:be≠g:=fun e=>hgbe e.symm
     have ne2:w.heap.size≠g:=by omega
     have ne6:b6≠g:=by omega
     have ne8:b8≠g:=by omega
     have yo:∀ (u:Value) (xs:List UInt8),Bw 5 w9 w.heap.size u xs→Bw 5 ((w9.setCell ⟨g,j * 2,none⟩ (.slice xq1 xm1 xc1)).setCell ⟨g,j * 2 + 1,none⟩ (.slice xq2 xm2 xc2)) w.heap.size u xs:=fun u xs h=>h.set (g:=g) (o:=0) (u:=u) (fun kx hkx=>by
      obtain ⟨q',m',c',e',l',o'⟩:=h
      rw [e'] at hkx
      have:=(o'.lt kx hkx).1
      omega) gb
     have NX:((w9.setCell ⟨g,j * 2,none⟩ (.slice xq1 xm1 xc1)).setCell ⟨g,j * 2 + 1,none⟩ (.slice xq2 xm2 xc2)).heap[be]? = some (.cells #[.int .i64 k,.int .i64 t,.slice (some ⟨g,0,none⟩) n c] 191 (0,0))∧((w9.setCell ⟨g,j * 2,none⟩ (.slice xq1 xm1 xc1)).setCell ⟨g,j * 2 + 1,none⟩ (.slice xq2 xm2 xc2)).heap[w.heap.size]? = some (.cells #[.pointer (some ⟨be,0,none⟩)] 114 (0,0))∧((w9.setCell ⟨g,j * 2,none⟩ (.slice xq1 xm1 xc1)).setCell ⟨g,j * 2 + 1,none⟩ (.slice xq2 xm2 xc2)).heap[b6]? = some (.cells #[.slice q5 m5 g5,.slice q6 m6 g6] 99 (0,0))∧((w9.setCell ⟨g,j * 2,none⟩ (.slice xq1 xm1 xc1)).setCell ⟨g,j * 2 + 1,none⟩ (.slice xq2 xm2 xc2)).heap[b8]? = some (.cells #[.int .i64 l] 3 (0,0)) ∧
       Bw 5 ((w9.setCell ⟨g,j * 2,none⟩ (.slice xq1 xm1 xc1)).setCell ⟨g,j * 2 + 1,none⟩ (.slice xq2 xm2 xc2)) w.heap.size (.slice q5 m5 g5) Y.1∧Bw 5 ((w9.setCell ⟨g,j * 2,none⟩ (.slice xq1 xm1 xc1)).setCell ⟨g,j * 2 + 1,none⟩ (.slice xq2 xm2 xc2)) w.heap.size (.slice q6 m6 g6) Y.2∧Chg w ((w9.setCell ⟨g,j * 2,none⟩ (.slice xq1 xm1 xc1)).setCell ⟨g,j * 2 + 1,none⟩ (.slice xq2 xm2 xc2)) be (.slice (some ⟨g,0,none⟩) n c) :=
      ⟨hsc (hsc ((hb.block _ (blk_lt E7.out)).trans E7.out) ne0) ne0,hsc (hsc ((hb.block _ (blk_lt P7.out)).trans P7.out) ne2) ne2,hsc (hsc ((hb.block _ (blk_lt X67.out)).trans X67.out) ne6) ne6,hsc (hsc ((hb.block _ (blk_lt X87.out)).trans X87.out) ne8) ne8,
       yo _ _ (Y17.out.keep hb),yo _ _ (Y27.out.keep hb),(C7.out.below hb).grown (by simpa [Value.ownBlock] using gb)⟩
     generalize ((w9.setCell ⟨g,j * 2,none⟩ (.slice xq1 xm1 xc1)).setCell ⟨g,j * 2 + 1,none⟩ (.slice xq2 xm2 xc2)) = wn at NX RN ⊢
     have NXH:=Lib.hid NX;have RNH:=Lib.hid RN
     clear NX RN R9 hcur d0 d1 z0 z1 hv1 hv2 hI ht hb hbt gb yo u0 u1 y0 y1 f0 f1 f2 p2 R7 E7 P7 X67 X87 Y17 Y27 C7 B7 X7 T17 T27 HLS
     go_wp2
     go_roundw
     case rel=>exact ⟨j + 1,by omega,by go_num,RNH.out,NXH.out.1,NXH.out.2.1,NXH.out.2.2.1,NXH.out.2.2.2.1,NXH.out.2.2.2.2.1,NXH.out.2.2.2.2.2.1,NXH.out.2.2.2.2.2.2⟩
     case measure=>simp [intOf];omega
  ·have hjn:j = n:=by omega
   have hge:(n:Int)≤(j:Int):=by omega
   have RM:Hid (RwL 99 5 wr base (.slice q n c) n (K.map (clrF Y))):=by
    have h:=hR.out
    rw [hjn,List.take_of_length_le (by rw [HKN.out];exact Nat.le_refl _),List.drop_eq_nil_of_le (by rw [HKN.out];exact Nat.le_refl _),List.append_nil] at h;exact h
   have EM:Hid (Elm wr base be k t (.slice q n c) n (K.map (clrF Y))):=⟨hX.out,RM.out,hbe⟩
   obtain ⟨f0,f1,f2⟩:=cells3 hX.out
   have p2:wr.cell? ⟨w.heap.size,0,none⟩ = some (.pointer (some ⟨be,0,none⟩)):=cell_of_row _ _ 0 _ _ _ h2.out
   clear hjn hR HKJ
   go_wp2_with fail
   refine Calls.mono (Search_any f 118 #[.pointer (some ⟨w.heap.size,0,none⟩),.pointer (some ⟨b8,0,none⟩)] enters_behind n wr (by omega) (fun W i hW hi=>?_) hmono.out) ?_
   ·obtain ⟨z,hz⟩:∃ z,(K.map (clrF Y))[i]? = some z:=⟨_,List.getElem?_eq_getElem (by rw [List.length_map,HKN.out];exact hi)⟩
    have h:=Behind_any base be k t n (.slice q n c) (K.map (clrF Y)) w.heap.size b8 i (l:Int) z W (EM.out.keep hW) (cell_of_row _ _ 0 _ _ _ ((hW.block _ (blk_lt h2.out)).trans h2.out)) (cell_of_row _ _ 0 _ _ _ ((hW.block _ (blk_lt hX8.out)).trans hX8.out)) hi hz
    have e:decide ((l:Int) < leadS z.1) = f i:=by
     rw [HFF.out]
     show _ = decide ((l:Int) < leadS ((K.map (clrF Y)).getD i ([],[])).1)
     rw [List.getD_eq_getElem?_getD,hz];rfl
    rw [e] at h;exact h
   rintro e w10 ⟨r,hr,rfl,hlo,hhi,hb⟩
   have HFIN:=Lib.hid (hfin.out r hr hlo hhi)
   have E10:=Lib.hid (EM.out.keep hb);have P10:=Lib.hid ((hb.block _ (blk_lt h2.out)).trans h2.out);have X610:=Lib.hid ((hb.block _ (blk_lt hX6.out)).trans hX6.out)
   have Y110:=Lib.hid (hY1.out.keep hb);have Y210:=Lib.hid (hY2.out.keep hb);have C10:=Lib.hid (hC.out.below hb)
   have hb10:base≤w10.heap.size:=by have:=C10.out.size;omega
   clear hlo hhi hb EM RM hX h2 hX6 hX8 hY1 hY2 hC f0 f1 f2 p2
   obtain ⟨f0,f1,f2⟩:=cells3 E10.out.box
   obtain ⟨y0,y1⟩:=cells2 X610.out
   have p2:w10.cell? ⟨w.heap.size,0,none⟩ = some (.pointer (some ⟨be,0,none⟩)):=cell_of_row _ _ 0 _ _ _ P10.out
   go_wp2
   refine wp_region_mid (fun ix=>([.val (.pointer (some ⟨be,0,none⟩)),.val (.pointer (some ⟨be,0,none⟩)),.val (.pointer (some ⟨be,0,none⟩)),.val (.pointer (some ⟨be,2,none⟩)),.val (.slice q n c),.val (.int .i64 r),.val (.agg #[.slice q5 m5 g5,.slice q6 m6 g6]),(shpOne 99 w10.heap.size (.slice q5 m5 g5) (.slice q6 m6 g6)),.any,.val (.pointer (some ⟨be,0,none⟩)),.val (.pointer (some ⟨be,2,none⟩)),.any][ix]?).getD (.any)) (fun ix=>(([some (.pointer (some ⟨be,0,none⟩)),some (.pointer (some ⟨be,0,none⟩)),some (.pointer (some ⟨be,0,none⟩)),some (.pointer (some ⟨be,2,none⟩)),none,none,some (.agg #[.slice q5 m5 g5,.slice q6 m6 g6]),none,none,some (.pointer (some ⟨be,0,none⟩)),some (.pointer (some ⟨be,2,none⟩))]:List (Option Value))[ix]?).getD none) 83 11 8 80 (fun u W=>RwL 99 5 W base u (n + 1) (putF K x)∧W.heap[be]? = some (.cells #[.int .i64 k,.int .i64 t,.slice q n c] 191 (0,0))∧W.heap[w.heap.size]? = some (.cells #[.pointer (some ⟨be,0,none⟩)] 114 (0,0))∧W.heap[b6]? = some (.cells #[.slice q5 m5 g5,.slice q6 m6 g6] 99 (0,0))∧Chg w W be (.slice q n c)∧(u.ownBlock = (Value.slice q n c).ownBlock∨∀ b,u.ownBlock = some b→w.heap.size≤b)) rfl (by kernel_rfl) (by decide) (by decide) (by decide) ?_ _ rfl ?_ ?_ ?_ ?_
   ·intro j u hj
    have hj11:j < 11:=by
     rcases Nat.lt_or_ge j 11 with h | h
     ·exact h
     ·simp [List.getElem?_eq_none (show ([_,_,_,_,_,_,_,_,_,_,_]:List (Option Value)).length≤j from h)] at hj
    rcases (show j = 0∨j = 1∨j = 2∨j = 3∨j = 4∨j = 5∨j = 6∨j = 7∨j = 8∨j = 9∨j = 10 by omega) with rfl | rfl | rfl | rfl | rfl | rfl | rfl | rfl | rfl | rfl | rfl
    all_goals (simp at hj <;> (subst hj;rfl))
   ·intro i o him his ho hps
    rcases (show i = 0∨i = 1∨i = 2∨i = 3∨i = 4∨i = 5∨i = 6∨i = 7∨i = 8∨i = 9∨i = 10 by omega) with rfl | rfl | rfl | rfl | rfl | rfl | rfl | rfl | rfl | rfl | rfl
    ·simp at ho;subst ho
     intro a W hb0 hs hp hi;have hb:=undrew hb0;clear hb0
     have tt:sl a 2 = .pointer (some ⟨w.heap.size,0,none⟩):=hi 2 (by decide)
     have dd0:=(hb.cell (p:=⟨w.heap.size,0,none⟩) (lt_of_cell p2)).trans p2
     refine ite_y rfl (wp_val (.pointer (some ⟨be,0,none⟩)) ?_ ?_)
     ·simp only [execOp,eval_tmp,tt];simp [go_sem,dd0]
     ·exact ⟨_,rfl,Below.refl _ _,rfl⟩
    ·simp at ho;subst ho
     intro a W hb0 hs hp hi;have hb:=undrew hb0;clear hb0
     have tt:sl a 2 = .pointer (some ⟨w.heap.size,0,none⟩):=hi 2 (by decide)
     have dd0:=(hb.cell (p:=⟨w.heap.size,0,none⟩) (lt_of_cell p2)).trans p2
     refine ite_y rfl (wp_val (.pointer (some ⟨be,0,none⟩)) ?_ ?_)
     ·simp only [execOp,eval_tmp,tt];simp [go_sem,dd0]
     ·exact ⟨_,rfl,Below.refl _ _,rfl⟩
    ·simp at ho;subst ho
     intro a W hb0 hs hp hi;have hb:=undrew hb0;clear hb0
     have tt:sl a 73 = .pointer (some ⟨be,0,none⟩):=hp 1 (by decide)
     refine ite_y rfl (wp_val (.pointer (some ⟨be,0,none⟩)) ?_ ?_)
     ·simp only [execOp,eval_tmp,tt];simp [go_sem]
     ·exact ⟨_,rfl,Below.refl _ _,rfl⟩
    ·simp at ho;subst ho
     intro a W hb0 hs hp hi;have hb:=undrew hb0;clear hb0
     have t74:sl a 74 = .pointer (some ⟨be,0,none⟩):=hp 2 (by decide)
     refine ite_y rfl (wp_val (.pointer (some ⟨be,2,none⟩)) ?_ ?_)
     ·simp only [execOp,eval_tmp,eval_const,t74];simp [go_sem]
     ·exact ⟨_,rfl,Below.refl _ _,rfl⟩
    ·simp at ho;subst ho
     intro a W hb0 hs hp hi;have hb:=undrew hb0;clear hb0
     have tt:sl a 75 = .pointer (some ⟨be,2,none⟩):=hp 3 (by decide)
     have dd0:=(hb.cell (p:=⟨be,2,none⟩) (lt_of_cell f2)).trans f2
     refine ite_y rfl (wp_val (.slice q n c) ?_ ?_)
     ·simp only [execOp,eval_tmp,tt];simp [go_sem,dd0]
     ·exact ⟨_,rfl,Below.refl _ _,rfl⟩
    ·simp at ho;subst ho
     intro a W hb0 hs hp hi;have hb:=undrew hb0;clear hb0
     have t13:sl a 13 = .int .i64 r:=hi 13 (by decide)
     exact ite_y rfl (wp_val (sl a 13) rfl ⟨_,rfl,Below.refl _ _,t13⟩)
    ·simp at ho;subst ho
     intro a W hb0 hs hp hi;have hb:=undrew hb0;clear hb0
     have tt:sl a 6 = .pointer (some ⟨b6,0,none⟩):=hi 6 (by decide)
     have dd0:=(hb.cell (p:=⟨b6,0,none⟩) (lt_of_cell y0)).trans y0
     have dd1:=(hb.cell (p:=⟨b6,1,none⟩) (lt_of_cell y1)).trans y1
     refine ite_y rfl (wp_val (.agg #[.slice q5 m5 g5,.slice q6 m6 g6]) ?_ ?_)
     ·simp only [execOp,eval_tmp,tt];simp [go_sem,dd0,dd1]
     ·exact ⟨_,rfl,Below.refl _ _,rfl⟩
    ·simp at ho;subst ho
     intro a W hb0 hs hp hi;have hb:=undrew hb0;clear hb0
     have tt:sl a 78 = .agg #[.slice q5 m5 g5,.slice q6 m6 g6]:=hp 6 (by decide)
     have v78:a.tmps[78]?.getD undef = .agg #[.slice q5 m5 g5,.slice q6 m6 g6]:=by simpa [sl] using tt
     refine ite_y rfl (wp_val' (w':=W.alloc (.cells #[.slice q5 m5 g5,.slice q6 m6 g6] 99)) (.slice (some ⟨W.heap.size,0,none⟩) 1 1) ?_ ?_)
     ·simp only [execOp,eval_tmp,tt];simp [go_sem,tt,v78]
     ·exact ⟨_,rfl,al (Below.refl _ _) (Nat.le_refl _),W.heap.size,rfl,hnew rfl,hb.size⟩
    ·exact absurd rfl his
    ·simp at ho;subst ho;exact absurd hps (by decide)
    ·simp at ho;subst ho;exact absurd hps (by decide)
   ·intro a W hb hs hp
    have t76:sl a 76 = .slice q n c:=hp 4 (by decide)
    have t77:sl a 77 = .int .i64 r:=hp 5 (by decide)
    obtain ⟨vb,t79,hvb,hvb2⟩:∃ vb,sl a 79 = .slice (some ⟨vb,0,none⟩) 1 1∧W.heap[vb]? = some (.cells #[.slice q5 m5 g5,.slice q6 m6 g6] 99 (0,0))∧w10.heap.size≤vb:=hp 7 (by decide)
    have EW:=E10.out.keep hb
    have hvo:(Value.slice q n c).ownBlock≠some vb:=fun e=>by have:=(E10.out.rows.lt vb e).2;omega
    refine wp_enter 120 #[.slice q n c,.int .i64 r,.slice (some ⟨vb,0,none⟩) 1 1] ?_ (InsRow_any base n r vb _ (.slice q5 m5 g5) (.slice q6 m6 g6) (K.map (clrF Y)) Y W EW.rows hr (by omega) (by have:=hb.size;omega) hvb hvo ((Y110.out.keep hb).mono hbw) ((Y210.out.keep hb).mono hbw)) ?_
    ·simp [execOp,resolve,show a.tmps[76]?.getD undef = .slice q n c by simpa [sl] using t76,show a.tmps[77]?.getD undef = .int .i64 r by simpa [sl] using t77,show a.tmps[79]?.getD undef = .slice (some ⟨vb,0,none⟩) 1 1 by simpa [sl] using t79,go_sem]
    ·rintro e W' ⟨u,rfl,hRw,hg,hbk⟩
     rw [HFIN.out] at hRw
     have hCW:=C10.out.below hb
     have ko:∀ b,b < W.heap.size→(Value.slice q n c).ownBlock≠some b→W'.heap[b]? = W.heap[b]?:=fun b h1 h2=>hg.block b h1 (fun e=>h2 e.symm)
     have n1:(Value.slice q n c).ownBlock≠some be:=EW.rows.ne_box EW.box (by decide)
     have lt1:∀ b,(Value.slice q n c).ownBlock = some b→b < w.heap.size:=fun b e=>(HE.out.rows.lt b e).2
     have P10W:=(hb.block _ (blk_lt P10.out)).trans P10.out;have X610W:=(hb.block _ (blk_lt X610.out)).trans X610.out
     refine ⟨u,rfl,u,rfl,hRw,(ko be (blk_lt EW.box) n1).trans EW.box,(ko _ (blk_lt P10W) (fun e=>by have:=lt1 _ e;omega)).trans P10W,(ko _ (blk_lt X610W) (fun e=>by have:=lt1 _ e;omega)).trans X610W,hCW.grown hg,?_⟩
     rcases hbk with e | e
     ·exact .inl e
     ·refine .inr fun b hb'=>?_
      rw [e] at hb';cases hb'
      exact hCW.size
   ·intro i o him his ho hpo a W u hP hs hu hk hi
    obtain ⟨-,hPb,hP2,hP6,-,-⟩:=hP
    obtain ⟨F0,F1,F2⟩:=cells3 hPb
    obtain ⟨G0,G1⟩:=cells2 hP6
    have Q2:W.cell? ⟨w.heap.size,0,none⟩ = some (.pointer (some ⟨be,0,none⟩)):=cell_of_row _ _ 0 _ _ _ hP2
    rcases (show i = 0∨i = 1∨i = 2∨i = 3∨i = 4∨i = 5∨i = 6∨i = 7∨i = 8∨i = 9∨i = 10 by omega) with rfl | rfl | rfl | rfl | rfl | rfl | rfl | rfl | rfl | rfl | rfl
    ·simp at ho;subst ho
     have tt:sl a 2 = .pointer (some ⟨w.heap.size,0,none⟩):=hi 2 (by decide)
     refine ⟨_,rfl,?_⟩
     simp only [execOp,eval_tmp,tt];simp [go_sem,Q2]
    ·simp at ho;subst ho
     have tt:sl a 2 = .pointer (some ⟨w.heap.size,0,none⟩):=hi 2 (by decide)
     refine ⟨_,rfl,?_⟩
     simp only [execOp,eval_tmp,tt];simp [go_sem,Q2]
    ·simp at ho;subst ho
     have tt:sl a 73 = .pointer (some ⟨be,0,none⟩):=hk 1 (by decide) (by decide) _ 73 rfl rfl
     refine ⟨_,rfl,?_⟩
     simp only [execOp,eval_tmp,tt];simp [go_sem]
    ·simp at ho;subst ho
     have tt:sl a 74 = .pointer (some ⟨be,0,none⟩):=hk 2 (by decide) (by decide) _ 74 rfl rfl
     refine ⟨_,rfl,?_⟩
     simp only [execOp,eval_tmp,tt];simp [go_sem]
    ·exact absurd hpo (by decide)
    ·exact absurd hpo (by decide)
    ·simp at ho;subst ho
     have tt:sl a 6 = .pointer (some ⟨b6,0,none⟩):=hi 6 (by decide)
     refine ⟨_,rfl,?_⟩
     simp only [execOp,eval_tmp,tt];simp [go_sem,G0,G1]
    ·exact absurd hpo (by decide)
    ·exact absurd rfl his
    ·simp at ho;subst ho
     have tt:sl a 72 = .pointer (some ⟨be,0,none⟩):=hk 0 (by decide) (by decide) _ 72 rfl rfl
     refine ⟨_,rfl,?_⟩
     simp only [execOp,eval_tmp,tt];simp [go_sem]
    ·simp at ho;subst ho
     have tt:sl a 81 = .pointer (some ⟨be,0,none⟩):=hk 9 (by decide) (by decide) _ 81 rfl rfl
     refine ⟨_,rfl,?_⟩
     simp only [execOp,eval_tmp,tt];simp [go_sem]
   ·intro a W u o ho hP hs hd hu hlvs ht
    have ha:=act_is [72,73,74,75,76,77,78,79,80,81,82] hs hd ht (by decide)
    simp at ho;subst ho
    have t82:sl a 82 = .pointer (some ⟨be,2,none⟩):=hlvs 10 (by decide) (by decide) _ 82 rfl rfl
    obtain ⟨hRw,hPb,-,-,hCW,hbk⟩:=hP
    obtain ⟨F0,F1,F2⟩:=cells3 hPb
    have z2:=frozen_of_row _ _ 2 _ _ hPb
    obtain ⟨uq,uc,rfl⟩:=hRw.shape
    refine wp_skip_none rfl (w':=W.setCell ⟨be,2,none⟩ (.slice uq (n + 1) uc)) ?_ ?_
    ·simp only [execOp,eval_tmp,t82,hu];simp [go_sem,F2,z2]
    simp only [List.foldl,t82,hu] at ha
    generalize sl a 72 = u72 at ha
    generalize sl a 73 = u73 at ha
    generalize sl a 74 = u74 at ha
    generalize sl a 75 = u75 at ha
    generalize sl a 76 = u76 at ha
    generalize sl a 77 = u77 at ha
    generalize sl a 78 = u78 at ha
    generalize sl a 79 = u79 at ha
    generalize sl a 81 = u81 at ha
    simp only [Act.put,List.setIfInBounds_toArray,List.set_cons_zero,List.set_cons_succ] at ha
    rw [ha];clear ha
    have hne2:=hRw.ne_box hPb (by decide)
    have NX:Hid (Elm (W.setCell ⟨be,2,none⟩ (.slice uq (n + 1) uc)) base be k t (.slice uq (n + 1) uc) (n + 1) (putF K x)∧Chg w (W.setCell ⟨be,2,none⟩ (.slice uq (n + 1) uc)) be (.slice q n c)) :=
     ⟨⟨hss hPb,hRw.set hPb (by decide) hne2 (grownBy_setCell W be 2 _),hbe⟩,hCW.box 2 _⟩
    have HBK:=Lib.hid hbk
    clear hRw hPb hCW hbk F0 F1 F2 z2 ht hlvs
    go_wp2
    go_ret2
    exact ⟨rfl,_,NX.out.1,NX.out.2,HBK.out⟩
end Go.Proofs.YtccaiiigdfieoaaGreatDoor
namespace Go.Proofs.YtccaiiigdfieoaaGreatDoor
open Go.RowKit Go.By
def unitS (n i:Int):List UInt8 × Int:=if n < 0∨65536 < n∨i < 0∨n≤i then ([],2) else ((List.replicate n.toNat 0).set i.toNat 1,0)
theorem unitS_bad {n i:Int} (h:n < 0∨65536 < n∨i < 0∨n≤i):unitS n i = ([],2):=if_pos h
theorem unitS_good {n i:Int} (h:¬ (n < 0∨65536 < n∨i < 0∨n≤i)):unitS n i = ((List.replicate n.toNat 0).set i.toNat 1,0):=if_neg h
set_option maxRecDepth 100000 in
set_option maxHeartbeats 1000000 in
theorem Unit_any (n i:Int) (w:World):Calls Tryz.prog 164 #[.int .i64 n,.int .i64 i] w (RetB 5 w (unitS n i).1 (unitS n i).2):=by
 by_cases h:n < 0∨65536 < n∨i < 0∨n≤i
 ·have HR:=Lib.hid (unitS_bad h)
  by_cases a1:n < 0
  ·clear h
   go_enter Tryz.func164,Tryz.ntmps164
   go_wp2
   go_ret2
   rw [HR.out]
   exact RetB.nil _ _ _ _ (Below.refl _ _)
  ·by_cases a2:65536 < n
   ·clear h
    go_enter Tryz.func164,Tryz.ntmps164
    go_wp2
    go_ret2
    rw [HR.out]
    exact RetB.nil _ _ _ _ (Below.refl _ _)
   ·by_cases a3:i < 0
    ·clear h
     go_enter Tryz.func164,Tryz.ntmps164
     go_wp2
     go_ret2
     rw [HR.out]
     exact RetB.nil _ _ _ _ (Below.refl _ _)
    ·have a4:n≤i:=by omega
     clear h
     go_enter Tryz.func164,Tryz.ntmps164
     go_wp2
     go_ret2
     rw [HR.out]
     exact RetB.nil _ _ _ _ (Below.refl _ _)
 ·have HR:=Lib.hid (unitS_good h)
  obtain ⟨i0,hi,hz0,hz1,hz2⟩:=info_parts info_u8
  obtain ⟨m,rfl⟩:=Int.eq_ofNat_of_zero_le (show 0≤n by omega)
  obtain ⟨k,rfl⟩:=Int.eq_ofNat_of_zero_le (show 0≤i by omega)
  have hk:k < m:=by omega
  have hm:m≤65536:=by omega
  have m1:=Lib.hid (show m≤maxLen by unfold maxLen;omega);have m2:=Lib.hid (show 1 * m≤281474976710656 by omega)
  have q1:¬ ((m:Int) < 0):=by omega
  have q2:¬ ((65536:Int) < (m:Int)):=by omega
  have q3:¬ ((k:Int) < 0):=by omega
  have q4:¬ ((m:Int)≤(k:Int)):=by omega
  have q5:(k:Int) < (m:Int):=by omega
  clear h
  go_enter Tryz.func164,Tryz.ntmps164
  go_wp2_with (at_make;refine wpList_make_full _ rfl _ _ 97 rfl w.heap.size 5 i0 (.int .u8 0) 1 Tryz.underlying97 hi hz0 hz1 .i64 .i64 _ _ m rfl rfl rfl rfl (by rw [hz2];exact m2.out) m1.out (Nat.le_refl _) ?_)
  intro w1 ho hg
  have ho':w1.ownsRow w.heap.size 5 1 (.slice (some ⟨w.heap.size,0,none⟩) m m) m ((List.replicate m (0:UInt8)).map B8):=by
   have e:(madeCells #[Value.int .u8 0] m).toList = (List.replicate m (0:UInt8)).map B8:=by
    rw [List.map_replicate];exact toList_madeCells_one _ _
   rw [← e];exact ho
  have hcs:w1.cell? ⟨w.heap.size,k,none⟩ = some (B8 0):=by
   rw [ho'.cellAt k (by omega)];simp [hk]
  have hfs:w1.frozen? ⟨w.heap.size,k,none⟩ = false:=ho'.frozenAt k
  have HO:=Lib.hid ho';clear ho ho'
  have hw1:Below w.heap.size w w1:=(Below.refl _ _).grown hg (Nat.le_refl _) (by simp)
  clear hg
  go_wp2
  go_ret2
  rw [HR.out]
  have st:=HO.out.stored k (B8 1)
  rw [← List.map_set] at st
  exact ⟨_,m,m,by simp [Hid],rfl,by rw [Int.toNat_natCast,Int.toNat_natCast];exact st.1,hw1.setCell (p:=⟨w.heap.size,k,none⟩) (Nat.le_refl _) _⟩
end Go.Proofs.YtccaiiigdfieoaaGreatDoor
namespace Go.By
open Go.RowKit
theorem RwL.rwS {T2 T1 base n c:Nat} {w:World} {q:Option Addr} {K:List (List UInt8 × List UInt8)} (h:RwL T2 T1 w base (.slice q n c) n K):RwS w q n c K:=by
 have hl:=h.len
 have hs:n≤c∧c≤maxLen∧(q = none→n = 0∧c = 0):=by
  obtain ⟨vs,a,b,o,r⟩:=h
  rcases o.2 with ⟨hv,hn⟩ | ⟨g,cap,cur,hv,_,_,h1,h2,_⟩
  ·simp at hv;exact ⟨by omega,by unfold maxLen;omega,fun _=>⟨by omega,by omega⟩⟩
  ·simp at hv;exact ⟨by omega,by omega,fun e=>by rw [hv.1] at e;cases e⟩
 refine ⟨hl,hs.1,hs.2.1,hs.2.2,fun j k hj=>?_⟩
 have hjn:j < n:=by rw [← hl];exact (List.getElem?_eq_some_iff.1 hj).1
 obtain ⟨g,k',q1,m1,c1,q2,m2,c2,e,d1,d2,hk,s1,s2⟩:=h.at hjn
 have:k' = k:=by have h:=hk.out;rw [hj] at h;cases h;rfl
 subst this
 exact ⟨g,0,q1,m1,c1,q2,m2,c2,e,by rw [Nat.zero_add];exact d1,by rw [Nat.zero_add];exact d2,s1,s2⟩
end Go.By
namespace Go.Proofs.YtccaiiigdfieoaaGreatDoor
open Go.RowKit Go.By
theorem enters_tells:Enters Tryz.prog 165:=enters_of Tryz.func165 (by kernel_rfl) rfl
set_option maxHeartbeats 400000 in
theorem Tells_any (U:List UInt8) (pu:Option Addr) (nu cu b6:Nat) (p1 p2:Option Addr) (n1 c1 n2 c2:Nat) (r:List UInt8) (w:World) (h1:Sl B8 w p1 n1 c1 r) (hu:w.cell? ⟨b6,0,none⟩ = some (.slice pu nu cu)) (hU:Sl B8 w pu nu cu U) :
  Calls Tryz.prog 165 (#[.agg #[.slice p1 n1 c1,.slice p2 n2 c2]] ++ #[.pointer (some ⟨b6,0,none⟩)]) w fun e w'=>e = .returned (.bool (decide (r = U)))∧Below w.heap.size w w':=by
 have HB:Hid (∀ o,Below w.heap.size w (w.alloc o)):=fun o=>al (Below.refl _ _) (Nat.le_refl _)
 have H1:=Lib.hid h1;have HU:=Lib.hid hU
 have c6:=((HB.out (.cells #[.slice p1 n1 c1,.slice p2 n2 c2] 99)).cell (p:=⟨b6,0,none⟩) (lt_of_cell hu)).trans hu
 clear h1 hU
 go_enter Tryz.func165,Tryz.ntmps165
 go_wp2_with fail
 refine Calls.mono (EqualV_d p1 pu n1 nu c1 cu r U _ (H1.out.keep (HB.out _)) (HU.out.keep (HB.out _))) ?_
 rintro e w' ⟨rfl,m,rfl⟩
 clear c6
 go_wp2
 go_ret
 exact ⟨rfl,(HB.out _).trans ((below_drewN _ m).mono (by simp))⟩
def knownS (k:Int) (K:List Rw) (i:Int):List UInt8 × Bool :=
 if (unitS k i).2≠0 then ([],false) else match K.find? (fun r=>decide (r.1 = (unitS k i).1)) with
  | some r=>(r.2,true)
  | none=>([],false)
def RetK2 (w:World) (r:List UInt8 × Bool) (e:Ending) (w':World):Prop:=∃ q m c,e = .returned (.tuple #[.slice q m c,.bool r.2])∧Sl B8 w' q m c r.1∧Below w.heap.size w w'
theorem idx_find (f:Rw→Bool) (K:List Rw):(idxf f K = -1∧K.find? f = none)∨∃ (j:Nat) (r:Rw),idxf f K = j∧K[j]? = some r∧K.find? f = some r:=by
 unfold idxf
 cases h:K.findIdx? f with
 | none =>
  refine .inl ⟨rfl,?_⟩
  rw [List.find?_eq_none]
  intro x hx
  have:=List.findIdx?_eq_none_iff.1 h x hx
  simpa using this
 | some j =>
  obtain ⟨h1,h2,h3⟩:=List.findIdx?_eq_some_iff_getElem.1 h
  refine .inr ⟨j,K[j],rfl,List.getElem?_eq_getElem h1,?_⟩
  rw [List.find?_eq_some_iff_getElem]
  exact ⟨h2,j,h1,rfl,fun i hi=>by have:=h3 i hi;simpa using this⟩
set_option maxRecDepth 100000 in
set_option maxHeartbeats 4000000 in
theorem Known_any (base be k t n:Nat) (v:Value) (K:List Rw) (i:Int) (w:World) (hE:Elm w base be k t v n K) (ht:∀ r,r ∈ K→r.2.length≤65535) :
  Calls Tryz.prog 99 #[.pointer (some ⟨be,0,none⟩),.int .i64 i] w (RetK2 w (knownS k K i)):=by
 obtain ⟨q,c,rfl⟩:=hE.rows.shape
 have HE:=Lib.hid hE;have HT:=Lib.hid ht
 obtain ⟨f0,f1,f2⟩:=cells3 hE.box
 clear hE ht
 go_enter Tryz.func99,Tryz.ntmps99
 go_wp2_with fail
 refine Calls.mono (Unit_any k i w) ?_
 rintro e w1 ⟨qu,mu,cu,hlu,rfl,ou,hb⟩
 have B1:=Lib.hid hb;have U1:=Lib.hid (Sl.of_owns ou);have E1:=Lib.hid (HE.out.keep hb)
 clear f0 f1 f2 ou hb hlu
 by_cases hc:(unitS k i).2 = 0
 ·have hk:Hid (knownS k K i = match K.find? (fun r=>decide (r.1 = (unitS k i).1)) with | some r=>(r.2,true) | none=>([],false)):=if_neg (by simp [hc])
  rw [hc]
  obtain ⟨f0,f1,f2⟩:=cells3 (hal (o:=.cells #[.slice qu mu cu] 97) E1.out.box)
  go_wp2_with fail
  clear f0 f1 f2
  obtain ⟨b6,h6⟩:∃ b6,b6 = w1.heap.size:=⟨_,rfl⟩
  rw [← h6]
  refine use_w1 (fun W=>Below w1.heap.size w1 W∧W.heap[b6]? = some (.cells #[.slice qu mu cu] 97 (0,0))) ⟨al (Below.refl _ _) (Nat.le_refl _),hnew h6⟩ ?_
  rintro w2 ⟨b2,x2⟩
  have E2:=Lib.hid (E1.out.keep b2)
  have U2:=Lib.hid (U1.out.keep b2);have X2:=Lib.hid x2;have B2:=Lib.hid (bl B1.out b2 B1.out.size)
  clear b2 x2 E1 U1 B1 h6
  refine Calls.mono (IndexRow_any (fun r=>decide (r.1 = (unitS k i).1)) 165 #[.pointer (some ⟨b6,0,none⟩)] enters_tells q n c K w2 E2.out.rows.rwS (fun W q1 q2 m1 d1 m2 d2 x hb hx=>Tells_any _ qu mu cu b6 q1 q2 m1 d1 m2 d2 x.1 W hx (cell_of_row _ _ 0 _ _ _ ((hb.block _ (blk_lt X2.out)).trans X2.out)) (U2.out.keep hb))) ?_
  rintro e w3 ⟨rfl,hb⟩
  have E3:=Lib.hid (E2.out.keep hb);have B3:=Lib.hid (bl B2.out hb B2.out.size)
  clear hb E2 U2 X2 B2
  rcases idx_find (fun r=>decide (r.1 = (unitS k i).1)) K with ⟨e1,e2⟩ | ⟨j,r,e1,e2,e3⟩
  ·rw [e1]
   have hr:Hid (knownS k K i = ([],false)):=by show _ = _;rw [hk.out,e2]
   clear e1 e2 hk hc
   go_wp2
   go_ret2
   rw [hr.out]
   exact ⟨none,0,0,rfl,Sl.nil0 _ _,B3.out⟩
  ·rw [e1]
   have hr:Hid (knownS k K i = (r.2,true)):=by show _ = _;rw [hk.out,e3]
   have hjn:j < n:=by rw [← E3.out.rows.len];exact (List.getElem?_eq_some_iff.1 e2).1
   obtain ⟨g,kk,a1,b1,d1,a2,b2,d2,rfl,d0,d1',hkk,t1,t2⟩:=E3.out.rows.at hjn
   have hkr:kk = r:=by have h:=hkk.out;rw [e2] at h;cases h;rfl
   subst hkr
   have T2:=Lib.hid t2
   have hj0:¬ ((j:Int) < 0):=by omega
   have jn:(j:Int) < (n:Int):=by omega
   obtain ⟨f0,f1,f2⟩:=cells3 E3.out.box
   have hlen:b2≤65535:=by rw [← t2.len];exact HT.out kk (List.mem_of_getElem? e2)
   clear e1 e2 e3 hk hc t1 t2 hkk d0
   go_wp2_with fail
   refine Calls.mono (CloneB_any a2 b2 d2 kk.2 w3 T2.out (by unfold Room;omega)) ?_
   rintro e w4 ⟨q4,c4,rfl,o4,hb⟩
   have O4:=Lib.hid (Sl.of_owns o4);have B4:=Lib.hid (bl B3.out hb B3.out.size)
   clear o4 hb f0 f1 f2 d1'
   go_wp2
   go_ret2
   rw [hr.out]
   exact ⟨q4,b2,c4,rfl,O4.out,B4.out⟩
 ·have hr:Hid (knownS k K i = ([],false)):=if_pos hc
  have hc2:((unitS k i).2 != 0) = true:=by simpa using hc
  generalize (unitS k i).2 = code at hc2 ⊢
  clear hc
  go_wp2
  go_ret2
  rw [hr.out]
  exact ⟨none,0,0,rfl,Sl.nil0 _ _,al B1.out B1.out.size⟩
end Go.Proofs.YtccaiiigdfieoaaGreatDoor
namespace Go.Proofs.YtccaiiigdfieoaaGreatDoor
open Go.RowKit Go.By
end Go.Proofs.YtccaiiigdfieoaaGreatDoor
namespace Go.Proofs.YtccaiiigdfieoaaGreatDoor
open Go.RowKit Go.By
end Go.Proofs.YtccaiiigdfieoaaGreatDoor
namespace Go.Proofs.YtccaiiigdfieoaaGreatDoor
open Go.RowKit Go.By
end Go.Proofs.YtccaiiigdfieoaaGreatDoor
namespace Go.Proofs.YtccaiiigdfieoaaGreatDoor
open Go.RowKit Go.By
theorem lead_zero {v:List UInt8} (h:leadS v < 0):zeroS v = true:=by
 unfold zeroS
 exact List.all_eq_true.2 fun x hx=>by simpa using leadS_neg h x hx
set_option maxRecDepth 100000 in
set_option maxHeartbeats 4000000 in
theorem EPut_zero (base be k t n:Nat) (v:Value) (K:List Rw) (p1 p2:Option Addr) (c1 c2:Nat) (x:Rw) (w:World) (hE:Elm w base be k t v n K) (s1:Sl B8 w p1 k c1 x.1) (s2:Sl B8 w p2 t c2 x.2) (hK:∀ r,r ∈ K→Fit k t r∧Led r) (hk:k≤4096) (ht:t≤65535) (hn:leadS (restF K x).1 < 0) :
  Calls Tryz.prog 64 #[.pointer (some ⟨be,0,none⟩),.agg #[.slice p1 k c1,.slice p2 t c2]] w fun e w'=>e = .returned (.tuple #[.int .i64 (if zeroS (restF K x).2 = true then 1 else 2),.int .i64 0])∧Below w.heap.size w w':=by
 have HB:Hid (∀ o1 o2,Below w.heap.size w ((w.alloc o1).alloc o2)):=fun o1 o2=>al (al (Below.refl _ _) (Nat.le_refl _)) (by simp)
 have HZ:Hid (zeroS (restF K x).1 = true):=lead_zero hn
 have HE:=Lib.hid hE;have S1:=Lib.hid s1;have S2:=Lib.hid s2;have HK:=Lib.hid hK
 clear hE s1 s2 hK hn
 obtain ⟨u,hu⟩:∃ u:Int,u = if zeroS (restF K x).2 = true then 1 else 2:=⟨_,rfl⟩
 rw [← hu]
 have HU:=Lib.hid hu
 clear hu
 go_enter Tryz.func64,Tryz.ntmps64
 go_wp2_with fail
 refine Calls.mono (ERest_any base be k t n v K p1 p2 c1 c2 x _ (HE.out.keep (HB.out _ _)) (S1.out.keep (HB.out _ _)) (S2.out.keep (HB.out _ _)) HK.out hk ht) ?_
 rintro e w3 ⟨q1,m1,g1,q2,m2,g2,l1,l2,rfl,o1,o2,hb⟩
 have B3:Hid (Below w.heap.size w w3):=bl (HB.out _ _) hb (by simp;omega)
 have L1:=Lib.hid (Sl.of_owns o1);have L2:=Lib.hid (Sl.of_owns o2)
 clear hb o1 o2 l1 l2 S1 S2 HE HB
 go_wp2_with fail
 refine use_w1 (fun W=>Below w3.heap.size w3 W∧W.heap[w3.heap.size]? = some (.cells #[.slice q1 m1 g1,.slice q2 m2 g2] 99 (0,0))) ⟨al (Below.refl _ _) (Nat.le_refl _),hnew rfl⟩ ?_
 rintro w4 ⟨b4,x4⟩
 refine Calls.mono (VZero_any q1 m1 g1 (restF K x).1 w4 (L1.out.keep b4)) ?_
 rintro e w' ⟨rfl,rfl⟩
 rw [HZ.out]
 have L24:=Lib.hid (L2.out.keep b4);have B4:=Lib.hid (bl B3.out b4 B3.out.size)
 obtain ⟨y0,y1⟩:=cells2 x4
 clear b4 x4
 go_wp2_with fail
 refine Calls.mono (VZero_any q2 m2 g2 (restF K x).2 w4 L24.out) ?_
 rintro e w' ⟨rfl,rfl⟩
 clear y0 y1
 cases hz:zeroS (restF K x).2 with
 | true =>
  go_wp2
  go_ret2
  have e1:=HU.out.trans (if_pos hz)
  exact ⟨by rw [e1];rfl,B4.out⟩
 | false =>
  go_wp2
  go_ret2
  have e1:=HU.out.trans (if_neg (by rw [hz];decide))
  exact ⟨by rw [e1];rfl,B4.out⟩
end Go.Proofs.YtccaiiigdfieoaaGreatDoor
namespace Go.By
open Go.RowKit
theorem RwV.of_owns {w:World} {base T n c:Nat} {q:Option Addr} {vs:List (Value × Value)} (h:w.ownsRow base T 2 (.slice q n c) n (fl2 vs)) (h1:∀ u,u ∈ fl2 vs→u.oneCell' = true):RwV w q n c vs:=by
 have hl:vs.length = n:=by have:=h.1;rw [fl2_length] at this;omega
 rcases h.2 with ⟨e1,e2⟩ | ⟨g,cap,cur,e1,_,_,h3,h4,_⟩
 ·cases e1
  exact ⟨hl,Nat.le_of_eq e2,by simp [maxLen],fun _=>⟨e2,rfl⟩,fun j u hj=>(by have:=(List.getElem?_eq_some_iff.1 hj).1;rw [fl2_length] at this;omega),h1⟩
 ·cases e1
  refine ⟨hl,h3,h4,fun e=>(by cases e),fun j u hj=>⟨g,0,rfl,?_⟩,h1⟩
  have:=(List.getElem?_eq_some_iff.1 hj).1
  rw [fl2_length] at this
  rw [Nat.zero_add,h.cellAt _ (by omega)];exact hj
end Go.By
namespace Go.Proofs.YtccaiiigdfieoaaGreatDoor
open Go.RowKit Go.By
end Go.Proofs.YtccaiiigdfieoaaGreatDoor
namespace Go.By
open Go.RowKit
def cntS (v:List UInt8):Nat:=v.countP (fun x=>decide (x≠0))
theorem cnt_take {v:List UInt8} {j:Nat} {b:UInt8} (h:v[j]? = some b):cntS (v.take (j + 1)) = cntS (v.take j) + if b≠0 then 1 else 0:=by
 unfold cntS
 rw [List.take_add_one,h,List.countP_append]
 show _ + List.countP _ [b] = _
 rw [List.countP_singleton]
 simp only [decide_eq_true_eq]
theorem cnt_le (v:List UInt8) (j:Nat):cntS (v.take j)≤j:=Nat.le_trans List.countP_le_length (by rw [List.length_take];exact Nat.min_le_left _ _)
theorem cnt_one {v:List UInt8} {l:Nat} {a:UInt8} (h:v[l]? = some a) (ha:a≠0) (hc:cntS v = 1) {j:Nat} {b:UInt8} (hj:v[j]? = some b) (hne:j≠l):b = 0:=by
 obtain ⟨hl,e⟩:=List.getElem?_eq_some_iff.1 h
 have hv:v = v.take l ++ a :: v.drop (l + 1):=by rw [← e,List.getElem_cons_drop hl,List.take_append_drop]
 have h2:List.countP (fun x:UInt8=>decide (x≠0)) (v.take l) + (List.countP (fun x:UInt8=>decide (x≠0)) (v.drop (l + 1)) + 1) = 1:=by
  have h3:=hc
  unfold cntS at h3
  rw [hv,List.countP_append,List.countP_cons,if_pos (by simpa using ha)] at h3
  exact h3
 have h0:∀ x,x ∈ v.take l∨x ∈ v.drop (l + 1)→x = 0:=fun x hx=>by
  rcases hx with hx | hx
  ·have:=List.countP_eq_zero.1 (show List.countP (fun x:UInt8=>decide (x≠0)) (v.take l) = 0 by omega) x hx
   simpa using this
  ·have:=List.countP_eq_zero.1 (show List.countP (fun x:UInt8=>decide (x≠0)) (v.drop (l + 1)) = 0 by omega) x hx
   simpa using this
 refine h0 b ?_
 rcases Nat.lt_or_ge j l with g | g
 ·exact .inl (List.mem_of_getElem? (i:=j) (by rw [List.getElem?_take,if_pos g];exact hj))
 ·exact .inr (List.mem_of_getElem? (i:=j - (l + 1)) (by rw [List.getElem?_drop,show l + 1 + (j - (l + 1)) = j by omega];exact hj))
end Go.By
namespace Go.Proofs.YtccaiiigdfieoaaGreatDoor
open Go.RowKit Go.By
theorem cnt_unit (n i:Nat) (hi:i < n):cntS ((List.replicate n 0).set i 1) = 1:=by
 unfold cntS
 rw [List.set_eq_take_append_cons_drop,if_pos (by simpa using hi),List.countP_append,List.countP_cons]
 simp [List.countP_replicate]
theorem unit_iff {wd t:Nat} {r:Rw} {i:Nat} (hf:Fit wd t r) (hl:Led r) (hi:i < wd):(cntS r.1 = 1∧leadS r.1 = (i:Int))↔r.1 = (List.replicate wd 0).set i 1:=by
 obtain ⟨l,e1,e2,e3⟩:=hl
 constructor
 ·rintro ⟨hc,hle⟩
  obtain rfl:l = i:=by rw [e1] at hle;omega
  apply List.ext_getElem?
  intro j
  by_cases hj:j < wd
  ·obtain ⟨b,hb⟩:∃ b,r.1[j]? = some b:=⟨_,List.getElem?_eq_getElem (by rw [hf.1];exact hj)⟩
   rw [List.getElem?_set]
   by_cases e:l = j
   ·subst e;rw [if_pos rfl,if_pos (by simpa using hj)];exact e2
   ·rw [if_neg e,List.getElem?_replicate,if_pos hj,hb,cnt_one e2 (by decide) hc hb (fun h=>e h.symm)]
  ·rw [List.getElem?_eq_none (by rw [hf.1];omega),List.getElem?_eq_none (by simp;omega)]
 ·intro h
  refine ⟨by rw [h];exact cnt_unit wd i hi,?_⟩
  rw [e1]
  have h1:r.1[i]? = some 1:=by rw [h,List.getElem?_set,if_pos rfl,if_pos (by simpa using hi)]
  have:¬ i < l:=fun hil=>by have:=e3 i 1 hil h1;exact absurd this (by decide)
  have:¬ l < i:=fun hli=>by
   have h2:r.1[l]? = some 0:=by rw [h,List.getElem?_set,if_neg (by omega),List.getElem?_replicate,if_pos (by omega)]
   rw [h2] at e2;cases e2
  omega
def mtS (i:Int) (r:Rw):Bool:=decide (cntS r.1 = 1) && decide (leadS r.1 = i)
theorem known_find {wd t:Nat} {K:List Rw} (hK:∀ k,k ∈ K→Fit wd t k∧Led k) (hw:wd≤65536) (i:Int):knownS wd K i = match K.find? (mtS i) with
  | some r=>(r.2,true)
  | none=>([],false):=by
 unfold knownS unitS
 by_cases hi:i < 0∨(wd:Int)≤i
 ·rw [if_pos (show (wd:Int) < 0∨(65536:Int) < (wd:Int)∨i < 0∨(wd:Int)≤i by omega)]
  have:K.find? (mtS i) = none:=List.find?_eq_none.2 fun r hr=>by
   obtain ⟨hf,l,e1,-⟩:=hK r hr
   have hl:l < wd:=by obtain ⟨-,l',hl'⟩:=hK r hr;have:=hl'.lt hf;have e:=hl'.1;rw [e1] at e;omega
   unfold mtS
   rw [e1,decide_eq_false (show ¬ ((l:Int) = i) by omega)]
   simp
  rw [this];rfl
 ·rw [if_neg (show ¬ ((wd:Int) < 0∨(65536:Int) < (wd:Int)∨i < 0∨(wd:Int)≤i) by omega)]
  obtain ⟨n,rfl⟩:=Int.eq_ofNat_of_zero_le (show 0≤i by omega)
  have hn:n < wd:=by omega
  have e:K.find? (fun r=>decide (r.1 = (List.replicate wd 0).set n 1)) = K.find? (mtS n):=by
   have:∀ (L:List Rw),(∀ k,k ∈ L→Fit wd t k∧Led k)→L.find? (fun r=>decide (r.1 = (List.replicate wd 0).set n 1)) = L.find? (mtS n):=by
    intro L
    induction L with
    | nil=>intro _;rfl
    | cons a L ih =>
     intro h
     rw [List.find?_cons,List.find?_cons,ih (fun k hk=>h k (by simp [hk]))]
     have hu:=unit_iff (h a (by simp)).1 (h a (by simp)).2 hn
     have:mtS n a = decide (a.1 = (List.replicate wd 0).set n 1):=by
      unfold mtS
      by_cases hx:a.1 = (List.replicate wd 0).set n 1
      ·rw [decide_eq_true hx,decide_eq_true (hu.2 hx).1,decide_eq_true (hu.2 hx).2];rfl
      ·rw [decide_eq_false hx]
       by_cases h1:cntS a.1 = 1
       ·rw [decide_eq_false (fun h2=>hx (hu.1 ⟨h1,h2⟩))];simp
       ·rw [decide_eq_false h1];simp
     rw [this]
   exact this K hK
  simp only [ne_eq,not_true_eq_false,if_false,Int.toNat_natCast]
  rw [e]
  all_goals (cases K.find? (mtS n) <;> rfl)
set_option maxRecDepth 100000 in
set_option maxHeartbeats 4000000 in
theorem RKnown8_any (wd t:Nat) (pk:Option Addr) (nk ck:Nat) (D:List Rw) (i:Int) (w:World) (hD:RwS w pk nk ck D) (hfit:∀ r,r ∈ D→Fit wd t r) (hr1:Room wd) (hr2:Room t) (hnk:nk≤4096) (hwd:wd≤65536) :
  Calls Tryz.prog 38 #[.slice pk nk ck,.int .i64 i] w (RetK2 w (knownS wd (redL (kD D)) i)):=by
 have hkept:KeptS wd t (kD D):=by have:=kD_kept hfit D.length;rwa [List.take_length] at this
 obtain ⟨K,hKd⟩:∃ K,K = redL (kD D):=⟨_,rfl⟩
 have hF:∀ k,k ∈ K→Fit wd t k∧Led k:=by rw [hKd];exact (redL_red hkept).1.kept.rows
 have HFIT:=Lib.hid hF
 have HKN:=Lib.hid (known_find hF hwd i)
 have HRW:=Lib.hid (fun W h=>RRows_any wd t pk nk ck D W h hfit hr1 hr2 hnk)
 rw [← hKd] at HRW ⊢
 obtain ⟨RES,hRES⟩:∃ RES,RES = knownS wd K i:=⟨_,rfl⟩
 rw [← hRES] at HKN ⊢
 have HD:=Lib.hid hD
 clear hD hfit hr1 hr2 hkept hKd hF hRES
 go_enter Tryz.func38,Tryz.ntmps38
 go_wp2_with fail
 refine Calls.mono (HRW.out w HD.out) ?_
 rintro e w3 ⟨qo,no,co,hno,rfl,hK,hb,-⟩
 have B3:=Lib.hid hb;have K3:=Lib.hid hK;have HLEN:Hid (K.length = no):=hno.symm
 have hnb:no≤9223372036854775807:=by have h1:=hK.le;have h2:=hK.max;unfold maxLen at h2;omega
 clear hb hK hno HRW HD
 go_wp2
 go_loopw [13] (fun v wr=>∃ j:Nat,j≤no∧v = .int .i64 j∧Hid (∀ (a:Nat) (r:Rw),a < j→K[a]? = some r→mtS i r = false)∧Hid (Below w3.heap.size w3 wr)) (fun i _=>no - (intOf i).toNat)
 case atStart=>exact ⟨0,Nat.zero_le _,rfl,fun a r h=>by omega,Below.refl _ _⟩
 case round =>
  obtain ⟨j,hj,rfl,hP,hB⟩:=hrel
  by_cases hjl:j < no
  ·obtain ⟨kk,hkk⟩:∃ kk,K[j]? = some kk:=⟨_,List.getElem?_eq_getElem (by rw [HLEN.out];exact hjl)⟩
   obtain ⟨bk,ok,p1,n1,e1,p2,n2,e2,rfl,E1,E2,t1,t2⟩:=(K3.out.keep hB.out).row j kk hkk
   have T1:=Lib.hid t1;have T2:=Lib.hid t2;have HKK:=Lib.hid hkk
   have jn:(j:Int) < (no:Int):=by omega
   have hn1:n1 = wd:=by have:=t1.len;rw [(HFIT.out kk (List.mem_of_getElem? hkk)).1.1] at this;exact this.symm
   subst hn1
   clear t1 t2 hkk
   go_wp2
   clear E1 E2
   have ba:Below wr.heap.size wr (wr.alloc (.cells #[.slice p1 n1 e1,.slice p2 n2 e2] 101)):=al (Below.refl _ _) (Nat.le_refl _)
   have bx6:(wr.alloc (.cells #[.slice p1 n1 e1,.slice p2 n2 e2] 101)).heap[wr.heap.size]? = some (.cells #[.slice p1 n1 e1,.slice p2 n2 e2] 101 (0,0)):=hnew rfl
   generalize wr.alloc (.cells #[.slice p1 n1 e1,.slice p2 n2 e2] 101) = w5 at ba bx6 ⊢
   have S1:=Lib.hid (T1.out.keep ba);have S2:=Lib.hid (T2.out.keep ba)
   have B5:=Lib.hid (bl hB.out ba hB.out.size);have X5:=Lib.hid bx6
   obtain ⟨g6,hg6⟩:∃ g6,g6 = wr.heap.size:=⟨_,rfl⟩
   rw [← hg6] at X5 ⊢
   obtain ⟨u0,u1⟩:=cells2 X5.out
   clear hB T1 T2 ba bx6 hg6
   go_wp2
   go_loopw [8,20] (fun s v wr=>∃ l:Nat,l≤n1∧v = .int .i64 l∧s = .int .i64 (cntS (kk.1.take l))∧wr = w5) (fun _ v _=>n1 - (intOf v).toNat)
   case atStart=>exact ⟨0,Nat.zero_le _,rfl,rfl,rfl⟩
   case round =>
    obtain ⟨l,hl,rfl,rfl,rfl⟩:=hrel
    by_cases hln:l < n1
    ·have ln:(l:Int) < (n1:Int):=by omega
     obtain ⟨bx,ox,cx,rfl,hcx,hxx⟩:=S1.out.at l hln
     have HC:=Lib.hid (cnt_take hxx.out)
     have hcl:=cnt_le kk.1 l
     by_cases hz:cx = 0
     ·have d:((cx.toNat:Int) != 0) = false:=by rw [hz];rfl
      have hC:Hid (cntS (kk.1.take (l + 1)) = cntS (kk.1.take l)):=by show _ = _;rw [HC.out,if_neg (by simp [hz])];rfl
      clear hz HC hxx
      go_wp2
      go_roundw
      case rel=>exact ⟨l + 1,by omega,by go_num,by rw [hC.out],trivial⟩
      case measure=>simp [intOf];omega
     ·have d:((cx.toNat:Int) != 0) = true:=by simp;exact fun h=>hz (UInt8.toNat_inj.1 (by simpa using h))
      have hC:Hid (cntS (kk.1.take (l + 1)) = cntS (kk.1.take l) + 1):=by show _ = _;rw [HC.out,if_pos hz]
      generalize hg:cntS (kk.1.take l) = C at hC hcl ⊢
      clear hz HC hxx hg
      go_wp2
      go_roundw
      case rel=>exact ⟨l + 1,by omega,by go_num,by rw [hC.out];go_num,trivial⟩
      case measure=>simp [intOf];omega
    ·have hle:l = n1:=by omega
     have hge:(n1:Int)≤(l:Int):=by omega
     have HCN:Hid (cntS (kk.1.take l) = cntS kk.1):=by show _ = _;rw [List.take_of_length_le (by rw [S1.out.len];omega)]
     rw [HCN.out]
     have hNX:Hid (mtS i kk = false→∀ (a:Nat) (r:Rw),a < j + 1→K[a]? = some r→mtS i r = false):=fun hm a r ha hr=>by
      rcases Nat.lt_or_ge a j with g | g
      ·exact hP.out a r g hr
      ·obtain rfl:a = j:=by omega
       have:=HKK.out;rw [hr] at this;cases this;exact hm
     have hYES:Hid (mtS i kk = true→RES = (kk.2,true)):=fun hm=>by
      rw [HKN.out]
      have:K.find? (mtS i) = some kk:=by
       rw [List.find?_eq_some_iff_getElem]
       obtain ⟨hjk,e⟩:=List.getElem?_eq_some_iff.1 HKK.out
       exact ⟨hm,j,hjk,e,fun a ha=>by rw [hP.out a _ ha (List.getElem?_eq_getElem (by omega))];rfl⟩
      rw [this]
     have hMT:Hid (mtS i kk = (decide (cntS kk.1 = 1) && decide (leadS kk.1 = i))):=rfl
     have BF:=Lib.hid (bl B3.out B5.out B3.out.size)
     generalize hg:cntS kk.1 = C at hMT ⊢
     generalize hg2:leadS kk.1 = LK at hMT
     have HLD:=Lib.hid (fun W h=>RLead_any p1 n1 e1 kk.1 W h)
     rw [hg2] at HLD
     clear hle HCN hg hg2 HKN HKK
     by_cases hc1:C = 1
     ·have hc1':((C:Int) == 1) = true:=by simp;omega
      go_wp2_with fail
      refine Calls.mono (HLD.out _ S1.out) ?_
      rintro e w' ⟨rfl,rfl⟩
      by_cases hlk:LK = i
      ·have hr:Hid (RES = (kk.2,true)):=hYES.out (by rw [hMT.out,decide_eq_true hc1,decide_eq_true hlk];rfl)
       subst hlk
       clear hc1 hNX hYES hMT
       go_wp2
       go_ret2
       exact ⟨p2,n2,e2,by rw [hr.out];rfl,by rw [hr.out];exact S2.out,BF.out⟩
      ·have hN:=Lib.hid (hNX.out (by rw [hMT.out,decide_eq_false hlk];simp))
       have hlk':(LK == i) = false:=by simpa using hlk
       clear hc1 hNX hYES hMT hlk
       go_wp2
       go_roundw
       case rel=>exact ⟨j + 1,by omega,by go_num,hN.out,B5.out⟩
       case measure=>simp [intOf];omega
     ·have hc1':((C:Int) == 1) = false:=by simp;omega
      have hN:=Lib.hid (hNX.out (by rw [hMT.out,decide_eq_false hc1];simp))
      clear hc1 hNX hYES hMT
      go_wp2
      go_roundw
      case rel=>exact ⟨j + 1,by omega,by go_num,hN.out,B5.out⟩
      case measure=>simp [intOf];omega
  ·have hjn:j = no:=by omega
   have hge:(no:Int)≤(j:Int):=by omega
   have hr:Hid (RES = ([],false)):=by
    show _ = _
    rw [HKN.out]
    have:K.find? (mtS i) = none:=List.find?_eq_none.2 fun r hr=>by
     obtain ⟨a,ha,rfl⟩:=List.getElem_of_mem hr
     rw [hP.out a _ (by rw [hjn,← HLEN.out];exact ha) (List.getElem?_eq_getElem ha)];simp
    rw [this]
   have BF:=Lib.hid (bl B3.out hB.out B3.out.size)
   clear hjn hP hB
   go_wp2
   go_ret2
   exact ⟨none,0,0,by rw [hr.out];rfl,by rw [hr.out];exact Sl.nil0 _ _,BF.out⟩
end Go.Proofs.YtccaiiigdfieoaaGreatDoor
namespace Go.By
open Go.RowKit
end Go.By
namespace Go.Proofs.YtccaiiigdfieoaaGreatDoor
open Go.RowKit Go.By
end Go.Proofs.YtccaiiigdfieoaaGreatDoor
namespace Go.Proofs.YtccaiiigdfieoaaGreatDoor
open Go.RowKit Go.By
theorem RwL.made {w:World} {base g n:Nat} (hh:w.heap[g]? = some (.cells (madeCells #[.slice none 0 0,.slice none 0 0] (n * 2)) 99 (0,0))) (hb:base≤g) (hn:n≤maxLen):RwL 99 5 w base (.slice (some ⟨g,0,none⟩) n n) n (List.replicate n ([],[])):=by
 have hfl:(madeCells #[.slice none 0 0,.slice none 0 0] (n * 2)).toList = fl2 (List.replicate n ((.slice none 0 0:Value),(.slice none 0 0:Value))):=by
  apply List.ext_getElem?
  intro i
  by_cases hi:i < n * 2
  ·have e1:(madeCells #[.slice none 0 0,.slice none 0 0] (n * 2)).toList[i]? = some (.slice none 0 0):=by
    rcases Nat.mod_two_eq_zero_or_one i with h | h <;> simp [madeCells,hi,h]
   have hd:i / 2 < n:=by omega
   obtain ⟨f1,f2⟩:=fl2_at (vs:=List.replicate n ((.slice none 0 0:Value),(.slice none 0 0:Value))) (i:=i / 2) (u:=(.slice none 0 0,.slice none 0 0)) (by rw [List.getElem?_replicate,if_pos hd])
   rw [e1]
   rcases Nat.mod_two_eq_zero_or_one i with h | h
   ·rw [show i / 2 * 2 = i by omega] at f1;exact f1.symm
   ·rw [show i / 2 * 2 + 1 = i by omega] at f2;exact f2.symm
  ·rw [List.getElem?_eq_none (by simp [madeCells];omega),List.getElem?_eq_none (by rw [fl2_length,List.length_replicate];omega)]
 refine ⟨List.replicate n (.slice none 0 0,.slice none 0 0),by simp,by simp,⟨by rw [fl2_length,List.length_replicate],.inr ⟨g,n,_,rfl,hb,hh,Nat.le_refl _,hn,by simp [madeCells],?_⟩⟩,?_⟩
 ·rw [hfl,List.take_of_length_le (by rw [fl2_length,List.length_replicate];omega)]
 ·intro j u hj
  obtain ⟨h1,h2⟩:=List.getElem?_eq_some_iff.1 hj
  rw [List.length_replicate] at h1
  simp at h2
  subst h2
  exact ⟨([],[]),by rw [List.getElem?_replicate,if_pos h1],⟨none,0,0,rfl,rfl,World.ownsRow_nil _ _ _ _⟩,⟨none,0,0,rfl,rfl,World.ownsRow_nil _ _ _ _⟩⟩
theorem fill_step {α:Type} {K:List α} {j n:Nat} {a z:α} (hj:K[j]? = some a) (hn:K.length = n):(K.take j ++ List.replicate (n - j) z).set j a = K.take (j + 1) ++ List.replicate (n - (j + 1)) z:=by
 have hl:=(List.getElem?_eq_some_iff.1 hj).1
 have lj:(K.take j).length = j:=by rw [List.length_take];omega
 rw [List.set_append_right _ _ (by omega),lj,Nat.sub_self,List.take_add_one,hj]
 rw [show n - j = (n - (j + 1)) + 1 by omega,List.replicate_succ]
 simp
theorem heap_owns2 {w:World} {base E g n:Nat} {L:List Value} (h:w.ownsRow base E 2 (.slice (some ⟨g,0,none⟩) n n) n L):w.heap[g]? = some (.cells L.toArray E (0,0)):=by
 rcases h.2 with ⟨h1,_⟩ | ⟨g',cap,cur,hv,_,hh,_,_,hs,ht⟩
 ·cases h1
 ·cases hv
  rw [hh]
  have:cur = L.toArray:=by
   rw [← ht,List.take_of_length_le (by simp [hs])]
  rw [this]
set_option maxRecDepth 100000 in
set_option maxHeartbeats 4000000 in
theorem ERows_any (base be k t n:Nat) (v:Value) (K:List Rw) (w:World) (hE:Elm w base be k t v n K) (hr:∀ r,r ∈ K→Room r.1.length∧Room r.2.length) (hn:n≤4096) :
  Calls Tryz.prog 78 #[.pointer (some ⟨be,0,none⟩)] w fun e w'=>∃ v',e = .returned v'∧RwL 99 5 w' w.heap.size v' n K∧Below w.heap.size w w':=by
 obtain ⟨r0,hr0,hrz,hr1,hr2⟩:=info_parts info_vrow
 obtain ⟨q,c,rfl⟩:=hE.rows.shape
 have HLEN:=Lib.hid hE.rows.len;have HR:=Lib.hid hr;have HE:=Lib.hid hE
 have HM1:Hid (n≤maxLen):=by show n≤maxLen;unfold maxLen;omega
 have HM2:Hid (48 * n≤281474976710656):=by show 48 * n≤_;omega
 obtain ⟨g,hg⟩:∃ g,g = w.heap.size:=⟨_,rfl⟩
 have HG:=Lib.hid hg
 clear hg
 obtain ⟨f0,f1,f2⟩:=cells3 hE.box
 clear hE hr
 go_enter Tryz.func78,Tryz.ntmps78
 go_wp2_with (at_make;refine wpList_make_full _ rfl _ _ 44 rfl w.heap.size 99 r0 (.agg #[.slice none 0 0,.slice none 0 0]) 2 Tryz.underlying44 hr0 hrz hr1 .i64 .i64 _ _ n rfl rfl rfl rfl (by rw [hr2];exact HM2.out) HM1.out (by simp) ?_)
 intro w1 ho hg
 have hg':Below w.heap.size w w1:=(Below.refl _ _).grown hg (by simp) (by simp)
 have RM:=heap_owns2 ho
 have R1:Hid (RwL 99 5 w1 w.heap.size (.slice (some ⟨w.heap.size,0,none⟩) n n) n (List.replicate n ([],[]))):=RwL.made (by simpa using RM) (Nat.le_refl _) HM1.out
 have E1:=Lib.hid (HE.out.keep hg')
 have B1:=Lib.hid hg'
 rw [← HG.out] at R1 ⊢
 clear RM ho hg hg' f0 f1 f2 hr0 hrz hr1 hr2 HM1 HM2
 obtain ⟨f0,f1,f2⟩:=cells3 E1.out.box
 go_wp2
 clear f0 f1 f2
 go_loopw [19] (fun i wr=>∃ j:Nat,j≤n∧i = .int .i64 j∧Hid (RwL 99 5 wr g (.slice (some ⟨g,0,none⟩) n n) n (K.take j ++ List.replicate (n - j) ([],[])))∧Hid (Below g w wr)) (fun i _=>n - (intOf i).toNat)
 case atStart=>exact ⟨0,Nat.zero_le _,rfl,by show RwL _ _ _ _ _ _ _;simpa using R1.out,by show Below _ _ _;rw [HG.out];exact B1.out⟩
 case round =>
  clear R1 E1 B1
  obtain ⟨j,hj,rfl,hR,hB⟩:=hrel
  have hE:=Lib.hid (HE.out.keep (w':=wr) (by rw [← HG.out];exact hB.out))
  by_cases hjl:j < n
  ·have jn:(j:Int) < (n:Int):=by omega
   obtain ⟨gs,kk,a1,b1,d1,a2,b2,d2,rfl,e1,e2,hkk,t1,t2⟩:=hE.out.rows.at hjl
   have T1:=Lib.hid t1;have T2:=Lib.hid t2;have HK:=Lib.hid hkk.out
   have HRR:=Lib.hid (HR.out kk (List.mem_of_getElem? hkk.out))
   clear t1 t2 hkk
   go_wp2_with fail
   clear e1 e2
   refine use_w1 (fun W=>Below wr.heap.size wr W) (al (Below.refl _ _) (Nat.le_refl _)) ?_
   rintro w7 b7
   refine Calls.mono (RClone_any a1 a2 b1 d1 b2 d2 kk.1 kk.2 w7 (T1.out.keep b7) (T2.out.keep b7) (by rw [← T1.out.len];exact HRR.out.1) (by rw [← T2.out.len];exact HRR.out.2)) ?_
   rintro e w8 ⟨q1,m1,g1,q2,m2,g2,l1,l2,rfl,o1,o2,hb⟩
   have hgs:g≤w7.heap.size:=Nat.le_trans (by rw [HG.out];exact hB.out.size) b7.size
   have B8':=Lib.hid (b7.trans (hb.mono b7.size))
   have Y1:Hid (Bw 5 w8 g (.slice q1 m1 g1) kk.1):=Bw.mk (owns_mono o1 hgs) l1.out
   have Y2:Hid (Bw 5 w8 g (.slice q2 m2 g2) kk.2):=Bw.mk (owns_mono o2 hgs) l2.out
   have R8:=Lib.hid (hR.out.keep B8'.out)
   have E8:=Lib.hid (hE.out.keep B8'.out)
   have B9:=Lib.hid (hB.out.trans (B8'.out.mono (by rw [HG.out];exact hB.out.size)))
   obtain ⟨cur,hcur⟩:=R8.out.blk
   have z0:w8.frozen? ⟨g,j * 2,none⟩ = false:=frozen_of_row _ _ _ _ _ hcur
   have z1:w8.frozen? ⟨g,j * 2 + 1,none⟩ = false:=frozen_of_row _ _ _ _ _ hcur
   obtain ⟨gx,kx,x1,xb1,xd1,x2,xb2,xd2,hgx,c1,c2,-,-,-⟩:=R8.out.at hjl
   obtain rfl:g = gx:=by injection hgx with h;injection h
   have HP:=Lib.hid (R8.out.put (by decide) hjl Y1.out Y2.out)
   have hs8:g≤w8.heap.size:=Nat.le_trans hgs hb.size
   clear hcur hgx o1 o2 hb b7 hR hE hB T1 T2 l1 l2 B8' hgs
   rw [fill_step HK.out HLEN.out] at HP
   have BX:Hid (∀ o1 o2 v1 v2,Below g w ((w8.setCell ⟨g,o1,none⟩ v1).setCell ⟨g,o2,none⟩ v2)):=fun o1 o2 v1 v2=>(B9.out.setCell (Nat.le_refl _) _).setCell (Nat.le_refl _) _
   clear B9 E8 R8 hs8
   go_wp2
   go_roundw
   case rel=>exact ⟨j + 1,by omega,by go_num,HP.out,BX.out _ _ _ _⟩
   case measure=>simp [intOf];omega
  ·have hjn:j = n:=by omega
   have hge:(n:Int)≤(j:Int):=by omega
   have HF:=Lib.hid hR.out
   rw [List.take_of_length_le (by rw [HLEN.out];omega),hjn,Nat.sub_self,List.replicate_zero,List.append_nil] at HF
   have BF:=Lib.hid hB.out
   clear hR hE hB hjn
   go_wp2
   go_ret
   exact ⟨_,rfl,by rw [← HG.out];exact HF.out,by rw [← HG.out];exact BF.out⟩
end Go.Proofs.YtccaiiigdfieoaaGreatDoor
namespace Go.By
open Go.RowKit
theorem RwL.mono {T2 T1 base b2 n:Nat} {w:World} {v:Value} {K:List (List UInt8 × List UInt8)} (h:RwL T2 T1 w base v n K) (hb:b2≤base):RwL T2 T1 w b2 v n K:=by
 obtain ⟨vs,a,b,o,r⟩:=h
 refine ⟨vs,a,b,?_,fun j u hj=>by obtain ⟨k,hk,g1,g2⟩:=r j u hj;exact ⟨k,hk,g1.mono hb,g2.mono hb⟩⟩
 obtain ⟨q,c,rfl⟩:=owns_shape o
 exact owns_mono o hb
end Go.By
namespace Go.Proofs.YtccaiiigdfieoaaGreatDoor
open Go.RowKit Go.By
end Go.Proofs.YtccaiiigdfieoaaGreatDoor
namespace Go.By
open Go.RowKit
section
variable {T2 T1:TypeId} {w w':World} {base n:Nat} {v:Value} {xss:List (List UInt8)}
theorem Own2.mono {b2:Nat} (h:Own2 T2 T1 w base v n xss) (hb:b2≤base):Own2 T2 T1 w b2 v n xss:=by
 obtain ⟨vs,a,b,r⟩:=h
 obtain ⟨q,c,rfl⟩:=owns_shape a
 exact ⟨vs,owns_mono a hb,b,fun j u hj=>by obtain ⟨xs,q',c',e1,e2,e3⟩:=r j u hj;exact ⟨xs,q',c',e1,e2,owns_mono e3 hb⟩⟩
theorem Own2.made {q:Value} (ho:w.ownsRow base T2 1 q n (madeCells #[Value.slice none 0 0] n).toList):Own2 T2 T1 w base q n (List.replicate n []):=by
 have e:(madeCells #[Value.slice none 0 0] n).toList = List.replicate n (Value.slice none 0 0):=toList_madeCells_one _ _
 rw [e] at ho
 refine ⟨_,ho,by simp,fun j u hj=>?_⟩
 obtain ⟨h1,h2⟩:=List.getElem?_eq_some_iff.1 hj
 rw [List.length_replicate] at h1
 simp at h2
 exact ⟨[],none,0,by rw [List.getElem?_replicate,if_pos h1],h2.symm,World.ownsRow_nil _ _ _ _⟩
theorem Own2.put {g c i m c3:Nat} {q3:Option Addr} {xs:List UInt8} (h:Own2 T2 T1 w base (.slice (some ⟨g,0,none⟩) n c) n xss) (hT:T1≠T2) (hi:i < n) (h1:w.ownsRow base T1 1 (.slice q3 m c3) m (xs.map B8)) :
  Own2 T2 T1 (w.setCell ⟨g,i,none⟩ (.slice q3 m c3)) base (.slice (some ⟨g,0,none⟩) n c) n (xss.set i xs):=by
 obtain ⟨vs,a,b,r⟩:=h
 have hml:m = xs.length:=by have:=h1.1;simp at this;exact this.symm
 subst hml
 have hvl:vs.length = n:=by simpa using a.1
 have hst:=a.stored i (.slice q3 xs.length c3)
 refine ⟨vs.set i (.slice q3 xs.length c3),hst.1,by simp [b],fun j u hj=>?_⟩
 rw [List.getElem?_set] at hj
 by_cases e:i = j
 ·subst e
  rw [if_pos rfl,if_pos (by omega)] at hj
  cases hj
  exact ⟨xs,q3,c3,by rw [List.getElem?_set,if_pos rfl,if_pos (by omega)],rfl,owns_kept h1 hst.2 (owns_ne h1 a hT)⟩
 ·rw [if_neg e] at hj
  obtain ⟨xs',q',c',e1,e2,e3⟩:=r j u hj
  exact ⟨xs',q',c',by rw [List.getElem?_set,if_neg e];exact e1,e2,owns_kept e3 hst.2 (owns_ne e3 a hT)⟩
theorem Own2.blk {g c i:Nat} (h:Own2 T2 T1 w base (.slice (some ⟨g,0,none⟩) n c) n xss) (hi:i < n):(∃ u,w.cell? ⟨g,i,none⟩ = some u)∧w.frozen? ⟨g,i,none⟩ = false∧base≤g:=by
 obtain ⟨vs,a,b,r⟩:=h
 have hvl:vs.length = n:=by simpa using a.1
 exact ⟨⟨_,(a.cellAt i (by omega)).trans (List.getElem?_eq_getElem (by omega))⟩,a.frozenAt _,(a.lt g rfl).1⟩
end
end Go.By
namespace Go.Proofs.YtccaiiigdfieoaaGreatDoor
open Go.RowKit Go.By
end Go.Proofs.YtccaiiigdfieoaaGreatDoor
namespace Go.By
open Go.RowKit Go.Proofs.YtccaiiigdfieoaaGreatDoor
theorem owns_same {w w':World} {base T k n:Nat} {v:Value} {L:List Value} (h:w.ownsRow base T k v n L) (hs:w.heap.size≤w'.heap.size) (hb:∀ g,v.ownBlock = some g→w'.heap[g]? = w.heap[g]?):w'.ownsRow base T k v n L:=by
 have _:=hs
 refine ⟨h.1,?_⟩
 rcases h.2 with h1 | ⟨g,cap,cur,e,h1,h2,h3⟩
 ·exact .inl h1
 ·exact .inr ⟨g,cap,cur,e,h1,(hb g (by rw [e];rfl)).trans h2,h3⟩
section
variable {w w':World} {base be k t n:Nat} {v:Value} {K:List Rw}
theorem Chg.blk (h:Chg w w' be v) (hE:Elm w base be k t v n K) {g T:Nat} {cs:Array Value} {fr:Nat × Nat} (hg:w.heap[g]? = some (.cells cs T fr)) (h1:T≠191) (h2:v.ownBlock≠some g):w'.heap[g]? = some (.cells cs T fr):=by
 refine (h.block g (blk_lt hg) (fun e=>?_) h2).trans hg
 subst e
 rw [hE.box] at hg;injection hg with hg;injection hg with _ hg _;exact h1 hg.symm
theorem Chg.blk2 (h:Chg w w' be v) (hE:Elm w base be k t v n K) {g T:Nat} {cs:Array Value} {fr:Nat × Nat} (hg:w.heap[g]? = some (.cells cs T fr)) (h1:T≠191) (h2:99≠T):w'.heap[g]? = some (.cells cs T fr) :=
 h.blk hE hg h1 (hE.rows.ne_box hg h2)
theorem Chg.bw (h:Chg w w' be v) (hE:Elm w base be k t v n K) {b:Nat} {u:Value} {xs:List UInt8} (hu:Bw 5 w b u xs):Bw 5 w' b u xs:=by
 obtain ⟨q,m,c,e,l,o⟩:=hu
 refine ⟨q,m,c,e,l,owns_same o h.size fun g hg=>?_⟩
 rcases o.2 with ⟨e1,_⟩ | ⟨g',cap,cur,e1,_,hh,_⟩
 ·rw [e1] at hg;cases hg
 ·rw [e1] at hg;cases hg
  rw [h.blk2 hE hh (by decide) (by decide),hh]
theorem Chg.rwl (h:Chg w w' be v) (hE:Elm w base be k t v n K) {b2 n2:Nat} {v2:Value} {K2:List Rw} (h2:RwL 99 5 w b2 v2 n2 K2) (hne:∀ g,v2.ownBlock = some g→v.ownBlock≠some g):RwL 99 5 w' b2 v2 n2 K2:=by
 obtain ⟨vs,a,b,o,r⟩:=h2
 refine ⟨vs,a,b,owns_same o h.size fun g hg=>?_,fun j u hj=>by obtain ⟨x,hk,g1,g2⟩:=r j u hj;exact ⟨x,hk,h.bw hE g1,h.bw hE g2⟩⟩
 rcases o.2 with ⟨e1,_⟩ | ⟨g',cap,cur,e1,_,hh,_⟩
 ·rw [e1] at hg;cases hg
 ·have hn:=hne g hg
  rw [e1] at hg;cases hg
  rw [h.blk hE hh (by decide) hn,hh]
theorem Chg.elm (h:Chg w w' be v) (hE:Elm w base be k t v n K) {b2 be2 n2 k2 t2:Nat} {v2:Value} {K2:List Rw} (h2:Elm w b2 be2 k2 t2 v2 n2 K2) (hbe:be2≠be) (hne:∀ g,v2.ownBlock = some g→v.ownBlock≠some g):Elm w' b2 be2 k2 t2 v2 n2 K2 :=
 ⟨(h.block be2 (blk_lt h2.box) hbe (hE.rows.ne_box h2.box (by decide))).trans h2.box,h.rwl hE h2.rows hne,h2.old⟩
end
end Go.By
namespace Go.Proofs.YtccaiiigdfieoaaGreatDoor
open Go.RowKit Go.By
def codeF (K:List Rw) (x:Rw):Int:=if leadS (restF K x).1 < 0 then (if zeroS (restF K x).2 = true then 1 else 2) else 0
def putK (K:List Rw) (x:Rw):List Rw:=if leadS (restF K x).1 < 0 then K else putF K x
def putD (K D:List Rw) (x:Rw):List Rw:=if leadS (restF K x).1 < 0 then D else D ++ [x]
theorem EPut_fit (base be k t n:Nat) (v:Value) (K:List Rw) (p1 p2:Option Addr) (c1 c2:Nat) (x:Rw) (w:World) (hE:Elm w base be k t v n K) (s1:Sl B8 w p1 k c1 x.1) (s2:Sl B8 w p2 t c2 x.2) (hR:Red k t K) (hk:k≤4096) (ht:t≤65535) (hnn:n≤4096) :
  Calls Tryz.prog 64 #[.pointer (some ⟨be,0,none⟩),.agg #[.slice p1 k c1,.slice p2 t c2]] w fun e w'=>e = .returned (.tuple #[.int .i64 (codeF K x),.int .i64 0]) ∧
   ∃ v' n',Elm w' base be k t v' n' (putK K x)∧Chg w w' be v∧(v'.ownBlock = v.ownBlock∨∀ b,v'.ownBlock = some b→w.heap.size≤b):=by
 by_cases hn:leadS (restF K x).1 < 0
 ·refine (EPut_zero base be k t n v K p1 p2 c1 c2 x w hE s1 s2 hR.kept.rows hk ht hn).mono ?_
  rintro e w' ⟨rfl,hb⟩
  unfold codeF putK
  rw [if_pos hn,if_pos hn]
  exact ⟨rfl,v,n,hE.keep hb,Chg.of be v hb,.inl rfl⟩
 ·refine (EPut_grown base be k t n v K p1 p2 c1 c2 x w hE s1 s2 hR hk ht hn hnn).mono ?_
  rintro e w' ⟨rfl,v',h1,h2,h3⟩
  unfold codeF putK
  rw [if_neg hn,if_neg hn]
  exact ⟨rfl,v',n + 1,h1,h2,h3⟩
theorem Sys.putK {n t:Nat} {D K:List Rw} {x:Rw} (h:Sys n t (kD D) K) (hx:Fit n t x):Sys n t (kD (putD K D x)) (putK K x):=by
 unfold putD Go.Proofs.YtccaiiigdfieoaaGreatDoor.putK
 by_cases hn:leadS (restF K x).1 < 0
 ·rw [if_pos hn,if_pos hn];exact h
 ·rw [if_neg hn,if_neg hn,kD_snoc];exact h.put hx hn
theorem RwN.vals {W w:World} {T n c:Nat} {q:Option Addr} {K:List Rw} (h:RwN W w T q n c K):∃ vs,w.ownsRow W.heap.size T 2 (.slice q n c) n (fl2 vs)∧RwV w q n c vs∧vs.length = n∧∀ (j:Nat) (k:Rw),K[j]? = some k→∃ u,vs[j]? = some u∧RwP W u k:=by
 obtain ⟨hb,hl,vs,o,hv⟩:=h
 have hvl:vs.length = n:=by have:=o.1;rw [fl2_length] at this;omega
 refine ⟨vs,o,RwV.of_owns o (fun u hu=>?_),hvl,hv⟩
 obtain ⟨a,ha,hu⟩:=List.mem_flatMap.1 hu
 obtain ⟨j,hj,rfl⟩:=List.getElem_of_mem ha
 obtain ⟨u',hu',q1,m1,c1,q2,m2,c2,e,-⟩:=hv j (K[j]'(by omega)) (List.getElem?_eq_getElem (by omega))
 rw [List.getElem?_eq_getElem hj] at hu'
 injection hu' with hu'
 rw [hu',e] at hu
 simp at hu
 rcases hu with rfl | rfl <;> rfl
theorem incr_ge {l:List Nat} (h:l.Pairwise (· < ·)):∀ (i:Nat) (hi:i < l.length),i≤l[i]
 | 0,_=>Nat.zero_le _
 | i + 1,hi=>by
  have h1:=incr_ge h i (by omega)
  have h2:=List.pairwise_iff_getElem.1 h i (i + 1) (by omega) hi (by omega)
  omega
theorem incr_len {l:List Nat} {B:Nat} (h:l.Pairwise (· < ·)) (hB:∀ a,a ∈ l→a < B):l.length≤B:=by
 rcases Nat.eq_zero_or_pos l.length with h0 | h0
 ·omega
 ·have h1:=incr_ge h (l.length - 1) (by omega)
  have h2:=hB _ (List.getElem_mem (show l.length - 1 < l.length by omega))
  omega
theorem Red.le {k t:Nat} {K:List Rw} (h:Red k t K):K.length≤k:=by
 have:=incr_len h.leads (B:=k) (fun a ha=>by
  obtain ⟨x,hx,rfl⟩:=List.mem_map.1 ha
  obtain ⟨hf,hl⟩:=h.kept.rows x hx
  exact hl.at.lt hf)
 rwa [List.length_map] at this
end Go.Proofs.YtccaiiigdfieoaaGreatDoor
namespace Go.Proofs.YtccaiiigdfieoaaGreatDoor
open Go.RowKit Go.By
end Go.Proofs.YtccaiiigdfieoaaGreatDoor
namespace Go.Proofs.YtccaiiigdfieoaaGreatDoor
open Go.RowKit Go.By
end Go.Proofs.YtccaiiigdfieoaaGreatDoor
namespace Go.Proofs.YtccaiiigdfieoaaGreatDoor
open Go.RowKit Go.By
end Go.Proofs.YtccaiiigdfieoaaGreatDoor
namespace Go.Proofs.YtccaiiigdfieoaaGreatDoor
open Go.RowKit Go.By Gf
end Go.Proofs.YtccaiiigdfieoaaGreatDoor
namespace Go.Proofs.YtccaiiigdfieoaaGreatDoor
open Go.RowKit Go.By
end Go.Proofs.YtccaiiigdfieoaaGreatDoor
namespace Go.Proofs.YtccaiiigdfieoaaGreatDoor
open Go.RowKit Go.By
end Go.Proofs.YtccaiiigdfieoaaGreatDoor
namespace Go.Proofs.YtccaiiigdfieoaaGreatDoor
open Go.RowKit Go.By
end Go.Proofs.YtccaiiigdfieoaaGreatDoor
namespace Go.Proofs.YtccaiiigdfieoaaGreatDoor
open Go.RowKit Go.By
end Go.Proofs.YtccaiiigdfieoaaGreatDoor
namespace Go.Proofs.YtccaiiigdfieoaaGreatDoor
open Go.RowKit Go.By
end Go.Proofs.YtccaiiigdfieoaaGreatDoor
namespace Go.Proofs.YtccaiiigdfieoaaGreatDoor
open Go.RowKit Go.By
end Go.Proofs.YtccaiiigdfieoaaGreatDoor
namespace Go.Proofs.YtccaiiigdfieoaaGreatDoor
open Go.RowKit Go.By Gf
end Go.Proofs.YtccaiiigdfieoaaGreatDoor
namespace Go.Proofs.YtccaiiigdfieoaaGreatDoor
open Go.RowKit Go.By Gf
end Go.Proofs.YtccaiiigdfieoaaGreatDoor
namespace Go.Proofs.YtccaiiigdfieoaaGreatDoor
open Go.RowKit Go.By Gf
theorem vR_right {k n j:Nat} {r:Rw} (hf:Fit k n r):vR r (k + j) = vf r.2 j:=by
 unfold vR vf cat
 rw [List.getD_eq_getElem?_getD,List.getElem?_append_right (by rw [hf.1];omega),hf.1,Nat.add_sub_cancel_left,List.getD_eq_getElem?_getD]
theorem vR_left {k n j:Nat} {r:Rw} (hf:Fit k n r) (hj:j < k):vR r j = vf r.1 j:=vf_app_left (by rw [hf.1];exact hj)
theorem Sys.putX {k n:Nat} {D K:List Rw} {x:Rw} (h:Sys k n (kD D) K) (hx:Fit k n x):Sys k n (kD (D ++ [x])) (Go.Proofs.YtccaiiigdfieoaaGreatDoor.putK K x):=by
 rw [kD_snoc]
 unfold Go.Proofs.YtccaiiigdfieoaaGreatDoor.putK
 by_cases hn:leadS (restF K x).1 < 0
 ·have e:insF (kD D) x = kD D:=by unfold insF;rw [norm_leadS,h.rest hx,if_pos hn]
  rw [if_pos hn,e];exact h
 ·rw [if_neg hn];exact h.put hx hn
def prR (r:Rw):Rw:=(r.1,[])
theorem rest_pr:∀ (K:List Rw) (x:Rw),restF (K.map prR) (prR x) = prR (restF K x)
 | [],_=>rfl
 | a :: K,x=>by
  have h:=rest_pr K (lessF x (atS x.1 (leadS a.1)) a)
  unfold restF at h ⊢
  rw [List.map_cons,List.foldl_cons,List.foldl_cons,← h]
  rfl
theorem norm_pr (r:Rw):normS (prR r) = prR (normS r):=by
 unfold normS prR
 simp only
 split <;> simp
theorem ins_pr (K:List Rw) (x:Rw):insF (K.map prR) (prR x) = (insF K x).map prR:=by
 unfold insF
 rw [rest_pr,norm_pr]
 show (if leadS (normS (restF K x)).1 < 0 then _ else _) = _
 by_cases hl:leadS (normS (restF K x)).1 < 0
 ·rw [if_pos hl,if_pos hl]
 ·rw [if_neg hl,if_neg hl,List.map_append,List.map_cons,List.takeWhile_map,List.dropWhile_map]
  rfl
theorem kD_pr:∀ (X:List Rw) (K:List Rw),(X.map (fun x:Rw=>x.1)).foldl (fun K r=>insF K (r,[])) (K.map prR) = (X.foldl insF K).map prR
 | [],_=>rfl
 | x :: X,K=>by
  rw [List.map_cons,List.foldl_cons,List.foldl_cons,← kD_pr X (insF K x),← ins_pr]
  rfl
theorem sys_rank {k n:Nat} {X K:List Rw} (h:Sys k n (kD X) K):K.length = (iK (X.map (fun x:Rw=>x.1))).length:=by
 have h1:=kD_pr X []
 unfold iK
 rw [show ([]:List Rw) = ([]:List Rw).map prR from rfl,h1,List.length_map,h.same]
 unfold redL kD
 rw [List.length_map,List.length_range]
end Go.Proofs.YtccaiiigdfieoaaGreatDoor
namespace Go.By
open Go.RowKit
theorem heap_of_ownsC {w:World} {base E g n:Nat} {L:List Value} (h:w.ownsRow base E 1 (.slice (some ⟨g,0,none⟩) n n) n L):w.heap[g]? = some (.cells L.toArray E (0,0)):=by
 rcases h.2 with ⟨h1,_⟩ | ⟨g',cap,cur,hv,_,hh,_,_,hs,ht⟩
 ·cases h1
 ·cases hv
  rw [hh]
  have:cur = L.toArray:=by
   rw [← ht,List.take_of_length_le (by simp [hs])]
  rw [this]
theorem grownBy_setRowC (w:World) (g:Nat) (cs:Array Value):w.grownBy (w.setRow g cs) (some g) :=
 ⟨rfl,rfl,rfl,by simp [World.setRow],fun b _ hne=>by
  simp only [World.setRow,Array.getElem?_modify]
  rw [if_neg (fun e=>hne (by rw [e]))]⟩
theorem wp_make_bytesC {P:Program} (w:World) {o:Oper} {a:Act} {K:Act→World→Prop} {Q:Exit→Act→World→Prop} (hg:o.guard = none) (l c:Operand) (t:TypeId) (hop:o.op = Op.makeSlice t l c)
  (e:TypeId) (i:TypeInfo) (h1:P.underlying t = some (.slice e)) (h2:P.info? e = some i) (h3:i.zero = some (.int .u8 0)) (h4:i.size = 1) (h5:i.bytes = 1) (n:Nat) (hl:a.eval l = .int .i64 n) (hc:a.eval c = .int .i64 n) (hn:n≤65536)
  (hK:∀ w' g,g = w.heap.size→w'.heap[g]? = some (.cells ((List.replicate n (0:UInt8)).map B8).toArray e (0,0))→Below w.heap.size w w'→K (a.put o.dst (.slice (some ⟨g,0,none⟩) n n)) w'):o.wp P a w K Q:=by
 have _:=hg
 obtain ⟨w',hrun,r1,r2⟩:=run_make_full (P:=P) w w.heap.size t e i (.int .u8 0) 1 h1 h2 h3 h4 .i64 .i64 n (by rw [h5];omega) (by unfold maxLen;omega) (Nat.le_refl _)
 unfold Oper.wp
 simp [execOp,hop,hl,hc,hrun,Result.andThen]
 refine hK w' _ rfl ?_ ((Below.refl _ _).grown r2 (Nat.le_refl _) (by simp))
 have e1:(madeCells #[Value.int .u8 0] n).toList = List.replicate n (B8 0):=toList_madeCells_one _ _
 have r3:w'.ownsRow w.heap.size e 1 (.slice (some ⟨w.heap.size,0,none⟩) n n) n (List.replicate n (B8 0)):=by rw [← e1];have r4:=r1;simp only [Nat.mul_one] at r4;exact r4
 rw [List.map_replicate]
 exact heap_of_ownsC r3
end Go.By
namespace Go.By
open Go.RowKit
def mixS (s:Nat):Nat:=(s + 11400714819323198485) % 18446744073709551616
def mixX (z k:Nat):Nat:=z ^^^ (z / 2 ^ k)
def mixZ (s:Nat):Nat:=mixX (mixX (mixX s 30 * 13787848793156543929 % 18446744073709551616) 27 * 10723151780598845931 % 18446744073709551616) 31
def mixIt (s:Nat):Nat→Nat
 | 0=>s
 | q + 1=>mixS (mixIt s q)
def mixAt (s i:Nat):UInt8:=UInt8.ofNat (mixZ (mixIt s (i / 8 + 1)) / 256 ^ (i % 8))
def mixRow (s n:Nat):List UInt8:=(List.range n).map (mixAt s)
theorem mixRow_len (s n:Nat):(mixRow s n).length = n:=by simp [mixRow]
theorem mixX_lt {z k:Nat} (h:z < 18446744073709551616):mixX z k < 18446744073709551616:=by
 unfold mixX
 exact Nat.xor_lt_two_pow (n:=64) h (Nat.lt_of_le_of_lt (Nat.div_le_self _ _) h)
theorem mixS_lt (s:Nat):mixS s < 18446744073709551616:=Nat.mod_lt _ (by decide)
theorem mixZ_lt (s:Nat):mixZ s < 18446744073709551616:=mixX_lt (Nat.mod_lt _ (by decide))
theorem bits_xor64 {a b:Nat} (ha:a < 18446744073709551616) (hb:b < 18446744073709551616):bits .xor .u64 (a:Int) (b:Int) = ((a ^^^ b:Nat):Int) :=
 bits_xor_nat .u64 64 (by decide) (fun n h1 h2=>by rw [IntKind.wrap_u64];omega) a b ha hb
theorem mixX_bits {z k:Nat} (hz:z < 18446744073709551616):bits .xor .u64 (z:Int) ((z:Int) / ((2 ^ k:Nat):Int)) = (mixX z k:Int):=by
 rw [← Int.natCast_ediv,bits_xor64 hz (Nat.lt_of_le_of_lt (Nat.div_le_self _ _) hz)]
 rfl
theorem wpList_make_bytesC {P:Program} (w:World) {ops:Array Oper} {rest:List Oper} {o:Oper} {a:Act} {Q:Exit→Act→World→Prop} (hg:o.guard = none) (l c:Operand) (t:TypeId) (hop:o.op = Op.makeSlice t l c)
  (e:TypeId) (i:TypeInfo) (h1:P.underlying t = some (.slice e)) (h2:P.info? e = some i) (h3:i.zero = some (.int .u8 0)) (h4:i.size = 1) (h5:i.bytes = 1) (n:Nat) (hl:a.eval l = .int .i64 n) (hc:a.eval c = .int .i64 n) (hn:n≤65536)
  (hK:∀ w',w'.heap[w.heap.size]? = some (.cells ((List.replicate n (0:UInt8)).map B8).toArray e (0,0))→Below w.heap.size w w'→wpList P ops Q rest (a.put o.dst (.slice (some ⟨w.heap.size,0,none⟩) n n)) w'):wpList P ops Q (o :: rest) a w :=
 wpList_plain hg fun _ hK'=>wp_make_bytesC w hg l c t hop e i h1 h2 h3 h4 h5 n hl hc hn (fun w' g e1 e2 e3=>by subst e1;exact hK' _ _ (hK w' e2 e3))
theorem set_toArray {xs:List UInt8} {j:Nat} {v:UInt8} {w:World} {g:Nat} {T:TypeId} (h:w.heap[g]? = some (.cells (xs.map B8).toArray T (0,0))):(w.setCell ⟨g,j,none⟩ (B8 v)).heap[g]? = some (.cells ((xs.set j v).map B8).toArray T (0,0)):=by
 rw [hss h]
 simp [List.map_set]
theorem mixAt_val2 (s q i:Nat) (hi:i < 8):(((mixZ (mixIt s (q + 1)):Nat):Int) / (2 ^ (8 * i):Int)) % 256 = ((mixAt s (8 * q + i)).toNat:Int):=by
 have e1:(8 * q + i) / 8 = q:=by omega
 have e2:(8 * q + i) % 8 = i:=by omega
 unfold mixAt
 rw [e1,e2,UInt8.toNat_ofNat',show (2:Int) ^ (8 * i) = ((256 ^ i:Nat):Int) by rw [Int.natCast_pow,Int.pow_mul];rfl]
 omega
end Go.By
namespace Go.Proofs.YtccaiiigdfieoaaGreatDoor
open Go.RowKit Go.By
set_option maxRecDepth 100000 in
set_option maxHeartbeats 1000000 in
theorem MNext_any (g s:Nat) (w:World) (h:w.heap[g]? = some (.cells #[.int .u64 (s:Nat)] 308 (0,0))) :
  Calls Tryz.prog 236 #[.pointer (some ⟨g,0,none⟩)] w fun e w'=>e = .returned (.int .u64 (mixZ (mixS s):Nat))∧w' = w.setCell ⟨g,0,none⟩ (.int .u64 (mixS s:Nat)):=by
 have c0:=cell_of_row _ _ 0 _ _ _ h
 have z0:=frozen_of_row _ _ 0 _ _ h
 have w1:IntKind.u64.wrap ((s:Int) + 11400714819323198485) = (mixS s:Int):=by rw [IntKind.wrap_u64];unfold mixS;omega
 have hl:=mixS_lt s
 obtain ⟨S,hS⟩:∃ S,S = mixS s:=⟨_,rfl⟩
 unfold mixZ
 rw [← hS] at w1 hl ⊢
 have x1:=mixX_bits (k:=30) hl
 have l1:=mixX_lt (k:=30) hl
 obtain ⟨Y,hY⟩:∃ Y,Y = mixX S 30:=⟨_,rfl⟩
 rw [← hY] at x1 l1 ⊢
 have m1:IntKind.u64.wrap ((Y:Int) * 13787848793156543929) = ((Y * 13787848793156543929 % 18446744073709551616:Nat):Int):=by rw [IntKind.wrap_u64];omega
 obtain ⟨Z,hZ⟩:∃ Z,Z = Y * 13787848793156543929 % 18446744073709551616:=⟨_,rfl⟩
 have lz:Z < 18446744073709551616:=by rw [hZ];exact Nat.mod_lt _ (by decide)
 rw [← hZ] at m1 ⊢
 have x2:=mixX_bits (k:=27) lz
 have l2:=mixX_lt (k:=27) lz
 obtain ⟨Y2,hY2⟩:∃ Y,Y = mixX Z 27:=⟨_,rfl⟩
 rw [← hY2] at x2 l2 ⊢
 have m2:IntKind.u64.wrap ((Y2:Int) * 10723151780598845931) = ((Y2 * 10723151780598845931 % 18446744073709551616:Nat):Int):=by rw [IntKind.wrap_u64];omega
 obtain ⟨Z2,hZ2⟩:∃ Z,Z = Y2 * 10723151780598845931 % 18446744073709551616:=⟨_,rfl⟩
 have lz2:Z2 < 18446744073709551616:=by rw [hZ2];exact Nat.mod_lt _ (by decide)
 rw [← hZ2] at m2 ⊢
 have x3:=mixX_bits (k:=31) lz2
 obtain ⟨Y3,hY3⟩:∃ Y,Y = mixX Z2 31:=⟨_,rfl⟩
 rw [← hY3] at x3 ⊢
 simp only [Nat.reducePow,Int.cast_ofNat_Int] at x1 x2 x3
 clear hS hY hZ hY2 hZ2 hY3 hl l1 lz l2 lz2 h
 go_enter Tryz.func236,Tryz.ntmps236
 go_wp2
 go_ret
 exact ⟨rfl,rfl⟩
set_option maxRecDepth 100000 in
set_option maxHeartbeats 2000000 in
theorem MBytes_any (g s n:Nat) (w:World) (h:w.heap[g]? = some (.cells #[.int .u64 (s:Nat)] 308 (0,0))) (hn:n≤65536) :
  Calls Tryz.prog 210 #[.pointer (some ⟨g,0,none⟩),.int .i64 (n:Nat)] w fun e w'=>∃ G,e = .returned (.tuple #[.slice (some ⟨G,0,none⟩) n n,.int .i64 0])∧w.heap.size≤G∧w'.heap[G]? = some (.cells ((mixRow s n).map B8).toArray 5 (0,0))∧∀ B,B≤g→Below B w w':=by
 obtain ⟨i0,hi,hz0,hz1,hz2⟩:=info_parts info_u8
 have HN:=Lib.hid hn
 have hg:=lt_of_block h
 have H:=Lib.hid h
 clear h
 go_enter Tryz.func210,Tryz.ntmps210
 go_wp2_with (at_make;refine wpList_make_bytesC _ rfl _ _ 22 rfl 5 i0 Tryz.underlying22 hi hz0 hz1 hz2 n rfl rfl HN.out ?_)
 intro w1 h1 hb1
 obtain ⟨G,hG⟩:∃ G,G = w.heap.size:=⟨_,rfl⟩
 rw [← hG] at h1 ⊢
 have HG:Hid (g < G):=by rw [hG];exact hg
 have HS:Hid (w.heap.size≤G):=by rw [hG];exact Nat.le_refl _
 have B1:Hid (∀ B,B≤g→Below B w w1):=fun B hB=>hb1.mono (by omega)
 have H1:=Lib.hid h1
 have H2:=Lib.hid ((hb1.block _ hg).trans H.out)
 clear h1 hb1 hG hg H
 go_wp2
 go_loopw [7] (fun v wr=>∃ q:Nat,v = .int .i64 (8 * q:Nat)∧8 * q≤n + 7∧Hid (wr.heap[g]? = some (.cells #[.int .u64 (mixIt s q:Nat)] 308 (0,0)))∧Hid (wr.heap[G]? = some (.cells ((prog (mixRow s n) (List.replicate n (0:UInt8)) (min (8 * q) n)).map B8).toArray 5 (0,0)))∧Hid (∀ B,B≤g→Below B w wr)) (fun v _=>n + 8 - (intOf v).toNat)
 case atStart=>exact ⟨0,rfl,by omega,H2.out,by rw [Nat.mul_zero,Nat.zero_min,prog_zero];show w1.heap[G]? = _;simpa using H1.out,B1.out⟩
 case round =>
  obtain ⟨q,rfl,hq,R1,R2,R3⟩:=hrel
  by_cases hlt:8 * q < n
  ·go_wp2_with fail
   refine Calls.mono (MNext_any g _ _ R1.out) ?_
   rintro e w2 ⟨rfl,rfl⟩
   have e0:mixS (mixIt s q) = mixIt s (q + 1):=rfl
   rw [e0]
   have F1:=Lib.hid (hss (i:=0) (v:=.int .u64 (mixIt s (q + 1):Nat)) R1.out)
   have F2:=Lib.hid (hsc (a:=⟨g,0,none⟩) (v:=.int .u64 (mixIt s (q + 1):Nat)) R2.out (by have:=HG.out;simp;omega))
   have F3:Hid (∀ B,B≤g→Below B w (wr.setCell ⟨g,0,none⟩ (.int .u64 (mixIt s (q + 1):Nat)))):=fun B hB=>(R3.out B hB).setCell (by simpa using hB) _
   clear R1 R2 R3 e0
   generalize wr.setCell ⟨g,0,none⟩ (.int .u64 (mixIt s (q + 1):Nat)) = w2 at *
   obtain ⟨X,hX⟩:∃ X,X = mixZ (mixIt s (q + 1)):=⟨_,rfl⟩
   rw [← hX]
   have HX:=Lib.hid hX
   clear hX
   rw [show min (8 * q) n = 8 * q by omega] at F2
   by_cases h8:n < 8 * q + 8
   ·obtain ⟨m,hm⟩:∃ m,n = 8 * q + m:=⟨n - 8 * q,by omega⟩
    have eM:(n:Int) - 8 * (q:Int) = (m:Int):=by omega
    have HM:=Lib.hid hm
    have hm8:m < 8:=by omega
    clear hm
    go_wp2
    go_loopw [31] (fun v wr=>∃ i:Nat,v = .int .i64 (i:Nat)∧i≤m∧Hid (wr.heap[g]? = some (.cells #[.int .u64 (mixIt s (q + 1):Nat)] 308 (0,0)))∧Hid (wr.heap[G]? = some (.cells ((prog (mixRow s n) (List.replicate n (0:UInt8)) (8 * q + i)).map B8).toArray 5 (0,0)))∧Hid (∀ B,B≤g→Below B w wr)) (fun v _=>m - (intOf v).toNat)
    case atStart=>exact ⟨0,rfl,by omega,F1.out,by rw [Nat.add_zero];exact F2.out,F3.out⟩
    case round =>
     clear F1 F2 F3
     obtain ⟨i,rfl,hi,I1,I2,I3⟩:=hrel
     by_cases hl:i < m
     ·have hj:8 * q + i < n:=by have:=HM.out;omega
      have cG:wr.cell? ⟨G,8 * q + i,none⟩ = some (B8 0):=by
       rw [cell_of_row _ _ (8 * q + i) _ _ _ I2.out]
       have:=prog_at (mixRow s n) (List.replicate n (0:UInt8)) (8 * q + i) n (mixRow_len s n) (by simp) hj
       simp [this,hj]
      have zG:=frozen_of_row _ _ (8 * q + i) _ _ I2.out
      have hv:=mixAt_val2 s q i (by omega)
      rw [← HX.out] at hv
      have eI:(8 * (q:Int) + (i:Int)).toNat = 8 * q + i:=by omega
      have I4:=Lib.hid (set_toArray (v:=mixAt s (8 * q + i)) (j:=8 * q + i) I2.out)
      have I5:=Lib.hid (hsc (a:=⟨G,8 * q + i,none⟩) (v:=B8 (mixAt s (8 * q + i))) I1.out (by have:=HG.out;simp;omega))
      have I6:Hid (∀ B,B≤g→Below B w (wr.setCell ⟨G,8 * q + i,none⟩ (B8 (mixAt s (8 * q + i))))):=fun B hB=>(I3.out B hB).setCell (by have:=HG.out;simp;omega) _
      clear I1 I2 I3
      go_wp2
      go_roundw
      case rel =>
       refine ⟨i + 1,by go_num,by omega,I5.out,?_,I6.out⟩
       rw [prog_succ _ _ (8 * q + i) n (mixRow_len s n) (by simp) hj (mixAt s (8 * q + i)) (by simp [mixRow,hj])] at I4
       rw [← Nat.add_assoc]
       exact I4.out
      case measure=>simp [intOf];omega
     ·have hiM:i = m:=by omega
      subst hiM
      clear hl hi
      go_wp2
      go_roundw
      case rel =>
       exact ⟨q + 1,by go_num,by omega,I1.out,by rw [show min (8 * (q + 1)) n = 8 * q + i by have:=HM.out;omega];exact I2.out,I3.out⟩
      case measure=>simp [intOf];omega
   ·have HM:Hid (8 * q + 8≤n):=by show 8 * q + 8≤n;omega
    go_wp2
    go_loopw [31] (fun v wr=>∃ i:Nat,v = .int .i64 (i:Nat)∧i≤8∧Hid (wr.heap[g]? = some (.cells #[.int .u64 (mixIt s (q + 1):Nat)] 308 (0,0)))∧Hid (wr.heap[G]? = some (.cells ((prog (mixRow s n) (List.replicate n (0:UInt8)) (8 * q + i)).map B8).toArray 5 (0,0)))∧Hid (∀ B,B≤g→Below B w wr)) (fun v _=>8 - (intOf v).toNat)
    case atStart=>exact ⟨0,rfl,by omega,F1.out,by rw [Nat.add_zero];exact F2.out,F3.out⟩
    case round =>
     clear F1 F2 F3
     obtain ⟨i,rfl,hi,I1,I2,I3⟩:=hrel
     by_cases hl:i < 8
     ·have hj:8 * q + i < n:=by have:=HM.out;omega
      have cG:wr.cell? ⟨G,8 * q + i,none⟩ = some (B8 0):=by
       rw [cell_of_row _ _ (8 * q + i) _ _ _ I2.out]
       have:=prog_at (mixRow s n) (List.replicate n (0:UInt8)) (8 * q + i) n (mixRow_len s n) (by simp) hj
       simp [this,hj]
      have zG:=frozen_of_row _ _ (8 * q + i) _ _ I2.out
      have hv:=mixAt_val2 s q i (by omega)
      rw [← HX.out] at hv
      have eI:(8 * (q:Int) + (i:Int)).toNat = 8 * q + i:=by omega
      have I4:=Lib.hid (set_toArray (v:=mixAt s (8 * q + i)) (j:=8 * q + i) I2.out)
      have I5:=Lib.hid (hsc (a:=⟨G,8 * q + i,none⟩) (v:=B8 (mixAt s (8 * q + i))) I1.out (by have:=HG.out;simp;omega))
      have I6:Hid (∀ B,B≤g→Below B w (wr.setCell ⟨G,8 * q + i,none⟩ (B8 (mixAt s (8 * q + i))))):=fun B hB=>(I3.out B hB).setCell (by have:=HG.out;simp;omega) _
      clear I1 I2 I3
      go_wp2
      go_roundw
      case rel =>
       refine ⟨i + 1,by go_num,by omega,I5.out,?_,I6.out⟩
       rw [prog_succ _ _ (8 * q + i) n (mixRow_len s n) (by simp) hj (mixAt s (8 * q + i)) (by simp [mixRow,hj])] at I4
       rw [← Nat.add_assoc]
       exact I4.out
      case measure=>simp [intOf];omega
     ·have hiM:i = 8:=by omega
      subst hiM
      clear hl hi
      go_wp2
      go_roundw
      case rel =>
       exact ⟨q + 1,by go_num,by omega,I1.out,by rw [show min (8 * (q + 1)) n = 8 * q + 8 by have:=HM.out;omega];exact I2.out,I3.out⟩
      case measure=>simp [intOf];omega
  ·go_wp2
   go_ret2
   refine ⟨G,rfl,HS.out,?_,R3.out⟩
   have:=R2.out
   rw [show min (8 * q) n = n by omega,prog_full _ _ n (mixRow_len s n) (by simp)] at this
   exact this
end Go.Proofs.YtccaiiigdfieoaaGreatDoor
namespace Go.By
open Go.RowKit
def get8 (xs:List UInt8):Nat:=xs.foldl (fun a b=>a * 256 + b.toNat) 0
theorem get8_take {xs:List UInt8} {k:Nat} {x:UInt8} (h:xs[k]? = some x):get8 (xs.take (k + 1)) = get8 (xs.take k) * 256 + x.toNat:=by
 obtain ⟨hk,h⟩:=List.getElem?_eq_some_iff.1 h
 unfold get8
 rw [foldl_take_succ _ _ _ _ hk,h]
theorem get8_lt (xs:List UInt8) (k:Nat):get8 (xs.take k) < 256 ^ k:=by
 induction k with
 | zero=>simp [get8]
 | succ k ih =>
  rcases Nat.lt_or_ge k xs.length with h | h
  ·have e:=get8_take (List.getElem?_eq_getElem h)
   have:=xs[k].toNat_lt
   rw [e,Nat.pow_succ];omega
  ·rw [List.take_of_length_le (by omega)]
   rw [List.take_of_length_le (by omega)] at ih
   rw [Nat.pow_succ];omega
theorem bits_or64 {a b:Nat} (ha:a < 2 ^ 64) (hb:b < 2 ^ 64):bits .or .u64 (a:Int) (b:Int) = ((a ||| b:Nat):Int) :=
 (bits_nat .u64 64 (by decide) (fun n h1 h2=>by rw [IntKind.wrap_u64];omega) a b ha hb).2
end Go.By
namespace Go.Proofs.YtccaiiigdfieoaaGreatDoor
open Go.RowKit Go.By
set_option maxRecDepth 100000 in
set_option maxHeartbeats 1000000 in
theorem MRow_anyF (s n:Nat) (hn:n≤65536) (w:World) :
  Calls Tryz.prog 161 #[.int .u64 (s:Nat),.int .i64 (n:Nat)] w (SRetF 5 w (mixRow s n) 0):=by
 have HN:=Lib.hid hn
 have Hk:∀ w:World,Calls Tryz.prog 209 #[.int .u64 (s:Nat)] w fun e w'=>e = .returned (.pointer (some ⟨w.heap.size,0,none⟩))∧w' = w.alloc (.cells #[.int .u64 (s:Nat)] 308 (0,0)):=by
  intro w
  go_enter Tryz.func209,Tryz.ntmps209
  go_wp2
  go_ret
  exact ⟨rfl,rfl⟩
 have HK:=Lib.hid Hk
 clear Hk hn
 go_enter Tryz.func161,Tryz.ntmps161
 go_wp2_with fail
 refine Calls.mono (HK.out w) ?_
 rintro e w1 ⟨rfl,rfl⟩
 go_wp2_with fail
 refine Calls.mono (MBytes_any w.heap.size s n _ (hnew rfl) HN.out) ?_
 rintro e w2 ⟨G,rfl,hG,h2,hb⟩
 have HB:=Lib.hid ((al (Below.refl w.heap.size w) (Nat.le_refl _)).trans (hb _ (Nat.le_refl _)))
 have H2:=Lib.hid h2
 have HG:Hid (w.heap.size≤G):=by have:=hG;show _≤_;simp at this;omega
 clear hb hG h2
 go_wp2
 go_ret2
 exact ⟨_,_,_,rfl,Fresh.block H2.out (mixRow_len s n) (by have:=HN.out;unfold maxLen;omega) HG.out,HB.out⟩
theorem get8_or {a x:Nat} (ha:a < 72057594037927936) (hx:x < 256):bits .or .u64 (((a * 256:Nat):Int)) (x:Int) = ((a * 256 + x:Nat):Int):=by
 rw [bits_or64 (by omega) (by omega),or_add (k:=8) (by omega) (by omega)]
set_option maxRecDepth 100000 in
set_option maxHeartbeats 2000000 in
theorem MSeed_any (p:Option Addr) (n c:Nat) (xs:List UInt8) (w:World) (h:Sl B8 w p n c xs) (hn:n = 8) :
  Calls Tryz.prog 218 #[.slice p n c] w fun e w'=>e = .returned (.tuple #[.int .u64 (get8 xs:Nat),.int .i64 0])∧Below w.heap.size w w':=by
 subst hn
 have HL:Hid (get8 (xs.take 8) = get8 xs):=by rw [List.take_of_length_le (by rw [h.len];omega)];rfl
 obtain ⟨T,hT⟩:∃ T:Nat→Nat,T = fun k=>get8 (xs.take k):=⟨_,rfl⟩
 have HT1:Hid (∀ k x,xs[k]? = some x→T (k + 1) = T k * 256 + x.toNat):=fun k x hx=>by rw [hT];exact get8_take hx
 have HT2:Hid (∀ k,k < 8→T k < 72057594037927936):=fun k hk=>by rw [hT];exact Nat.lt_of_lt_of_le (get8_lt xs k) (Nat.le_trans (Nat.pow_le_pow_right (by decide) (show k≤7 by omega)) (by decide))
 have HT0:Hid (T 0 = 0):=by rw [hT];rfl
 have HT8:Hid (T 8 = get8 xs):=by rw [hT];exact HL.out
 have H:=Lib.hid h
 clear hT h HL
 generalize get8 xs = V at *
 go_enter Tryz.func218,Tryz.ntmps218
 go_wp2
 go_loop [4,12] (fun v i=>∃ k:Nat,k≤8∧i = .int .i64 (k:Nat)∧v = .int .u64 (T k:Nat)) (fun _ i=>8 - (intOf i).toNat)
 case atStart=>exact ⟨0,by omega,rfl,by rw [HT0.out];rfl⟩
 case round =>
  obtain ⟨k,hk,rfl,rfl⟩:=hrel
  by_cases hl:k < 8
  ·obtain ⟨b,o,x,rfl,hc,hx⟩:=H.out.at k hl
   have t2:=HT2.out k hl
   have hx8:=x.toNat_lt
   have e1:IntKind.u64.wrap ((T k:Int) * 256) = ((T k * 256:Nat):Int):=by rw [IntKind.wrap_u64];omega
   have e3:IntKind.u64.wrap (x.toNat:Int) = (x.toNat:Int):=by rw [IntKind.wrap_u64];omega
   have e2:=get8_or t2 hx8
   rw [← HT1.out k x hx.out] at e2
   clear t2 hx hx8
   rw [Int.natCast_mul] at e2
   have HE:=Lib.hid e2
   clear e2
   go_wp2
   go_round
   case rel=>exact ⟨k + 1,by omega,by go_num,congrArg _ HE.out⟩
   case measure=>simp [intOf];omega
  ·have hk8:k = 8:=by omega
   subst hk8
   rw [HT8.out]
   clear hl hk
   go_wp2
   go_ret2
   exact ⟨rfl,Below.refl _ _⟩
end Go.Proofs.YtccaiiigdfieoaaGreatDoor
namespace Go.Proofs.YtccaiiigdfieoaaGreatDoor
open Go.RowKit Go.By
def needS (l s:Int):Int:=if l = 0 then 1 else (l - 1) / s + 1
def fitS (l s:Int):Int:=if l < 0 then 2 else if s < 1∨65535 < s then 4 else if 4096 < needS l s then 5 else 0
def checkS (l s n:Int):Int:=if fitS l s = 0 then (if n = needS l s then 0 else 14) else fitS l s
def ofS (l s:Int) (d:Int):Value:=if fitS l s = 0 then .tuple #[.agg #[.int .i64 l,.int .i64 s,.int .i64 (needS l s),.int .u32 d],.int .i64 0] else .tuple #[.agg #[.int .i64 0,.int .i64 0,.int .i64 0,.int .u32 0],.int .i64 (fitS l s)]
theorem needS_pos {l s:Int} (hl:0≤l) (hs:1≤s):1≤needS l s∧(l≠0→needS l s≤l):=by
 unfold needS
 split
 ·omega
 ·rename_i h0
  have h1:0≤(l - 1) / s:=Int.ediv_nonneg (by omega) (by omega)
  have h2:(l - 1) / s≤l - 1:=Int.ediv_le_self _ (by omega)
  omega
theorem needS_spec {l s:Int} (hl:0 < l) (hs:1≤s):(needS l s - 1) * s < l∧l≤needS l s * s:=by
 unfold needS
 rw [if_neg (by omega)]
 have h:=Int.emod_add_mul_ediv (l - 1) s
 have h1:=Int.emod_nonneg (l - 1) (show s≠0 by omega)
 have h2:=Int.emod_lt_of_pos (l - 1) (show 0 < s by omega)
 generalize (l - 1) / s = q at *
 have e1:(q + 1 - 1) * s = s * q:=by rw [Int.mul_comm];congr 1;omega
 have e2:(q + 1) * s = s * q + s:=by rw [Int.add_mul,Int.mul_comm];omega
 omega
theorem needS_of {l s k:Int} (hl:0 < l) (hs:1≤s) (h1:(k - 1) * s < l) (h2:l≤k * s):needS l s = k:=by
 obtain ⟨g1,g2⟩:=needS_spec hl hs
 generalize needS l s = n at *
 have a1:¬ n < k:=fun h=>by
  have:n * s≤(k - 1) * s:=Int.mul_le_mul_of_nonneg_right (by omega) (by omega)
  omega
 have a2:¬ k < n:=fun h=>by
  have:k * s≤(n - 1) * s:=Int.mul_le_mul_of_nonneg_right (by omega) (by omega)
  omega
 omega
set_option maxHeartbeats 400000 in
theorem needed_any (l s:Int) (w:World) (hl:0≤l) (hl2:l≤9223372036854775807) (hs:1≤s) :
  Calls Tryz.prog 95 #[.int .i64 l,.int .i64 s] w fun e w'=>e = .returned (.int .i64 (needS l s))∧w = w':=by
 by_cases h0:l = 0
 ·subst h0
  go_enter Tryz.func95,Tryz.ntmps95
  go_wp2
  go_ret
  exact ⟨rfl,rfl⟩
 ·have hz:(l == 0) = false:=by simpa using h0
  have hs0:(s == 0) = false:=by simp;omega
  obtain ⟨hn,hn'⟩:=needS_pos hl hs
  have hn2:=hn' h0
  clear hn'
  have e0:needS l s = (l - 1) / s + 1:=if_neg h0
  have hw:wrap64 ((l - 1) / s + 1) = needS l s:=by
   rw [← e0];unfold wrap64
   generalize needS l s = y at *
   clear e0
   omega
  clear e0
  go_enter Tryz.func95,Tryz.ntmps95
  go_wp2
  go_ret
  exact ⟨by rw [hw];rfl,rfl⟩
set_option maxHeartbeats 400000 in
theorem fits_any (l s:Int) (w:World) (hl2:l≤9223372036854775807) :
  Calls Tryz.prog 94 #[.int .i64 l,.int .i64 s] w fun e w'=>e = .returned (.int .i64 (fitS l s))∧w = w':=by
 by_cases h0:l < 0
 ·have HR:Hid (fitS l s = 2):=if_pos h0
  go_enter Tryz.func94,Tryz.ntmps94
  go_wp2
  go_ret
  exact ⟨by rw [HR.out];rfl,rfl⟩
 ·by_cases h1:s < 1
  ·have HR:Hid (fitS l s = 4):=by unfold fitS;rw [Hid,if_neg h0,if_pos (Or.inl h1)]
   go_enter Tryz.func94,Tryz.ntmps94
   go_wp2
   go_ret
   exact ⟨by rw [HR.out];rfl,rfl⟩
  ·by_cases h2:65535 < s
   ·have HR:Hid (fitS l s = 4):=by unfold fitS;rw [Hid,if_neg h0,if_pos (Or.inr h2)]
    go_enter Tryz.func94,Tryz.ntmps94
    go_wp2
    go_ret
    exact ⟨by rw [HR.out];rfl,rfl⟩
   ·have HN:=Lib.hid (fun w=>needed_any l s w (by omega) hl2 (by omega))
    by_cases h3:4096 < needS l s
    ·have HR:Hid (fitS l s = 5):=by unfold fitS;rw [Hid,if_neg h0,if_neg (by omega),if_pos h3]
     go_enter Tryz.func94,Tryz.ntmps94
     go_wp2_with fail
     refine (HN.out _).mono ?_;rintro e w' ⟨rfl,rfl⟩
     go_wp2
     go_ret
     exact ⟨by rw [HR.out];rfl,rfl⟩
    ·have HR:Hid (fitS l s = 0):=by unfold fitS;rw [Hid,if_neg h0,if_neg (by omega),if_neg h3]
     go_enter Tryz.func94,Tryz.ntmps94
     go_wp2_with fail
     refine (HN.out _).mono ?_;rintro e w' ⟨rfl,rfl⟩
     go_wp2
     go_ret
     exact ⟨by rw [HR.out];rfl,rfl⟩
theorem fitS_cases (l s:Int):(fitS l s≠0∧(fitS l s = 2∨fitS l s = 4∨fitS l s = 5))∨(fitS l s = 0∧0≤l∧1≤s∧s≤65535∧needS l s≤4096):=by
 unfold fitS
 split
 ·simp
 ·split
  ·simp
  ·split
   ·simp
   ·right;omega
theorem cell4 (w:World) (a b c d:Value) (T:TypeId):∀ i:Nat,(w.alloc (.cells #[a,b,c,d] T)).cell? ⟨w.heap.size,i,none⟩ = #[a,b,c,d][i]?:=fun i=>cell_of_row _ _ _ _ _ _ (hnew rfl)
set_option maxRecDepth 100000 in
set_option maxHeartbeats 1000000 in
theorem Check_any (l s n d:Int) (w:World) (hl2:l≤9223372036854775807) :
  Calls Tryz.prog 79 #[.agg #[.int .i64 l,.int .i64 s,.int .i64 n,.int .u32 d]] w fun e w'=>e = .returned (.int .i64 (checkS l s n))∧Below w.heap.size w w':=by
 have HF:=Lib.hid (fun w=>fits_any l s w hl2)
 rcases fitS_cases l s with ⟨h0,h1⟩ | ⟨h0,h1,h2,h3,h4⟩
 ·have HR:Hid (checkS l s n = fitS l s):=if_neg h0
  have hb:(fitS l s != 0) = true:=by simpa using h0
  clear h1
  generalize fitS l s = f at *
  clear h0
  go_enter Tryz.func79,Tryz.ntmps79
  go_wp2_with fail
  refine (HF.out _).mono ?_;rintro e w' ⟨rfl,rfl⟩
  go_wp2
  go_ret
  exact ⟨by rw [HR.out];rfl,al (Below.refl _ _) (Nat.le_refl _)⟩
 ·rw [h0] at HF
  have HN:=Lib.hid (fun w=>needed_any l s w h1 hl2 h2)
  have HR:Hid (checkS l s n = if n = needS l s then 0 else 14):=by unfold checkS;rw [Hid,if_pos h0]
  generalize needS l s = k at *
  by_cases e:n = k
  ·subst e
   have hb:(n != n) = false:=by simp
   rw [if_pos rfl] at HR
   clear h0 h1 h2 h3 h4
   go_enter Tryz.func79,Tryz.ntmps79
   go_wp2_with fail
   refine (HF.out _).mono ?_;rintro e w' ⟨rfl,rfl⟩
   go_wp2
   have C0:=cell4 w (.int .i64 l) (.int .i64 s) (.int .i64 n) (.int .u32 d) 27 0
   have C1:=cell4 w (.int .i64 l) (.int .i64 s) (.int .i64 n) (.int .u32 d) 27 1
   have C2:=cell4 w (.int .i64 l) (.int .i64 s) (.int .i64 n) (.int .u32 d) 27 2
   go_quiet ((go_at_call 95;exact Calls.quiet_of_same ((HN.out _).mono fun e w' hh=>⟨hh.1,hh.2.symm⟩)))
   go_wp2
   go_ret
   exact ⟨by rw [HR.out];rfl,bdn (al (Below.refl _ _) (Nat.le_refl _))⟩
  ·have hb:(n != k) = true:=by simpa using e
   rw [if_neg e] at HR
   clear h0 h1 h2 h3 h4 e
   go_enter Tryz.func79,Tryz.ntmps79
   go_wp2_with fail
   refine (HF.out _).mono ?_;rintro e w' ⟨rfl,rfl⟩
   go_wp2
   have C0:=cell4 w (.int .i64 l) (.int .i64 s) (.int .i64 n) (.int .u32 d) 27 0
   have C1:=cell4 w (.int .i64 l) (.int .i64 s) (.int .i64 n) (.int .u32 d) 27 1
   have C2:=cell4 w (.int .i64 l) (.int .i64 s) (.int .i64 n) (.int .u32 d) 27 2
   go_quiet ((go_at_call 95;exact Calls.quiet_of_same ((HN.out _).mono fun e w' hh=>⟨hh.1,hh.2.symm⟩)))
   go_wp2
   go_ret
   exact ⟨by rw [HR.out];rfl,bdn (al (Below.refl _ _) (Nat.le_refl _))⟩
theorem results_ct {P:Program} {fn:Func} {p u:Tmp} {ty:TypeId} (h:fn.results = #[.cell p ty,.tmp u]) (tmps:Array Value) (w:World) (g:Nat) (t:TypeId) (cs:Array Value) (fr:Nat × Nat) (d:TypeDesc) (v:Value)
  (hp:tmps.getD p undef = .pointer (some ⟨g,0,none⟩)) (hg:w.heap[g]? = some (.cells cs t fr)) (hv:tmps.getD u undef = v)
  (hu:P.underlying ty = some d) (hd:(match d with | .struct _ | .array _ _=>true | _=>false) = true) (hi:(P.info? ty).map (·.size) = some cs.size) :
  (results fn tmps).run P w = .ok (.tuple #[.agg cs,v]) w:=by
 have hp':tmps[p]?.getD undef = .pointer (some ⟨g,0,none⟩):=by simpa using hp
 have hv':tmps[u]?.getD undef = v:=by simpa using hv
 simp [results,h,hp',hv',asAddr,run_loadVar_row w g t ty cs fr d hg hu hd hi]
theorem info_plan:(Tryz.prog.info? 27).map (·.size) = some 4:=by kernel_rfl
set_option maxRecDepth 100000 in
set_option maxHeartbeats 1000000 in
theorem POf_any (l s d:Int) (w:World) (hl2:l≤9223372036854775807) :
  Calls Tryz.prog 44 #[.int .i64 l,.int .i64 s,.int .u32 d] w fun e w'=>e = .returned (ofS l s d)∧Below w.heap.size w w':=by
 have HF:=Lib.hid (fun w=>fits_any l s w hl2)
 rcases fitS_cases l s with ⟨h0,h1⟩ | ⟨h0,h1,h2,h3,h4⟩
 ·have HR:Hid (ofS l s d = .tuple #[.agg #[.int .i64 0,.int .i64 0,.int .i64 0,.int .u32 0],.int .i64 (fitS l s)]):=if_neg h0
  have hb:(fitS l s != 0) = true:=by simpa using h0
  clear h1
  generalize fitS l s = f at *
  clear h0
  have hi:=info_plan
  go_enter Tryz.func44,Tryz.ntmps44
  go_wp2_with fail
  refine (HF.out _).mono ?_;rintro e w' ⟨rfl,rfl⟩
  go_wp2
  refine bodyPost_ret (results_ct rfl _ _ _ 27 #[.int .i64 0,.int .i64 0,.int .i64 0,.int .u32 0] (0,0) _ (.int .i64 f) rfl (hnew rfl) rfl Tryz.underlying27 rfl hi) rfl ⟨by rw [HR.out],al (Below.refl _ _) (Nat.le_refl _)⟩
 ·rw [h0] at HF
  have HN:=Lib.hid (fun w=>needed_any l s w h1 hl2 h2)
  have HR:Hid (ofS l s d = .tuple #[.agg #[.int .i64 l,.int .i64 s,.int .i64 (needS l s),.int .u32 d],.int .i64 0]):=if_pos h0
  generalize needS l s = k at *
  clear h0 h1 h2 h3 h4
  have hi:=info_plan
  go_enter Tryz.func44,Tryz.ntmps44
  go_wp2_with fail
  refine (HF.out _).mono ?_;rintro e w' ⟨rfl,rfl⟩
  go_wp2_with fail
  refine (HN.out _).mono ?_;rintro e w' ⟨rfl,rfl⟩
  go_wp2
  refine bodyPost_ret (results_ct rfl _ _ _ 27 #[.int .i64 l,.int .i64 s,.int .i64 k,.int .u32 d] (0,0) _ (.int .i64 0) rfl (hnew rfl) rfl Tryz.underlying27 rfl hi) rfl ⟨by rw [HR.out],al (Below.refl _ _) (Nat.le_refl _)⟩
end Go.Proofs.YtccaiiigdfieoaaGreatDoor
namespace Go.Proofs.YtccaiiigdfieoaaGreatDoor
end Go.Proofs.YtccaiiigdfieoaaGreatDoor
namespace Go.Proofs.YtccaiiigdfieoaaGreatDoor
open Go.RowKit Go.By
abbrev HVal (m:UInt8) (o n:Nat):Value:=.agg #[B8 m,.int .u32 (o:Nat),.int .u32 (n:Nat)]
def modeC (m:UInt8):Int:=if m = 0∨m = 1 then 0 else 8
theorem modeC_range (m:UInt8):modeC m = 0∨modeC m = 8:=by unfold modeC;split <;> simp
set_option maxHeartbeats 1000000 in
theorem HCheck_any (m:UInt8) (o n:Nat) (w:World) :
  Calls Tryz.prog 177 #[HVal m o n] w fun e w'=>e = .returned (.int .i64 (modeC m))∧Below w.heap.size w w':=by
 by_cases h0:m = 0
 ·subst h0
  go_enter Tryz.func177,Tryz.ntmps177
  go_wp2
  go_ret
  exact ⟨rfl,al (Below.refl _ _) (Nat.le_refl _)⟩
 by_cases h1:m = 1
 ·subst h1
  go_enter Tryz.func177,Tryz.ntmps177
  go_wp2
  go_ret
  exact ⟨rfl,al (Below.refl _ _) (Nat.le_refl _)⟩
 ·have e0:((m.toNat:Int) != 0) = true:=bne_iff_ne.2 fun e=>h0 (UInt8.toNat_inj.1 (by show m.toNat = 0;omega))
  have e1:((m.toNat:Int) != 1) = true:=bne_iff_ne.2 fun e=>h1 (UInt8.toNat_inj.1 (by show m.toNat = 1;omega))
  have hC:modeC m = 8:=by unfold modeC;rw [if_neg (by simp [h0,h1])]
  rw [hC]
  clear hC
  go_enter Tryz.func177,Tryz.ntmps177
  go_wp2
  go_ret
  exact ⟨rfl,al (Below.refl _ _) (Nat.le_refl _)⟩
end Go.Proofs.YtccaiiigdfieoaaGreatDoor
namespace Go.Proofs.YtccaiiigdfieoaaGreatDoor
open Go.RowKit Go.By
abbrev SVal (m:UInt8) (p:Option Addr) (n c s:Nat):Value:=.agg #[B8 m,.slice p n c,.int .u64 (s:Nat)]
def widS (m:UInt8) (k:Nat):Nat:=if m = 0 then k else if m = 1 then 8 else 0
def srcC (m:UInt8) (n k:Nat):Int:=if m = 0 then (if n = k then 0 else 4) else modeC m
def vecS (m:UInt8) (xs:List UInt8) (s k:Nat):List UInt8:=if m = 0 then xs else mixRow s k
theorem mode_ne {m:UInt8} (h0:m≠0):((m.toNat:Int) != 0) = true:=bne_iff_ne.2 fun e=>h0 (UInt8.toNat_inj.1 (by show m.toNat = 0;omega))
theorem mode_ne1 {m:UInt8} (h0:m≠1):((m.toNat:Int) != 1) = true:=bne_iff_ne.2 fun e=>h0 (UInt8.toNat_inj.1 (by show m.toNat = 1;omega))
theorem mode_eq {m:UInt8} (h0:m≠0):((m.toNat:Int) == 0) = false:=beq_eq_false_iff_ne.2 fun e=>h0 (UInt8.toNat_inj.1 (by show m.toNat = 0;omega))
set_option maxHeartbeats 1000000 in
theorem RWidth_any (m:UInt8) (k:Nat) (h1:1≤k) (h2:k≤4096) (w:World) :
  Calls Tryz.prog 208 #[B8 m,.int .i64 (k:Nat)] w fun e w'=>e = .returned (.tuple #[.int .i64 (widS m k:Nat),.int .i64 (modeC m)])∧Below w.heap.size w w':=by
 unfold widS
 by_cases h0:m = 0
 ·subst h0
  rw [if_pos rfl,show modeC 0 = 0 from rfl]
  go_enter Tryz.func208,Tryz.ntmps208
  go_wp2
  go_ret2
  exact ⟨rfl,Below.refl _ _⟩
 by_cases h1':m = 1
 ·subst h1'
  rw [if_neg (by decide),if_pos rfl,show modeC 1 = 0 from rfl]
  go_enter Tryz.func208,Tryz.ntmps208
  go_wp2
  go_ret2
  exact ⟨rfl,Below.refl _ _⟩
 ·rw [if_neg h0,if_neg h1']
  have e0:=mode_ne h0
  have e1:=mode_ne1 h1'
  have hC:modeC m = 8:=by unfold modeC;rw [if_neg (by simp [h0,h1'])]
  rw [hC]
  clear hC h0 h1'
  go_enter Tryz.func208,Tryz.ntmps208
  go_wp2
  go_ret2
  exact ⟨rfl,Below.refl _ _⟩
set_option maxHeartbeats 1000000 in
theorem SFits_any (m:UInt8) (p:Option Addr) (n c s k:Nat) (h1:1≤k) (h2:k≤4096) (w:World) :
  Calls Tryz.prog 160 #[SVal m p n c s,.int .i64 (k:Nat)] w fun e w'=>e = .returned (.int .i64 (srcC m n k))∧Below w.heap.size w w':=by
 have HW:Hid (∀ w,Calls Tryz.prog 208 #[B8 m,.int .i64 (k:Nat)] w fun e w'=>e = .returned (.tuple #[.int .i64 (widS m k:Nat),.int .i64 (modeC m)])∧Below w.heap.size w w'):=fun w=>RWidth_any m k h1 h2 w
 clear h1 h2
 generalize hV:widS m k = V at HW
 clear hV
 by_cases h0:m = 0
 ·subst h0
  rw [show modeC 0 = 0 from rfl] at HW
  by_cases hk:n = k
  ·have hC:srcC 0 n k = 0:=by unfold srcC;rw [if_pos rfl,if_pos hk]
   rw [hC]
   subst hk
   clear hC
   go_enter Tryz.func160,Tryz.ntmps160
   go_wp2_with fail
   refine Calls.mono (HW.out _) ?_
   rintro e w1 ⟨rfl,hb⟩
   obtain ⟨hb1,h1,_⟩:=one_of hb
   have HB:=Lib.hid hb1
   obtain ⟨c0,c1,c2⟩:=cells_three h1
   clear hb hb1
   go_wp2
   go_ret
   exact ⟨rfl,HB.out⟩
  ·have hC:srcC 0 n k = 4:=by unfold srcC;rw [if_pos rfl,if_neg hk]
   rw [hC]
   have e0:((n:Int) != (k:Int)) = true:=bne_iff_ne.2 (by omega)
   clear hC hk
   go_enter Tryz.func160,Tryz.ntmps160
   go_wp2_with fail
   refine Calls.mono (HW.out _) ?_
   rintro e w1 ⟨rfl,hb⟩
   obtain ⟨hb1,h1,_⟩:=one_of hb
   have HB:=Lib.hid hb1
   obtain ⟨c0,c1,c2⟩:=cells_three h1
   clear hb hb1
   go_wp2
   go_ret
   exact ⟨rfl,HB.out⟩
 ·have hC:srcC m n k = modeC m:=by unfold srcC;rw [if_neg h0]
  rw [hC]
  clear hC
  have e0:=mode_eq h0
  clear h0
  rcases modeC_range m with hm | hm
  ·rw [hm] at HW ⊢
   clear hm
   go_enter Tryz.func160,Tryz.ntmps160
   go_wp2_with fail
   refine Calls.mono (HW.out _) ?_
   rintro e w1 ⟨rfl,hb⟩
   obtain ⟨hb1,h1,_⟩:=one_of hb
   have HB:=Lib.hid hb1
   obtain ⟨c0,c1,c2⟩:=cells_three h1
   clear hb hb1
   go_wp2
   go_ret
   exact ⟨rfl,HB.out⟩
  ·rw [hm] at HW ⊢
   clear hm
   go_enter Tryz.func160,Tryz.ntmps160
   go_wp2_with fail
   refine Calls.mono (HW.out _) ?_
   rintro e w1 ⟨rfl,hb⟩
   obtain ⟨hb1,h1,_⟩:=one_of hb
   have HB:=Lib.hid hb1
   clear hb hb1
   go_wp2
   go_ret
   exact ⟨rfl,HB.out⟩
set_option maxRecDepth 100000 in
set_option maxHeartbeats 1000000 in
theorem SVector_anyF (m:UInt8) (p:Option Addr) (n c s k:Nat) (xs:List UInt8) (h1:1≤k) (h2:k≤4096) (w:World) (h:Sl B8 w p n c xs) (hr:Room n) :
  Calls Tryz.prog 97 #[SVal m p n c s,.int .i64 (k:Nat)] w (SRetF 5 w (if srcC m n k = 0 then vecS m xs s k else []) (srcC m n k)):=by
 have HW:Hid (∀ w,Calls Tryz.prog 160 #[SVal m p n c s,.int .i64 (k:Nat)] w fun e w'=>e = .returned (.int .i64 (srcC m n k))∧Below w.heap.size w w'):=fun w=>SFits_any m p n c s k h1 h2 w
 have HK:Hid (k≤65536):=by show k≤65536;omega
 have H:=Lib.hid h
 have HR:=Lib.hid hr
 clear h1 h2 h hr
 by_cases hc:srcC m n k = 0
 ·rw [hc] at HW ⊢
  rw [if_pos rfl]
  clear hc
  by_cases h0:m = 0
  ·subst h0
   unfold vecS
   rw [if_pos rfl]
   go_enter Tryz.func97,Tryz.ntmps97
   go_wp2_with fail
   refine Calls.mono (HW.out _) ?_
   rintro e w1 ⟨rfl,hb⟩
   obtain ⟨hb1,h1,_⟩:=one_of hb
   have HB:=Lib.hid hb1
   obtain ⟨c0,c1,c2⟩:=cells_three h1
   clear hb hb1
   go_wp2_with fail
   refine Calls.mono (CloneB_any _ _ _ _ _ (H.out.keep HB.out) HR.out) ?_
   rintro e w2 ⟨q,c',rfl,ho,hb⟩
   have HB2:=Lib.hid (bl HB.out hb HB.out.size)
   have HO:=Lib.hid ho
   clear hb ho
   go_wp2
   go_ret2
   exact ⟨_,_,_,rfl,(Fresh.of_owns HO.out).mono HB.out.size,HB2.out⟩
  ·unfold vecS
   rw [if_neg h0]
   have e0:=mode_eq h0
   clear h0
   go_enter Tryz.func97,Tryz.ntmps97
   go_wp2_with fail
   refine Calls.mono (HW.out _) ?_
   rintro e w1 ⟨rfl,hb⟩
   obtain ⟨hb1,h1,_⟩:=one_of hb
   have HB:=Lib.hid hb1
   obtain ⟨c0,c1,c2⟩:=cells_three h1
   clear hb hb1
   go_wp2_with fail
   refine Calls.mono (MRow_anyF s k HK.out _) ?_
   rintro e w2 ⟨q,n',c',rfl,ho,hb⟩
   have HB2:=Lib.hid (bl HB.out hb HB.out.size)
   have HO:=Lib.hid ho
   clear hb ho
   go_wp2
   go_ret2
   exact ⟨_,_,_,rfl,HO.out.mono HB.out.size,HB2.out⟩
 ·rw [if_neg hc]
  have e0:(srcC m n k != 0) = true:=bne_iff_ne.2 hc
  generalize srcC m n k = C at *
  clear hc
  go_enter Tryz.func97,Tryz.ntmps97
  go_wp2_with fail
  refine Calls.mono (HW.out _) ?_
  rintro e w1 ⟨rfl,hb⟩
  obtain ⟨hb1,h1,_⟩:=one_of hb
  have HB:=Lib.hid hb1
  clear hb hb1
  go_wp2
  go_ret2
  exact SRetF.nil _ _ _ _ HB.out
theorem SVector_any (m:UInt8) (p:Option Addr) (n c s k:Nat) (xs:List UInt8) (h1:1≤k) (h2:k≤4096) (w:World) (h:Sl B8 w p n c xs) (hr:Room n) :
  Calls Tryz.prog 97 #[SVal m p n c s,.int .i64 (k:Nat)] w (SRet w (if srcC m n k = 0 then vecS m xs s k else []) (srcC m n k)):=Calls.mono (SVector_anyF m p n c s k xs h1 h2 w h hr) fun _ _ h=>h.ret
end Go.Proofs.YtccaiiigdfieoaaGreatDoor
namespace Go.Proofs.YtccaiiigdfieoaaGreatDoor
open Go.RowKit Go.By
theorem src_ne:83≠5:=by decide
theorem info_source:(Tryz.prog.info? 83).map (·.size) = some 3:=by kernel_rfl
set_option maxRecDepth 100000 in
set_option maxHeartbeats 1000000 in
theorem RExplicit_any (p:Option Addr) (n c:Nat) (xs:List UInt8) (w:World) (h:Sl B8 w p n c xs) (hr:Room n) :
  Calls Tryz.prog 81 #[.slice p n c] w fun e w'=>∃ q c',e = .returned (SVal 0 q n c' 0)∧Fresh 5 w.heap.size w' q n c' xs∧Below w.heap.size w w':=by
 have H:=Lib.hid h
 have HR:=Lib.hid hr
 clear h hr
 go_enter Tryz.func81,Tryz.ntmps81
 go_wp2_with fail
 refine Calls.mono (CloneB_any _ _ _ _ _ (H.out.keep (al (Below.refl _ _) (Nat.le_refl _))) HR.out) ?_
 rintro e w2 ⟨q,c',rfl,ho,hb⟩
 obtain ⟨hb1,h1,_⟩:=one_of hb
 have HB:=Lib.hid hb1
 have HO:=Lib.hid ho
 clear hb hb1 ho
 go_wp2_with (refine wpList_store_row (o:=⟨none,.store 83 (.tmp 2) (.tmp 5),_,_,_,_⟩) rfl 83 (.tmp 2) (.tmp 5) rfl w.heap.size #[.int .u8 0,.slice q n c',.int .u64 0] rfl rfl _ _ h1 info_source rfl (by simp [Value.oneCell']) ?_)
 refine bodyPost_ret (results_cell_row rfl _ _ _ 83 #[.int .u8 0,.slice q n c',.int .u64 0] (0,0) _ rfl (hrs h1) Tryz.underlying83 rfl info_source) rfl ?_
 exact ⟨q,c',rfl,((Fresh.of_owns HO.out).mono (by simp)).row h1 src_ne,below_row HB.out (Nat.le_refl _)⟩
set_option maxRecDepth 100000 in
set_option maxHeartbeats 1000000 in
theorem RSeeded_any (s:Nat) (w:World) :
  Calls Tryz.prog 219 #[.int .u64 (s:Nat)] w fun e w'=>e = .returned (SVal 1 none 0 0 s)∧Below w.heap.size w w':=by
 go_enter Tryz.func219,Tryz.ntmps219
 go_wp2
 refine bodyPost_ret (results_cell_row rfl _ _ _ 83 #[.int .u8 1,.slice none 0 0,.int .u64 (s:Nat)] (0,0) _ rfl ?_ Tryz.underlying83 rfl info_source) rfl ?_
 ·exact hnew rfl
 ·exact ⟨rfl,al (Below.refl _ _) (Nat.le_refl _)⟩
def rdX (m:UInt8) (xs:List UInt8):List UInt8:=if m = 0 then xs else []
def rdS (m:UInt8) (xs:List UInt8):Nat:=if m = 0 then 0 else get8 xs
set_option maxRecDepth 100000 in
set_option maxHeartbeats 1000000 in
theorem RRead_any (m:UInt8) (k:Nat) (p:Option Addr) (n c:Nat) (xs:List UInt8) (w:World) (hm:modeC m = 0) (h1:1≤k) (h2:k≤4096) (h:Sl B8 w p n c xs) (hn:n = widS m k) :
  Calls Tryz.prog 175 #[B8 m,.int .i64 (k:Nat),.slice p n c] w fun e w'=>∃ q n' c',e = .returned (.tuple #[SVal m q n' c' (rdS m xs),.int .i64 0])∧Fresh 5 w.heap.size w' q n' c' (rdX m xs)∧Below w.heap.size w w':=by
 have HW:Hid (∀ w,Calls Tryz.prog 208 #[B8 m,.int .i64 (k:Nat)] w fun e w'=>e = .returned (.tuple #[.int .i64 (widS m k:Nat),.int .i64 0])∧Below w.heap.size w w'):=fun w=>by have:=RWidth_any m k h1 h2 w;rw [hm] at this;exact this
 have HR:Hid (Room n):=by show n≤140737488355328;rw [hn];unfold widS;split <;> (try split) <;> omega
 have H:=Lib.hid h
 have hm01:m = 0∨m = 1:=by
  unfold modeC at hm
  split at hm
  ·assumption
  ·cases hm
 have hnm:=h.bound
 have hn8:m = 1→n = 8:=fun e=>by rw [hn,e];rfl
 rw [← hn] at HW
 clear h1 h2 h hn hm
 rcases hm01 with rfl | rfl
 ·clear hn8
  unfold rdX rdS
  rw [if_pos rfl,if_pos rfl]
  go_enter Tryz.func175,Tryz.ntmps175
  go_wp2_with fail
  refine Calls.mono (HW.out _) ?_
  rintro e w1 ⟨rfl,hb⟩
  obtain ⟨hb1,h1,hs⟩:=one_of hb
  have HB:=Lib.hid hb1
  clear hb hb1
  go_wp2_with fail
  refine Calls.mono (RExplicit_any _ _ _ _ _ (H.out.keep HB.out) HR.out) ?_
  rintro e w2 ⟨q,c',rfl,hsl,hb⟩
  have h1':=(hb.block _ (by omega)).trans h1
  have HB2:=Lib.hid (bl HB.out hb HB.out.size)
  have HS:=Lib.hid (hsl.mono HB.out.size)
  clear hb hsl h1
  go_wp2_with (refine wpList_store_row (o:=⟨none,.store 83 (.tmp 6) (.tmp 29),_,_,_,_⟩) rfl 83 (.tmp 6) (.tmp 29) rfl w.heap.size #[.int .u8 0,.slice q n c',.int .u64 0] rfl rfl _ _ h1' info_source rfl (by simp [Value.oneCell']) ?_)
  refine bodyPost_ret (res_ct rfl _ _ _ 83 #[.int .u8 0,.slice q n c',.int .u64 0] (0,0) _ (.int .i64 0) rfl (hrs h1') rfl Tryz.underlying83 rfl info_source) rfl ?_
  exact ⟨q,n,c',rfl,HS.out.row h1' src_ne,below_row HB2.out (Nat.le_refl _)⟩
 ·obtain rfl:n = 8:=hn8 rfl
  clear hn8
  unfold rdX rdS
  rw [if_neg (by decide),if_neg (by decide)]
  obtain ⟨S,hS⟩:∃ S,get8 xs = S:=⟨_,rfl⟩
  rw [hS]
  have HSS:=Lib.hid hS
  clear hS
  go_enter Tryz.func175,Tryz.ntmps175
  go_wp2_with fail
  refine Calls.mono (HW.out _) ?_
  rintro e w1 ⟨rfl,hb⟩
  obtain ⟨hb1,h1,hs⟩:=one_of hb
  have HB:=Lib.hid hb1
  clear hb hb1
  go_wp2_with fail
  refine Calls.mono (MSeed_any _ _ _ _ _ (H.out.keep HB.out) rfl) ?_
  rintro e w2 ⟨rfl,hb⟩
  have h1':=(hb.block _ (by omega)).trans h1
  have HB2:=Lib.hid (bl HB.out hb HB.out.size)
  have hs2:=hb.size
  clear hb h1
  rw [HSS.out]
  go_wp2_with fail
  refine Calls.mono (RSeeded_any S _) ?_
  rintro e w3 ⟨rfl,hb⟩
  have h1:=(hb.block _ (by omega)).trans h1'
  have HB3:=Lib.hid (bl HB2.out hb HB2.out.size)
  clear hb h1'
  go_wp2_with (refine wpList_store_row (o:=⟨none,.store 83 (.tmp 6) (.tmp 40),_,_,_,_⟩) rfl 83 (.tmp 6) (.tmp 40) rfl w.heap.size #[.int .u8 1,.slice none 0 0,.int .u64 (S:Nat)] rfl rfl _ _ h1 info_source rfl (by simp [Value.oneCell']) ?_)
  refine bodyPost_ret (res_ct rfl _ _ _ 83 #[.int .u8 1,.slice none 0 0,.int .u64 (S:Nat)] (0,0) _ (.int .i64 0) rfl (hrs h1) rfl Tryz.underlying83 rfl info_source) rfl ?_
  exact ⟨none,0,0,rfl,Fresh.none _ _ _,below_row HB3.out (Nat.le_refl _)⟩
end Go.Proofs.YtccaiiigdfieoaaGreatDoor
