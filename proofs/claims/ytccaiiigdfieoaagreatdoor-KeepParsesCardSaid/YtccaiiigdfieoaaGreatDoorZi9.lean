/- The reference's Vectors. The reference's Wide. The reference's Judge. Chapter 19,plain: the equations that the document keeps,and a taker's rows; how they lie in memory. Plain: a taker's rows,told as packets and heard again,are the same rows,and the status. Chapter 28,plain: a taker's rows break no rule. Chapter 28: slices.EqualFunc at rows: of the same rows. bytes.Equal: of the same bytes. Chapter 18: how often a gate was asked: Seen. Chapter 19: TakerNone. Chapter 19: a taker's clone. DERIVED: THE SHELF's CONTRACTS AT THIS DUMP,IN PLAIN WORDS (tools/lay-plain.mjs out of 'TryzIter.lean',which tools/lay-shelf.mjs wrote): THE SAME DECLARATIONS UNDER THE SAME NAMES: 'import','namespace','open','def','theorem' AND NOTHING ELSE: no command of the shelf's: FOR A HAND-IN. Each laying: the table of numbers ('.._ren') and one theorem,a field a fact of the dump's own or the kernel's comparison; each contract: ONE APPLICATION. A map from numbers to slices,made by the call; its keys in order. The keys of such a map,in order: maps.Keys,slices.Sorted. glue.Fill,where all that is known fits. The walk of glue.Fill,where all that is known fits. Chapter 19: what a taker knows: Some. Chapter 12: the reference's Fill,of numbers that are each known once. A row of one's own of which every cell,the spare ones too,is told: appends leave other slices' cells alone. Chapter 19: what TakerTakes leans on: Seen of any gate; equal lists of bools; the object of one that is done. The document's mixing: shifted,Next,Bytes (chapter 5). A region that draws its order,in which one whole row is stored: all else is told values (calls that change nothing among them). The document's heads as read (chapter 13); widths,lengths (chapters 14,15). The document's packets as read (chapters 14,15). -/
import Derived.Test.YtccaiiigdfieoaaGreatDoorZi8
import Derived.Laws.BytesArg
import Derived.Deep.DeepCutAuto
import Derived.Shelf.SlIterI.Nil
import Derived.Shelf.SortM.Plain
import Derived.Shelf.SortM.SortNone
import Derived.Test.YtccaiiigdfieoaaGreatDoorProg
import Derived.Maps.Own
import Derived.Maps.Views
import Derived.StillTailTactics
import Derived.Laws.CopyOwn
import Derived.Deep.QuietTactic
import Derived.BigQuiet
namespace Go.Proofs.YtccaiiigdfieoaaGreatDoor
open Go.RowKit Go.By
set_option maxRecDepth 100000 in
set_option maxHeartbeats 4000000 in
theorem RVectors_any (p:Option Addr) (m c:Nat) (D:List Rw) (w:World) (h:RwS w p m c D) (hm:m≤65536) :
  Calls Tryz.prog 148 #[.slice p m c] w fun e w'=>∃ q c',e = .returned (.slice q m c')∧Sl2 w' q m c' (vecsL D)∧Below w.heap.size w w':=by
 obtain ⟨r0,hr0,hrz,hr1,hr2⟩:=info_parts info_rows
 have H:=Lib.hid h;have HLEN:=Lib.hid h.len
 clear h
 go_enter Tryz.func148,Tryz.ntmps148
 go_wp2
 go_loopw [3,8] (fun o i wr=>∃ (k:Nat) (qo:Option Addr) (co:Nat),k≤m∧i = .int .i64 k∧o = .slice qo k co∧Hid (OwnH 22 w wr w.heap.size (.slice qo k co) k (vecsL (D.take k)))∧Hid (Below w.heap.size w wr)) (fun _ i _=>m - (intOf i).toNat)
 case atStart=>exact ⟨0,none,0,Nat.zero_le _,rfl,rfl,by show OwnH _ _ _ _ _ _ (vecsL (D.take 0));rw [List.take_zero];exact OwnH.nil _ _ _ _,Below.refl _ _⟩
 case round =>
  obtain ⟨k,qo,co,hk,rfl,rfl,hO,hB⟩:=hrel
  by_cases hlt:k < m
  ·have kn:(k:Int) < (m:Int):=by omega
   obtain ⟨x,hx⟩:∃ x,D[k]? = some x:=⟨_,List.getElem?_eq_getElem (by rw [HLEN.out];exact hlt)⟩
   obtain ⟨b,o,q1,m1,c1,q2,m2,c2,rfl,d1,d2,s1,s2⟩:=H.out.row k x hx
   have D1:=(hB.out.cell (p:=⟨b,o + k * 2,none⟩) (lt_of_cell d1)).trans d1
   have D2:=(hB.out.cell (p:=⟨b,o + k * 2 + 1,none⟩) (lt_of_cell d2)).trans d2
   have S1:=Lib.hid s1
   have HX:=Lib.hid hx
   have hsz:=hB.out.size
   obtain ⟨vs,oA,lA,rA⟩:=hO.out
   have OA:=Lib.hid oA;have LA:=Lib.hid lA;have RA:=Lib.hid rA
   have hvl:Hid (vs.length = k):=by show _ = _;have:=oA.1;simpa using this
   have hO2:Hid (∀ o1 o2,((wr.alloc o1).alloc o2).ownsRow w.heap.size 22 1 (.slice qo k co) k vs):=fun o1 o2=>owns_keep OA.out (bl (al (Below.refl _ _) (Nat.le_refl _)) (al (Below.refl _ _) (Nat.le_refl _)) (by simp))
   clear d1 d2 s1 s2 hx oA lA rA hO
   go_wp2_with (at_builtin;refine wpList_append_own _ rfl _ _ 31 rfl w.heap.size 22 r0 (.slice none 0 0) 1 24 Tryz.underlying31 hr0 hrz hr1 hr2 rfl (by omega) _ k _ rfl (hO2.out _ _) ⟨wr.heap.size + 1,0,none⟩ 1 1 [.slice q1 m1 c1] rfl rfl (one_cell' (by simp)) ?d2 ?d3 ?d4 ?d5 ?_)
   case d2=>intro y hy;simp at hy;subst hy;rfl
   case d3=>unfold maxLen;omega
   case d4=>omega
   case d5=>simp;omega
   intro v6 w6 ho6 hg6 _
   obtain ⟨q6,c6,rfl⟩:=owns_shape ho6
   have P6:Hid (OwnH 22 w w6 w.heap.size (.slice q6 (k + 1) c6) (k + 1) (vecsL (D.take (k + 1)))∧Below w.heap.size w w6):=by
    refine ⟨?_,(al (al hB.out hsz) (by simp;omega)).grown hg6 (by simp;omega) (fun kk hk=>(OA.out.lt kk hk).1)⟩
    rw [vecsL_take HX.out]
    exact OwnH.push hvl.out LA.out RA.out S1.out ho6
   clear ho6 hg6 hO2 OA LA RA hvl hsz D1 D2 S1 hB
   go_wp2
   go_roundw
   case rel=>exact ⟨k + 1,q6,c6,by omega,by go_num,rfl,P6.out.1,P6.out.2⟩
   case measure=>simp [intOf];omega
  ·have hkw:k = m:=by omega
   subst hkw
   have OF:Hid (Sl2 wr qo k co (vecsL D)):=by
    have:=hO.out.sl2 hB.out
    rwa [List.take_of_length_le (by rw [HLEN.out];exact Nat.le_refl _)] at this
   have BF:=Lib.hid hB.out
   clear hO hB
   go_wp2
   go_ret
   exact ⟨qo,co,rfl,OF.out,BF.out⟩
end Go.Proofs.YtccaiiigdfieoaaGreatDoor
namespace Go.Proofs.YtccaiiigdfieoaaGreatDoor
open Go.RowKit Go.By
theorem widesL_take {D:List Rw} {j:Nat} {x:Rw} (h:D[j]? = some x):widesL (D.take (j + 1)) = widesL (D.take j) ++ [cat x]:=by
 unfold widesL;rw [List.take_add_one,h,List.map_append];rfl
set_option maxRecDepth 100000 in
set_option maxHeartbeats 4000000 in
theorem RWide_any (k0 t0:Nat) (p:Option Addr) (m c:Nat) (D:List Rw) (w:World) (h:RwS w p m c D) (hm:m≤65536) (hD:∀ x,x ∈ D→Fit k0 t0 x) (hk0:k0≤65536) (ht0:t0≤65536) :
  Calls Tryz.prog 149 #[.slice p m c] w fun e w'=>∃ q c',e = .returned (.slice q m c')∧Sl2 w' q m c' (widesL D)∧Below w.heap.size w w':=by
 obtain ⟨r0,hr0,hrz,hr1,hr2⟩:=info_parts info_rows
 obtain ⟨i0,hi0,hz0,hz1,hz2⟩:=info_parts info_u8
 have H:=Lib.hid h;have HLEN:=Lib.hid h.len;have HD:=Lib.hid hD
 clear h hD
 go_enter Tryz.func149,Tryz.ntmps149
 go_wp2
 go_loopw [3,9] (fun o i wr=>∃ (k:Nat) (qo:Option Addr) (co:Nat),k≤m∧i = .int .i64 k∧o = .slice qo k co∧Hid (Own2 22 5 wr w.heap.size (.slice qo k co) k (widesL (D.take k)))∧Hid (Below w.heap.size w wr)) (fun _ i _=>m - (intOf i).toNat)
 case atStart=>exact ⟨0,none,0,Nat.zero_le _,rfl,rfl,by show Own2 _ _ _ _ _ _ (widesL (D.take 0));rw [List.take_zero];exact Own2.nil _ _ _ _,Below.refl _ _⟩
 case round =>
  obtain ⟨k,qo,co,hk,rfl,rfl,hO,hB⟩:=hrel
  by_cases hlt:k < m
  ·have kn:(k:Int) < (m:Int):=by omega
   obtain ⟨x,hx⟩:∃ x,D[k]? = some x:=⟨_,List.getElem?_eq_getElem (by rw [HLEN.out];exact hlt)⟩
   have hfit:=HD.out x (List.mem_of_getElem? hx)
   obtain ⟨b,o,q1,m1,c1,q2,m2,c2,rfl,d1,d2,s1,s2⟩:=H.out.row k x hx
   obtain rfl:k0 = m1:=by rw [← s1.len];exact hfit.1.symm
   obtain rfl:t0 = m2:=by rw [← s2.len];exact hfit.2.symm
   have D1:=(hB.out.cell (p:=⟨b,o + k * 2,none⟩) (lt_of_cell d1)).trans d1
   have D2:=(hB.out.cell (p:=⟨b,o + k * 2 + 1,none⟩) (lt_of_cell d2)).trans d2
   have S1:=Lib.hid (s1.keep hB.out);have S2:=Lib.hid (s2.keep hB.out)
   have HX:=Lib.hid hx
   have hsz:=hB.out.size
   obtain ⟨W1,hW1⟩:∃ W1,W1 = wr.alloc (.cells #[.slice q1 k0 c1,.slice q2 t0 c2] 101):=⟨_,rfl⟩
   have hb1:Below wr.heap.size wr W1:=by rw [hW1];exact al (Below.refl _ _) (Nat.le_refl _)
   have hs1:W1.heap.size = wr.heap.size + 1:=by rw [hW1];simp
   have HB1:=Lib.hid hb1
   have HS1:=Lib.hid hs1
   have z1:W1.cell? ⟨wr.heap.size,1,none⟩ = some (.slice q2 t0 c2):=by rw [hW1];exact cell_of_row _ _ 1 _ _ _ (hnew rfl)
   have Z1:=Lib.hid z1
   have HW1:=Lib.hid hW1
   clear d1 d2 s1 s2 hx hb1 hs1 z1 hW1 hfit
   go_wp2_with (at_builtin;refine wpList_append_rs _ rfl _ _ 22 rfl W1.heap.size 5 i0 (.int .u8 0) 1 Tryz.underlying22 hi0 hz0 hz1 hz2 rfl _ 0 [] rfl (World.ownsRow_nil _ _ _ _) B8 _ _ _ x.1 (fun _ _=>rfl) rfl (S1.out.keep (al (Below.refl _ _) (Nat.le_refl _))) ?a1 ?a2 ?a3 ?_)
   case a1=>unfold maxLen;omega
   case a2=>omega
   case a3=>rw [HS1.out];simp
   rw [← HW1.out]
   intro v5 w5 ho5 hg5
   obtain ⟨q5,c5,rfl⟩:=owns_shape ho5
   have b5:Below W1.heap.size W1 w5:=(Below.refl _ _).grown hg5 (Nat.le_refl _) (by simp [Value.ownBlock])
   have BB5:=Lib.hid b5
   have O5:Hid (w5.ownsRow W1.heap.size 5 1 (.slice q5 k0 c5) k0 (x.1.map B8)):=by
    show World.ownsRow _ _ _ _ _ _ _
    simpa using ho5
   have z5:w5.cell? ⟨wr.heap.size,1,none⟩ = some (.slice q2 t0 c2):=(b5.cell (p:=⟨wr.heap.size,1,none⟩) (by rw [HS1.out];simp)).trans Z1.out
   have hs5:=b5.size
   have S25:=Lib.hid ((S2.out.keep HB1.out).keep b5)
   clear ho5 hg5 b5
   go_wp2_with (at_builtin;refine wpList_append_rs _ rfl _ _ 22 rfl W1.heap.size 5 i0 (.int .u8 0) 1 Tryz.underlying22 hi0 hz0 hz1 hz2 rfl _ k0 (x.1.map B8) rfl O5.out B8 _ _ _ x.2 (fun _ _=>rfl) rfl S25.out ?b1 ?b2 ?b3 ?_)
   case b1=>unfold maxLen;omega
   case b2=>omega
   case b3=>exact hs5
   intro v6 w6 ho6 hg6
   obtain ⟨q6,c6,rfl⟩:=owns_shape ho6
   have b6:Below W1.heap.size w5 w6:=(Below.refl _ _).grown hg6 hs5 (fun kk hk=>(O5.out.lt kk hk).1)
   have hle:wr.heap.size≤W1.heap.size:=by rw [HS1.out];omega
   have B6:Hid (Below wr.heap.size wr w6):=bl HB1.out (BB5.out.trans b6) hle
   have O6:Hid (w6.ownsRow w.heap.size 5 1 (.slice q6 (k0 + t0) c6) (k0 + t0) ((cat x).map B8)):=by
    show World.ownsRow _ _ _ _ _ _ _
    have:(cat x).map B8 = x.1.map B8 ++ x.2.map B8:=by unfold cat;rw [List.map_append]
    rw [this]
    exact owns_mono ho6 (Nat.le_trans hsz hle)
   have hs6:=B6.out.size
   have OQ:Hid (Own2 22 5 w6 w.heap.size (.slice qo k co) k (widesL (D.take k))):=hO.out.keep B6.out
   obtain ⟨vs,oA,lA,rA⟩:=OQ.out
   have OA:=Lib.hid oA;have LA:=Lib.hid lA;have RA:=Lib.hid rA
   have bal:∀ (W:World) (o:Obj),Below W.heap.size W (W.alloc o):=fun W o=>al (Below.refl _ _) (Nat.le_refl _)
   have hO2:Hid (∀ o,(w6.alloc o).ownsRow w.heap.size 22 1 (.slice qo k co) k vs):=fun o=>owns_keep OA.out (bal _ _)
   have HBAL:=Lib.hid bal
   have BQ:Hid (Below w.heap.size w w6):=bl hB.out B6.out hsz
   clear ho6 hg6 b6 hs5 z5 S25 O5 BB5 oA lA rA bal OQ hO D1 D2 S1 S2 HW1 Z1 HS1 HB1 hle
   go_wp2_with (at_builtin;refine wpList_append_own _ rfl _ _ 31 rfl w.heap.size 22 r0 (.slice none 0 0) 1 24 Tryz.underlying31 hr0 hrz hr1 hr2 rfl (by omega) _ k _ rfl (hO2.out _) ⟨w6.heap.size,0,none⟩ 1 1 [.slice q6 (k0 + t0) c6] rfl rfl (one_cell' rfl) ?d2 ?d3 ?d4 ?d5 ?_)
   case d2=>intro y hy;simp at hy;subst hy;rfl
   case d3=>unfold maxLen;omega
   case d4=>omega
   case d5=>simp;omega
   intro v7 w7 ho7 hg7 _
   obtain ⟨q7,c7,rfl⟩:=owns_shape ho7
   have P7:Hid (Own2 22 5 w7 w.heap.size (.slice q7 (k + 1) c7) (k + 1) (widesL (D.take (k + 1)))∧Below w.heap.size w w7):=by
    refine ⟨?_,(al BQ.out (by omega)).grown hg7 (by simp;omega) (fun kk hk=>(OA.out.lt kk hk).1)⟩
    rw [widesL_take HX.out]
    exact Own2.push (by decide) LA.out (fun jj val hjj=>by
     obtain ⟨xs,q,c',a,b,d⟩:=RA.out jj val hjj
     exact ⟨xs,q,c',a,b,owns_keep d (HBAL.out _ _)⟩) (hO2.out _) (owns_keep O6.out (HBAL.out _ _)) ho7 hg7
   clear ho7 hg7 hO2 OA LA RA hsz BQ hB O6 B6
   go_wp2
   go_roundw
   case rel=>exact ⟨k + 1,q7,c7,by omega,by go_num,rfl,P7.out.1,P7.out.2⟩
   case measure=>simp [intOf];omega
  ·have hkw:k = m:=by omega
   subst hkw
   have OF:Hid (Sl2 wr qo k co (widesL D)):=by
    have:=hO.out.sl2
    rwa [List.take_of_length_le (by rw [HLEN.out];exact Nat.le_refl _)] at this
   have BF:=Lib.hid hB.out
   clear hO hB
   go_wp2
   go_ret
   exact ⟨qo,co,rfl,OF.out,BF.out⟩
end Go.Proofs.YtccaiiigdfieoaaGreatDoor
namespace Go.By
open Go.RowKit
theorem RwS.take {w:World} {p:Option Addr} {n c j:Nat} {K:List (List UInt8 × List UInt8)} (h:RwS w p n c K) (hj:j≤n):RwS w p j c (K.take j) :=
 ⟨by rw [List.length_take,h.len];omega,Nat.le_trans hj h.le,h.max,fun e=>⟨by have:=h.nil e;omega,(h.nil e).2⟩,fun i k hi=>by
  rw [List.getElem?_take] at hi
  split at hi
  ·exact h.row i k hi
  ·cases hi⟩
def Shp.vecN (n:Nat) (xss:List (List UInt8)):Shp:=⟨fun v w=>∃ p c,v = .slice p n c∧Sl2 w p n c xss,fun _ _ _ ⟨p,c,e,h⟩ hb=>⟨p,c,e,h.keep hb⟩⟩
end Go.By
namespace Go.Proofs.YtccaiiigdfieoaaGreatDoor
open Go.RowKit Go.By
theorem clashI_keep {D:List Rw} {i:Nat} (h:0≤clashI D i):∀ d,clashI D (i + d) = clashI D i
 | 0=>rfl
 | d + 1=>by
  have ih:=clashI_keep h d
  show (match D[i + d]? with | some x=>_ | none=>_) = _
  split
  ·rw [if_neg (fun g=>by have g2:clashI D (i + d) < 0:=g.2;rw [ih] at g2;omega)];exact ih
  ·exact ih
theorem calm_clashI {D:List Rw}:∀ i,calm D i→clashI D i = -1
 | 0,_=>rfl
 | i + 1,h=>by
  have ih:=calm_clashI i (fun j x hj hx=>h j x (by omega) hx)
  show (match D[i]? with | some x=>_ | none=>_) = _
  split
  ·rename_i x hx
   rw [if_neg (fun g=>by rw [h i x (by omega) hx] at g;cases g.1)];exact ih
  ·exact ih
theorem first_clashI {D:List Rw} {i m:Nat} {x:Rw} (h:calm D i) (hx:D[i]? = some x) (hc:clashB (kD (D.take i)) x = true) (hm:i < m):clashI D m = i:=by
 have e:clashI D (i + 1) = i:=by rw [clashI_step hx,if_pos ⟨hc,by rw [calm_clashI i h];decide⟩]
 have:=clashI_keep (i:=i + 1) (D:=D) (by rw [e];omega) (m - (i + 1))
 rw [show i + 1 + (m - (i + 1)) = m by omega,e] at this
 exact this
theorem vecs_len {k t:Nat} {X:List Rw} (h:∀ x,x ∈ X→Fit k t x):∀ r,r ∈ vecsL X→r.length = k:=fun r hr=>by
 obtain ⟨x,hx,rfl⟩:=List.mem_map.1 hr;exact (h x hx).1
theorem wides_len {k t:Nat} {X:List Rw} (h:∀ x,x ∈ X→Fit k t x):∀ r,r ∈ widesL X→r.length = k + t:=fun r hr=>by
 obtain ⟨x,hx,rfl⟩:=List.mem_map.1 hr;exact (h x hx).cat
set_option maxRecDepth 100000 in
set_option maxHeartbeats 4000000 in
theorem RJudge_any (k t:Nat) (p:Option Addr) (m c:Nat) (D:List Rw) (w:World) (h:RwS w p m c D) (hk:k≤4096) (ht:t≤65535) (hm:m≤4096) (hD:∀ x,x ∈ D→Fit k t x) :
  Calls Tryz.prog 85 #[.slice p m c] w fun e w'=>e = .returned (.tuple #[.int .i64 (kD D).length,.int .i64 (clashI D m)])∧Below w.heap.size w w':=by
 have H:=Lib.hid h;have HL:=Lib.hid h.len;have HD:=Lib.hid hD
 have hmc:=h.le;have hcm:c≤9223372036854775807:=by have:=h.max;unfold maxLen at this;omega
 have HA:Hid (∀ W,RwS W p m c D→Calls Tryz.prog 148 #[.slice p m c] W fun e w'=>∃ q c',e = .returned (.slice q m c')∧Sl2 w' q m c' (vecsL D)∧Below W.heap.size W w'):=fun W hW=>RVectors_any p m c D W hW (by omega)
 have HB:Hid (∀ W q c',Sl2 W q m c' (vecsL D)→Calls Tryz.prog 147 #[.slice q m c'] W fun e w'=>e = .returned (.int .i64 (kD D).length)∧Below W.heap.size W w'):=fun W q c' hW=>by
  have:=RRank_any k q m c' (vecsL D) W hW (vecs_len HD.out) (by unfold Room;omega) (by omega)
  rwa [vecs_rank] at this
 clear h hD
 go_enter Tryz.func85,Tryz.ntmps85
 go_wp2
 go_loopw [7] (fun iv wr=>∃ i:Nat,i≤m∧iv = .int .i64 i∧Hid (calm D i)∧Hid (Below w.heap.size w wr)) (fun iv _=>m - (intOf iv).toNat)
 case atStart=>exact ⟨0,Nat.zero_le _,rfl,fun j x hj _=>by omega,Below.refl _ _⟩
 case round =>
  obtain ⟨i,hi,rfl,hC,hB⟩:=hrel
  by_cases hlt:i < m
  ·have hlt':(i:Int) < (m:Int):=by omega
   obtain ⟨x,hx⟩:∃ x,D[i]? = some x:=⟨_,List.getElem?_eq_getElem (by rw [HL.out];exact hlt)⟩
   obtain ⟨b,o,q1,m1,c1,q2,m2,c2,rfl,d1,d2,s1,s2⟩:=H.out.row i x hx
   clear d1 d2 s1 s2
   obtain ⟨I,hI⟩:∃ I,I = i + 1:=⟨_,rfl⟩
   obtain ⟨X,hX⟩:∃ X,X = D.take I:=⟨_,rfl⟩
   have HR:Hid (RwS wr (some ⟨b,o,none⟩) I c X):=by
    rw [hX]
    exact (H.out.take (by omega)).keep hB.out
   have hXD:∀ y,y ∈ X→Fit k t y:=fun y hy=>HD.out y (List.mem_of_mem_take (by rw [← hX];exact hy))
   obtain ⟨R1,hR1⟩:∃ R1,R1 = (iK (vecsL X)).length:=⟨_,rfl⟩
   obtain ⟨R2,hR2⟩:∃ R2,R2 = (iK (widesL X)).length:=⟨_,rfl⟩
   have CV:Hid (∀ W,RwS W (some ⟨b,o,none⟩) I c X→Calls Tryz.prog 148 #[.slice (some ⟨b,o,none⟩) I c] W fun e w'=>∃ q c',e = .returned (.slice q I c')∧Sl2 w' q I c' (vecsL X)∧Below W.heap.size W w'):=fun W hW=>RVectors_any _ I c X W hW (by omega)
   have CW:Hid (∀ W,RwS W (some ⟨b,o,none⟩) I c X→Calls Tryz.prog 149 #[.slice (some ⟨b,o,none⟩) I c] W fun e w'=>∃ q c',e = .returned (.slice q I c')∧Sl2 w' q I c' (widesL X)∧Below W.heap.size W w'):=fun W hW=>RWide_any k t _ I c X W hW (by omega) hXD (by omega) (by omega)
   have C1:Hid (∀ W q c',Sl2 W q I c' (vecsL X)→Calls Tryz.prog 147 #[.slice q I c'] W fun e w'=>e = .returned (.int .i64 R1)∧Below W.heap.size W w'):=fun W q c' hW=>by
    rw [hR1];exact RRank_any k q I c' (vecsL X) W hW (vecs_len hXD) (by unfold Room;omega) (by omega)
   have C2:Hid (∀ W q c',Sl2 W q I c' (widesL X)→Calls Tryz.prog 147 #[.slice q I c'] W fun e w'=>e = .returned (.int .i64 R2)∧Below W.heap.size W w'):=fun W q c' hW=>by
    rw [hR2];exact RRank_any (k + t) q I c' (widesL X) W hW (wides_len hXD) (by unfold Room;omega) (by omega)
   have HJ:Hid ((R1 = R2)↔clashB (kD (D.take i)) x = false):=by
    have:=judge_at HD.out hx hC.out
    rw [hR1,hR2,hX,hI];exact this
   have HX:=Lib.hid hx
   have A1:IntKind.i64.wrap ((i:Int) + 1) = (I:Int):=by rw [hI];exact (Go.IntWalk.i64_in _ (by omega)).trans (by omega)
   have A2:(I:Int)≤(c:Int):=by omega
   have A3:I≤c:=by omega
   have A4:¬ c = 0:=by omega
   have HIx:=Lib.hid hI
   clear hX hXD hR1 hR2 hx hI
   by_cases hc:clashB (kD (D.take i)) x = true
   ·have hne:¬ R1 = R2:=fun e=>by have:=HJ.out.1 e;rw [hc] at this;cases this
    have hd:((R1:Int) != (R2:Int)) = true:=by simp;omega
    have hd2:¬ (R1:Int) = (R2:Int):=fun e=>hne (by omega)
    have HRES:Hid (clashI D m = i):=first_clashI hC.out HX.out hc hlt
    clear hc hne HJ hC
    go_wp2
    refine wp_region_shapes (fun ix=>([.val (.slice (some ⟨b,o,none⟩) m c),.val (.int .i64 i),.val (.int .i64 I),.val (.slice (some ⟨b,o,none⟩) I c),(Shp.vecN I (vecsL X)),.val (.int .i64 R1),.val (.slice (some ⟨b,o,none⟩) m c),.val (.int .i64 i),.val (.int .i64 I),.val (.slice (some ⟨b,o,none⟩) I c),(Shp.vecN I (widesL X)),.val (.int .i64 R2),.val (.bool true)][ix]?).getD (.any)) 31 rfl (by kernel_rfl) (by decide) (by decide) (by decide) ?_ ?_
    ·refine ⟨?_,?_,?_,?_,?_,?_,?_,?_,?_,?_,?_,?_,?_,trivial⟩
     ·intro a W hb0 hs hp hi;have hb:=undrew hb0;clear hb0
      have t0:sl a 0 = .slice (some ⟨b,o,none⟩) m c:=hi 0 (by decide)
      exact ite_y rfl (wp_val (sl a 0) rfl ⟨_,rfl,Below.refl _ _,t0⟩)
     ·intro a W hb0 hs hp hi;have hb:=undrew hb0;clear hb0
      have t4:sl a 4 = .int .i64 i:=hi 4 (by decide)
      exact ite_y rfl (wp_val (sl a 4) rfl ⟨_,rfl,Below.refl _ _,t4⟩)
     ·intro a W hb0 hs hp hi;have hb:=undrew hb0;clear hb0
      have t11:sl a 11 = .int .i64 i:=hp 1 (by decide)
      refine ite_y rfl (wp_val (.int .i64 I) ?_ ?_)
      ·simp only [execOp,eval_tmp,eval_const,t11];simp [go_sem,A1]
      ·exact ⟨_,rfl,Below.refl _ _,rfl⟩
     ·intro a W hb0 hs hp hi;have hb:=undrew hb0;clear hb0
      have tt:sl a 10 = .slice (some ⟨b,o,none⟩) m c:=hp 0 (by decide)
      have tj:sl a 12 = .int .i64 I:=hp 2 (by decide)
      refine ite_y rfl (wp_val (.slice (some ⟨b,o,none⟩) I c) ?_ ?_)
      ·simp only [execOp,eval_tmp,tt,tj,Option.map];simp [go_sem,A2,A3,A4,Addr.add_lit]
      ·exact ⟨_,rfl,Below.refl _ _,rfl⟩
     ·intro a W hb0 hs hp hi;have hb:=undrew hb0;clear hb0
      have tt:sl a 13 = .slice (some ⟨b,o,none⟩) I c:=hp 3 (by decide)
      refine ite_y rfl (wp_enter 148 #[.slice (some ⟨b,o,none⟩) I c] ?_ (CV.out W (HR.out.keep hb)) ?_)
      ·simp only [execOp,resolve,List.map_toArray,List.map,eval_tmp,eval_func,eval_const,tt];simp [go_sem]
      ·rintro e W' ⟨q,c',rfl,hs9,hw⟩;exact ⟨_,rfl,_,rfl,hw,q,c',rfl,hs9⟩
     ·intro a W hb0 hs hp hi;have hb:=undrew hb0;clear hb0
      have tt:(Shp.vecN I (vecsL X)).ok (sl a 14) W:=hp 4 (by decide)
      obtain ⟨q4,c4,tt,s4⟩:=tt
      refine ite_y rfl (wp_enter 147 #[.slice q4 I c4] ?_ (C1.out W q4 c4 s4) ?_)
      ·simp only [execOp,resolve,List.map_toArray,List.map,eval_tmp,eval_func,eval_const,tt];simp [go_sem]
      ·rintro e W' ⟨rfl,hw⟩;exact ⟨_,rfl,_,rfl,hw,rfl⟩
     ·intro a W hb0 hs hp hi;have hb:=undrew hb0;clear hb0
      have t0:sl a 0 = .slice (some ⟨b,o,none⟩) m c:=hi 0 (by decide)
      exact ite_y rfl (wp_val (sl a 0) rfl ⟨_,rfl,Below.refl _ _,t0⟩)
     ·intro a W hb0 hs hp hi;have hb:=undrew hb0;clear hb0
      have t4:sl a 4 = .int .i64 i:=hi 4 (by decide)
      exact ite_y rfl (wp_val (sl a 4) rfl ⟨_,rfl,Below.refl _ _,t4⟩)
     ·intro a W hb0 hs hp hi;have hb:=undrew hb0;clear hb0
      have t17:sl a 17 = .int .i64 i:=hp 7 (by decide)
      refine ite_y rfl (wp_val (.int .i64 I) ?_ ?_)
      ·simp only [execOp,eval_tmp,eval_const,t17];simp [go_sem,A1]
      ·exact ⟨_,rfl,Below.refl _ _,rfl⟩
     ·intro a W hb0 hs hp hi;have hb:=undrew hb0;clear hb0
      have tt:sl a 16 = .slice (some ⟨b,o,none⟩) m c:=hp 6 (by decide)
      have tj:sl a 18 = .int .i64 I:=hp 8 (by decide)
      refine ite_y rfl (wp_val (.slice (some ⟨b,o,none⟩) I c) ?_ ?_)
      ·simp only [execOp,eval_tmp,tt,tj,Option.map];simp [go_sem,A2,A3,A4,Addr.add_lit]
      ·exact ⟨_,rfl,Below.refl _ _,rfl⟩
     ·intro a W hb0 hs hp hi;have hb:=undrew hb0;clear hb0
      have tt:sl a 19 = .slice (some ⟨b,o,none⟩) I c:=hp 9 (by decide)
      refine ite_y rfl (wp_enter 149 #[.slice (some ⟨b,o,none⟩) I c] ?_ (CW.out W (HR.out.keep hb)) ?_)
      ·simp only [execOp,resolve,List.map_toArray,List.map,eval_tmp,eval_func,eval_const,tt];simp [go_sem]
      ·rintro e W' ⟨q,c',rfl,hs9,hw⟩;exact ⟨_,rfl,_,rfl,hw,q,c',rfl,hs9⟩
     ·intro a W hb0 hs hp hi;have hb:=undrew hb0;clear hb0
      have tt:(Shp.vecN I (widesL X)).ok (sl a 20) W:=hp 10 (by decide)
      obtain ⟨q4,c4,tt,s4⟩:=tt
      refine ite_y rfl (wp_enter 147 #[.slice q4 I c4] ?_ (C2.out W q4 c4 s4) ?_)
      ·simp only [execOp,resolve,List.map_toArray,List.map,eval_tmp,eval_func,eval_const,tt];simp [go_sem]
      ·rintro e W' ⟨rfl,hw⟩;exact ⟨_,rfl,_,rfl,hw,rfl⟩
     ·intro a W hb0 hs hp hi;have hb:=undrew hb0;clear hb0
      have t15:sl a 15 = .int .i64 R1:=hp 5 (by decide)
      have t21:sl a 21 = .int .i64 R2:=hp 11 (by decide)
      refine ite_y rfl (wp_val (.bool true) ?_ ?_)
      ·simp only [execOp,eval_tmp,eval_const,t15,t21];simp [go_sem,hd,hd2]
      ·exact ⟨_,rfl,Below.refl _ _,rfl⟩
    intro a wk hb hs hd hI ht
    have ha:=act_is [10,11,12,13,14,15,16,17,18,19,20,21,22] hs hd ht (by decide)
    have t22:sl a 22 = .bool true:=hI 12 (by decide)
    simp only [List.foldl,t22] at ha
    generalize sl a 10 = u10 at ha
    generalize sl a 11 = u11 at ha
    generalize sl a 12 = u12 at ha
    generalize sl a 13 = u13 at ha
    generalize sl a 14 = u14 at ha
    generalize sl a 15 = u15 at ha
    generalize sl a 16 = u16 at ha
    generalize sl a 17 = u17 at ha
    generalize sl a 18 = u18 at ha
    generalize sl a 19 = u19 at ha
    generalize sl a 20 = u20 at ha
    generalize sl a 21 = u21 at ha
    simp only [Act.put,List.setIfInBounds_toArray,List.set_cons_zero,List.set_cons_succ] at ha
    rw [ha]
    clear ha hI ht
    have hW:Hid (Below w.heap.size w wk):=bl hB.out hb hB.out.size
    clear hb HR CV CW C1 C2 A1 A2 A3 A4
    go_wp2_with fail
    refine Calls.mono (HA.out _ (H.out.keep hW.out)) ?_
    rintro e w5 ⟨q,c',rfl,hs,hb⟩
    have hW5:Hid (Below w.heap.size w w5):=bl hW.out hb hW.out.size
    have S5:=Lib.hid hs
    clear hb hs hW
    go_wp2_with fail
    refine Calls.mono (HB.out _ _ _ S5.out) ?_
    rintro e w6 ⟨rfl,hb⟩
    have hW6:Hid (Below w.heap.size w w6):=bl hW5.out hb hW5.out.size
    clear hb hW5 S5
    go_wp2
    go_ret2
    exact ⟨by rw [HRES.out];rfl,hW6.out⟩
   ·have hcf:clashB (kD (D.take i)) x = false:=by simpa using hc
    have he:R1 = R2:=HJ.out.2 hcf
    subst he
    have HC2:Hid (calm D (i + 1)):=fun j y hj hy=>by
     by_cases hji:j < i
     ·exact hC.out j y hji hy
     ·obtain rfl:j = i:=by omega
      rw [HX.out] at hy;cases hy;exact hcf
    have hd:((R1:Int) != (R1:Int)) = false:=by simp
    have hd2:(R1:Int) = (R1:Int):=rfl
    clear hc hcf HJ hC
    go_wp2
    refine wp_region_shapes (fun ix=>([.val (.slice (some ⟨b,o,none⟩) m c),.val (.int .i64 i),.val (.int .i64 I),.val (.slice (some ⟨b,o,none⟩) I c),(Shp.vecN I (vecsL X)),.val (.int .i64 R1),.val (.slice (some ⟨b,o,none⟩) m c),.val (.int .i64 i),.val (.int .i64 I),.val (.slice (some ⟨b,o,none⟩) I c),(Shp.vecN I (widesL X)),.val (.int .i64 R1),.val (.bool false)][ix]?).getD (.any)) 31 rfl (by kernel_rfl) (by decide) (by decide) (by decide) ?_ ?_
    ·refine ⟨?_,?_,?_,?_,?_,?_,?_,?_,?_,?_,?_,?_,?_,trivial⟩
     ·intro a W hb0 hs hp hi;have hb:=undrew hb0;clear hb0
      have t0:sl a 0 = .slice (some ⟨b,o,none⟩) m c:=hi 0 (by decide)
      exact ite_y rfl (wp_val (sl a 0) rfl ⟨_,rfl,Below.refl _ _,t0⟩)
     ·intro a W hb0 hs hp hi;have hb:=undrew hb0;clear hb0
      have t4:sl a 4 = .int .i64 i:=hi 4 (by decide)
      exact ite_y rfl (wp_val (sl a 4) rfl ⟨_,rfl,Below.refl _ _,t4⟩)
     ·intro a W hb0 hs hp hi;have hb:=undrew hb0;clear hb0
      have t11:sl a 11 = .int .i64 i:=hp 1 (by decide)
      refine ite_y rfl (wp_val (.int .i64 I) ?_ ?_)
      ·simp only [execOp,eval_tmp,eval_const,t11];simp [go_sem,A1]
      ·exact ⟨_,rfl,Below.refl _ _,rfl⟩
     ·intro a W hb0 hs hp hi;have hb:=undrew hb0;clear hb0
      have tt:sl a 10 = .slice (some ⟨b,o,none⟩) m c:=hp 0 (by decide)
      have tj:sl a 12 = .int .i64 I:=hp 2 (by decide)
      refine ite_y rfl (wp_val (.slice (some ⟨b,o,none⟩) I c) ?_ ?_)
      ·simp only [execOp,eval_tmp,tt,tj,Option.map];simp [go_sem,A2,A3,A4,Addr.add_lit]
      ·exact ⟨_,rfl,Below.refl _ _,rfl⟩
     ·intro a W hb0 hs hp hi;have hb:=undrew hb0;clear hb0
      have tt:sl a 13 = .slice (some ⟨b,o,none⟩) I c:=hp 3 (by decide)
      refine ite_y rfl (wp_enter 148 #[.slice (some ⟨b,o,none⟩) I c] ?_ (CV.out W (HR.out.keep hb)) ?_)
      ·simp only [execOp,resolve,List.map_toArray,List.map,eval_tmp,eval_func,eval_const,tt];simp [go_sem]
      ·rintro e W' ⟨q,c',rfl,hs9,hw⟩;exact ⟨_,rfl,_,rfl,hw,q,c',rfl,hs9⟩
     ·intro a W hb0 hs hp hi;have hb:=undrew hb0;clear hb0
      have tt:(Shp.vecN I (vecsL X)).ok (sl a 14) W:=hp 4 (by decide)
      obtain ⟨q4,c4,tt,s4⟩:=tt
      refine ite_y rfl (wp_enter 147 #[.slice q4 I c4] ?_ (C1.out W q4 c4 s4) ?_)
      ·simp only [execOp,resolve,List.map_toArray,List.map,eval_tmp,eval_func,eval_const,tt];simp [go_sem]
      ·rintro e W' ⟨rfl,hw⟩;exact ⟨_,rfl,_,rfl,hw,rfl⟩
     ·intro a W hb0 hs hp hi;have hb:=undrew hb0;clear hb0
      have t0:sl a 0 = .slice (some ⟨b,o,none⟩) m c:=hi 0 (by decide)
      exact ite_y rfl (wp_val (sl a 0) rfl ⟨_,rfl,Below.refl _ _,t0⟩)
     ·intro a W hb0 hs hp hi;have hb:=undrew hb0;clear hb0
      have t4:sl a 4 = .int .i64 i:=hi 4 (by decide)
      exact ite_y rfl (wp_val (sl a 4) rfl ⟨_,rfl,Below.refl _ _,t4⟩)
     ·intro a W hb0 hs hp hi;have hb:=undrew hb0;clear hb0
      have t17:sl a 17 = .int .i64 i:=hp 7 (by decide)
      refine ite_y rfl (wp_val (.int .i64 I) ?_ ?_)
      ·simp only [execOp,eval_tmp,eval_const,t17];simp [go_sem,A1]
      ·exact ⟨_,rfl,Below.refl _ _,rfl⟩
     ·intro a W hb0 hs hp hi;have hb:=undrew hb0;clear hb0
      have tt:sl a 16 = .slice (some ⟨b,o,none⟩) m c:=hp 6 (by decide)
      have tj:sl a 18 = .int .i64 I:=hp 8 (by decide)
      refine ite_y rfl (wp_val (.slice (some ⟨b,o,none⟩) I c) ?_ ?_)
      ·simp only [execOp,eval_tmp,tt,tj,Option.map];simp [go_sem,A2,A3,A4,Addr.add_lit]
      ·exact ⟨_,rfl,Below.refl _ _,rfl⟩
     ·intro a W hb0 hs hp hi;have hb:=undrew hb0;clear hb0
      have tt:sl a 19 = .slice (some ⟨b,o,none⟩) I c:=hp 9 (by decide)
      refine ite_y rfl (wp_enter 149 #[.slice (some ⟨b,o,none⟩) I c] ?_ (CW.out W (HR.out.keep hb)) ?_)
      ·simp only [execOp,resolve,List.map_toArray,List.map,eval_tmp,eval_func,eval_const,tt];simp [go_sem]
      ·rintro e W' ⟨q,c',rfl,hs9,hw⟩;exact ⟨_,rfl,_,rfl,hw,q,c',rfl,hs9⟩
     ·intro a W hb0 hs hp hi;have hb:=undrew hb0;clear hb0
      have tt:(Shp.vecN I (widesL X)).ok (sl a 20) W:=hp 10 (by decide)
      obtain ⟨q4,c4,tt,s4⟩:=tt
      refine ite_y rfl (wp_enter 147 #[.slice q4 I c4] ?_ (C2.out W q4 c4 s4) ?_)
      ·simp only [execOp,resolve,List.map_toArray,List.map,eval_tmp,eval_func,eval_const,tt];simp [go_sem]
      ·rintro e W' ⟨rfl,hw⟩;exact ⟨_,rfl,_,rfl,hw,rfl⟩
     ·intro a W hb0 hs hp hi;have hb:=undrew hb0;clear hb0
      have t15:sl a 15 = .int .i64 R1:=hp 5 (by decide)
      have t21:sl a 21 = .int .i64 R1:=hp 11 (by decide)
      refine ite_y rfl (wp_val (.bool false) ?_ ?_)
      ·simp only [execOp,eval_tmp,eval_const,t15,t21];simp [go_sem]
      ·exact ⟨_,rfl,Below.refl _ _,rfl⟩
    intro a wk hb hs hd hI ht
    have ha:=act_is [10,11,12,13,14,15,16,17,18,19,20,21,22] hs hd ht (by decide)
    have t22:sl a 22 = .bool false:=hI 12 (by decide)
    simp only [List.foldl,t22] at ha
    generalize sl a 10 = u10 at ha
    generalize sl a 11 = u11 at ha
    generalize sl a 12 = u12 at ha
    generalize sl a 13 = u13 at ha
    generalize sl a 14 = u14 at ha
    generalize sl a 15 = u15 at ha
    generalize sl a 16 = u16 at ha
    generalize sl a 17 = u17 at ha
    generalize sl a 18 = u18 at ha
    generalize sl a 19 = u19 at ha
    generalize sl a 20 = u20 at ha
    generalize sl a 21 = u21 at ha
    simp only [Act.put,List.setIfInBounds_toArray,List.set_cons_zero,List.set_cons_succ] at ha
    rw [ha]
    clear ha hI ht
    have hW:Hid (Below w.heap.size w wk):=bl hB.out hb hB.out.size
    clear hb HR CV CW C1 C2 A1 A2 A3 A4 hB hd hd2
    go_wp2
    go_roundw
    case rel=>exact ⟨i + 1,by omega,by go_num,HC2.out,hW.out⟩
    case measure=>simp [intOf];omega
  ·obtain rfl:i = m:=by omega
   have HRES:Hid (clashI D i = -1):=calm_clashI i hC.out
   clear hC
   go_wp2_with fail
   refine Calls.mono (HA.out _ (H.out.keep hB.out)) ?_
   rintro e w5 ⟨q,c',rfl,hs,hb⟩
   have hW5:Hid (Below w.heap.size w w5):=bl hB.out hb hB.out.size
   have S5:=Lib.hid hs
   clear hb hs hB
   go_wp2_with fail
   refine Calls.mono (HB.out _ _ _ S5.out) ?_
   rintro e w6 ⟨rfl,hb⟩
   have hW6:Hid (Below w.heap.size w w6):=bl hW5.out hb hW5.out.size
   clear hb hW5 S5
   go_wp2
   go_ret2
   exact ⟨by rw [HRES.out];rfl,hW6.out⟩
end Go.Proofs.YtccaiiigdfieoaaGreatDoor
namespace Go.By
open Go.RowKit Go.Proofs.YtccaiiigdfieoaaGreatDoor Gf Go.Maps
theorem read_fit {k t D:Nat} {xs:List UInt8} (h:readC k t D xs = 0):Fit k t (eqX k t xs):=by
 obtain ⟨h1,h2,h3⟩:=read_fits h
 refine ⟨?_,h3⟩
 show (vecS (pktM xs) (pktX k xs) (pktS k xs) k).length = k
 unfold vecS
 by_cases h0:pktM xs = 0
 ·rw [if_pos h0];exact h2 h0
 ·rw [if_neg h0];exact mixRow_len _ _
theorem clashI_front (X:List Rw) (x:Rw):∀ j,j≤X.length→clashI (X ++ [x]) j = clashI X j
 | 0,_=>rfl
 | j + 1,hj=>by
  have h1:X[j]? = some X[j]:=List.getElem?_eq_getElem (by omega)
  have h2:(X ++ [x])[j]? = some X[j]:=by rw [List.getElem?_append_left (by omega),h1]
  rw [clashI_step h1,clashI_step h2,clashI_front X x j (by omega),List.take_append_of_le_length (by omega)]
structure RefS (k t:Nat) (X K:List Rw):Prop where
 sys:Go.Proofs.YtccaiiigdfieoaaGreatDoor.Sys k t (kD X) K
 fit:∀ x,x ∈ X→Fit k t x
 calm:∀ j,j≤X.length→clashI X j = -1
theorem RefS.nil (k t:Nat):RefS k t [] []:=⟨Sys.nil k t,fun x h=>(by cases h),fun j h=>by
 have:j = 0:=by simpa using h
 rw [this];rfl⟩
def refX (k t D:Nat) (X:List Rw) (st:Nat) (xs:List UInt8):List Rw:=if readC k t D xs = 0∧st = 0∧clashI (X ++ [eqX k t xs]) (X.length + 1) < 0 then X ++ [eqX k t xs] else X
def refZ (k t D:Nat) (X:List Rw) (st:Nat) (xs:List UInt8):Nat:=if readC k t D xs = 0∧st = 0 then (if clashI (X ++ [eqX k t xs]) (X.length + 1) < 0 then (if (kD (X ++ [eqX k t xs])).length = k then 1 else 0) else 2) else st
theorem refX_len (k t D:Nat) (X:List Rw) (st:Nat) (xs:List UInt8):(refX k t D X st xs).length≤X.length + 1:=by
 unfold refX;split <;> simp
theorem RefS.take {k t D st:Nat} {X K:List Rw} (h:RefS k t X K) (xs:List UInt8):RefS k t (refX k t D X st xs) (takeK k t D K st xs)∧refZ k t D X st xs = takeS k t D K st xs:=by
 unfold refX refZ takeK takeS
 by_cases hc:readC k t D xs = 0∧st = 0
 ·rw [if_pos hc,if_pos hc,if_pos hc]
  obtain ⟨hr,h0⟩:=hc
  have hf:=read_fit hr
  generalize eqX k t xs = x at *
  have h1:(X ++ [x])[X.length]? = some x:=by simp
  have e1:clashI (X ++ [x]) (X.length + 1) = if clashB (kD X) x = true then (X.length:Int) else -1:=by
   rw [clashI_step h1,clashI_front X x _ (Nat.le_refl _),h.calm _ (Nat.le_refl _),List.take_left]
   by_cases hb:clashB (kD X) x = true
   ·rw [if_pos ⟨hb,by decide⟩,if_pos hb]
   ·rw [if_neg (fun g=>hb g.1),if_neg hb]
  have e2:clashB (kD X) x = clashB K x:=sys_clash h.sys hf
  rw [e2] at e1
  by_cases hb:clashB K x = true
  ·rw [if_pos hb] at e1
   have hn:¬ clashI (X ++ [x]) (X.length + 1) < 0:=by rw [e1];omega
   have h2:codeF K x = 2:=clashB_code.1 hb
   rw [if_neg (fun g=>hn g.2.2),if_neg hn]
   have hl:leadS (restF K x).1 < 0:=by
    unfold codeF at h2
    by_cases g:leadS (restF K x).1 < 0
    ·exact g
    ·rw [if_neg g] at h2;cases h2
   refine ⟨?_,?_⟩
   ·unfold putK;rw [if_pos hl];exact h
   ·unfold nextS;rw [if_pos h2]
  ·rw [if_neg hb] at e1
   have hn:clashI (X ++ [x]) (X.length + 1) < 0:=by rw [e1];decide
   have h2:codeF K x≠2:=fun g=>hb (clashB_code.2 g)
   rw [if_pos ⟨hr,h0,hn⟩,if_pos hn]
   have hs:=h.sys.putX hf
   refine ⟨⟨hs,fun y hy=>?_,fun j hj=>?_⟩,?_⟩
   ·rcases List.mem_append.1 hy with hy | hy
    ·exact h.fit y hy
    ·simp at hy;rw [hy];exact hf
   ·rw [List.length_append] at hj
    rcases Nat.lt_or_ge j (X.length + 1) with g | g
    ·rw [clashI_front X x j (by omega)];exact h.calm j (by omega)
    ·have:j = X.length + 1:=by simp at hj;omega
     rw [this];exact e1
   ·unfold nextS
    rw [if_neg h2,sys_len hs]
 ·rw [if_neg hc,if_neg hc,if_neg hc,if_neg (fun g=>hc ⟨g.1,g.2.1⟩)]
  exact ⟨h,rfl⟩
def OldB (wI w:World) (v:Value) (xs:List UInt8):Prop:=∃ q n c,v = .slice q n c∧(Sl B8 wI q n c xs∨Fresh 5 wI.heap.size w q n c xs)
theorem OldB.keep {wI w w':World} {v:Value} {xs:List UInt8} (h:OldB wI w v xs) (hb:Below w.heap.size w w'):OldB wI w' v xs:=by
 obtain ⟨q,n,c,e,h | h⟩:=h
 ·exact ⟨q,n,c,e,.inl h⟩
 ·exact ⟨q,n,c,e,.inr (h.keep hb)⟩
theorem OldB.same {wI w w':World} {v:Value} {xs:List UInt8} (h:OldB wI w v xs) (hp:∀ (b:Nat) (cs:Array Value) (fr:Nat × Nat),w.heap[b]? = some (.cells cs 5 fr)→w'.heap[b]? = w.heap[b]?):OldB wI w' v xs:=by
 obtain ⟨q,n,c,e,h | h⟩:=h
 ·exact ⟨q,n,c,e,.inl h⟩
 ·exact ⟨q,n,c,e,.inr (fresh_same h hp)⟩
theorem OldB.sl {wI w:World} {v:Value} {xs:List UInt8} (h:OldB wI w v xs) (hb:Below wI.heap.size wI w):∃ q n c,v = .slice q n c∧Sl B8 w q n c xs:=by
 obtain ⟨q,n,c,e,h | h⟩:=h
 ·exact ⟨q,n,c,e,h.keep hb⟩
 ·exact ⟨q,n,c,e,h.sl⟩
def RRef (wI w:World) (q:Option Addr) (n c:Nat) (X:List Rw):Prop :=
 ∃ vs:List (Value × Value),w.ownsRow wI.heap.size 101 2 (.slice q n c) n (fl2 vs)∧vs.length = n∧X.length = n∧∀ (j:Nat) (u:Value × Value),vs[j]? = some u→∃ k,X[j]? = some k∧OldB wI w u.1 k.1∧OldB wI w u.2 k.2
section
variable {wI w w':World} {q:Option Addr} {n c:Nat} {X:List Rw}
theorem RRef.nil (wI w:World):RRef wI w none 0 0 []:=⟨[],World.ownsRow_nil _ _ _ _,rfl,rfl,fun j u h=>by simp at h⟩
theorem RRef.keep (h:RRef wI w q n c X) (hb:Below w.heap.size w w'):RRef wI w' q n c X:=by
 obtain ⟨vs,o,l1,l2,r⟩:=h
 exact ⟨vs,owns_keep o hb,l1,l2,fun j u hj=>by obtain ⟨k,hk,g1,g2⟩:=r j u hj;exact ⟨k,hk,g1.keep hb,g2.keep hb⟩⟩
theorem RRef.same (h:RRef wI w q n c X) (hsz:w.heap.size≤w'.heap.size) (h1:∀ (b:Nat) (cs:Array Value) (fr:Nat × Nat),w.heap[b]? = some (.cells cs 5 fr)→w'.heap[b]? = w.heap[b]?) (h2:∀ (b:Nat) (cs:Array Value) (fr:Nat × Nat),w.heap[b]? = some (.cells cs 101 fr)→w'.heap[b]? = w.heap[b]?):RRef wI w' q n c X:=by
 obtain ⟨vs,o,l1,l2,r⟩:=h
 refine ⟨vs,owns_same o hsz fun g hg=>?_,l1,l2,fun j u hj=>by obtain ⟨k,hk,g1,g2⟩:=r j u hj;exact ⟨k,hk,g1.same h1,g2.same h1⟩⟩
 rcases o.2 with ⟨e1,_⟩ | ⟨g',cap,cur,e1,_,hh,_⟩
 ·rw [e1] at hg;cases hg
 ·rw [e1] at hg;cases hg
  exact h2 _ _ _ hh
theorem RRef.len (h:RRef wI w q n c X):X.length = n:=by obtain ⟨_,_,_,h,_⟩:=h;exact h
theorem RRef.vals (h:RRef wI w q n c X):∃ vs,RwV w q n c vs∧vs.length = n∧∀ (j:Nat) (u:Value × Value),vs[j]? = some u→∃ k,X[j]? = some k∧OldB wI w u.1 k.1∧OldB wI w u.2 k.2:=by
 obtain ⟨vs,o,l1,l2,r⟩:=h
 refine ⟨vs,RwV.of_owns o fun u hu=>?_,l1,r⟩
 obtain ⟨x,hx,hu⟩:=List.mem_flatMap.1 (show u ∈ vs.flatMap (fun p=>[p.1,p.2]) from hu)
 obtain ⟨j,hj,e⟩:=List.getElem_of_mem hx
 obtain ⟨k,_,⟨q1,n1,c1,e1,_⟩,⟨q2,n2,c2,e2,_⟩⟩:=r j x (by rw [List.getElem?_eq_getElem hj,e])
 simp at hu
 rcases hu with rfl | rfl
 ·rw [e1];rfl
 ·rw [e2];rfl
theorem RRef.rwS (h:RRef wI w q n c X) (hb:Below wI.heap.size wI w):RwS w q n c X:=by
 obtain ⟨vs,hv,l1,r⟩:=h.vals
 refine ⟨h.len,hv.le,hv.max,hv.nil,fun j k hj=>?_⟩
 have hjn:j < n:=by have:=(List.getElem?_eq_some_iff.1 hj).1;have:=h.len;omega
 obtain ⟨k',hk',g1,g2⟩:=r j vs[j] (List.getElem?_eq_getElem (by omega))
 rw [hj] at hk';cases hk'
 obtain ⟨q1,m1,c1,e1,s1⟩:=g1.sl hb
 obtain ⟨q2,m2,c2,e2,s2⟩:=g2.sl hb
 have c0:=fl2_at (vs:=vs) (List.getElem?_eq_getElem (show j < vs.length by omega))
 obtain ⟨b,o,e,hc⟩:=hv.cell (j * 2) _ c0.1
 obtain ⟨b',o',e',hc'⟩:=hv.cell (j * 2 + 1) _ c0.2
 rw [e] at e';cases e'
 exact ⟨b,o,q1,m1,c1,q2,m2,c2,e,by rw [hc,e1],by rw [← e2];exact hc',s1,s2⟩
end
end Go.By
namespace Go.By
open Go.RowKit Go.Proofs.YtccaiiigdfieoaaGreatDoor Gf
theorem red_front {n t i:Nat} {K:List Rw} (h:Red n t K):Red n t (K.take i) :=
 ⟨⟨fun a ha=>h.kept.rows a (List.mem_of_mem_take ha),h.kept.sorted.sublist (List.take_sublist _ _)⟩,h.red.sublist (List.take_sublist _ _)⟩
theorem rest_zero {n t:Nat}:∀ {K:List Rw} {x:Rw},(∀ k,k ∈ K→Fit n t k∧Led k)→Fit n t x→(∀ k,k ∈ K→vR x (leadN k) = 0)→restF K x = x
 | [],x,_,_,_=>rfl
 | k :: K,x,h,hx,h0=>by
  obtain ⟨hf,hl⟩:=h k (by simp)
  have e:lessF x (atS x.1 (leadS k.1)) k = x:=by
   have h1:atS x.1 (leadS k.1) = 0:=by rw [hl.at.1,vR_at hx (hl.at.lt hf)];exact h0 k (by simp)
   unfold lessF
   rw [axpy_zero_of h1 (by rw [hf.1,hx.1]),axpy_zero_of h1 (by rw [hf.2,hx.2])]
  show restF K (lessF x (atS x.1 (leadS k.1)) k) = x
  rw [e]
  exact rest_zero (fun k hk=>h k (by simp [hk])) hx (fun k hk=>h0 k (by simp [hk]))
theorem put_back {n t i:Nat} {K:List Rw} {x:Rw} (h:Red n t K) (hx:K[i]? = some x):putK (K.take i) x = K.take (i + 1)∧codeF (K.take i) x = 0:=by
 obtain ⟨hf,hl⟩:=h.kept.rows x (List.mem_of_getElem? hx)
 have hi:=(List.getElem?_eq_some_iff.1 hx).1
 have e:restF (K.take i) x = x:=rest_zero (fun k hk=>h.kept.rows k (List.mem_of_mem_take hk)) hf (fun k hk=>by
  obtain ⟨j,hj,rfl⟩:=List.getElem_of_mem hk
  have hji:j < i:=by simp at hj;omega
  rw [List.getElem_take,h.delta hx (List.getElem?_eq_getElem (show j < K.length by omega)),if_neg (by omega)])
 have hn:¬ leadS (restF (K.take i) x).1 < 0:=by rw [e,hl.at.1];omega
 refine ⟨?_,by unfold codeF;rw [if_neg hn]⟩
 unfold putK
 rw [if_neg hn]
 obtain ⟨g1,g2,g3,g4,_⟩:=putF_red (red_front h (i:=i)) hf hn
 have et:K.take (i + 1) = K.take i ++ [x]:=by rw [List.take_add_one,hx];rfl
 refine Red.unique g1 (red_front h) (fun k hk=>?_) (fun k hk=>?_)
 ·refine Sp.trans (fun a ha=>?_) (g2 k hk)
  rw [et,List.map_append]
  rcases List.mem_cons.1 ha with rfl | ha
  ·exact Sp.mem (by simp)
  ·exact Sp.mem (List.mem_append_left _ ha)
 ·rw [et] at hk
  rcases List.mem_append.1 hk with hk | hk
  ·exact g3 k hk
  ·rw [List.mem_singleton.1 hk];exact g4
theorem leadS_zeros (k:Nat):leadS (List.replicate k (0:UInt8)) < 0:=by
 by_cases h:leadS (List.replicate k (0:UInt8)) < 0
 ·exact h
 ·exfalso
  obtain ⟨l,c,hc,_,hL,hF,hv⟩:=norm_row (n:=k) (t:=0) (y:=(List.replicate k (0:UInt8),[])) ⟨by simp,rfl⟩ h
  have h1:=vf_lead hL hF
  rw [hv] at h1
  have h2:vf (cat (List.replicate k (0:UInt8),[])) l = 0:=vf_zero (fun x hx=>by
   unfold cat at hx;simp at hx;exact hx.2) l
  simp only [h2,gmul_zero] at h1
  exact absurd h1 (by decide)
theorem put_clash {k t:Nat} {K:List Rw} (h:Red k t K) (ht:1≤t):codeF K (clashRow k t) = 2∧putK K (clashRow k t) = K:=by
 have hf:Fit k t (clashRow k t):=clashRow_len k t
 have e:restF K (clashRow k t) = clashRow k t:=rest_zero h.kept.rows hf (fun r hr=>by
  obtain ⟨hf2,hl2⟩:=h.kept.rows r hr
  have hlt:=hl2.at.lt hf2
  show vf (cat (clashRow k t)) (leadN r) = 0
  unfold cat clashRow
  rw [vf_app_left (by simpa using hlt)]
  exact vf_zero (fun x hx=>(List.mem_replicate.1 hx).2) _)
 have hl:leadS (restF K (clashRow k t)).1 < 0:=by rw [e];exact leadS_zeros k
 have hz:¬ zeroS (restF K (clashRow k t)).2 = true:=by
  rw [e]
  intro hz
  have:=zeroS_all.1 hz 1 (by
   unfold clashRow
   rw [List.mem_iff_getElem?]
   exact ⟨0,by rw [List.getElem?_set_self (by simp;omega)]⟩)
  exact absurd this (by decide)
 unfold codeF putK
 rw [if_pos hl,if_pos hl,if_neg hz]
 exact ⟨rfl,rfl⟩
def StF (k:Nat) (K:List Rw) (st:Nat):Prop:=st≤2∧(st = 1↔K.length = k)
theorem StF.nil {k:Nat} (hk:1≤k):StF k [] 0:=⟨by omega,⟨fun h=>by omega,fun h=>by simp at h;omega⟩⟩
theorem StF.take {k t D st:Nat} {K:List Rw} (h:StF k K st) (xs:List UInt8):StF k (takeK k t D K st xs) (takeS k t D K st xs):=by
 unfold takeK takeS
 by_cases hc:readC k t D xs = 0∧st = 0
 ·rw [if_pos hc,if_pos hc]
  unfold nextS
  by_cases h2:codeF K (eqX k t xs) = 2
  ·rw [if_pos h2]
   have hk:putK K (eqX k t xs) = K:=by
    unfold codeF at h2
    unfold putK
    by_cases hl:leadS (restF K (eqX k t xs)).1 < 0
    ·rw [if_pos hl]
    ·rw [if_neg hl] at h2;cases h2
   rw [hk]
   exact ⟨by omega,⟨fun e=>by omega,fun e=>by have:=h.2.2 e;omega⟩⟩
  ·rw [if_neg h2]
   by_cases hl:(putK K (eqX k t xs)).length = k
   ·rw [if_pos hl];exact ⟨by omega,⟨fun _=>hl,fun _=>rfl⟩⟩
   ·rw [if_neg hl];exact ⟨by omega,⟨fun e=>by omega,fun e=>absurd e hl⟩⟩
 ·rw [if_neg hc,if_neg hc];exact h
theorem expL_read {k t D n:Nat} {x:Rw} (hf:Fit k t x) (hD:D < 4294967296) (hn:n < 4294967296):readC k t D (pktB 0 D n x.1 0 x.2) = 0∧eqX k t (pktB 0 D n x.1 0 x.2) = x:=by
 obtain ⟨h1,h2,_,h4,h5,h6⟩:=read_write (m:=0) (D:=D) (n:=n) (s:=0) (k:=k) (t:=t) (xs:=x.1) (ys:=x.2) rfl (fun _=>hf.1) hf.2 hD hn
 refine ⟨h1,?_⟩
 unfold eqX
 rw [h2,h4,h5,h6]
 have e:vecS 0 (rdX 0 (srcB 0 x.1 0)) (rdS 0 (srcB 0 x.1 0)) k = x.1:=by
  unfold vecS rdX srcB
  rw [if_pos rfl,if_pos rfl,if_pos rfl]
 rw [e]
theorem expL_ok {k t D:Nat} {R:List Rw} (hR:∀ r,r ∈ R→Fit k t r) (hD:D < 4294967296) (hl:R.length≤1000000) {i:Nat} {x:List UInt8} (h:(expL D R)[i]? = some x):readC k t D x = 0:=by
 have hi:i < R.length:=by have:=(List.getElem?_eq_some_iff.1 h).1;rw [expL_len] at this;exact this
 have h1:R[i]? = some R[i]:=List.getElem?_eq_getElem hi
 rw [expL_at h1] at h
 injection h with h
 rw [← h]
 exact (expL_read (hR _ (List.mem_of_getElem? h1)) hD (by omega)).1
theorem hear_rows {k t D:Nat} {K R:List Rw} (h:Red k t K) (hk:1≤k) (hD:D < 4294967296) (hl:R.length≤1000000) (hR:R.take K.length = K):∀ i,i≤K.length→tkR k t D ((expL D R).take i) = (K.take i,if i = k then 1 else 0)
 | 0,_=>by rw [if_neg (by omega)];rfl
 | i + 1,hi=>by
  have hx:K[i]? = some K[i]:=List.getElem?_eq_getElem (by omega)
  have hx2:R[i]? = some K[i]:=by
   have e1:(R.take K.length)[i]? = R[i]?:=by rw [List.getElem?_take,if_pos (by omega)]
   rw [← e1,hR];exact hx
  have hKk:K.length≤k:=Red.le h
  have hRl:i < R.length:=(List.getElem?_eq_some_iff.1 hx2).1
  rw [tkR_snoc (expL_at hx2),hear_rows h hk hD hl hR i (by omega),if_neg (by omega)]
  obtain ⟨r1,r2⟩:=expL_read (n:=i) (h.kept.rows _ (List.mem_of_getElem? hx)).1 hD (by omega)
  obtain ⟨p1,p2⟩:=put_back h hx
  unfold tkF takeK takeS
  simp only [r1,r2,and_self,if_true]
  unfold nextS
  rw [p1,p2,if_neg (by decide),List.length_take,Nat.min_eq_left (by omega)]
theorem hear_again {k t D st:Nat} {K:List Rw} (h:Red k t K) (hs:StF k K st) (hk:1≤k) (ht:1≤t) (hD:D < 4294967296) (hl:K.length≤100000):tkR k t D (expL D (expR k t K st)) = (K,st):=by
 have hf:∀ r,r ∈ K→Fit k t r:=fun r hr=>(h.kept.rows r hr).1
 by_cases h2:st = 2
 ·subst h2
  rw [expR_two]
  have hn:K.length≠k:=fun e=>by have:=hs.2.2 e;omega
  have h1:=hear_rows (R:=K ++ [clashRow k t]) h hk hD (by simp;omega) (by simp) K.length (Nat.le_refl _)
  rw [if_neg hn,List.take_length] at h1
  have hx:(K ++ [clashRow k t])[K.length]? = some (clashRow k t):=by simp
  have h3:=tkR_snoc (k:=k) (t:=t) (D:=D) (expL_at (D:=D) hx)
  rw [h1] at h3
  have hlen:(expL D (K ++ [clashRow k t])).length = K.length + 1:=by rw [expL_len];simp
  rw [List.take_of_length_le (by omega)] at h3
  rw [h3]
  obtain ⟨r1,r2⟩:=expL_read (D:=D) (n:=K.length) (clashRow_len k t) hD (by omega)
  obtain ⟨p1,p2⟩:=put_clash h ht
  unfold tkF takeK takeS
  simp only [r1,r2,and_self,if_true]
  unfold nextS
  rw [p1,p2,if_pos rfl]
 ·rw [expR_not h2]
  have h1:=hear_rows (R:=K) h hk hD (by omega) (by simp) K.length (Nat.le_refl _)
  rw [List.take_length,List.take_of_length_le (by rw [expL_len];exact Nat.le_refl _)] at h1
  rw [h1]
  by_cases he:K.length = k
  ·rw [if_pos he,hs.2.2 he]
  ·rw [if_neg he]
   have:st≠1:=fun e=>he (hs.2.1 e)
   have:st = 0:=by have:=hs.1;omega
   rw [this]
end Go.By
namespace Go.By
open Go.RowKit Go.Proofs.YtccaiiigdfieoaaGreatDoor Gf
end Go.By
namespace Go.Proofs.YtccaiiigdfieoaaGreatDoor
open Go.RowKit Go.By
end Go.Proofs.YtccaiiigdfieoaaGreatDoor
namespace Go.Proofs.YtccaiiigdfieoaaGreatDoor
open Go.RowKit Go.By
end Go.Proofs.YtccaiiigdfieoaaGreatDoor
namespace Go.By
open Go.RowKit Go.Maps
end Go.By
namespace Go.Proofs.YtccaiiigdfieoaaGreatDoor
open Go.RowKit Go.By Go.Maps
end Go.Proofs.YtccaiiigdfieoaaGreatDoor
namespace Go.Proofs.YtccaiiigdfieoaaGreatDoor
open Go.RowKit Go.By Go.Maps
end Go.Proofs.YtccaiiigdfieoaaGreatDoor
namespace Go.Proofs.YtccaiiigdfieoaaGreatDoor
open Go.RowKit Go.By Go.Maps
end Go.Proofs.YtccaiiigdfieoaaGreatDoor
namespace Go.Proofs
open Go.Shelf
end Go.Proofs
namespace Go.By
open Go.RowKit Go.Maps Go.ChangeMaps
end Go.By
namespace Go.Proofs.YtccaiiigdfieoaaGreatDoor
open Go.RowKit Go.By Go.Maps Go.Sort Go.Shelf
end Go.Proofs.YtccaiiigdfieoaaGreatDoor
namespace Go.Proofs.YtccaiiigdfieoaaGreatDoor
open Go.RowKit Go.By Go.Maps Go.Sort Go.Shelf
end Go.Proofs.YtccaiiigdfieoaaGreatDoor
namespace Go.By
open Go.RowKit
end Go.By
namespace Go.Proofs.YtccaiiigdfieoaaGreatDoor
open Go.RowKit Go.By
end Go.Proofs.YtccaiiigdfieoaaGreatDoor
namespace Go.Proofs.YtccaiiigdfieoaaGreatDoor
open Go.RowKit Go.By Go.Maps
end Go.Proofs.YtccaiiigdfieoaaGreatDoor
namespace Go.Proofs.YtccaiiigdfieoaaGreatDoor
open Go.RowKit Go.By Go.Maps
end Go.Proofs.YtccaiiigdfieoaaGreatDoor
namespace Go.By
open Go.RowKit
end Go.By
namespace Go.By
open Go.RowKit Go.Maps Go.Proofs.YtccaiiigdfieoaaGreatDoor
end Go.By
namespace Go.Proofs.YtccaiiigdfieoaaGreatDoor
open Go.RowKit Go.By Go.Maps
end Go.Proofs.YtccaiiigdfieoaaGreatDoor
namespace Go.Proofs.YtccaiiigdfieoaaGreatDoor
open Go.RowKit Go.By
set_option maxHeartbeats 1000000 in
theorem RShift5_any (z b:Nat) (hz:z < 18446744073709551616) (hb:b≤64) (w:World) :
  Calls Tryz.prog 260 #[.int .u64 (z:Nat),.int .i64 (b:Nat)] w fun e w'=>e = .returned (.int .u64 (mixX z b:Nat))∧w = w':=by
 have HZ:=Lib.hid hz
 clear hz
 go_enter Tryz.func260,Tryz.ntmps260
 go_wp2
 go_loop [5,6] (fun kv iv=>∃ j y:Nat,j≤b∧y < 18446744073709551616∧iv = .int .i64 (j:Nat)∧kv = .int .u64 (y:Nat)∧Hid (y = z / 2 ^ j)) (fun _ i=>b - (intOf i).toNat)
 case atStart=>exact ⟨0,z,Nat.zero_le _,HZ.out,rfl,rfl,by show z = z / 2 ^ 0;simp⟩
 case round =>
  obtain ⟨j,y,hj,hy64,rfl,rfl,hy⟩:=hrel
  by_cases hlt:j < b
  ·have hlt':(j:Int) < (b:Int):=by omega
   have HY:Hid (y / 2 = z / 2 ^ (j + 1)):=by show _ = _;rw [hy.out,Nat.div_div_eq_div_mul,Nat.pow_succ]
   clear hlt
   go_wp2
   go_round
   case rel=>exact ⟨j + 1,y / 2,by omega,by omega,by go_num,by go_num,HY.out⟩
   case measure=>simp [intOf];omega
  ·obtain rfl:j = b:=by omega
   have e1:bits .xor .u64 (z:Int) (y:Int) = (mixX z j:Int):=by
    rw [bits_xor64 HZ.out hy64,hy.out];rfl
   clear hlt hj hy
   go_wp2_with (simp only [e1])
   go_ret
   exact ⟨rfl,rfl⟩
set_option maxHeartbeats 1000000 in
theorem RNext5_any (s:Nat) (w:World) :
  Calls Tryz.prog 235 #[.int .u64 (s:Nat)] w fun e w'=>e = .returned (.tuple #[.int .u64 (mixS s:Nat),.int .u64 (mixZ (mixS s):Nat)])∧w = w':=by
 have w1:IntKind.u64.wrap ((s:Int) + 11400714819323198485) = (mixS s:Int):=by rw [IntKind.wrap_u64];unfold mixS;omega
 have hl:=mixS_lt s
 obtain ⟨S,hS⟩:∃ S,S = mixS s:=⟨_,rfl⟩
 unfold mixZ
 rw [← hS] at w1 hl ⊢
 have c1:=Lib.hid (fun w=>RShift5_any S 30 hl (by decide) w)
 obtain ⟨Y,hY⟩:∃ Y,Y = mixX S 30:=⟨_,rfl⟩
 rw [← hY] at c1 ⊢
 have m1:IntKind.u64.wrap ((Y:Int) * 13787848793156543929) = ((Y * 13787848793156543929 % 18446744073709551616:Nat):Int):=by rw [IntKind.wrap_u64];omega
 obtain ⟨Z,hZ⟩:∃ Z,Z = Y * 13787848793156543929 % 18446744073709551616:=⟨_,rfl⟩
 have lz:Z < 18446744073709551616:=by rw [hZ];exact Nat.mod_lt _ (by decide)
 rw [← hZ] at m1 ⊢
 have c2:=Lib.hid (fun w=>RShift5_any Z 27 lz (by decide) w)
 obtain ⟨Y2,hY2⟩:∃ Y,Y = mixX Z 27:=⟨_,rfl⟩
 rw [← hY2] at c2 ⊢
 have m2:IntKind.u64.wrap ((Y2:Int) * 10723151780598845931) = ((Y2 * 10723151780598845931 % 18446744073709551616:Nat):Int):=by rw [IntKind.wrap_u64];omega
 obtain ⟨Z2,hZ2⟩:∃ Z,Z = Y2 * 10723151780598845931 % 18446744073709551616:=⟨_,rfl⟩
 have lz2:Z2 < 18446744073709551616:=by rw [hZ2];exact Nat.mod_lt _ (by decide)
 rw [← hZ2] at m2 ⊢
 have c3:=Lib.hid (fun w=>RShift5_any Z2 31 lz2 (by decide) w)
 obtain ⟨Y3,hY3⟩:∃ Y,Y = mixX Z2 31:=⟨_,rfl⟩
 rw [← hY3] at c3 ⊢
 clear hS hY hZ hY2 hZ2 hY3 hl lz lz2
 go_enter Tryz.func235,Tryz.ntmps235
 go_wp2_with fail
 refine Calls.mono (c1.out _) ?_
 rintro e wa ⟨rfl,rfl⟩
 go_wp2_with fail
 refine Calls.mono (c2.out _) ?_
 rintro e wa ⟨rfl,rfl⟩
 go_wp2_with fail
 refine Calls.mono (c3.out _) ?_
 rintro e wa ⟨rfl,rfl⟩
 go_wp2
 go_ret2
 exact ⟨rfl,rfl⟩
def lnV:Value→Nat
 | .slice _ n _=>n
 | _=>0
theorem mixRow_at {s n i:Nat} (h:i < n):(mixRow s n)[i]? = some (mixAt s i):=by
 unfold mixRow
 rw [List.getElem?_map,List.getElem?_range h];rfl
set_option maxRecDepth 100000 in
set_option maxHeartbeats 2000000 in
theorem RBytes5_any (s n:Nat) (hn:n≤65536) (w:World) :
  Calls Tryz.prog 202 #[.int .u64 (s:Nat),.int .i64 (n:Nat)] w fun e w'=>∃ s' q c,e = .returned (.tuple #[.int .u64 s',.slice q n c])∧w'.ownsRow w.heap.size 5 1 (.slice q n c) n ((mixRow s n).map B8)∧Below w.heap.size w w':=by
 obtain ⟨i0,hi,hz0,hz1,hz2⟩:=info_parts info_u8
 go_enter Tryz.func202,Tryz.ntmps202
 go_wp2
 go_loopw [0,6] (fun sv v wr=>∃ q:Nat,8 * q≤n + 7∧sv = .int .u64 (mixIt s q:Nat)∧Hid (wr.ownsRow w.heap.size 5 1 v (min (8 * q) n) (((mixRow s n).take (min (8 * q) n)).map B8))∧Hid (Below w.heap.size w wr)) (fun _ v _=>n - lnV v)
 case atStart=>exact ⟨0,by omega,rfl,Lib.hid (by simpa using World.ownsRow_nil w w.heap.size 5 1),Below.refl _ _⟩
 case round =>
  obtain ⟨q,hq,rfl,HO,HB⟩:=hrel
  obtain ⟨p0,c0,rfl⟩:=owns_shape HO.out
  by_cases hlt:8 * q < n
  ·rw [show min (8 * q) n = 8 * q by omega] at HO ⊢
   have HLT:=Lib.hid hlt
   clear hlt
   have hlt':((8 * q:Nat):Int) < (n:Int):=by have:=HLT.out;omega
   have hnx:=RNext5_any (mixIt s q) wr
   rw [show mixS (mixIt s q) = mixIt s (q + 1) from rfl] at hnx
   obtain ⟨X,hX⟩:∃ X,X = mixZ (mixIt s (q + 1)):=⟨_,rfl⟩
   rw [← hX] at hnx
   have HX:=Lib.hid hX
   have HN:=Lib.hid hnx
   have hX64:X < 18446744073709551616:=by rw [hX];exact mixZ_lt _
   have HX64:=Lib.hid hX64
   clear hX hnx hX64
   go_wp2_with fail
   refine Calls.mono HN.out ?_
   rintro e wa ⟨rfl,rfl⟩
   clear HN
   obtain ⟨st,hst⟩:∃ st,st = mixIt s (q + 1):=⟨_,rfl⟩
   rw [← hst]
   have HST:=Lib.hid hst
   clear hst
   go_wp2
   go_loopw [6,8,9] (fun v xv jv wi=>∃ j x:Nat,j≤8∧x < 18446744073709551616∧jv = .int .i64 (j:Nat)∧xv = .int .u64 (x:Nat)∧Hid (x = X / 256 ^ j)∧Hid (wi.ownsRow w.heap.size 5 1 v (min (8 * q + j) n) (((mixRow s n).take (min (8 * q + j) n)).map B8))∧Hid (Below w.heap.size w wi)) (fun _ _ jv _=>8 - (intOf jv).toNat)
   case atStart=>exact ⟨0,X,by omega,HX64.out,rfl,rfl,by show X = X / 256 ^ 0;simp,by rw [Nat.add_zero,show min (8 * q) n = 8 * q by have:=HLT.out;omega];exact HO.out,HB.out⟩
   case round =>
    clear HO HB
    obtain ⟨j,x,hj,hx,rfl,rfl,HXJ,HO,HB⟩:=hrel
    obtain ⟨p1,c1,rfl⟩:=owns_shape HO.out
    by_cases hj8:j < 8
    ·have hj8':(j:Int) < 8:=by omega
     have HXN:Hid (x / 256 = X / 256 ^ (j + 1)):=by show _ = _;rw [HXJ.out,Nat.div_div_eq_div_mul,Nat.pow_succ]
     have HJ:=Lib.hid hj8
     clear hj8
     by_cases hin:8 * q + j < n
     ·rw [show min (8 * q + j) n = 8 * q + j by omega] at HO ⊢
      have hin':((8 * q + j:Nat):Int) < (n:Int):=by omega
      have A1:IntKind.u8.wrap ((x:Int) % 256) = ((mixAt s (8 * q + j)).toNat:Int):=by
       have e1:(8 * q + j) / 8 = q:=by have:=HJ.out;omega
       have e2:(8 * q + j) % 8 = j:=by have:=HJ.out;omega
       unfold mixAt
       rw [e1,e2,← HX.out,← HXJ.out,UInt8.toNat_ofNat',IntKind.wrap_u8]
       omega
      have HIN:=Lib.hid hin
      obtain ⟨L,eL⟩:∃ L,L = ((mixRow s n).take (8 * q + j)).map B8:=⟨_,rfl⟩
      rw [← eL] at HO
      have HEL:=Lib.hid eL
      obtain ⟨b8,hb8⟩:∃ b8,b8 = mixAt s (8 * q + j):=⟨_,rfl⟩
      rw [← hb8] at A1
      have HB8:=Lib.hid hb8
      obtain ⟨m,hm⟩:∃ m,m = 8 * q + j:=⟨_,rfl⟩
      rw [← hm] at HO hin'
      rw [← hm]
      have HM:=Lib.hid hm
      have hm6:m≤65536:=by omega
      clear hin eL hb8 hm
      go_wp2_with (first
       | simp only [A1]
       | (at_builtin;refine wpList_append_rs _ rfl _ _ 22 rfl w.heap.size 5 i0 (.int .u8 0) 1 Tryz.underlying22 hi hz0 hz1 hz2 rfl _ m _ rfl (HO.out.alloc _) B8 _ _ _ [b8] (fun _ _=>rfl) rfl (sl_one rfl rfl) ?c1 ?c2 ?c3 ?_))
      case c1=>unfold maxLen;simp;omega
      case c2=>simp;omega
      case c3=>have:=HB.out.size;simp;omega
      intro v' w' ho hg
      have HO':=Lib.hid ho;clear ho
      have HB':=Lib.hid ((HB.out.alloc HB.out.size _).grown hg (by have:=HB.out.size;simp;omega) (fun j hj=>(HO.out.lt j hj).1))
      clear hg
      go_wp2
      go_roundw
      case rel =>
       refine ⟨j + 1,x / 256,by have:=HJ.out;omega,by omega,by go_num,by go_num,HXN.out,?_,HB'.out⟩
       have h1:=HIN.out
       rw [show min (8 * q + (j + 1)) n = (8 * q + j) + 1 by omega,List.take_add_one,mixRow_at h1,List.map_append,← HEL.out,← HM.out]
       have h2:=HO'.out
       rw [HB8.out,← HM.out] at h2
       exact h2
      case measure=>simp [intOf];have:=HJ.out;omega
     ·rw [show min (8 * q + j) n = n by omega] at HO ⊢
      have HIN:Hid (min (8 * q + (j + 1)) n = n):=by show _ = _;omega
      clear hin
      go_wp2
      go_roundw
      case rel=>exact ⟨j + 1,x / 256,by have:=HJ.out;omega,by omega,by go_num,by go_num,HXN.out,by rw [HIN.out];exact HO.out,HB.out⟩
      case measure=>simp [intOf];have:=HJ.out;omega
    ·obtain rfl:j = 8:=by omega
     clear hj8 hj
     go_wp2
     go_roundw
     case rel=>exact ⟨q + 1,by have:=HLT.out;omega,by rw [HST.out],by rw [show 8 * (q + 1) = 8 * q + 8 by omega];exact HO.out,HB.out⟩
     case measure=>simp [lnV];have:=HLT.out;omega
  ·rw [show min (8 * q) n = n by omega] at HO ⊢
   have hge:¬ (n:Int) < (n:Int):=by omega
   have HE:Hid ((mixRow s n).take n = mixRow s n):=by show _ = _;exact List.take_of_length_le (by rw [mixRow_len];exact Nat.le_refl _)
   clear hlt hq
   go_wp2
   go_ret2
   have h1:=HO.out
   rw [HE.out] at h1
   exact ⟨_,p0,c0,rfl,h1,HB.out⟩
end Go.Proofs.YtccaiiigdfieoaaGreatDoor
namespace Go.By
open Go.RowKit
theorem wp_region_row {P:Program} {ops:Array Oper} {Q:Exit→Act→World→Prop} {id:Nat} {a0:Act} {w0:World} (sv:Nat→Value) (n m g T:Nat) (cs:Array Value) (hn:a0.tmps.size = n) (hm:P.follows .mixedOrders = true) (hback:backB ops = true) (hdist:distB ops = true) (hpair:pairB ops n m m = true)
  (z:∃ old,w0.heap[g]? = some (.cells old T (0,0))∧old.size = cs.size)
  (each:∀ i o,i≠m→ops[i]? = some o→∀ a w,TwoE w0 g g w→a.tmps.size = a0.tmps.size→(∀ k d,k ∈ preds o→k≠m→dstOf ops k = some d→sl a d = sv k)→(∀ t,initAt ops i t = true→sl a t = sl a0 t)→o.wp P a w (fun a' w'=>a' = a.put o.dst (sv i)∧w' = w) Q)
  (st:∀ o,ops[m]? = some o→∀ a w,TwoE w0 g g w→a.tmps.size = a0.tmps.size→(∀ k d,k ∈ preds o→k≠m→dstOf ops k = some d→sl a d = sv k)→(∀ t,initAt ops m t = true→sl a t = sl a0 t)→∀ old,w.heap[g]? = some (.cells old T (0,0))→old.size = cs.size→o.wp P a w (fun a' w'=>a' = a.put o.dst undef∧w' = w.setRow g cs) Q)
  (hs:m < ops.size)
  (fin:∀ a w,TwoE w0 g g w→w.heap[g]? = some (.cells cs T (0,0))→a.tmps.size = a0.tmps.size→a.defers = a0.defers→(∀ j d,j < ops.size→j≠m→dstOf ops j = some d→sl a d = sv j)→(∀ t,(ops.toList.all fun o=>o.dst != some t) = true→sl a t = sl a0 t)→Q .normal a w) :
  (Code.region id ops true).wp P Q a0 w0:=by
 have hp:∀ i o,ops[i]? = some o→o.guard = none∧(i≠m→∃ d,o.dst = some d∧d < n)∧(i = m→o.dst = none):=fun i o ho=>by
  have h0:=List.all_eq_true.1 hpair i (List.mem_range.2 (Array.getElem?_eq_some_iff.1 ho).1)
  rw [ho] at h0
  simp only [Bool.and_eq_true] at h0
  refine ⟨by cases hg:o.guard <;> simp [hg] at h0 ⊢,fun h1=>?_,fun h=>?_⟩
  ·have h3:=h0.2
   rw [if_neg (by simp [h1])] at h3
   cases hd:o.dst with
   | none=>rw [hd] at h3;cases h3
   | some d=>rw [hd] at h3;exact ⟨d,rfl,of_decide_eq_true h3⟩
  ·have h3:=h0.2
   rw [if_pos (by simp [h])] at h3
   cases hd:o.dst <;> simp [hd] at h3 ⊢
 refine wp_region_each hm hback (fun _ w=>TwoE w0 g g w∧∃ old,w.heap[g]? = some (.cells old T (0,0))∧old.size = cs.size)
  (fun i w w'=>if i = m then w' = w.setRow g cs else w' = w)
  (fun j σ w=>if j = m then w.heap[g]? = some (.cells cs T (0,0)) else ∀ d,dstOf ops j = some d→σ d = sv j) ?_ ?_ ?_ ?_ ?_
 ·exact ⟨⟨rfl,rfl,rfl,rfl,fun _ _ _=>rfl⟩,z⟩
 ·intro i w w' hE hR
  obtain ⟨hE,o1,h1,e1⟩:=hE
  by_cases hi1:i = m
  ·rw [if_pos hi1] at hR
   subst hR
   exact ⟨hE.row1 _,cs,hrs h1,rfl⟩
  ·rw [if_neg hi1] at hR
   subst hR
   exact ⟨hE,o1,h1,e1⟩
 ·intro i j oi oj σ σ' w w' hij hoi hoj _ hI hR hσ _ _
  by_cases hj1:j = m
  ·subst hj1
   rw [if_pos rfl] at hI ⊢
   rw [if_neg hij] at hR
   subst hR;exact hI
  ·rw [if_neg hj1] at hI ⊢
   intro d hd
   have hne:oi.dst≠some d:=by
    intro e
    have hi':i < ops.size:=(Array.getElem?_eq_some_iff.1 hoi).1
    have hj':j < ops.size:=(Array.getElem?_eq_some_iff.1 hoj).1
    have:=List.all_eq_true.1 (List.all_eq_true.1 hdist i (List.mem_range.2 hi')) j (List.mem_range.2 hj')
    rw [hoi,hoj] at this
    have hdj':oj.dst = some d:=by simpa [dstOf,hoj] using hd
    simp [e,hdj',hij] at this
   rw [hσ d hne]
   exact hI d hd
 ·have key:∀ i o,ops[i]? = some o→StepOf P ops Q a0 w0.drew (fun _ w=>TwoE w0 g g w∧∃ old,w.heap[g]? = some (.cells old T (0,0))∧old.size = cs.size)
    (fun i w w'=>if i = m then w' = w.setRow g cs else w' = w)
    (fun j σ w=>if j = m then w.heap[g]? = some (.cells cs T (0,0)) else ∀ d,dstOf ops j = some d→σ d = sv j) i o:=by
   intro i o ho a w hE hsz hpr hin
   obtain ⟨hE,o1,h1,e1⟩:=hE
   obtain ⟨hg,hd,hd2⟩:=hp i o ho
   rw [if_pos (by simp [Region.wanted,hg])]
   have hpr':∀ k d,k ∈ preds o→k≠m→dstOf ops k = some d→sl a d = sv k:=fun k d hk k1 hdk=>by
    have:=hpr k hk
    dsimp only at this
    rw [if_neg k1] at this
    exact this d hdk
   by_cases hi1:i = m
   ·subst hi1
    refine Oper.wp_mono (fun a' w' hq=>?_) (st o ho a w hE hsz hpr' hin o1 h1 e1)
    obtain ⟨rfl,rfl⟩:=hq
    exact ⟨undef,rfl,by dsimp only;rw [if_pos rfl],by dsimp only;rw [if_pos rfl];exact hrs h1⟩
   ·refine Oper.wp_mono (fun a' w' hq=>?_) (each i o hi1 ho a w hE hsz hpr' hin)
    obtain ⟨rfl,rfl⟩:=hq
    refine ⟨sv i,rfl,by dsimp only;rw [if_neg hi1],?_⟩
    dsimp only
    rw [if_neg hi1]
    intro d hdd
    obtain ⟨d',hd',hdn⟩:=hd hi1
    have:d' = d:=by
     have:o.dst = some d:=by simpa [dstOf,ho] using hdd
     rw [hd'] at this;exact Option.some.inj this
    subst this
    rw [hd']
    exact put_same _ _ _ (by rw [hsz,hn];exact hdn)
  exact each_all key ops.toList 0 fun j o hj=>by simpa using hj
 ·intro a w hE hs2 hd hI ht
  obtain ⟨hE,_⟩:=hE
  have i1:=hI m hs
  rw [if_pos rfl] at i1
  refine fin a w hE i1 hs2 hd (fun j d hj j1 hdj=>?_) ht
  have:=hI j hj
  rw [if_neg j1] at this
  exact this d hdj
end Go.By
namespace Go.By
open Go.RowKit
def fourN (xs:List UInt8) (j:Nat):Nat:=(xs.drop (4 - j)).foldr (fun b a=>256 * a + b.toNat) 0
theorem fourN_succ {xs:List UInt8} (hl:xs.length = 4) {j:Nat} (hj:j < 4) {x:UInt8} (hx:xs[3 - j]? = some x):fourN xs (j + 1) = 256 * fourN xs j + x.toNat:=by
 obtain ⟨h1,h2⟩:=List.getElem?_eq_some_iff.1 hx
 unfold fourN
 rw [show 4 - (j + 1) = 3 - j by omega,List.drop_eq_getElem_cons h1,h2,show 3 - j + 1 = 4 - j by omega]
 rfl
theorem fourN_get4 {xs:List UInt8} (hl:xs.length = 4):fourN xs 4 = get4 xs:=by
 match xs,hl with
 | [a,b,c,d],_ =>
  show 256 * (256 * (256 * (256 * 0 + d.toNat) + c.toNat) + b.toNat) + a.toNat = a.toNat + 256 * b.toNat + 65536 * c.toNat + 16777216 * d.toNat
  omega
theorem fourN_lt {xs:List UInt8} (hl:xs.length = 4):∀ j,j≤4→fourN xs j < 256 ^ j
 | 0,_=>by
  unfold fourN
  rw [List.drop_eq_nil_of_le (by omega)]
  decide
 | j + 1,hj=>by
  have h1:3 - j < xs.length:=by omega
  have:=fourN_succ hl (j:=j) (by omega) (List.getElem?_eq_getElem h1)
  have ih:=fourN_lt hl j (by omega)
  have hx:=(xs[3 - j]).toNat_lt
  rw [this,Nat.pow_succ]
  omega
end Go.By
namespace Go.Proofs.YtccaiiigdfieoaaGreatDoor
open Go.RowKit Go.By
set_option maxHeartbeats 1000000 in
theorem RFour13_any (p:Option Addr) (n c:Nat) (xs:List UInt8) (w:World) (h:Sl B8 w p n c xs) (hl:xs.length = 4) :
  Calls Tryz.prog 201 #[.slice p n c] w fun e w'=>e = .returned (.int .u32 (get4 xs:Nat))∧w = w':=by
 have hn:n = 4:=by rw [← h.len];exact hl
 subst hn
 have H:=Lib.hid h;have HL:=Lib.hid hl;clear h hl
 go_enter Tryz.func201,Tryz.ntmps201
 go_wp2
 go_loop [3,4] (fun nv iv=>∃ r v:Nat,r≤4∧iv = .int .i64 ((r:Int) - 1)∧nv = .int .u32 (v:Nat)∧Hid (v = fourN xs (4 - r))) (fun _ i=>(intOf i + 1).toNat)
 case atStart=>exact ⟨4,0,by omega,rfl,rfl,by show 0 = fourN xs 0;unfold fourN;rw [List.drop_eq_nil_of_le (by rw [HL.out];omega)];rfl⟩
 case round =>
  obtain ⟨r,v,hr,rfl,rfl,hv⟩:=hrel
  cases r with
  | zero =>
   have hv4:v = get4 xs:=by rw [hv.out,show 4 - 0 = 4 from rfl,fourN_get4 HL.out]
   subst hv4
   go_wp2
   go_ret
   exact ⟨rfl,rfl⟩
  | succ r =>
   rw [show (((r + 1:Nat):Int) - 1) = (r:Int) by omega]
   obtain ⟨b,o,x,rfl,hc,hx⟩:=H.out.at r (by omega)
   have hlt:=fourN_lt HL.out (4 - (r + 1)) (by omega)
   have hle:256 ^ (4 - (r + 1))≤16777216:=Nat.pow_le_pow_right (by decide) (show 4 - (r + 1)≤3 by omega)
   have hv3:v < 16777216:=by rw [hv.out];omega
   have hxb:=x.toNat_lt
   have HV:Hid (256 * v + x.toNat = fourN xs (4 - r)):=by
    show _ = _
    have:=fourN_succ HL.out (j:=4 - (r + 1)) (by omega) (x:=x) (by rw [show 3 - (4 - (r + 1)) = r by omega];exact hx.out)
    rw [hv.out,← this];congr 1;omega
   have A1:IntKind.u32.wrap (256 * (v:Int)) = ((256 * v:Nat):Int):=by rw [IntKind.wrap_u32];omega
   have A2:IntKind.u32.wrap (x.toNat:Int) = (x.toNat:Int):=by rw [IntKind.wrap_u32];omega
   have A3:IntKind.u32.wrap (((256 * v:Nat):Int) + (x.toNat:Int)) = ((256 * v + x.toNat:Nat):Int):=by rw [IntKind.wrap_u32];omega
   have hr4:r < 4:=by omega
   have hr4':(r:Int) < 4:=by omega
   generalize 256 * v + x.toNat = v2 at *
   generalize 256 * v = v1 at *
   clear hlt hle hv hx hxb hr hv3
   go_wp2_with (first | simp only [A1] | simp only [A2] | simp only [A3])
   go_round
   case rel=>exact ⟨r,v2,by omega,by simp,rfl,HV.out⟩
   case measure=>simp [intOf] <;> omega
set_option maxHeartbeats 1000000 in
theorem REight15_any (p:Option Addr) (n c:Nat) (xs:List UInt8) (w:World) (h:Sl B8 w p n c xs) (hl:8≤n) :
  Calls Tryz.prog 145 #[.slice p n c] w fun e w'=>e = .returned (.int .u64 (get8 (xs.take 8):Nat))∧w = w':=by
 have hb:=h.bound
 have H:=Lib.hid h;clear h
 go_enter Tryz.func145,Tryz.ntmps145
 go_wp2
 go_loop [3,4] (fun nv iv=>∃ i v:Nat,i≤8∧iv = .int .i64 (i:Nat)∧nv = .int .u64 (v:Nat)∧Hid (v = get8 (xs.take i))) (fun _ i=>8 - (intOf i).toNat)
 case atStart=>exact ⟨0,0,by omega,rfl,rfl,rfl⟩
 case round =>
  obtain ⟨i,v,hi,rfl,rfl,hv⟩:=hrel
  by_cases hlt:i < 8
  ·obtain ⟨b,o,x,rfl,hc,hx⟩:=H.out.at i (by omega)
   have hvl:v < 256 ^ i:=by rw [hv.out];exact get8_lt xs i
   have hpl:256 ^ i≤72057594037927936:=Nat.pow_le_pow_right (by decide) (show i≤7 by omega)
   have hv7:v < 72057594037927936:=by omega
   have hxb:=x.toNat_lt
   have HV:Hid (256 * v + x.toNat = get8 (xs.take (i + 1))):=by show _ = _;rw [get8_take hx.out,← hv.out];omega
   have A1:IntKind.u64.wrap (256 * (v:Int)) = ((256 * v:Nat):Int):=by rw [IntKind.wrap_u64];omega
   have A2:IntKind.u64.wrap (x.toNat:Int) = (x.toNat:Int):=by rw [IntKind.wrap_u64];omega
   have A3:IntKind.u64.wrap (((256 * v:Nat):Int) + (x.toNat:Int)) = ((256 * v + x.toNat:Nat):Int):=by rw [IntKind.wrap_u64];omega
   have hin:i < n:=by omega
   have hin':(i:Int) < (n:Int):=by omega
   have hlt':(i:Int) < 8:=by omega
   generalize 256 * v + x.toNat = v2 at *
   generalize 256 * v = v1 at *
   clear hvl hpl hv hx hxb hv7
   go_wp2_with (first | simp only [A1] | simp only [A2] | simp only [A3])
   go_round
   case rel=>exact ⟨i + 1,v2,by omega,by go_num,rfl,HV.out⟩
   case measure=>simp [intOf];omega
  ·obtain rfl:i = 8:=by omega
   have hv8:v = get8 (xs.take 8):=hv.out
   subst hv8
   clear hlt hi hv
   go_wp2
   go_ret
   exact ⟨rfl,rfl⟩
theorem RWidth14_any (m:UInt8) (k:Nat) (hm:modeC m = 0) (h1:1≤k) (h2:k≤4096) (w:World) :
  Calls Tryz.prog 144 #[B8 m,.int .i64 (k:Nat)] w fun e w'=>e = .returned (.tuple #[.int .i64 (widS m k:Nat),.int .i64 0])∧w = w':=by
 have h1':¬ (k:Int) < 1:=by omega
 have h2':¬ (4096:Int) < (k:Int):=by omega
 have hm2:m = 0∨m = 1:=by
  unfold modeC at hm
  by_cases h:m = 0∨m = 1
  ·exact h
  ·rw [if_neg h] at hm;cases hm
 clear h1 h2 hm
 rcases hm2 with rfl | rfl
 ·rw [show widS 0 k = k from if_pos rfl,show B8 0 = .int .u8 0 from rfl]
  go_enter Tryz.func144,Tryz.ntmps144
  go_wp2
  go_ret2
  exact ⟨rfl,rfl⟩
 ·rw [show widS 1 k = 8 from rfl,show B8 1 = .int .u8 1 from rfl]
  go_enter Tryz.func144,Tryz.ntmps144
  go_wp2
  go_ret2
  exact ⟨rfl,rfl⟩
set_option maxHeartbeats 1000000 in
theorem RLength15_ok (L t k D:Nat) (m:UInt8) (w:World) (hP:POK L t k D) (hm:modeC m = 0) :
  Calls Tryz.prog 141 #[PVal L t k D,B8 m] w fun e w'=>e = .returned (.tuple #[.int .i64 (lenP m k t:Nat),.int .i64 0])∧Below w.heap.size w w':=by
 have HK:Hid (∀ w,Calls Tryz.prog 90 #[PVal L t k D] w fun e w'=>e = .returned (.int .i64 0)∧Below w.heap.size w w'):=fun w=>by
  have:=RCheck_any (L:Int) (t:Int) (k:Int) (D:Int) w hP.l
  rw [hP.chk] at this;exact this
 have HW:=Lib.hid (fun w=>RWidth14_any m k hm hP.k1 hP.k2 w)
 have hk2:=hP.k2
 have ht2:=hP.t2
 have hw:widS m k≤4096:=by unfold widS;split <;> (try split) <;> omega
 have e:(14:Int) + (widS m k:Int) + (t:Int) = (lenP m k t:Int):=by unfold lenP;omega
 obtain ⟨V,hV⟩:∃ V,V = widS m k:=⟨_,rfl⟩
 rw [← hV] at HW hw e
 have HE:=Lib.hid e
 clear hP hm hV e
 go_enter Tryz.func141,Tryz.ntmps141
 go_wp2_with fail
 refine Calls.mono (HK.out _) ?_
 rintro e w1 ⟨rfl,hb⟩
 obtain ⟨hb1,h1,hs⟩:=one_of hb
 have HB:=Lib.hid hb1
 obtain ⟨c0,c1,c2,c3⟩:=cells_four h1
 clear hb hb1 h1
 go_wp2_with fail
 refine Calls.mono (HW.out _) ?_
 rintro e w2 ⟨rfl,rfl⟩
 go_wp2
 rw [HE.out]
 go_ret2
 exact ⟨rfl,HB.out⟩
theorem info_head13:(Tryz.prog.info? 151).map (·.size) = some 3:=by kernel_rfl
def RHd13 (w:World) (b o n c:Nat) (m:UInt8) (O M:Nat) (e:Ending) (w':World):Prop :=
 e = .returned (.tuple #[HVal m O M,.slice (if c = 10 then some ⟨b,o,none⟩ else some ⟨b,o + 10,none⟩) (n - 10) (c - 10),.int .i64 0])∧Below w.heap.size w w'
def RHd13z (w:World) (code:Int) (e:Ending) (w':World):Prop:=e = .returned (.tuple #[HVal 0 0 0,.slice none 0 0,.int .i64 code])∧Below w.heap.size w w'
set_option maxRecDepth 100000 in
set_option maxHeartbeats 2000000 in
theorem RHead13_short (p:Option Addr) (n c:Nat) (w:World) (hn:n < 10) :
  Calls Tryz.prog 140 #[.slice p n c] w (RHd13z w 6):=by
 have HN:=Lib.hid hn
 go_enter Tryz.func140,Tryz.ntmps140
 go_wp2
 refine bodyPost_ret (res_ctt rfl _ _ _ 151 #[.int .u8 0,.int .u32 0,.int .u32 0] (0,0) _ (.slice none 0 0) (.int .i64 6) rfl ?_ rfl rfl Tryz.underlying151 rfl info_head13) rfl ?_
 ·exact hnew rfl
 ·exact ⟨rfl,al (Below.refl _ _) (Nat.le_refl _)⟩
set_option maxRecDepth 100000 in
set_option maxHeartbeats 2000000 in
theorem RHead13_version (b o n c:Nat) (w:World) (hn:10≤n) (x0:UInt8) (k0:w.cell? ⟨b,o,none⟩ = some (B8 x0)) (hx:x0≠1) (hm:n≤9223372036854775807) :
  Calls Tryz.prog 140 #[.slice (some ⟨b,o,none⟩) n c] w (RHd13z w 7):=by
 have e1:((x0.toNat:Int) != 1) = true:=bne_iff_ne.2 fun e=>hx (UInt8.toNat_inj.1 (by show x0.toNat = 1;omega))
 have HN:=Lib.hid hn
 have a0:∀ o',(w.alloc o').cell? ⟨b,o,none⟩ = some (B8 x0):=fun _=>calloc k0
 clear hx k0
 go_enter Tryz.func140,Tryz.ntmps140
 go_wp2
 refine bodyPost_ret (res_ctt rfl _ _ _ 151 #[.int .u8 0,.int .u32 0,.int .u32 0] (0,0) _ (.slice none 0 0) (.int .i64 7) rfl ?_ rfl rfl Tryz.underlying151 rfl info_head13) rfl ?_
 ·exact hnew rfl
 ·exact ⟨rfl,al (Below.refl _ _) (Nat.le_refl _)⟩
set_option maxRecDepth 100000 in
set_option maxHeartbeats 2000000 in
theorem RHead13_mode (b o n c:Nat) (w:World) (hn:10≤n) (x1:UInt8) (k0:w.cell? ⟨b,o,none⟩ = some (B8 1)) (k1:w.cell? ⟨b,o + 1,none⟩ = some (B8 x1)) (hx:modeC x1 = 8) (hm:n≤9223372036854775807) :
  Calls Tryz.prog 140 #[.slice (some ⟨b,o,none⟩) n c] w (RHd13z w 8):=by
 have e1:(1:Int) < (x1.toNat:Int):=by
  unfold modeC at hx
  by_cases h:x1 = 0∨x1 = 1
  ·rw [if_pos h] at hx;cases hx
  ·have h0:x1.toNat≠0:=fun e=>h (.inl (UInt8.toNat_inj.1 e))
   have h1:x1.toNat≠1:=fun e=>h (.inr (UInt8.toNat_inj.1 e))
   omega
 have HN:=Lib.hid hn
 have a0:∀ o',(w.alloc o').cell? ⟨b,o,none⟩ = some (B8 1):=fun _=>calloc k0
 have a1:∀ o',(w.alloc o').cell? ⟨b,o + 1,none⟩ = some (B8 x1):=fun _=>calloc k1
 clear hx k0 k1
 go_enter Tryz.func140,Tryz.ntmps140
 go_wp2
 refine bodyPost_ret (res_ctt rfl _ _ _ 151 #[.int .u8 0,.int .u32 0,.int .u32 0] (0,0) _ (.slice none 0 0) (.int .i64 8) rfl ?_ rfl rfl Tryz.underlying151 rfl info_head13) rfl ?_
 ·exact hnew rfl
 ·exact ⟨rfl,al (Below.refl _ _) (Nat.le_refl _)⟩
set_option maxRecDepth 100000 in
set_option maxHeartbeats 2000000 in
theorem RHead13_good (b o n c:Nat) (xs:List UInt8) (w:World) (h:Sl B8 w (some ⟨b,o,none⟩) n c xs) (hn:10≤n) (x1:UInt8) (k0:w.cell? ⟨b,o,none⟩ = some (B8 1)) (k1:w.cell? ⟨b,o + 1,none⟩ = some (B8 x1)) (hx:modeC x1 = 0) :
  Calls Tryz.prog 140 #[.slice (some ⟨b,o,none⟩) n c] w (RHd13 w b o n c x1 (get4 ((xs.drop 2).take 4)) (get4 ((xs.drop 6).take 4))):=by
 have hl:=h.len
 have HA:Hid (∀ W,Sl B8 W (some ⟨b,o + 2,none⟩) 4 (c - 2) ((xs.drop 2).take 4)→Calls Tryz.prog 201 #[.slice (some ⟨b,o + 2,none⟩) 4 (c - 2)] W fun e w'=>e = .returned (.int .u32 (get4 ((xs.drop 2).take 4):Nat))∧W = w'):=fun W h=>RFour13_any _ _ _ _ W h (by rw [List.length_take,List.length_drop];omega)
 have HC:Hid (∀ W,Sl B8 W (some ⟨b,o + 6,none⟩) 4 (c - 6) ((xs.drop 6).take 4)→Calls Tryz.prog 201 #[.slice (some ⟨b,o + 6,none⟩) 4 (c - 6)] W fun e w'=>e = .returned (.int .u32 (get4 ((xs.drop 6).take 4):Nat))∧W = w'):=fun W h=>RFour13_any _ _ _ _ W h (by rw [List.length_take,List.length_drop];omega)
 have H2:=Lib.hid (Sl.part (k:=2) (m:=4) h (by omega))
 have H6:=Lib.hid (Sl.part (k:=6) (m:=4) h (by omega))
 generalize get4 ((xs.drop 2).take 4) = A at *
 generalize get4 ((xs.drop 6).take 4) = B at *
 generalize (xs.drop 2).take 4 = ya at *
 generalize (xs.drop 6).take 4 = yb at *
 have e1:¬ (1:Int) < (x1.toNat:Int):=by
  unfold modeC at hx
  by_cases h:x1 = 0∨x1 = 1
  ·rcases h with rfl | rfl <;> decide
  ·rw [if_neg h] at hx;cases hx
 have hm:=h.bound
 have hle:=h.le
 have hmx:=h.max
 unfold maxLen at hmx
 have a0:∀ o',(w.alloc o').cell? ⟨b,o,none⟩ = some (B8 1):=fun _=>calloc k0
 have a1:∀ o',(w.alloc o').cell? ⟨b,o + 1,none⟩ = some (B8 x1):=fun _=>calloc k1
 have ba:Below w.heap.size w (w.alloc (.cells #[.int .u8 0,.int .u32 0,.int .u32 0] 151)):=al (Below.refl _ _) (Nat.le_refl _)
 have K1:=Lib.hid k1
 have HBA:=Lib.hid ba
 clear h k0 k1 hx ba hl
 have hn1:(1:Int) < (n:Int):=by omega
 have g1:(6:Int)≤(c:Int):=by omega
 have g2:¬ (c = 2):=by omega
 have g3:(10:Int)≤(c:Int):=by omega
 have g4:¬ (c = 6):=by omega
 have g5:(10:Int)≤(n:Int):=by omega
 go_enter Tryz.func140,Tryz.ntmps140
 go_wp2
 have HH:Hid ((w.alloc (.cells #[.int .u8 0,.int .u32 0,.int .u32 0] 151)).heap[w.heap.size]? = some (.cells #[.int .u8 0,.int .u32 0,.int .u32 0] 151 (0,0))):=hnew rfl
 obtain ⟨g,hg⟩:∃ g,g = w.heap.size:=⟨_,rfl⟩
 rw [← hg] at HH ⊢
 generalize w.alloc (.cells #[.int .u8 0,.int .u32 0,.int .u32 0] 151) = w1 at *
 have HGE:Hid (w.heap.size≤g):=by show _≤_;omega
 clear a0 a1 hg
 refine wp_region_row (fun ix=>([.slice (some ⟨b,o,none⟩) n c,.pointer (some ⟨b,o + 1,none⟩),B8 x1,.slice (some ⟨b,o,none⟩) n c,.slice (some ⟨b,o + 2,none⟩) 4 (c - 2),.int .u32 (A:Nat),.slice (some ⟨b,o,none⟩) n c,.slice (some ⟨b,o + 6,none⟩) 4 (c - 6),.int .u32 (B:Nat),.agg #[B8 x1,.int .u32 (A:Nat),.int .u32 (B:Nat)],.slice (some ⟨b,o,none⟩) n c,.slice (if c = 10 then some ⟨b,o,none⟩ else some ⟨b,o + 10,none⟩) (n - 10) (c - 10),undef,.slice (if c = 10 then some ⟨b,o,none⟩ else some ⟨b,o + 10,none⟩) (n - 10) (c - 10),.int .i64 0][ix]?).getD undef) 31 12 g 151 #[B8 x1,.int .u32 (A:Nat),.int .u32 (B:Nat)] rfl (by kernel_rfl) (by decide +kernel) (by decide +kernel) (by decide +kernel) ⟨_,HH.out,rfl⟩ ?_ ?_ (by decide) ?_
 ·intro i oo h1 ho a W hE hs hp hi
  have hBW:Below w.heap.size w W:=HBA.out.trans (hE.below HGE.out HGE.out);have kk1:=(hBW.cell (p:=⟨b,o + 1,none⟩) (lt_of_cell K1.out)).trans K1.out
  match i,h1,ho with
  | 0,_,ho =>
   simp at ho;subst ho
   have t0:sl a 0 = .slice (some ⟨b,o,none⟩) n c:=hi 0 (by decide)
   refine wp_val (.slice (some ⟨b,o,none⟩) n c) ?_ ⟨rfl,rfl⟩
   simp only [execOp,eval_tmp,t0];rfl
  | 1,_,ho =>
   simp at ho;subst ho
   have t19:sl a 19 = .slice (some ⟨b,o,none⟩) n c:=hp 0 19 (by decide) (by decide) rfl
   have v19:a.tmps[19]?.getD undef = sl a 19:=by simp [sl]
   rw [t19] at v19
   refine wp_val (.pointer (some ⟨b,o + 1,none⟩)) ?_ ⟨rfl,rfl⟩
   simp only [execOp,eval_tmp,eval_const,t19];simp [go_sem,v19,hn1]
  | 2,_,ho =>
   simp at ho;subst ho
   have t20:sl a 20 = .pointer (some ⟨b,o + 1,none⟩):=hp 1 20 (by decide) (by decide) rfl
   have v20:a.tmps[20]?.getD undef = sl a 20:=by simp [sl]
   rw [t20] at v20
   refine wp_val (B8 x1) ?_ ⟨rfl,rfl⟩
   simp only [execOp,eval_tmp,eval_const,t20];simp [go_sem,v20,kk1]
  | 3,_,ho =>
   simp at ho;subst ho
   have t0:sl a 0 = .slice (some ⟨b,o,none⟩) n c:=hi 0 (by decide)
   refine wp_val (.slice (some ⟨b,o,none⟩) n c) ?_ ⟨rfl,rfl⟩
   simp only [execOp,eval_tmp,t0];rfl
  | 4,_,ho =>
   simp at ho;subst ho
   have t22:sl a 22 = .slice (some ⟨b,o,none⟩) n c:=hp 3 22 (by decide) (by decide) rfl
   have v22:a.tmps[22]?.getD undef = sl a 22:=by simp [sl]
   rw [t22] at v22
   refine wp_val (.slice (some ⟨b,o + 2,none⟩) 4 (c - 2)) ?_ ⟨rfl,rfl⟩
   simp only [execOp,eval_tmp,eval_const,t22];simp [go_sem,v22,g1,g2]
  | 5,_,ho =>
   simp at ho;subst ho
   have t23:sl a 23 = .slice (some ⟨b,o + 2,none⟩) 4 (c - 2):=hp 4 23 (by decide) (by decide) rfl
   refine wp_enter 201 #[.slice (some ⟨b,o + 2,none⟩) 4 (c - 2)] ?_ (HA.out W (H2.out.keep hBW)) ?_
   ·simp only [execOp,resolve,List.map_toArray,List.map,eval_tmp,eval_func,eval_const,t23];simp [go_sem]
   ·rintro e W' ⟨rfl,rfl⟩;exact ⟨_,rfl,rfl,rfl⟩
  | 6,_,ho =>
   simp at ho;subst ho
   have t0:sl a 0 = .slice (some ⟨b,o,none⟩) n c:=hi 0 (by decide)
   refine wp_val (.slice (some ⟨b,o,none⟩) n c) ?_ ⟨rfl,rfl⟩
   simp only [execOp,eval_tmp,t0];rfl
  | 7,_,ho =>
   simp at ho;subst ho
   have t25:sl a 25 = .slice (some ⟨b,o,none⟩) n c:=hp 6 25 (by decide) (by decide) rfl
   have v25:a.tmps[25]?.getD undef = sl a 25:=by simp [sl]
   rw [t25] at v25
   refine wp_val (.slice (some ⟨b,o + 6,none⟩) 4 (c - 6)) ?_ ⟨rfl,rfl⟩
   simp only [execOp,eval_tmp,eval_const,t25];simp [go_sem,v25,g3,g4]
  | 8,_,ho =>
   simp at ho;subst ho
   have t26:sl a 26 = .slice (some ⟨b,o + 6,none⟩) 4 (c - 6):=hp 7 26 (by decide) (by decide) rfl
   refine wp_enter 201 #[.slice (some ⟨b,o + 6,none⟩) 4 (c - 6)] ?_ (HC.out W (H6.out.keep hBW)) ?_
   ·simp only [execOp,resolve,List.map_toArray,List.map,eval_tmp,eval_func,eval_const,t26];simp [go_sem]
   ·rintro e W' ⟨rfl,rfl⟩;exact ⟨_,rfl,rfl,rfl⟩
  | 9,_,ho =>
   simp at ho;subst ho
   have t21:sl a 21 = B8 x1:=hp 2 21 (by decide) (by decide) rfl
   have t24:sl a 24 = .int .u32 (A:Nat):=hp 5 24 (by decide) (by decide) rfl
   have t27:sl a 27 = .int .u32 (B:Nat):=hp 8 27 (by decide) (by decide) rfl
   have v21:a.tmps[21]?.getD undef = sl a 21:=by simp [sl]
   rw [t21] at v21
   have v24:a.tmps[24]?.getD undef = sl a 24:=by simp [sl]
   rw [t24] at v24
   have v27:a.tmps[27]?.getD undef = sl a 27:=by simp [sl]
   rw [t27] at v27
   refine wp_val (.agg #[B8 x1,.int .u32 (A:Nat),.int .u32 (B:Nat)]) ?_ ⟨rfl,rfl⟩
   simp only [execOp,eval_tmp,eval_const,t21,t24,t27];simp [go_sem,v21,v24,v27,Tryz.underlying151]
  | 10,_,ho =>
   simp at ho;subst ho
   have t0:sl a 0 = .slice (some ⟨b,o,none⟩) n c:=hi 0 (by decide)
   refine wp_val (.slice (some ⟨b,o,none⟩) n c) ?_ ⟨rfl,rfl⟩
   simp only [execOp,eval_tmp,t0];rfl
  | 11,_,ho =>
   simp at ho;subst ho
   have t29:sl a 29 = .slice (some ⟨b,o,none⟩) n c:=hp 10 29 (by decide) (by decide) rfl
   have v29:a.tmps[29]?.getD undef = sl a 29:=by simp [sl]
   rw [t29] at v29
   refine wp_val (.slice (if c = 10 then some ⟨b,o,none⟩ else some ⟨b,o + 10,none⟩) (n - 10) (c - 10)) ?_ ⟨rfl,rfl⟩
   simp only [execOp,eval_tmp,eval_const,t29];simp [go_sem,v29,g3,g5]
  | 12,h,_=>exact absurd rfl h
  | 13,_,ho =>
   simp at ho;subst ho
   have t30:sl a 30 = .slice (if c = 10 then some ⟨b,o,none⟩ else some ⟨b,o + 10,none⟩) (n - 10) (c - 10):=hp 11 30 (by decide) (by decide) rfl
   refine wp_val (.slice (if c = 10 then some ⟨b,o,none⟩ else some ⟨b,o + 10,none⟩) (n - 10) (c - 10)) ?_ ⟨rfl,rfl⟩
   simp only [execOp,eval_tmp,t30];rfl
  | 14,_,ho =>
   simp at ho;subst ho
   exact wp_val (.int .i64 0) rfl ⟨rfl,rfl⟩
  | j + 15,_,ho=>simp at ho
 ·intro oo ho a W hE hs hp hi old hold hsz
  simp at ho;subst ho
  have t2:sl a 2 = .pointer (some ⟨g,0,none⟩):=hi 2 (by decide)
  have t28:sl a 28 = .agg #[B8 x1,.int .u32 (A:Nat),.int .u32 (B:Nat)]:=hp 9 28 (by decide) (by decide) rfl
  refine wp_store_row 151 (.tmp 2) (.tmp 28) rfl g #[B8 x1,.int .u32 (A:Nat),.int .u32 (B:Nat)] (by rw [eval_tmp];exact t2) (by rw [eval_tmp];exact t28) _ _ hold info_head13 hsz (by simp [Value.oneCell']) ?_
  exact ⟨rfl,rfl⟩
 intro a w9 hE hG hs hd hI ht
 have ha:=act_is [19,20,21,22,23,24,25,26,27,28,29,30,3,4] hs hd ht (by decide)
 have t3:sl a 3 = .slice (if c = 10 then some ⟨b,o,none⟩ else some ⟨b,o + 10,none⟩) (n - 10) (c - 10):=hI 13 3 (by decide) (by decide) rfl
 have t4:sl a 4 = .int .i64 0:=hI 14 4 (by decide) (by decide) rfl
 simp only [List.foldl,t3,t4] at ha
 generalize sl a 19 = u19 at ha
 generalize sl a 20 = u20 at ha
 generalize sl a 21 = u21 at ha
 generalize sl a 22 = u22 at ha
 generalize sl a 23 = u23 at ha
 generalize sl a 24 = u24 at ha
 generalize sl a 25 = u25 at ha
 generalize sl a 26 = u26 at ha
 generalize sl a 27 = u27 at ha
 generalize sl a 28 = u28 at ha
 generalize sl a 29 = u29 at ha
 generalize sl a 30 = u30 at ha
 simp only [Act.put,List.setIfInBounds_toArray,List.set_cons_zero,List.set_cons_succ] at ha
 rw [ha]
 clear ha hI ht hs hd t3 t4
 have HB6:=Lib.hid (HBA.out.trans (hE.below HGE.out HGE.out))
 clear HH HBA hE
 generalize hqr:(if c = 10 then (some ⟨b,o,none⟩:Option Addr) else some ⟨b,o + 10,none⟩) = qr
 have HQR:=Lib.hid hqr
 clear hqr
 go_wp2
 refine bodyPost_ret (res_ctt rfl _ _ _ 151 #[B8 x1,.int .u32 (A:Nat),.int .u32 (B:Nat)] (0,0) _ (.slice qr (n - 10) (c - 10)) (.int .i64 0) rfl hG rfl rfl Tryz.underlying151 rfl info_head13) rfl ?_
 exact ⟨by rw [← HQR.out],HB6.out⟩
theorem RHead13_any (p:Option Addr) (n c:Nat) (xs:List UInt8) (w:World) (h:Sl B8 w p n c xs) :
  Calls Tryz.prog 140 #[.slice p n c] w fun e w'=>(headC xs = 0∧∃ b o,p = some ⟨b,o,none⟩∧10≤n∧RHd13 w b o n c (xs.getD 1 0) (get4 ((xs.drop 2).take 4)) (get4 ((xs.drop 6).take 4)) e w')∨(headC xs≠0∧RHd13z w (headC xs) e w'):=by
 have hl:=h.len
 unfold headC
 by_cases h10:n < 10
 ·rw [if_pos (by omega:xs.length < 10)]
  exact Calls.mono (RHead13_short p n c w h10) fun e w' h=>.inr ⟨by decide,h⟩
 ·rw [if_neg (by omega:¬ xs.length < 10)]
  obtain ⟨b,o,x0,rfl,k0,y0⟩:=h.at 0 (by omega)
  obtain ⟨_,_,x1,e1,k1,y1⟩:=h.at 1 (by omega)
  cases e1
  rw [Nat.add_zero] at k0
  rw [at_get y0.out,at_get y1.out]
  by_cases h0:x0 = 1
  ·have e:(if x0≠1 then 7 else modeC x1) = modeC x1:=if_neg (by simp [h0])
   rw [e]
   subst h0
   rcases modeC_range x1 with h1 | h1
   ·rw [h1]
    exact Calls.mono (RHead13_good b o n c xs w h (by omega) x1 k0 k1 h1) fun e w' h=>.inl ⟨rfl,b,o,rfl,by omega,h⟩
   ·rw [h1]
    exact Calls.mono (RHead13_mode b o n c w (by omega) x1 k0 k1 h1 h.bound) fun e w' h=>.inr ⟨by decide,h⟩
  ·have e:(if x0≠1 then 7 else modeC x1) = 7:=if_pos h0
   rw [e]
   exact Calls.mono (RHead13_version b o n c w (by omega) x0 k0 h0 h.bound) fun e w' h=>.inr ⟨by decide,h⟩
end Go.Proofs.YtccaiiigdfieoaaGreatDoor
namespace Go.By
open Go.RowKit
theorem sum_bytes {xs:List UInt8} {E C:Nat} (hl:E + 4≤xs.length) (hC:C < 4294967296):(∀ j,j < 4→xs[E + j]? = (put4 C)[j]?)↔get4 ((xs.drop E).take 4) = C:=by
 have h4:((xs.drop E).take 4).length = 4:=by rw [List.length_take,List.length_drop];omega
 constructor
 ·intro h
  have e:(xs.drop E).take 4 = put4 C:=by
   apply List.ext_getElem?
   intro j
   by_cases hj:j < 4
   ·rw [List.getElem?_take,if_pos hj,List.getElem?_drop,h j hj]
   ·rw [List.getElem?_eq_none (by omega),List.getElem?_eq_none (by rw [put4_len];omega)]
  rw [e,get4_put4 hC]
 ·intro h j hj
  rw [← h,put4_get4 h4,List.getElem?_take,if_pos hj,List.getElem?_drop]
end Go.By
namespace Go.Proofs.YtccaiiigdfieoaaGreatDoor
open Go.RowKit Go.By
def VecQ (m:UInt8) (B:Nat) (w':World) (v:Value) (p:Option Addr) (j c:Nat) (ys:List UInt8):Prop:=(m = 0∧v = .slice p j c)∨(m≠0∧∃ q n c',v = .slice q n c'∧Fresh 5 B w' q n c' ys)
theorem RVector14_any (m:UInt8) (k:Nat) (hm:modeC m = 0) (h1:1≤k) (h2:k≤4096) (p:Option Addr) (j c s:Nat) (xs:List UInt8) (w:World) (hj:m = 0→j = k) :
  Calls Tryz.prog 146 #[B8 m,.slice p j c,.int .u64 (s:Nat),.int .i64 (k:Nat)] w fun e w'=>∃ v,e = .returned (.tuple #[v,.int .i64 0])∧VecQ m w.heap.size w' v p j c (vecS m xs s k)∧Below w.heap.size w w':=by
 have HW:=Lib.hid (fun w=>RWidth14_any m k hm h1 h2 w)
 have hm2:m = 0∨m = 1:=by
  unfold modeC at hm
  by_cases h:m = 0∨m = 1
  ·exact h
  ·rw [if_neg h] at hm;cases hm
 rcases hm2 with rfl | rfl
 ·obtain rfl:=hj rfl
  have hk:((j:Int) != (j:Int)) = false:=by simp
  clear h1 h2 hj hm
  rw [show B8 0 = .int .u8 0 from rfl] at HW ⊢
  go_enter Tryz.func146,Tryz.ntmps146
  go_wp2_with fail
  refine Calls.mono (HW.out _) ?_
  rintro e w1 ⟨rfl,rfl⟩
  go_wp2
  go_ret2
  exact ⟨_,rfl,.inl ⟨rfl,rfl⟩,Below.refl _ _⟩
 ·have HB:=Lib.hid (fun w=>RBytes5_any s k (by omega) w)
  clear h1 h2 hj hm
  rw [show B8 1 = .int .u8 1 from rfl] at HW ⊢
  go_enter Tryz.func146,Tryz.ntmps146
  go_wp2_with fail
  refine Calls.mono (HW.out _) ?_
  rintro e w1 ⟨rfl,rfl⟩
  go_wp2_with fail
  refine Calls.mono (HB.out _) ?_
  rintro e w2 ⟨s',q,c',rfl,ho,hb⟩
  have HO:=Lib.hid ho
  have HBB:=Lib.hid hb
  clear ho hb
  go_wp2
  go_ret2
  exact ⟨_,rfl,.inr ⟨by decide,q,k,c',rfl,Fresh.of_owns HO.out⟩,HBB.out⟩
set_option maxRecDepth 100000 in
set_option maxHeartbeats 1000000 in
theorem RVector15_any (L t k D O M:Nat) (m:UInt8) (p:Option Addr) (j c s:Nat) (q:Option Addr) (n d:Nat) (xs:List UInt8) (w:World) (hP:POK L t k D) (hm:modeC m = 0) (hj:m = 0→j = k) :
  Calls Tryz.prog 84 #[PVal L t k D,PkVal m O M m p j c s q n d] w fun e w'=>∃ v,e = .returned v∧VecQ m w.heap.size w' v p j c (vecS m xs s k)∧Below w.heap.size w w':=by
 have HV:=Lib.hid (fun W=>RVector14_any m k hm hP.k1 hP.k2 p j c s xs W hj)
 clear hP hm hj
 go_enter Tryz.func84,Tryz.ntmps84
 go_wp2_with fail
 have ba:Below w.heap.size w ((w.alloc (.cells #[.int .i64 (L:Nat),.int .i64 (t:Nat),.int .i64 (k:Nat),.int .u32 (D:Nat)] 52)).alloc (.cells #[B8 m,.int .u32 (O:Nat),.int .u32 (M:Nat),B8 m,.slice p j c,.int .u64 (s:Nat),.slice q n d] 153)):=al (al (Below.refl _ _) (Nat.le_refl _)) (by simp)
 refine Calls.mono (HV.out _) ?_
 rintro e w1 ⟨v1,rfl,h,hb⟩
 have HS:Hid (VecQ m w.heap.size w1 v1 p j c (vecS m xs s k)):=by
  rcases h with h | ⟨h,q1,n1,c1,e1,g⟩
  ·exact .inl h
  ·exact .inr ⟨h,q1,n1,c1,e1,g.mono ba.size⟩
 have HB:=Lib.hid (bl ba hb ba.size)
 clear h hb ba
 go_wp2
 go_ret
 exact ⟨v1,rfl,HS.out,HB.out⟩
theorem info_packet15:(Tryz.prog.info? 153).map (·.size) = some 7:=by kernel_rfl
def RdRet (k t D:Nat) (p:Option Addr) (n c:Nat) (xs:List UInt8) (w:World) (e:Ending) (w':World):Prop :=
 Below w.heap.size w w'∧((readC k t D xs = 0∧∃ q j c1 q2 d2,e = .returned (.tuple #[PkVal (pktM xs) D (pktN xs) (pktM xs) q j c1 (pktS k xs) q2 t d2,.int .i64 0])∧(∀ W,Sl B8 W p n c xs→Sl B8 W q j c1 (pktX k xs))∧(pktM xs = 0→j = k)∧∀ W,Sl B8 W p n c xs→Sl B8 W q2 t d2 (pktY k t xs)) ∨
  (readC k t D xs≠0∧e = .returned (.tuple #[PkVal 0 0 0 0 none 0 0 0 none 0 0,.int .i64 (readC k t D xs)])))
set_option maxRecDepth 100000 in
set_option maxHeartbeats 2000000 in
theorem RRead15_head (L t k D:Nat) (p:Option Addr) (n c:Nat) (xs:List UInt8) (w:World) (hP:POK L t k D) (h:Sl B8 w p n c xs) (hc:headC xs≠0) :
  Calls Tryz.prog 83 #[PVal L t k D,.slice p n c] w (PZero w (headC xs)):=by
 have HK:Hid (∀ w,Calls Tryz.prog 90 #[PVal L t k D] w fun e w'=>e = .returned (.int .i64 0)∧Below w.heap.size w w'):=fun w=>by
  have:=RCheck_any (L:Int) (t:Int) (k:Int) (D:Int) w hP.l
  rw [hP.chk] at this;exact this
 have HR:Hid (∀ w,Sl B8 w p n c xs→Calls Tryz.prog 140 #[.slice p n c] w (RHd13z w (headC xs))):=fun w h=>Calls.mono (RHead13_any p n c xs w h) fun e w' g=>by
  rcases g with ⟨g,-⟩ | ⟨-,g⟩
  ·exact absurd g hc
  ·exact g
 have H:=Lib.hid h
 have e0:(headC xs != 0) = true:=bne_iff_ne.2 hc
 generalize headC xs = C at *
 clear hP h hc
 go_enter Tryz.func83,Tryz.ntmps83
 go_wp2_with fail
 refine Calls.mono (HK.out _) ?_
 rintro e w1 ⟨rfl,hb⟩
 obtain ⟨hb1,h1,h2,hs⟩:=two_of hb
 have HB:=Lib.hid hb1
 clear hb hb1
 go_wp2_with fail
 refine Calls.mono (HR.out _ (H.out.keep HB.out)) ?_
 rintro e w2 ⟨rfl,hb⟩
 have h1':=(hb.block _ (by omega)).trans h1
 have h2':=(hb.block _ (by omega)).trans h2
 have HB2:=Lib.hid (bl HB.out hb HB.out.size)
 clear hb h1 h2 hs
 go_wp2_with (refine wpList_store_row (o:=⟨none,.store 153 (.tmp 4) (.tmp 31),_,_,_,_⟩) rfl 153 (.tmp 4) (.tmp 31) rfl (w.heap.size + 1) #[.int .u8 0,.int .u32 0,.int .u32 0,.int .u8 0,.slice none 0 0,.int .u64 0,.slice none 0 0] rfl rfl _ _ (hal h2') info_packet15 rfl (by simp [Value.oneCell']) ?_)
 refine bodyPost_ret (res_ct rfl _ _ _ 153 #[.int .u8 0,.int .u32 0,.int .u32 0,.int .u8 0,.slice none 0 0,.int .u64 0,.slice none 0 0] (0,0) _ (.int .i64 C) rfl (hrs (hal h2')) rfl Tryz.underlying153 rfl info_packet15) rfl ?_
 exact ⟨rfl,below_row (al HB2.out HB2.out.size) (by omega)⟩
structure Rd15 (w W:World) (gp gr gh gs L t k D:Nat) (m:UInt8) (O M C:Nat):Prop where
 bel:Below w.heap.size w W
 p:W.heap[gp]? = some (.cells #[.int .i64 (L:Nat),.int .i64 (t:Nat),.int .i64 (k:Nat),.int .u32 (D:Nat)] 52 (0,0))
 r:W.heap[gr]? = some (.cells #[.int .u8 0,.int .u32 0,.int .u32 0,.int .u8 0,.slice none 0 0,.int .u64 0,.slice none 0 0] 153 (0,0))
 h:W.heap[gh]? = some (.cells #[B8 m,.int .u32 (O:Nat),.int .u32 (M:Nat)] 151 (0,0))
 s:W.heap[gs]? = some (.cells ((put4 C).map B8).toArray 5 (0,0))
 rb:w.heap.size≤gr
theorem Rd15.keep {w W W':World} {gp gr gh gs L t k D O M C:Nat} {m:UInt8} (h:Rd15 w W gp gr gh gs L t k D m O M C) (hb:Below W.heap.size W W'):Rd15 w W' gp gr gh gs L t k D m O M C :=
 ⟨bl h.bel hb h.bel.size,(hb.block _ (lt_of_block h.p)).trans h.p,(hb.block _ (lt_of_block h.r)).trans h.r,(hb.block _ (lt_of_block h.h)).trans h.h,(hb.block _ (lt_of_block h.s)).trans h.s,h.rb⟩
set_option maxRecDepth 100000 in
set_option maxHeartbeats 4000000 in
theorem RRead15_body (L t k D b o n c:Nat) (xs:List UInt8) (w:World) (hP:POK L t k D) (h:Sl B8 w (some ⟨b,o,none⟩) n c xs) (hc:headC xs = 0) (h10:10≤n) :
  Calls Tryz.prog 83 #[PVal L t k D,.slice (some ⟨b,o,none⟩) n c] w (RdRet k t D (some ⟨b,o,none⟩) n c xs w):=by
 have HK:Hid (∀ w,Calls Tryz.prog 90 #[PVal L t k D] w fun e w'=>e = .returned (.int .i64 0)∧Below w.heap.size w w'):=fun w=>by
  have:=RCheck_any (L:Int) (t:Int) (k:Int) (D:Int) w hP.l
  rw [hP.chk] at this;exact this
 have HR:Hid (∀ w,Sl B8 w (some ⟨b,o,none⟩) n c xs→Calls Tryz.prog 140 #[.slice (some ⟨b,o,none⟩) n c] w (RHd13 w b o n c (xs.getD 1 0) (get4 ((xs.drop 2).take 4)) (get4 ((xs.drop 6).take 4)))):=fun w h=>Calls.mono (RHead13_any _ n c xs w h) fun e w' g=>by
  rcases g with ⟨-,b',o',e1,-,g⟩ | ⟨g,-⟩
  ·cases e1;exact g
  ·exact absurd hc g
 have hm:=headC_mode hc
 have HN:=Lib.hid (fun w=>RLength15_ok L t k D (xs.getD 1 0) w hP hm)
 have HWD:=Lib.hid (fun w=>RWidth14_any (xs.getD 1 0) k hm hP.k1 hP.k2 w)
 have H:=Lib.hid h
 have hl:=h.len
 have hle:=h.le
 have hmx:=h.max
 unfold maxLen at hmx
 have hcl:crcS (xs.take (n - 4)) < 4294967296:=crcS_lt _
 -- what the answer is
 have HQ:Hid (∀ e w',(Below w.heap.size w w'∧readC k t D xs≠0∧e = .returned (.tuple #[PkVal 0 0 0 0 none 0 0 0 none 0 0,.int .i64 (readC k t D xs)]))→RdRet k t D (some ⟨b,o,none⟩) n c xs w e w'):=fun e w' g=>⟨g.1,.inr g.2⟩
 have HRC:Hid ((n≠lenP (xs.getD 1 0) k t→readC k t D xs = 4)∧(n = lenP (xs.getD 1 0) k t→get4 ((xs.drop (n - 4)).take 4)≠crcS (xs.take (n - 4))→readC k t D xs = 10)∧(n = lenP (xs.getD 1 0) k t→get4 ((xs.drop (n - 4)).take 4) = crcS (xs.take (n - 4))→get4 ((xs.drop 2).take 4)≠D→readC k t D xs = 9)∧(n = lenP (xs.getD 1 0) k t→get4 ((xs.drop (n - 4)).take 4) = crcS (xs.take (n - 4))→get4 ((xs.drop 2).take 4) = D→readC k t D xs = 0)):=by
  unfold readC
  rw [hl,if_neg (Classical.not_not.2 hc)]
  refine ⟨fun g=>if_pos g,fun g g2=>?_,fun g g2 g3=>?_,fun g g2 g3=>?_⟩
  ·rw [if_neg (Classical.not_not.2 g),if_pos g2]
  ·rw [if_neg (Classical.not_not.2 g),if_neg (Classical.not_not.2 g2),if_pos g3]
  ·rw [if_neg (Classical.not_not.2 g),if_neg (Classical.not_not.2 g2),if_neg (Classical.not_not.2 g3)]
 have HPX:Hid (pktM xs = xs.getD 1 0∧pktN xs = get4 ((xs.drop 6).take 4)∧pktX k xs = rdX (xs.getD 1 0) ((xs.drop 10).take (widS (xs.getD 1 0) k))∧pktS k xs = rdS (xs.getD 1 0) ((xs.drop 10).take (widS (xs.getD 1 0) k))∧pktY k t xs = (xs.drop (10 + widS (xs.getD 1 0) k)).take t):=⟨rfl,rfl,rfl,rfl,rfl⟩
 have hm2:xs.getD 1 0 = 0∨xs.getD 1 0 = 1:=by
  unfold modeC at hm
  by_cases h:xs.getD 1 0 = 0∨xs.getD 1 0 = 1
  ·exact h
  ·rw [if_neg h] at hm;cases hm
 have HM2:=Lib.hid hm2
 generalize xs.getD 1 0 = m at *
 generalize get4 ((xs.drop 2).take 4) = O at *
 generalize get4 ((xs.drop 6).take 4) = M at *
 clear hP h hc hm hm2
 go_enter Tryz.func83,Tryz.ntmps83
 go_wp2_with fail
 refine Calls.mono (HK.out _) ?_
 rintro e w1 ⟨rfl,hb⟩
 obtain ⟨hb1,h1,h2,hs⟩:=two_of hb
 have HB:=Lib.hid hb1
 clear hb hb1
 go_wp2_with fail
 refine Calls.mono (HR.out _ (H.out.keep HB.out)) ?_
 rintro e w2 ⟨rfl,hb⟩
 generalize hqr:(if c = 10 then (some ⟨b,o,none⟩:Option Addr) else some ⟨b,o + 10,none⟩) = qr
 have HQR:=Lib.hid hqr
 have h1':=(hb.block _ (by omega)).trans h1
 have h2':=(hb.block _ (by omega)).trans h2
 have HB2:=Lib.hid (bl HB.out hb HB.out.size)
 have HGR:Hid (w.heap.size≤w.heap.size + 1):=Nat.le_succ _
 obtain ⟨gr,hgr⟩:∃ gr,gr = w.heap.size + 1:=⟨_,rfl⟩
 obtain ⟨gp,hgp⟩:∃ gp,gp = w.heap.size:=⟨_,rfl⟩
 rw [← hgr] at h2' HGR ⊢
 rw [← hgp] at h1' ⊢
 clear hb h1 h2 hs hqr HR HK hgr hgp
 have c0:∀ o',(w2.alloc o').cell? ⟨gp,0,none⟩ = _:=fun _=>calloc (cells_four h1').1
 have c1:∀ o',(w2.alloc o').cell? ⟨gp,1,none⟩ = _:=fun _=>calloc (cells_four h1').2.1
 have c2:∀ o',(w2.alloc o').cell? ⟨gp,2,none⟩ = _:=fun _=>calloc (cells_four h1').2.2.1
 have c3:∀ o',(w2.alloc o').cell? ⟨gp,3,none⟩ = _:=fun _=>calloc (cells_four h1').2.2.2
 go_wp2_with fail
 refine Calls.mono (HN.out _) ?_
 rintro e w3 ⟨rfl,hb⟩
 obtain ⟨hb3,h3,hs3⟩:=one_of hb
 have h1:=(hb3.block _ (lt_of_block h1')).trans h1'
 have h2:=(hb3.block _ (lt_of_block h2')).trans h2'
 have HB3:=Lib.hid (bl HB2.out hb3 HB2.out.size)
 clear hb hb3 h1' h2' c0 c1 c2 c3 HB HB2 HN
 generalize w2.heap.size = gh at *
 by_cases hN:n = lenP m k t
 ·have hn4:14≤n:=by rw [hN];unfold lenP;omega
  have HNL:Hid (n = 10 + widS m k + t + 4):=hN
  obtain ⟨E,hE⟩:∃ E,E = n - 4:=⟨_,rfl⟩
  have eE:(n:Int) - 4 = (E:Int):=by omega
  rw [← hE] at hcl HRC
  have HE:Hid (n = E + 4):=by show n = E + 4;omega
  have EW:Hid (IntKind.i64.wrap (E:Int) = (E:Int)):=by show _ = _;rw [IntKind.wrap_i64];omega
  have hnb:n≤9223372036854775807:=by omega
  have r2:=HRC.out.2.1 hN
  have r3:=HRC.out.2.2.1 hN
  have r4:=HRC.out.2.2.2 hN
  have HR2:=Lib.hid r2
  have HR3:=Lib.hid r3
  have HR4:=Lib.hid r4
  have hSum:∀ W,Sl B8 W (some ⟨b,o,none⟩) E c (xs.take E)→Calls Tryz.prog 143 #[.slice (some ⟨b,o,none⟩) E c] W fun e w'=>e = .returned (.int .u32 (crcS (xs.take E):Nat))∧W = w':=fun W h=>RSum4_any _ _ _ _ W h
  have HSum:=Lib.hid hSum
  have SE:=Lib.hid (Sl.front' (k:=E) H.out (by omega))
  generalize crcS (xs.take E) = C at *
  rw [← hN]
  have hx4:E + 4≤xs.length:=by rw [hl];omega
  have HSB:=Lib.hid (sum_bytes hx4 hcl)
  have HPut:=Lib.hid (fun W=>RPut4_any C hcl W)
  have hqr:qr = some ⟨b,o + 10,none⟩:=by rw [← HQR.out,if_neg (by omega)]
  have HH3:=Lib.hid h3
  have HH2:=Lib.hid h2
  have HH1:=Lib.hid h1
  subst hqr
  clear hN r2 r3 r4 HRC hSum hx4 hcl h1 h2 h3 HQR hE
  have ea1:(E:Int)≤(c:Int):=by omega
  have ea2:(E:Int)≤(n:Int):=by omega
  go_wp2_with fail
  refine Calls.mono (HSum.out _ (SE.out.keep HB3.out)) ?_
  rintro e w4 ⟨rfl,rfl⟩
  go_wp2_with fail
  refine Calls.mono (HPut.out _) ?_
  rintro e w5 ⟨gs,rfl,hgs,hp4,hb⟩
  have HD:Hid (Rd15 w w5 gp gr gh gs L t k D m O M C):=⟨bl HB3.out hb HB3.out.size,(hb.block _ (lt_of_block HH1.out)).trans HH1.out,(hb.block _ (lt_of_block HH2.out)).trans HH2.out,(hb.block _ (lt_of_block HH3.out)).trans HH3.out,hp4,HGR.out⟩
  clear hb hgs hp4 HB3 HH1 HH2 HH3 SE HSum HPut ea1 ea2 hs3
  go_wp2
  go_loopw [13] (fun iv wr=>∃ i:Nat,i≤4∧iv = .int .i64 (i:Nat)∧Hid (∀ j,j < i→xs[E + j]? = (put4 C)[j]?)∧Hid (Rd15 w wr gp gr gh gs L t k D m O M C)) (fun iv _=>4 - (intOf iv).toNat)
  case atStart=>exact ⟨0,by omega,rfl,fun j hj=>by omega,HD.out⟩
  case round =>
   obtain ⟨i,hi,rfl,HJ,HR⟩:=hrel
   clear HD
   by_cases hi4:i < 4
   ·have hi4':(i:Int) < 4:=by omega
    obtain ⟨ei,hei⟩:∃ ei,ei = E + i:=⟨_,rfl⟩
    have hein:ei < n:=by have:=HE.out;omega
    obtain ⟨b',o',x,e1,hx,hxe⟩:=(H.out.keep HR.out.bel).at ei hein
    cases e1
    obtain ⟨z,hz⟩:∃ z,(put4 C)[i]? = some z:=⟨_,List.getElem?_eq_getElem (by rw [put4_len];exact hi4)⟩
    have hzc:wr.cell? ⟨gs,i,none⟩ = some (B8 z):=by
     rw [cell_of_row _ _ i _ _ _ HR.out.s,List.getElem?_toArray,List.getElem?_map,hz];rfl
    have eEI:IntKind.i64.wrap ((E:Int) + (i:Int)) = (ei:Int):=by rw [hei,IntKind.wrap_i64];omega
    have hein':(ei:Int) < (n:Int):=by omega
    have HXE:Hid (xs[E + i]? = some x):=by show _ = _;rw [← hei];exact hxe.out
    have HZ:=Lib.hid hz
    have HI4:=Lib.hid hi4
    clear hxe hz hei hi4
    by_cases hxz:x = z
    ·have hd:((x.toNat:Int) != (z.toNat:Int)) = false:=by rw [hxz];simp
     have HJ2:Hid (∀ j,j < i + 1→xs[E + j]? = (put4 C)[j]?):=fun j hj=>by
      by_cases h:j = i
      ·rw [h,HXE.out,HZ.out,hxz]
      ·exact HJ.out j (by omega)
     clear hxz HJ
     go_wp2_with fail
     refine wp_region_shapes (fun ix=>([.val (.slice (some ⟨b,o,none⟩) n c),.val (.int .i64 (n:Nat)),.val (.int .i64 (E:Nat)),.val (.int .i64 (i:Nat)),.val (.int .i64 (ei:Nat)),.val (.pointer (some ⟨b,o + ei,none⟩)),.val (B8 x),.val (.slice (some ⟨gs,0,none⟩) 4 4),.val (.int .i64 (i:Nat)),.val (.pointer (some ⟨gs,i,none⟩)),.val (B8 z),.val (.bool false)][ix]?).getD (.any)) 105 rfl (by kernel_rfl) (by decide +kernel) (by decide +kernel) (by decide +kernel) ?_ ?_
     ·refine ⟨?_,?_,?_,?_,?_,?_,?_,?_,?_,?_,?_,?_,trivial⟩
      ·intro a W hb0 hs hp hi;have hb:=undrew hb0;clear hb0
       have t1:sl a 1 = .slice (some ⟨b,o,none⟩) n c:=hi 1 (by decide)
       exact ite_y rfl (wp_val (sl a 1) rfl ⟨_,rfl,Below.refl _ _,t1⟩)
      ·intro a W hb0 hs hp hi;have hb:=undrew hb0;clear hb0
       have t10:sl a 10 = .int .i64 (n:Nat):=hi 10 (by decide)
       exact ite_y rfl (wp_val (sl a 10) rfl ⟨_,rfl,Below.refl _ _,t10⟩)
      ·intro a W hb0 hs hp hi;have hb:=undrew hb0;clear hb0
       have t56:sl a 56 = .int .i64 (n:Nat):=hp 1 (by decide)
       refine ite_y rfl (wp_val (.int .i64 (E:Nat)) ?_ ?_)
       ·simp only [execOp,eval_tmp,eval_const,t56];simp [go_sem,eE,EW.out]
       ·exact ⟨_,rfl,Below.refl _ _,rfl⟩
      ·intro a W hb0 hs hp hi;have hb:=undrew hb0;clear hb0
       have t13:sl a 13 = .int .i64 (i:Nat):=hi 13 (by decide)
       exact ite_y rfl (wp_val (sl a 13) rfl ⟨_,rfl,Below.refl _ _,t13⟩)
      ·intro a W hb0 hs hp hi;have hb:=undrew hb0;clear hb0
       have t57:sl a 57 = .int .i64 (E:Nat):=hp 2 (by decide)
       have t58:sl a 58 = .int .i64 (i:Nat):=hp 3 (by decide)
       refine ite_y rfl (wp_val (.int .i64 (ei:Nat)) ?_ ?_)
       ·simp only [execOp,eval_tmp,eval_const,t57,t58];simp [go_sem,eEI]
       ·exact ⟨_,rfl,Below.refl _ _,rfl⟩
      ·intro a W hb0 hs hp hi;have hb:=undrew hb0;clear hb0
       have ti0:sl a 55 = .slice (some ⟨b,o,none⟩) n c:=hp 0 (by decide)
       have ti1:sl a 59 = .int .i64 (ei:Nat):=hp 4 (by decide)
       refine ite_y rfl (wp_val (.pointer (some ⟨b,o + ei,none⟩)) ?_ ?_)
       ·simp only [execOp,eval_tmp,eval_const,ti0,ti1];simp [go_sem,hein']
       ·exact ⟨_,rfl,Below.refl _ _,rfl⟩
      ·intro a W hb0 hs hp hi;have hb:=undrew hb0;clear hb0
       have tt:sl a 60 = .pointer (some ⟨b,o + ei,none⟩):=hp 5 (by decide)
       have dd:=(hb.cell (p:=⟨b,o + ei,none⟩) (lt_of_cell hx)).trans hx
       refine ite_y rfl (wp_val (B8 x) ?_ ?_)
       ·simp only [execOp,eval_tmp,tt];simp [go_sem,dd]
       ·exact ⟨_,rfl,Below.refl _ _,rfl⟩
      ·intro a W hb0 hs hp hi;have hb:=undrew hb0;clear hb0
       have t12:sl a 12 = .slice (some ⟨gs,0,none⟩) 4 4:=hi 12 (by decide)
       exact ite_y rfl (wp_val (sl a 12) rfl ⟨_,rfl,Below.refl _ _,t12⟩)
      ·intro a W hb0 hs hp hi;have hb:=undrew hb0;clear hb0
       have t13:sl a 13 = .int .i64 (i:Nat):=hi 13 (by decide)
       exact ite_y rfl (wp_val (sl a 13) rfl ⟨_,rfl,Below.refl _ _,t13⟩)
      ·intro a W hb0 hs hp hi;have hb:=undrew hb0;clear hb0
       have ti0:sl a 62 = .slice (some ⟨gs,0,none⟩) 4 4:=hp 7 (by decide)
       have ti1:sl a 63 = .int .i64 (i:Nat):=hp 8 (by decide)
       refine ite_y rfl (wp_val (.pointer (some ⟨gs,i,none⟩)) ?_ ?_)
       ·simp only [execOp,eval_tmp,eval_const,ti0,ti1];simp [go_sem,hi4']
       ·exact ⟨_,rfl,Below.refl _ _,rfl⟩
      ·intro a W hb0 hs hp hi;have hb:=undrew hb0;clear hb0
       have tt:sl a 64 = .pointer (some ⟨gs,i,none⟩):=hp 9 (by decide)
       have dd:=(hb.cell (p:=⟨gs,i,none⟩) (lt_of_cell hzc)).trans hzc
       refine ite_y rfl (wp_val (B8 z) ?_ ?_)
       ·simp only [execOp,eval_tmp,tt];simp [go_sem,dd]
       ·exact ⟨_,rfl,Below.refl _ _,rfl⟩
      ·intro a W hb0 hs hp hi;have hb:=undrew hb0;clear hb0
       have t61:sl a 61 = B8 x:=hp 6 (by decide)
       have t65:sl a 65 = B8 z:=hp 10 (by decide)
       refine ite_y rfl (wp_val (.bool false) ?_ ?_)
       ·simp only [execOp,eval_tmp,eval_const,t61,t65];simp [go_sem,hd]
       ·exact ⟨_,rfl,Below.refl _ _,rfl⟩
     intro a w6 hb hs hd hI ht
     have ha:=act_is [55,56,57,58,59,60,61,62,63,64,65,66] hs hd ht (by decide)
     have t66:sl a 66 = .bool false:=hI 11 (by decide)
     simp only [List.foldl,t66] at ha
     generalize sl a 55 = u55 at ha
     generalize sl a 56 = u56 at ha
     generalize sl a 57 = u57 at ha
     generalize sl a 58 = u58 at ha
     generalize sl a 59 = u59 at ha
     generalize sl a 60 = u60 at ha
     generalize sl a 61 = u61 at ha
     generalize sl a 62 = u62 at ha
     generalize sl a 63 = u63 at ha
     generalize sl a 64 = u64 at ha
     generalize sl a 65 = u65 at ha
     simp only [Act.put,List.setIfInBounds_toArray,List.set_cons_zero,List.set_cons_succ] at ha
     rw [ha]
     clear ha hI ht
     have HR6:=Lib.hid (HR.out.keep hb)
     clear hb HR hx hzc hd eEI hein'
     go_wp2
     go_roundw
     case rel=>exact ⟨i + 1,by have:=HI4.out;omega,by go_num,HJ2.out,HR6.out⟩
     case measure=>simp [intOf];have:=HI4.out;omega
    ·have hd:((x.toNat:Int) != (z.toNat:Int)) = true:=bne_iff_ne.2 fun e=>hxz (UInt8.toNat_inj.1 (by omega))
     have h10:readC k t D xs = 10:=HR2.out fun e=>hxz (by
      have:=(HSB.out.2 e) i HI4.out
      rw [HXE.out,HZ.out] at this
      exact Option.some.inj this)
     have HR10:=Lib.hid h10
     clear hxz HJ h10
     go_wp2_with fail
     refine wp_region_shapes (fun ix=>([.val (.slice (some ⟨b,o,none⟩) n c),.val (.int .i64 (n:Nat)),.val (.int .i64 (E:Nat)),.val (.int .i64 (i:Nat)),.val (.int .i64 (ei:Nat)),.val (.pointer (some ⟨b,o + ei,none⟩)),.val (B8 x),.val (.slice (some ⟨gs,0,none⟩) 4 4),.val (.int .i64 (i:Nat)),.val (.pointer (some ⟨gs,i,none⟩)),.val (B8 z),.val (.bool true)][ix]?).getD (.any)) 105 rfl (by kernel_rfl) (by decide +kernel) (by decide +kernel) (by decide +kernel) ?_ ?_
     ·refine ⟨?_,?_,?_,?_,?_,?_,?_,?_,?_,?_,?_,?_,trivial⟩
      ·intro a W hb0 hs hp hi;have hb:=undrew hb0;clear hb0
       have t1:sl a 1 = .slice (some ⟨b,o,none⟩) n c:=hi 1 (by decide)
       exact ite_y rfl (wp_val (sl a 1) rfl ⟨_,rfl,Below.refl _ _,t1⟩)
      ·intro a W hb0 hs hp hi;have hb:=undrew hb0;clear hb0
       have t10:sl a 10 = .int .i64 (n:Nat):=hi 10 (by decide)
       exact ite_y rfl (wp_val (sl a 10) rfl ⟨_,rfl,Below.refl _ _,t10⟩)
      ·intro a W hb0 hs hp hi;have hb:=undrew hb0;clear hb0
       have t56:sl a 56 = .int .i64 (n:Nat):=hp 1 (by decide)
       refine ite_y rfl (wp_val (.int .i64 (E:Nat)) ?_ ?_)
       ·simp only [execOp,eval_tmp,eval_const,t56];simp [go_sem,eE,EW.out]
       ·exact ⟨_,rfl,Below.refl _ _,rfl⟩
      ·intro a W hb0 hs hp hi;have hb:=undrew hb0;clear hb0
       have t13:sl a 13 = .int .i64 (i:Nat):=hi 13 (by decide)
       exact ite_y rfl (wp_val (sl a 13) rfl ⟨_,rfl,Below.refl _ _,t13⟩)
      ·intro a W hb0 hs hp hi;have hb:=undrew hb0;clear hb0
       have t57:sl a 57 = .int .i64 (E:Nat):=hp 2 (by decide)
       have t58:sl a 58 = .int .i64 (i:Nat):=hp 3 (by decide)
       refine ite_y rfl (wp_val (.int .i64 (ei:Nat)) ?_ ?_)
       ·simp only [execOp,eval_tmp,eval_const,t57,t58];simp [go_sem,eEI]
       ·exact ⟨_,rfl,Below.refl _ _,rfl⟩
      ·intro a W hb0 hs hp hi;have hb:=undrew hb0;clear hb0
       have ti0:sl a 55 = .slice (some ⟨b,o,none⟩) n c:=hp 0 (by decide)
       have ti1:sl a 59 = .int .i64 (ei:Nat):=hp 4 (by decide)
       refine ite_y rfl (wp_val (.pointer (some ⟨b,o + ei,none⟩)) ?_ ?_)
       ·simp only [execOp,eval_tmp,eval_const,ti0,ti1];simp [go_sem,hein']
       ·exact ⟨_,rfl,Below.refl _ _,rfl⟩
      ·intro a W hb0 hs hp hi;have hb:=undrew hb0;clear hb0
       have tt:sl a 60 = .pointer (some ⟨b,o + ei,none⟩):=hp 5 (by decide)
       have dd:=(hb.cell (p:=⟨b,o + ei,none⟩) (lt_of_cell hx)).trans hx
       refine ite_y rfl (wp_val (B8 x) ?_ ?_)
       ·simp only [execOp,eval_tmp,tt];simp [go_sem,dd]
       ·exact ⟨_,rfl,Below.refl _ _,rfl⟩
      ·intro a W hb0 hs hp hi;have hb:=undrew hb0;clear hb0
       have t12:sl a 12 = .slice (some ⟨gs,0,none⟩) 4 4:=hi 12 (by decide)
       exact ite_y rfl (wp_val (sl a 12) rfl ⟨_,rfl,Below.refl _ _,t12⟩)
      ·intro a W hb0 hs hp hi;have hb:=undrew hb0;clear hb0
       have t13:sl a 13 = .int .i64 (i:Nat):=hi 13 (by decide)
       exact ite_y rfl (wp_val (sl a 13) rfl ⟨_,rfl,Below.refl _ _,t13⟩)
      ·intro a W hb0 hs hp hi;have hb:=undrew hb0;clear hb0
       have ti0:sl a 62 = .slice (some ⟨gs,0,none⟩) 4 4:=hp 7 (by decide)
       have ti1:sl a 63 = .int .i64 (i:Nat):=hp 8 (by decide)
       refine ite_y rfl (wp_val (.pointer (some ⟨gs,i,none⟩)) ?_ ?_)
       ·simp only [execOp,eval_tmp,eval_const,ti0,ti1];simp [go_sem,hi4']
       ·exact ⟨_,rfl,Below.refl _ _,rfl⟩
      ·intro a W hb0 hs hp hi;have hb:=undrew hb0;clear hb0
       have tt:sl a 64 = .pointer (some ⟨gs,i,none⟩):=hp 9 (by decide)
       have dd:=(hb.cell (p:=⟨gs,i,none⟩) (lt_of_cell hzc)).trans hzc
       refine ite_y rfl (wp_val (B8 z) ?_ ?_)
       ·simp only [execOp,eval_tmp,tt];simp [go_sem,dd]
       ·exact ⟨_,rfl,Below.refl _ _,rfl⟩
      ·intro a W hb0 hs hp hi;have hb:=undrew hb0;clear hb0
       have t61:sl a 61 = B8 x:=hp 6 (by decide)
       have t65:sl a 65 = B8 z:=hp 10 (by decide)
       refine ite_y rfl (wp_val (.bool true) ?_ ?_)
       ·simp only [execOp,eval_tmp,eval_const,t61,t65];simp [go_sem,hd]
       ·exact ⟨_,rfl,Below.refl _ _,rfl⟩
     intro a w6 hb hs hd hI ht
     have ha:=act_is [55,56,57,58,59,60,61,62,63,64,65,66] hs hd ht (by decide)
     have t66:sl a 66 = .bool true:=hI 11 (by decide)
     simp only [List.foldl,t66] at ha
     generalize sl a 55 = u55 at ha
     generalize sl a 56 = u56 at ha
     generalize sl a 57 = u57 at ha
     generalize sl a 58 = u58 at ha
     generalize sl a 59 = u59 at ha
     generalize sl a 60 = u60 at ha
     generalize sl a 61 = u61 at ha
     generalize sl a 62 = u62 at ha
     generalize sl a 63 = u63 at ha
     generalize sl a 64 = u64 at ha
     generalize sl a 65 = u65 at ha
     simp only [Act.put,List.setIfInBounds_toArray,List.set_cons_zero,List.set_cons_succ] at ha
     rw [ha]
     clear ha hI ht
     have HR6:=Lib.hid (HR.out.keep hb)
     have hr6:=HR6.out.r
     clear hb HR hx hzc hd eEI hein'
     go_wp2_with (refine wpList_store_row (o:=⟨none,.store 153 (.tmp 4) (.tmp 67),_,_,_,_⟩) rfl 153 (.tmp 4) (.tmp 67) rfl gr #[.int .u8 0,.int .u32 0,.int .u32 0,.int .u8 0,.slice none 0 0,.int .u64 0,.slice none 0 0] rfl rfl _ _ hr6 info_packet15 rfl (by simp [Value.oneCell']) ?_)
     refine bodyPost_ret (res_ct rfl _ _ _ 153 #[.int .u8 0,.int .u32 0,.int .u32 0,.int .u8 0,.slice none 0 0,.int .u64 0,.slice none 0 0] (0,0) _ (.int .i64 10) rfl (hrs hr6) rfl Tryz.underlying153 rfl info_packet15) rfl ?_
     exact HQ.out _ _ ⟨below_row HR6.out.bel HR6.out.rb,by rw [HR10.out];decide,by rw [HR10.out];rfl⟩
   ·obtain rfl:i = 4:=by omega
    have hsum:=HSB.out.1 HJ.out
    have HSM:=Lib.hid hsum
    clear hi4 hi HJ hsum
    obtain ⟨p0,p1,p2,p3⟩:=cells_four HR.out.p
    obtain ⟨d0,d1,d2⟩:=cells_three HR.out.h
    by_cases hO:O = D
    ·have hod:((O:Int) != (D:Int)) = false:=by rw [hO];simp
     have HR0:=Lib.hid (HR4.out HSM.out hO)
     have HOD:=Lib.hid hO
     clear hO
     have a0:∀ o',(wr.alloc o').cell? ⟨gh,0,none⟩ = _:=fun _=>calloc d0
     have a2:∀ o',(wr.alloc o').cell? ⟨gp,2,none⟩ = _:=fun _=>calloc p2
     go_wp2_with fail
     refine Calls.mono (HWD.out _) ?_
     rintro e w6 ⟨rfl,rfl⟩
     have ba:Below wr.heap.size wr (wr.alloc (.cells #[B8 m,.int .u32 (O:Nat),.int .u32 (M:Nat),B8 m,.slice none 0 0,.int .u64 0,.slice none 0 0] 153 (0,0))):=al (Below.refl _ _) (Nat.le_refl _)
     have k7:(wr.alloc (.cells #[B8 m,.int .u32 (O:Nat),.int .u32 (M:Nat),B8 m,.slice none 0 0,.int .u64 0,.slice none 0 0] 153 (0,0))).heap[wr.heap.size]? = some (.cells #[B8 m,.int .u32 (O:Nat),.int .u32 (M:Nat),B8 m,.slice none 0 0,.int .u64 0,.slice none 0 0] 153 (0,0)):=hnew rfl
     have HR6:=Lib.hid (HR.out.keep ba)
     have HG7:Hid (w.heap.size≤wr.heap.size∧gr < wr.heap.size∧gh < wr.heap.size∧gp < wr.heap.size):=⟨HR.out.bel.size,lt_of_block HR.out.r,lt_of_block HR.out.h,lt_of_block HR.out.p⟩
     obtain ⟨g7,hg7⟩:∃ g7,g7 = wr.heap.size:=⟨_,rfl⟩
     rw [← hg7] at k7 HG7
     clear a0 a2 p0 p1 p2 p3 d0 d1 d2 ba HR
     rcases HM2.out with hm0 | hm1
     ·subst hm0
      rw [show widS 0 k = k from if_pos rfl] at HNL HPX ⊢
      rw [← hg7]
      clear hg7
      generalize wr.alloc (.cells #[B8 0,.int .u32 (O:Nat),.int .u32 (M:Nat),B8 0,.slice none 0 0,.int .u64 0,.slice none 0 0] 153 (0,0)) = w7 at *
      obtain ⟨d0,d1,d2⟩:=cells_three HR6.out.h
      obtain ⟨p0,p1,p2,p3⟩:=cells_four HR6.out.p
      have z4:=frozen_of_row _ _ 4 _ _ k7
      obtain ⟨f0,f1,f2,f3,f4,f5,f6⟩:=cells_seven k7
      have hV:14 + k + t≤n:=by have:=HNL.out;omega
      have hcn:14≤c:=by omega
      have eb1:(k:Int)≤((c - 10:Nat):Int):=by omega
      have eb2:(k:Int)≤((n - 10:Nat):Int):=by omega
      have hk65:k≤n:=by omega
      go_upto_region 23 with (fail)
      have k8:(w7.setCell ⟨g7,4,none⟩ (.slice (some ⟨b,o + 10,none⟩) k (c - 10))).heap[g7]? = some (.cells #[B8 0,.int .u32 (O:Nat),.int .u32 (M:Nat),B8 0,.slice (some ⟨b,o + 10,none⟩) k (c - 10),.int .u64 0,.slice none 0 0] 153 (0,0)):=hss k7
      have q1:(w7.setCell ⟨g7,4,none⟩ (.slice (some ⟨b,o + 10,none⟩) k (c - 10))).heap[gr]? = _:=hsc HR6.out.r (by have:=HG7.out;simp;omega)
      have q2:(w7.setCell ⟨g7,4,none⟩ (.slice (some ⟨b,o + 10,none⟩) k (c - 10))).heap[gp]? = _:=hsc HR6.out.p (by have:=HG7.out;simp;omega)
      have HB8:=Lib.hid (HR6.out.bel.setCell (p:=⟨g7,4,none⟩) (by have:=HG7.out;simp;omega) (.slice (some ⟨b,o + 10,none⟩) k (c - 10)))
      generalize w7.setCell ⟨g7,4,none⟩ (.slice (some ⟨b,o + 10,none⟩) k (c - 10)) = w8 at *
      have HRB:=Lib.hid HR6.out.rb
      clear k7 HR6 z4 f0 f1 f2 f3 f4 f5 f6 d0 d1 d2 p0 p1 p2 p3 eb1 eb2 hk65
      obtain ⟨p0,p1,p2,p3⟩:=cells_four q2
      have z6:=frozen_of_row _ _ 6 _ _ k8
      obtain ⟨f0,f1,f2,f3,f4,f5,f6⟩:=cells_seven k8
      have ec1:(k:Int)≤((k:Nat):Int) + (t:Int):=by omega
      have ec2:((k:Nat):Int) + (t:Int)≤((c - 10:Nat):Int):=by omega
      have ec3:¬ (c - 10 = k):=by omega
      have ec4:k + t - k = t:=by omega
      go_upto_region 24 with (fail)
      have k9:(w8.setCell ⟨g7,6,none⟩ (.slice (some ⟨b,o + 10 + k,none⟩) t (c - 10 - k))).heap[g7]? = some (.cells #[B8 0,.int .u32 (O:Nat),.int .u32 (M:Nat),B8 0,.slice (some ⟨b,o + 10,none⟩) k (c - 10),.int .u64 0,.slice (some ⟨b,o + 10 + k,none⟩) t (c - 10 - k)] 153 (0,0)):=hss k8
      have r9:(w8.setCell ⟨g7,6,none⟩ (.slice (some ⟨b,o + 10 + k,none⟩) t (c - 10 - k))).heap[gr]? = _:=hsc q1 (by have:=HG7.out;simp;omega)
      have HB9:=Lib.hid (HB8.out.setCell (p:=⟨g7,6,none⟩) (by have:=HG7.out;simp;omega) (.slice (some ⟨b,o + 10 + k,none⟩) t (c - 10 - k)))
      generalize w8.setCell ⟨g7,6,none⟩ (.slice (some ⟨b,o + 10 + k,none⟩) t (c - 10 - k)) = w9 at *
      clear k8 q1 q2 HB8 z6 f0 f1 f2 f3 f4 f5 f6 p0 p1 p2 p3 ec1 ec2 ec3 ec4
      obtain ⟨f0,f1,f2,f3,f4,f5,f6⟩:=cells_seven k9
      go_wp2_with (refine wpList_store_row (o:=⟨none,.store 153 (.tmp 4) (.tmp 104),_,_,_,_⟩) rfl 153 (.tmp 4) (.tmp 104) rfl gr #[B8 0,.int .u32 (O:Nat),.int .u32 (M:Nat),B8 0,.slice (some ⟨b,o + 10,none⟩) k (c - 10),.int .u64 0,.slice (some ⟨b,o + 10 + k,none⟩) t (c - 10 - k)] rfl rfl _ _ r9 info_packet15 rfl (by simp [Value.oneCell']) ?_)
      refine bodyPost_ret (res_ct rfl _ _ _ 153 #[B8 0,.int .u32 (O:Nat),.int .u32 (M:Nat),B8 0,.slice (some ⟨b,o + 10,none⟩) k (c - 10),.int .u64 0,.slice (some ⟨b,o + 10 + k,none⟩) t (c - 10 - k)] (0,0) _ (.int .i64 0) rfl (hrs r9) rfl Tryz.underlying153 rfl info_packet15) rfl ?_
      have HBZ:=below_row (cs:=#[B8 0,.int .u32 (O:Nat),.int .u32 (M:Nat),B8 0,.slice (some ⟨b,o + 10,none⟩) k (c - 10),.int .u64 0,.slice (some ⟨b,o + 10 + k,none⟩) t (c - 10 - k)]) HB9.out HRB.out
      refine ⟨HBZ,.inl ⟨HR0.out,?_⟩⟩
      obtain ⟨x1,x2,x3,x4,x5⟩:=HPX.out
      rw [x1,x2,x3,x4,x5,← HOD.out]
      refine ⟨_,_,_,_,_,rfl,?_,fun _=>rfl,?_⟩
      ·exact fun W hW=>Sl.part (k:=10) (m:=k) hW (by omega)
      ·intro W hW
       have:=Sl.part (k:=10 + k) (m:=t) hW (by omega)
       rw [← Nat.add_assoc,← Nat.sub_sub] at this;exact this
     ·subst hm1
      rw [show widS 1 k = 8 from rfl] at HNL HPX ⊢
      rw [← hg7]
      clear hg7
      generalize wr.alloc (.cells #[B8 1,.int .u32 (O:Nat),.int .u32 (M:Nat),B8 1,.slice none 0 0,.int .u64 0,.slice none 0 0] 153 (0,0)) = w7 at *
      obtain ⟨d0,d1,d2⟩:=cells_three HR6.out.h
      obtain ⟨p0,p1,p2,p3⟩:=cells_four HR6.out.p
      have z4:=frozen_of_row _ _ 5 _ _ k7
      obtain ⟨f0,f1,f2,f3,f4,f5,f6⟩:=cells_seven k7
      have hV:14 + 8 + t≤n:=by have:=HNL.out;omega
      have hcn:14≤c:=by omega
      have hE8:=REight15_any (some ⟨b,o + 10,none⟩) (n - 10) (c - 10) ((xs.drop 10).take (n - 10)) w7 (Sl.part (k:=10) (m:=n - 10) (H.out.keep HR6.out.bel) (by omega)) (by omega)
      rw [List.take_take,Nat.min_eq_left (by omega)] at hE8
      obtain ⟨S,hS⟩:∃ S,S = get8 ((xs.drop 10).take 8):=⟨_,rfl⟩
      rw [← hS] at hE8
      have HE8:=Lib.hid hE8
      have HSS:=Lib.hid hS
      clear hE8 hS
      go_wp2_with fail
      refine Calls.mono HE8.out ?_
      rintro e w8 ⟨rfl,rfl⟩
      go_upto_region 23 with (fail)
      have k8:(w7.setCell ⟨g7,5,none⟩ (.int .u64 (S:Nat))).heap[g7]? = some (.cells #[B8 1,.int .u32 (O:Nat),.int .u32 (M:Nat),B8 1,.slice none 0 0,.int .u64 (S:Nat),.slice none 0 0] 153 (0,0)):=hss k7
      have q1:(w7.setCell ⟨g7,5,none⟩ (.int .u64 (S:Nat))).heap[gr]? = _:=hsc HR6.out.r (by have:=HG7.out;simp;omega)
      have q2:(w7.setCell ⟨g7,5,none⟩ (.int .u64 (S:Nat))).heap[gp]? = _:=hsc HR6.out.p (by have:=HG7.out;simp;omega)
      have HB8:=Lib.hid (HR6.out.bel.setCell (p:=⟨g7,5,none⟩) (by have:=HG7.out;simp;omega) (.int .u64 (S:Nat)))
      generalize w7.setCell ⟨g7,5,none⟩ (.int .u64 (S:Nat)) = w8 at *
      have HRB:=Lib.hid HR6.out.rb
      clear k7 HR6 z4 f0 f1 f2 f3 f4 f5 f6 d0 d1 d2 p0 p1 p2 p3
      obtain ⟨p0,p1,p2,p3⟩:=cells_four q2
      have z6:=frozen_of_row _ _ 6 _ _ k8
      obtain ⟨f0,f1,f2,f3,f4,f5,f6⟩:=cells_seven k8
      have ec1:(8:Int)≤((8:Nat):Int) + (t:Int):=by omega
      have ec2:((8:Nat):Int) + (t:Int)≤((c - 10:Nat):Int):=by omega
      have ec3:¬ (c - 10 = 8):=by omega
      have ec4:8 + t - 8 = t:=by omega
      go_upto_region 24 with (fail)
      have k9:(w8.setCell ⟨g7,6,none⟩ (.slice (some ⟨b,o + 10 + 8,none⟩) t (c - 10 - 8))).heap[g7]? = some (.cells #[B8 1,.int .u32 (O:Nat),.int .u32 (M:Nat),B8 1,.slice none 0 0,.int .u64 (S:Nat),.slice (some ⟨b,o + 10 + 8,none⟩) t (c - 10 - 8)] 153 (0,0)):=hss k8
      have r9:(w8.setCell ⟨g7,6,none⟩ (.slice (some ⟨b,o + 10 + 8,none⟩) t (c - 10 - 8))).heap[gr]? = _:=hsc q1 (by have:=HG7.out;simp;omega)
      have HB9:=Lib.hid (HB8.out.setCell (p:=⟨g7,6,none⟩) (by have:=HG7.out;simp;omega) (.slice (some ⟨b,o + 10 + 8,none⟩) t (c - 10 - 8)))
      generalize w8.setCell ⟨g7,6,none⟩ (.slice (some ⟨b,o + 10 + 8,none⟩) t (c - 10 - 8)) = w9 at *
      clear k8 q1 q2 HB8 z6 f0 f1 f2 f3 f4 f5 f6 p0 p1 p2 p3 ec1 ec2 ec3 ec4
      obtain ⟨f0,f1,f2,f3,f4,f5,f6⟩:=cells_seven k9
      go_wp2_with (refine wpList_store_row (o:=⟨none,.store 153 (.tmp 4) (.tmp 104),_,_,_,_⟩) rfl 153 (.tmp 4) (.tmp 104) rfl gr #[B8 1,.int .u32 (O:Nat),.int .u32 (M:Nat),B8 1,.slice none 0 0,.int .u64 (S:Nat),.slice (some ⟨b,o + 10 + 8,none⟩) t (c - 10 - 8)] rfl rfl _ _ r9 info_packet15 rfl (by simp [Value.oneCell']) ?_)
      refine bodyPost_ret (res_ct rfl _ _ _ 153 #[B8 1,.int .u32 (O:Nat),.int .u32 (M:Nat),B8 1,.slice none 0 0,.int .u64 (S:Nat),.slice (some ⟨b,o + 10 + 8,none⟩) t (c - 10 - 8)] (0,0) _ (.int .i64 0) rfl (hrs r9) rfl Tryz.underlying153 rfl info_packet15) rfl ?_
      have HBZ:=below_row (cs:=#[B8 1,.int .u32 (O:Nat),.int .u32 (M:Nat),B8 1,.slice none 0 0,.int .u64 (S:Nat),.slice (some ⟨b,o + 10 + 8,none⟩) t (c - 10 - 8)]) HB9.out HRB.out
      refine ⟨HBZ,.inl ⟨HR0.out,?_⟩⟩
      obtain ⟨x1,x2,x3,x4,x5⟩:=HPX.out
      rw [x1,x2,x3,x4,x5,← HOD.out]
      refine ⟨none,0,0,_,_,by rw [show rdS 1 ((xs.drop 10).take 8) = S by rw [HSS.out];rfl],?_,fun h=>(by cases h),?_⟩
      ·exact fun W _=>Sl.nil0 B8 W
      ·intro W hW
       have:=Sl.part (k:=10 + 8) (m:=t) hW (by omega)
       rw [← Nat.add_assoc,← Nat.sub_sub] at this;exact this
    ·have hod:((O:Int) != (D:Int)) = true:=bne_iff_ne.2 (by omega)
     have HR9:=Lib.hid (HR3.out HSM.out hO)
     have hr6:=HR.out.r
     clear hO
     go_wp2_with (refine wpList_store_row (o:=⟨none,.store 153 (.tmp 4) (.tmp 73),_,_,_,_⟩) rfl 153 (.tmp 4) (.tmp 73) rfl gr #[.int .u8 0,.int .u32 0,.int .u32 0,.int .u8 0,.slice none 0 0,.int .u64 0,.slice none 0 0] rfl rfl _ _ hr6 info_packet15 rfl (by simp [Value.oneCell']) ?_)
     refine bodyPost_ret (res_ct rfl _ _ _ 153 #[.int .u8 0,.int .u32 0,.int .u32 0,.int .u8 0,.slice none 0 0,.int .u64 0,.slice none 0 0] (0,0) _ (.int .i64 9) rfl (hrs hr6) rfl Tryz.underlying153 rfl info_packet15) rfl ?_
     exact HQ.out _ _ ⟨below_row HR.out.bel HR.out.rb,by rw [HR9.out];decide,by rw [HR9.out];rfl⟩
 ·have e0:((n:Int) != (lenP m k t:Int)) = true:=bne_iff_ne.2 (by omega)
  have HR4:=Lib.hid (HRC.out.1 hN)
  generalize lenP m k t = N at *
  clear hN
  go_wp2_with (refine wpList_store_row (o:=⟨none,.store 153 (.tmp 4) (.tmp 44),_,_,_,_⟩) rfl 153 (.tmp 4) (.tmp 44) rfl gr #[.int .u8 0,.int .u32 0,.int .u32 0,.int .u8 0,.slice none 0 0,.int .u64 0,.slice none 0 0] rfl rfl _ _ h2 info_packet15 rfl (by simp [Value.oneCell']) ?_)
  refine bodyPost_ret (res_ct rfl _ _ _ 153 #[.int .u8 0,.int .u32 0,.int .u32 0,.int .u8 0,.slice none 0 0,.int .u64 0,.slice none 0 0] (0,0) _ (.int .i64 4) rfl (hrs h2) rfl Tryz.underlying153 rfl info_packet15) rfl ?_
  exact HQ.out _ _ ⟨below_row HB3.out HGR.out,by rw [HR4.out];decide,by rw [HR4.out];rfl⟩
theorem RRead15_any (L t k D:Nat) (p:Option Addr) (n c:Nat) (xs:List UInt8) (w:World) (hP:POK L t k D) (h:Sl B8 w p n c xs) :
  Calls Tryz.prog 83 #[PVal L t k D,.slice p n c] w (RdRet k t D p n c xs w):=by
 have hl:=h.len
 by_cases hc:headC xs = 0
 ·have h10:10≤n:=by
   have g:=hc
   unfold headC at g
   by_cases e:xs.length < 10
   ·rw [if_pos e] at g;cases g
   ·omega
  obtain ⟨b,o,rfl,_⟩:=h.has (by omega)
  exact RRead15_body L t k D b o n c xs w hP h hc h10
 ·have e:readC k t D xs = headC xs:=by unfold readC;rw [if_pos hc]
  refine Calls.mono (RRead15_head L t k D p n c xs w hP h hc) fun e' w' g=>⟨g.2,.inr ⟨by rw [e];exact hc,by rw [e];exact g.1⟩⟩
end Go.Proofs.YtccaiiigdfieoaaGreatDoor
