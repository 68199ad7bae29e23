/- Chapter 25: ViewTells,of a plan that may be. The library's table of powers of ten,out of the row's condition. The table of the sum,out of the row's condition. What the library's variables hold,for keep: out of the row's condition. Chapter 25: ViewTells,of any plan. Arguments that came in: slices of byte slices. -/
import Derived.Test.YtccaiiigdfieoaaGreatDoorZl11
import Derived.Deep.DeepCutAuto
import Derived.Test.YtccaiiigdfieoaaGreatDoorRows
import Derived.Lib.LaidTab
import Derived.Stop.LaidErr
import Derived.OpenShut
import Derived.Deep.Matrix
namespace Go.By
open Go.RowKit Go.Proofs.YtccaiiigdfieoaaGreatDoor Go.Maps
def PrT (L:List (Nat × Nat)) (v:Value) (w:World):Prop:=∃ b q c,v = .slice q L.length c∧PrO w b q L.length c L
def ShPrT (L:List (Nat × Nat)):Shp:=⟨PrT L,fun _ _ _ ⟨b,q,c,e,h⟩ hb=>⟨b,q,c,e,h.keep hb⟩⟩
end Go.By
namespace Go.Proofs.YtccaiiigdfieoaaGreatDoor
open Go.RowKit Go.By Go.Maps
set_option maxRecDepth 1000000 in
set_option maxHeartbeats 8000000 in
theorem ViewTells_core (L t k D:Nat) (p1:Option Addr) (n1 c1:Nat) (xss:List (List UInt8)) (w:World) (hP:POK L t k D) (hk12:k≤12) (ht20:t≤20) (hfew:(xss.all (fun y=>decide (y.length≤800)) && decide (n1≤30)) = true) (hsm:small19 (L:Int) (t:Int) (k:Int) = true) (h1:Sl2 w p1 n1 c1 xss) (hT:HalfT w) (hX:Tab10 w) :
  Calls Tryz.prog 5 #[PVal L t k D,.slice p1 n1 c1] w fun e w'=>e = .returned (.bool true)∧Below w.heap.size w w':=by
 have HT:=Lib.hid hT
 have HTX:=Lib.hid hX
 have HFew:Hid (∀ w,Sl2 w p1 n1 c1 xss→Calls Tryz.prog 25 #[.slice p1 n1 c1] w fun e w'=>e = .returned (.bool true)∧w = w'):=fun w h=>by have:=Few18_any p1 n1 c1 xss w h;rw [hfew] at this;exact this
 have HSm:Hid (∀ w,Calls Tryz.prog 26 #[PVal L t k D] w fun e w'=>e = .returned (.bool true)∧Below w.heap.size w w'):=fun w=>by have:=Small19_any L t k D w hP.l;rw [hsm] at this;exact this
 have HNew:=Lib.hid (fun w=>TNew_ok L t k D w hP)
 have HP:=Lib.hid hP
 have H1:=Lib.hid h1
 have HFw:=Lib.hid hfew
 have HK12:=Lib.hid hk12
 have HT20:=Lib.hid ht20
 have hb1':=h1.bound
 have hP':=hP;have hk12':=hk12;have ht20':=ht20
 clear hT hP h1 hfew hsm hk12 ht20 hX
 go_enter Tryz.func5,Tryz.ntmps5
 go_wp2_with fail
 refine Calls.mono (awake25 _ (HTX.out.keep (al (Below.refl _ _) (Nat.le_refl _)))) ?_
 rintro e w1 ⟨rfl,hb⟩
 obtain ⟨hb1,kp,hs1⟩:=one_of hb
 have HB1:=Lib.hid hb1
 clear hb hb1
 go_wp2_with fail
 refine Calls.mono (HFew.out _ (H1.out.keep HB1.out)) ?_
 rintro e w2 ⟨rfl,rfl⟩
 obtain ⟨z0,z1,z2,z3⟩:=cells_four kp
 go_wp2_with fail
 refine Calls.mono (HSm.out _) ?_
 rintro e w3 ⟨rfl,hb⟩
 have HB3:=Lib.hid (bl HB1.out hb HB1.out.size)
 have kp3:=(hb.block _ (lt_of_block kp)).trans kp
 clear hb z0 z1 z2 z3 kp HB1 hs1
 obtain ⟨z0,z1,z2,z3⟩:=cells_four kp3
 go_wp2_with fail
 refine Calls.mono (HNew.out _) ?_
 rintro e w4 ⟨gt,be,v0,rfl,hr,hb⟩
 have HB4:=Lib.hid (bl HB3.out hb HB3.out.size)
 have HBase:Hid (w.heap.size≤w3.heap.size):=HB3.out.size
 obtain ⟨base,hbase⟩:∃ base,base = w3.heap.size:=⟨_,rfl⟩
 rw [← hbase] at hr HBase
 have kp4:=(hb.block _ (lt_of_block kp3)).trans kp3
 clear hb kp3 z0 z1 z2 z3 hbase HB3
 obtain ⟨z0,z1,z2,z3⟩:=cells_four kp4
 have ba:Below w4.heap.size w4 (w4.alloc (.cells #[.int .i64 (L:Nat),.int .i64 (t:Nat),.int .i64 (k:Nat),.int .u32 (D:Nat)] 52 (0,0))):=al (Below.refl _ _) (Nat.le_refl _)
 have kd:(w4.alloc (.cells #[.int .i64 (L:Nat),.int .i64 (t:Nat),.int .i64 (k:Nat),.int .u32 (D:Nat)] 52 (0,0))).heap[w4.heap.size]? = some (.cells #[.int .i64 (L:Nat),.int .i64 (t:Nat),.int .i64 (k:Nat),.int .u32 (D:Nat)] 52 (0,0)):=hnew rfl
 have KD5:=Lib.hid kd
 have HR5:=Lib.hid (hr.keep ba)
 have HB5:=Lib.hid (bl HB4.out ba HB4.out.size)
 have KP5:=Lib.hid ((ba.block _ (lt_of_block kp4)).trans kp4)
 have HK1:Hid (1≤k):=hr.ok.k1
 have hLm:=pok_small hP' hk12' ht20'
 have HFT:Hid ((∀ i:Nat,i < k→i * t≤L)∧L≤k * t):=pok_fit hP'
 clear ba kd hr HB4 HFew HSm HNew kp4 hP' hk12' ht20'
 go_wp2
 clear z0 z1 z2 z3
 obtain ⟨g1,hg1⟩:∃ g1,g1 = w4.heap.size:=⟨_,rfl⟩
 rw [← hg1] at KD5 ⊢
 clear hg1
 generalize w4.alloc (.cells #[.int .i64 (L:Nat),.int .i64 (t:Nat),.int .i64 (k:Nat),.int .u32 (D:Nat)] 52 (0,0)) = w5 at *
 go_loopw [8,9,51] (fun rv sv iv wr=>∃ (i:Nat) (M v:Value) (C:DataW Unit) (K X:List Rw) (st:Nat) (q:Option Addr) (c:Nat),i≤n1∧iv = .int .i64 (i:Nat)∧rv = .slice q X.length c∧sv = .int .i64 (st:Nat)∧X.length≤i∧Hid (Tkr wr base gt be L t k D i M v C K st)∧Hid (RefS k t X K)∧Hid (RRef w wr q X.length c X)∧Hid (StF k K st)∧Hid (wr.heap[w.heap.size]? = some (.cells #[.int .i64 (L:Nat),.int .i64 (t:Nat),.int .i64 (k:Nat),.int .u32 (D:Nat)] 27 (0,0)))∧Hid (Below w.heap.size w wr)∧Hid (wr.heap[g1]? = some (.cells #[.int .i64 (L:Nat),.int .i64 (t:Nat),.int .i64 (k:Nat),.int .u32 (D:Nat)] 52 (0,0)))) (fun _ _ iv _=>n1 - (intOf iv).toNat)
 case atStart=>exact ⟨0,_,_,_,_,[],0,none,0,Nat.zero_le _,rfl,rfl,rfl,Nat.zero_le _,HR5.out,RefS.nil k t,RRef.nil _ _,StF.nil HK1.out,KP5.out,HB5.out,KD5.out⟩
 case round =>
  obtain ⟨i,M,v,C,K,X,st,q,c,hi,rfl,rfl,rfl,hxi,HR6,HX6,HF6,HS6,KP6,HB6,KD6⟩:=hrel
  clear HR5 HB5 KD5 KP5
  by_cases hlt:i < n1
  ·obtain ⟨bb,oo,qx,mx,cx,xs,rfl,hcd,hsd,hxd⟩:=H1.out.at i hlt
   have hcd6:=(HB6.out.cell (lt_of_cell hcd)).trans hcd
   have HXS:=Lib.hid hsd
   have hmx:xs.length≤800:=few_len19 HFw.out hxd.out
   have hmb:Room mx:=by have:=hsd.len;unfold Room;omega
   have hi30:i < 30:=by
    have:=HFw.out
    rw [Bool.and_eq_true] at this
    have:=of_decide_eq_true this.2
    omega
   have hlt':(i:Int) < (n1:Int):=by omega
   have HLT:=Lib.hid hlt
   clear hcd hsd hxd hlt hmx
   go_wp2_with fail
   refine Calls.mono (TTake_any base gt be L t k D i M v C K st qx mx cx xs wr HR6.out (HT.out.keep HB6.out) (by omega) (HXS.out.keep HB6.out) hmb) ?_
   rintro e w4 ⟨rfl,M4,v4,hk4,hch,-⟩
   have HR4:=Lib.hid hk4
   have HW4:=Lib.hid (HB6.out.trans (hch.below HR6.out HBase.out HB6.out.size))
   have HF4:=Lib.hid (HF6.out.keepS (hch.keepS HR6.out))
   have KP4:Hid (w4.heap[w.heap.size]? = some (.cells #[.int .i64 (L:Nat),.int .i64 (t:Nat),.int .i64 (k:Nat),.int .u32 (D:Nat)] 27 (0,0))):=hch.blk HR6.out KP6.out (by decide) (by decide) (by decide)
   have HS4:=Lib.hid (HS6.out.take (t:=t) (D:=D) xs)
   have KD4:Hid (w4.heap[g1]? = some (.cells #[.int .i64 (L:Nat),.int .i64 (t:Nat),.int .i64 (k:Nat),.int .u32 (D:Nat)] 52 (0,0))):=hch.blk HR6.out KD6.out (by decide) (by decide) (by decide)
   obtain ⟨hx4,hz4⟩:=HX6.out.take (D:=D) (st:=st) xs
   have hxl4:=refX_len k t D X st xs
   clear hk4 hch HR6 HF6 KD6 HB6 KP6 HS6
   obtain ⟨d0,d1,d2,d3⟩:=cells_four KD4.out
   go_wp2_with fail
   refine Calls.mono (RTake19_any L t k D q X.length c X st qx mx cx xs w w4 HP.out HW4.out HF4.out HXS.out HX6.out.fit (by omega)) ?_
   rintro e w5 ⟨q5,n5,c5,rfl,hf5,hb⟩
   rw [hz4] at *
   have HX5:=Lib.hid hx4
   generalize refX k t D X st xs = X5 at *
   generalize takeK k t D K st xs = K5 at *
   generalize takeS k t D K st xs = st5 at *
   generalize readC k t D xs = code at *
   obtain rfl:X5.length = n5:=hf5.len
   have HF5:=Lib.hid hf5
   have HR5:=Lib.hid (HR4.out.keep hb)
   have HW5:=Lib.hid (bl HW4.out hb HW4.out.size)
   have KD5:=Lib.hid ((hb.block _ (lt_of_block KD4.out)).trans KD4.out)
   have KP5:=Lib.hid ((hb.block _ (lt_of_block KP4.out)).trans KP4.out)
   generalize bump C code = C5 at *
   clear hf5 hb hx4 hz4 HR4 HF4 KD4 KP4 HW4 d0 d1 d2 d3 HX6 HXS
   have hxl:X5.length≤i + 1:=by omega
   have HFr:Hid (X5.length≤31):=by show _≤_;omega
   have HKn:Hid (∀ W,Below w5.heap.size w5 W→∀ n:Nat,Calls Tryz.prog 38 #[.slice q5 X5.length c5,.int .i64 (n:Nat)] W fun e w'=>∃ q m c,e = .returned (.tuple #[.slice q m c,.bool (knS k K5 n)])∧Below W.heap.size W w'):=fun W hW n=>(RKnown19 HX5.out HK12.out HT20.out HFr.out (HF5.out.keep hW) (bl HW5.out hW HW5.out.size) n).mono fun e w' ⟨q,m,c,h1,_,h3⟩=>⟨q,m,c,h1,h3⟩
   have HRw:Hid (∀ W,Below w5.heap.size w5 W→Calls Tryz.prog 30 #[.slice q5 X5.length c5] W (RetKN W K5)):=fun W hW=>RRows19 HX5.out HK12.out HT20.out HFr.out (HF5.out.keep hW) (bl HW5.out hW HW5.out.size)
   have HOf:Hid (∀ W,Below w5.heap.size w5 W→Calls Tryz.prog 35 #[.pointer (some ⟨gt,0,none⟩)] W fun e w'=>e = .returned (VwV L t k D st5 K5.length (if st5 = 0 then k - K5.length else 0) (cntB (knS k K5) k))∧Below W.heap.size W w'):=fun W hW=>VOf_any base gt be L t k D (i + 1) M4 v4 C5 K5 st5 W (HR5.out.keep hW)
   have HMp:Hid (∀ W,Below w5.heap.size w5 W→Calls Tryz.prog 36 #[.pointer (some ⟨gt,0,none⟩)] W fun e w'=>e = .returned (.string (strB (mapT k (knS k K5))))∧Below W.heap.size W w'):=fun W hW=>VMap_any base gt be L t k D (i + 1) M4 v4 C5 K5 st5 W (HR5.out.keep hW)
   have HGp:Hid (∀ W,Below w5.heap.size w5 W→Calls Tryz.prog 37 #[.pointer (some ⟨gt,0,none⟩)] W (RetPr W (gapsF (fun a=>knS k K5 (a / t)) L))):=fun W hW=>VGaps_any base gt be L t k D (i + 1) M4 v4 C5 K5 st5 W (HR5.out.keep hW) hLm HFT.out.1 HFT.out.2
   have hKk:K5.length≤k:=Red.le HR5.out.red
   have hst2:st5≤2:=HS4.out.1
   generalize knS k K5 = f at *
   obtain ⟨d0,d1,d2,d3⟩:=cells_four KD5.out
   have hk12n:k≤12:=HK12.out
   have hmk:=mk_boolsU k (by omega)
   obtain ⟨z0,hz0⟩:∃ z,z = boolC k (fun _=>false):=⟨_,rfl⟩
   rw [← hz0] at hmk
   have HZ0:=Lib.hid hz0
   clear hz0
   go_wp2_with (first | simp only [hmk] | fail)
   have ba:Below w5.heap.size w5 (w5.alloc (.cells z0 4)):=al (Below.refl _ _) (Nat.le_refl _)
   have hg0:(w5.alloc (.cells z0 4)).heap[w5.heap.size]? = some (.cells (boolC k (fun a=>if a < 0 then f a else false)) 4 (0,0)):=by
    rw [hnew rfl,HZ0.out]
    congr 2
   have HG0:=Lib.hid hg0
   have HB0:=Lib.hid ba
   clear ba hg0 hmk HZ0 d0 d1 d2 d3
   obtain ⟨g,hg⟩:∃ g,g = w5.heap.size:=⟨_,rfl⟩
   have HGe:Hid (w5.heap.size≤g):=by show _≤_;omega
   rw [← hg] at HG0 ⊢
   clear hg
   generalize w5.alloc (.cells z0 4) = w6 at *
   go_loopw [13,72] (fun nv iv wr=>∃ j:Nat,j≤k∧iv = .int .i64 (j:Nat)∧nv = .int .i64 (cntB f j:Nat)∧Hid (wr.heap[g]? = some (.cells (boolC k (fun a=>if a < j then f a else false)) 4 (0,0)))∧Hid (Below w5.heap.size w5 wr)) (fun _ iv _=>k - (intOf iv).toNat)
   case atStart=>exact ⟨0,Nat.zero_le _,rfl,rfl,HG0.out,HB0.out⟩
   case round =>
    obtain ⟨j,hj,rfl,rfl,HG,HB⟩:=hrel
    clear HG0 HB0
    by_cases hlt:j < k
    ·have hlt':(j:Int) < (k:Int):=by omega
     have HLT2:=Lib.hid hlt
     have hcj:=cntB_le f j
     clear hlt
     go_wp2_with fail
     refine Calls.mono (HKn.out wr HB.out j) ?_
     rintro e w7 ⟨qz,mz,cz,rfl,hb⟩
     have HB7:=Lib.hid (bl HB.out hb HB.out.size)
     have HG7:=Lib.hid ((hb.block _ (lt_of_block HG.out)).trans HG.out)
     have hc7:w7.cell? ⟨g,j,none⟩ = some (.bool false):=by
      rw [cell_of_row _ _ j _ _ _ HG7.out,boolC_at _ HLT2.out,if_neg (by omega)]
     have hf7:w7.frozen? ⟨g,j,none⟩ = false:=frozen_of_row _ _ j _ _ HG7.out
     have HG8:Hid ((w7.setCell ⟨g,j,none⟩ (.bool (f j))).heap[g]? = some (.cells (boolC k (fun a=>if a < j + 1 then f a else false)) 4 (0,0))):=by
      show _ = _
      rw [heap_setCell_same _ _ _ _ _ _ HG7.out,boolC_set _ _ HLT2.out]
      congr 2
      refine boolC_congr fun a ha=>?_
      by_cases e1:a = j
      ·subst e1;rw [if_pos rfl,if_pos (by omega)]
      ·rw [if_neg e1]
       by_cases e2:a < j
       ·rw [if_pos e2,if_pos (by omega)]
       ·rw [if_neg e2,if_neg (by omega)]
     have HB8:Hid (Below w5.heap.size w5 (w7.setCell ⟨g,j,none⟩ (.bool (f j)))):=HB7.out.setCell HGe.out _
     have HCS:Hid (cntB f (j + 1) = if f j then cntB f j + 1 else cntB f j):=rfl
     clear hb HG HB HG7 HB7
     cases hf:f j with
     | true =>
      rw [hf] at HCS HG8 HB8
      go_wp2
      clear hc7 hf7
      go_roundw
      case rel=>exact ⟨j + 1,HLT2.out,by go_num,by rw [HCS.out];rfl,HG8.out,HB8.out⟩
      case measure=>simp [intOf];have:=HLT2.out;omega
     | false =>
      rw [hf] at HCS HG8 HB8
      go_wp2
      clear hc7 hf7
      go_roundw
      case rel=>exact ⟨j + 1,HLT2.out,by go_num,by rw [HCS.out];rfl,HG8.out,HB8.out⟩
      case measure=>simp [intOf];have:=HLT2.out;omega
    ·obtain rfl:k = j:=by omega
     have HGk:Hid (wr.heap[g]? = some (.cells (boolC k f) 4 (0,0))):=by
      show _ = _
      rw [HG.out]
      congr 2
      exact boolC_congr fun a ha=>if_pos ha
     clear hlt HG
     have HGt:Hid (g < wr.heap.size):=lt_of_block HGk.out
     obtain ⟨d0,d1,d2,d3⟩:=cells_four ((HB.out.block _ (lt_of_block KD5.out)).trans KD5.out)
     have hmk:=mk_boolsU L hLm
     obtain ⟨z0,hz0⟩:∃ z,z = boolC L (fun _=>false):=⟨_,rfl⟩
     rw [← hz0] at hmk
     have HZ0:=Lib.hid hz0
     clear hz0
     go_wp2_with (first | simp only [hmk] | fail)
     have ba:Below wr.heap.size wr (wr.alloc (.cells z0 4)):=al (Below.refl _ _) (Nat.le_refl _)
     have hg0:(wr.alloc (.cells z0 4)).heap[wr.heap.size]? = some (.cells (boolC L (fun a=>if a < 0 then f (a / t) else false)) 4 (0,0)):=by
      rw [hnew rfl,HZ0.out]
      congr 2
     have HG0:=Lib.hid hg0
     have HB0:=Lib.hid (bl HB.out ba HB.out.size)
     have HK0:=Lib.hid ((ba.block _ HGt.out).trans HGk.out)
     clear ba hg0 hmk HZ0 d0 d1 d2 d3
     obtain ⟨gg,hgg⟩:∃ gg,gg = wr.heap.size:=⟨_,rfl⟩
     have HGGe:Hid (w5.heap.size≤gg∧gg≠g):=⟨by have:=HB.out.size;omega,by have:=HGt.out;omega⟩
     rw [← hgg] at HG0 ⊢
     clear hgg HB HGk HGt
     generalize wr.alloc (.cells z0 4) = w6 at *
     go_loopw [96] (fun iv wr=>∃ a:Nat,a≤L∧iv = .int .i64 (a:Nat)∧Hid (wr.heap[gg]? = some (.cells (boolC L (fun b=>if b < a then f (b / t) else false)) 4 (0,0)))∧Hid (wr.heap[g]? = some (.cells (boolC k f) 4 (0,0)))∧Hid (Below w5.heap.size w5 wr)) (fun iv _=>L - (intOf iv).toNat)
     case atStart=>exact ⟨0,Nat.zero_le _,rfl,HG0.out,HK0.out,HB0.out⟩
     case round =>
      obtain ⟨a,ha,rfl,HG,HK,HB⟩:=hrel
      clear HG0 HB0 HK0
      by_cases hlt:a < L
      ·have hlt':(a:Int) < (L:Int):=by omega
       have HLT2:=Lib.hid hlt
       obtain ⟨d0,d1,d2,d3⟩:=cells_four ((HB.out.block _ (lt_of_block KD5.out)).trans KD5.out)
       have hq:wrap64 ((a:Int) / (t:Int)) = ((a / t:Nat):Int):=wrap_quo (by omega)
       have ht1:1≤t:=HR5.out.ok.t1
       have hdk:a / t < k:=(Nat.div_lt_iff_lt_mul (by omega)).2 (Nat.lt_of_lt_of_le hlt HFT.out.2)
       have ht0:¬ ((t:Int) = 0):=by omega
       have hc1:wr.cell? ⟨g,a / t,none⟩ = some (.bool (f (a / t))):=by rw [cell_of_row _ _ _ _ _ _ HK.out];exact boolC_at _ hdk
       have hc2:wr.cell? ⟨gg,a,none⟩ = some (.bool false):=by
        rw [cell_of_row _ _ a _ _ _ HG.out,boolC_at _ hlt,if_neg (by omega)]
       have hf2:wr.frozen? ⟨gg,a,none⟩ = false:=frozen_of_row _ _ a _ _ HG.out
       have HG8:Hid ((wr.setCell ⟨gg,a,none⟩ (.bool (f (a / t)))).heap[gg]? = some (.cells (boolC L (fun b=>if b < a + 1 then f (b / t) else false)) 4 (0,0))):=by
        show _ = _
        rw [heap_setCell_same _ _ _ _ _ _ HG.out,boolC_set _ _ hlt]
        congr 2
        refine boolC_congr fun b hb=>?_
        by_cases e1:b = a
        ·subst e1;rw [if_pos rfl,if_pos (by omega)]
        ·rw [if_neg e1]
         by_cases e2:b < a
         ·rw [if_pos e2,if_pos (by omega)]
         ·rw [if_neg e2,if_neg (by omega)]
       have HB8:Hid (Below w5.heap.size w5 (wr.setCell ⟨gg,a,none⟩ (.bool (f (a / t))))):=HB.out.setCell HGGe.out.1 _
       have HK8:Hid ((wr.setCell ⟨gg,a,none⟩ (.bool (f (a / t)))).heap[g]? = some (.cells (boolC k f) 4 (0,0))):=(Below.heap_setCell _ _ _ _ (fun e=>HGGe.out.2 (by simpa using e.symm))).trans HK.out
       obtain ⟨d,hd⟩:∃ d,d = a / t:=⟨_,rfl⟩
       rw [← hd] at hq hdk hc1 HG8 HB8 HK8
       have hdk':(d:Int) < (k:Int):=Int.ofNat_lt.2 hdk
       clear hlt hd HG HK HB
       go_wp2
       clear hc1 hc2 hf2 d0 d1 d2 d3
       go_roundw
       case rel=>exact ⟨a + 1,HLT2.out,by go_num,HG8.out,HK8.out,HB8.out⟩
       case measure=>simp [intOf];have:=HLT2.out;omega
      ·obtain rfl:L = a:=by omega
       have HGb:Hid (wr.heap[gg]? = some (.cells (boolC L (fun b=>f (b / t))) 4 (0,0))):=by
        show _ = _
        rw [HG.out]
        congr 2
        exact boolC_congr fun b hb=>if_pos hb
       clear hlt HG
       have HRT:Hid (Tab10 wr):=HTX.out.keep (bl HW5.out HB.out HW5.out.size)
       obtain ⟨d0,d1,d2,d3⟩:=cells_four ((HB.out.block _ (lt_of_block KD5.out)).trans KD5.out)
       have hm12:cntB f k≤k:=cntB_le f k
       obtain ⟨m,hm⟩:∃ m,m = cntB f k:=⟨_,rfl⟩
       rw [← hm] at hm12 HOf ⊢
       clear hm
       have HSt:Hid (st5 = 0∨st5 = 1∨st5 = 2):=by show _∨_;omega
       obtain ⟨r,hr⟩:∃ r,r = K5.length:=⟨_,rfl⟩
       have HRl:=Lib.hid hr
       by_cases hst:st5 = 0
       ·have hz:((st5:Int) == 0) = true:=by rw [hst];rfl
        obtain ⟨nd,hnd⟩:∃ nd,nd = k - K5.length:=⟨_,rfl⟩
        have hnd':IntKind.i64.wrap ((k:Int) - (r:Int)) = (nd:Int):=by rw [IntKind.wrap_i64];omega
        have HOf2:Hid (∀ W,Below w5.heap.size w5 W→Calls Tryz.prog 35 #[.pointer (some ⟨gt,0,none⟩)] W fun e w'=>e = .returned (.agg #[.int .i64 (L:Nat),.int .i64 (t:Nat),.int .i64 (k:Nat),.int .u32 (D:Nat),.int .i64 (st5:Nat),.int .i64 (r:Nat),.int .i64 (nd:Nat),.int .i64 (m:Nat)])∧Below W.heap.size W w'):=fun W hW=>by
         have:=HOf.out W hW
         rw [if_pos hst,← hnd,← hr] at this
         exact this
        have hnl:nd≤12:=by omega
        have hrl:r≤12:=by omega
        clear hst hnd HOf hr hKk hst2
        go_upto_region 32 with (fail)
        refine wp_region_shapes (fun ix=>([.val (.pointer (some ⟨g1,2,none⟩)),.val (.int .i64 (k:Nat)),.val (.slice q5 X5.length c5),(ShRw4 K5),.val (.int .i64 (r:Nat)),.val (.int .i64 (nd:Nat)),.val (.int .i64 (nd:Nat))][ix]?).getD (.any)) 159 rfl (by kernel_rfl) (by decide +kernel) (by decide +kernel) (by decide +kernel) ?_ ?_
        ·refine ⟨?_,?_,?_,?_,?_,?_,?_,trivial⟩
         ·intro a W hb0 hs hp hi;have hb:=undrew hb0;clear hb0
          have t7:sl a 7 = .pointer (some ⟨g1,0,none⟩):=hi 7 (by decide)
          refine ite_y rfl (wp_val (.pointer (some ⟨g1,2,none⟩)) ?_ ?_)
          ·simp only [execOp,eval_tmp,eval_const,t7];simp [go_sem]
          ·exact ⟨_,rfl,Below.refl _ _,rfl⟩
         ·intro a W hb0 hs hp hi;have hb:=undrew hb0;clear hb0
          have tt:sl a 112 = .pointer (some ⟨g1,2,none⟩):=hp 0 (by decide)
          have dd:=(hb.cell (p:=⟨g1,2,none⟩) (lt_of_cell d2)).trans d2
          refine ite_y rfl (wp_val (.int .i64 (k:Nat)) ?_ ?_)
          ·simp only [execOp,eval_tmp,tt];simp [go_sem,dd]
          ·exact ⟨_,rfl,Below.refl _ _,rfl⟩
         ·intro a W hb0 hs hp hi;have hb:=undrew hb0;clear hb0
          have t8:sl a 8 = .slice q5 X5.length c5:=hi 8 (by decide)
          exact ite_y rfl (wp_val (sl a 8) rfl ⟨_,rfl,Below.refl _ _,t8⟩)
         ·intro a W hb0 hs hp hi;have hb:=undrew hb0;clear hb0
          have tt:sl a 114 = .slice q5 X5.length c5:=hp 2 (by decide)
          refine ite_y rfl (wp_enter 30 #[.slice q5 X5.length c5] ?_ (HRw.out W (bl HB.out hb HB.out.size)) ?_)
          ·simp only [execOp,resolve,List.map_toArray,List.map,eval_tmp,eval_func,eval_const,tt];simp [go_sem]
          ·rintro e W' ⟨q6,n6,g6,rfl,rfl,hz,hw,-⟩;exact ⟨_,rfl,_,rfl,hw,q6,g6,rfl,hz⟩
         ·intro a W hb0 hs hp hi;have hb:=undrew hb0;clear hb0
          have tt:RwT4 K5 (sl a 115) W:=hp 3 (by decide)
          obtain ⟨q6,g6,tt,zz⟩:=tt
          rw [← HRl.out] at tt
          refine ite_y rfl (wp_val (.int .i64 (r:Nat)) ?_ ?_)
          ·simp only [execOp,resolve,List.map_toArray,List.map,eval_tmp,eval_func,eval_const,tt];simp [go_sem]
          ·exact ⟨_,rfl,Below.refl _ _,rfl⟩
         ·intro a W hb0 hs hp hi;have hb:=undrew hb0;clear hb0
          have t113:sl a 113 = .int .i64 (k:Nat):=hp 1 (by decide)
          have t116:sl a 116 = .int .i64 (r:Nat):=hp 4 (by decide)
          refine ite_y rfl (wp_val (.int .i64 (nd:Nat)) ?_ ?_)
          ·simp only [execOp,eval_tmp,eval_const,t113,t116];simp [go_sem,hnd']
          ·exact ⟨_,rfl,Below.refl _ _,rfl⟩
         ·intro a W hb0 hs hp hi;have hb:=undrew hb0;clear hb0
          have t117:sl a 117 = .int .i64 (nd:Nat):=hp 5 (by decide)
          exact ite_y rfl (wp_val (sl a 117) rfl ⟨_,rfl,Below.refl _ _,t117⟩)
        intro a w6 hb hs hd hI ht
        have ha:=act_is [112,113,114,115,116,117,17] hs hd ht (by decide)
        have t17:sl a 17 = .int .i64 (nd:Nat):=hI 6 (by decide)
        simp only [List.foldl,t17] at ha
        generalize sl a 112 = u112 at ha
        generalize sl a 113 = u113 at ha
        generalize sl a 114 = u114 at ha
        generalize sl a 115 = u115 at ha
        generalize sl a 116 = u116 at ha
        generalize sl a 117 = u117 at ha
        simp only [Act.put,List.setIfInBounds_toArray,List.set_cons_zero,List.set_cons_succ] at ha
        rw [ha]
        clear ha hI ht
        clear hz hnd' d0 d1 d2 d3
        have HB6:=Lib.hid (bl HB.out hb HB.out.size)
        have HGb6:=Lib.hid ((hb.block _ (lt_of_block HGb.out)).trans HGb.out)
        have HK6:=Lib.hid ((hb.block _ (lt_of_block HK.out)).trans HK.out)
        have HTb6:=Lib.hid (HRT.out.keep hb)
        clear hb HB HGb HK HRT
        go_wp2_with fail
        refine Calls.mono (HOf2.out w6 HB6.out) ?_
        rintro e w8 ⟨rfl,hb⟩
        have HB8:=Lib.hid (bl HB6.out hb HB6.out.size)
        have HGb8:=Lib.hid ((hb.block _ (lt_of_block HGb6.out)).trans HGb6.out)
        have HK8:=Lib.hid ((hb.block _ (lt_of_block HK6.out)).trans HK6.out)
        have HTb8:=Lib.hid (HTb6.out.keep hb)
        clear hb HB6 HGb6 HK6 HTb6 HOf2
        have ba:Below w8.heap.size w8 (w8.alloc (.cells #[.int .i64 (L:Nat),.int .i64 (t:Nat),.int .i64 (k:Nat),.int .u32 (D:Nat),.int .i64 (st5:Nat),.int .i64 (r:Nat),.int .i64 (nd:Nat),.int .i64 (m:Nat)] 63 (0,0))):=al (Below.refl _ _) (Nat.le_refl _)
        have hv:(w8.alloc (.cells #[.int .i64 (L:Nat),.int .i64 (t:Nat),.int .i64 (k:Nat),.int .u32 (D:Nat),.int .i64 (st5:Nat),.int .i64 (r:Nat),.int .i64 (nd:Nat),.int .i64 (m:Nat)] 63 (0,0))).heap[w8.heap.size]? = some (.cells #[.int .i64 (L:Nat),.int .i64 (t:Nat),.int .i64 (k:Nat),.int .u32 (D:Nat),.int .i64 (st5:Nat),.int .i64 (r:Nat),.int .i64 (nd:Nat),.int .i64 (m:Nat)] 63 (0,0)):=hnew rfl
        have HV9:=Lib.hid hv
        have HB9:=Lib.hid (bl HB8.out ba HB8.out.size)
        have HGb9:=Lib.hid ((ba.block _ (lt_of_block HGb8.out)).trans HGb8.out)
        have HK9:=Lib.hid ((ba.block _ (lt_of_block HK8.out)).trans HK8.out)
        have HTb9:=Lib.hid (HTb8.out.keep ba)
        clear ba hv HB8 HGb8 HK8 HTb8
        go_upto_region 34 with (fail)
        obtain ⟨gv,hgv⟩:∃ gv,gv = w8.heap.size:=⟨_,rfl⟩
        rw [← hgv] at HV9 ⊢
        clear hgv
        generalize w8.alloc (.cells #[.int .i64 (L:Nat),.int .i64 (t:Nat),.int .i64 (k:Nat),.int .u32 (D:Nat),.int .i64 (st5:Nat),.int .i64 (r:Nat),.int .i64 (nd:Nat),.int .i64 (m:Nat)] 63 (0,0)) = w9 at *
        obtain ⟨v0,v1,v2,v3,v4,v5,v6,v7⟩:=cells_eight HV9.out
        obtain ⟨d0,d1,d2,d3⟩:=cells_four ((HB9.out.block _ (lt_of_block KD5.out)).trans KD5.out)
        obtain ⟨e0,e1,e2,e3⟩:=cells_four ((HB9.out.block _ (lt_of_block KP5.out)).trans KP5.out)
        have HQT:Hid (∀ W,Below w9.heap.size w9 W→Calls Tryz.prog 39 #[.agg #[.int .i64 (L:Nat),.int .i64 (t:Nat),.int .i64 (k:Nat),.int .u32 (D:Nat),.int .i64 (st5:Nat),.int .i64 (r:Nat),.int .i64 (nd:Nat),.int .i64 (m:Nat)]] W fun e w'=>e = .returned (.string (strB (viewT st5 r k nd m)))∧Below W.heap.size W w'):=fun W hW=>VText_any L t k D st5 r nd m W (HTb9.out.keep hW) HSt.out (by omega) (by omega) (by omega) (by omega)
        have HQR:Hid (∀ W,Below w9.heap.size w9 W→Calls Tryz.prog 40 #[.int .i64 (st5:Nat),.int .i64 (r:Nat),.int .i64 (k:Nat),.int .i64 (nd:Nat),.int .i64 (m:Nat)] W fun e w'=>e = .returned (.string (strB (viewT st5 r k nd m)))∧Below W.heap.size W w'):=fun W hW=>RText25_any k st5 r nd m W (HTb9.out.keep hW) HSt.out (by omega) (by omega) (by omega) (by omega)
        have HQM:Hid (∀ W,Below w9.heap.size w9 W→Calls Tryz.prog 36 #[.pointer (some ⟨gt,0,none⟩)] W fun e w'=>e = .returned (.string (strB (mapT k f)))∧Below W.heap.size W w'):=fun W hW=>HMp.out W (bl HB9.out hW HB9.out.size)
        have HQN:Hid (∀ W,Below w9.heap.size w9 W→Calls Tryz.prog 41 #[.slice (some ⟨g,0,none⟩) k k] W fun e w'=>e = .returned (.string (strB (mapT k f)))∧Below W.heap.size W w'):=fun W hW=>(RMap25_any g k f W ((hW.block _ (lt_of_block HK9.out)).trans HK9.out) (by omega)).mono fun e w' ⟨h1,h2⟩=>⟨h1,by rw [← h2];exact Below.refl _ _⟩
        have HQG:Hid (∀ W,Below w9.heap.size w9 W→Calls Tryz.prog 37 #[.pointer (some ⟨gt,0,none⟩)] W (RetPr W (gapsF (fun a=>f (a / t)) L))):=fun W hW=>HGp.out W (bl HB9.out hW HB9.out.size)
        have HQH:Hid (∀ W,Below w9.heap.size w9 W→Calls Tryz.prog 43 #[.slice (some ⟨gg,0,none⟩) L L] W (RetPr W (gapsF (fun a=>f (a / t)) L))):=fun W hW=>RGaps_any gg L (fun a=>f (a / t)) W ((hW.block _ (lt_of_block HGb9.out)).trans HGb9.out) hLm
        have HQW:Hid (∀ W,Below w9.heap.size w9 W→Calls Tryz.prog 30 #[.slice q5 X5.length c5] W (RetKN W K5)):=fun W hW=>HRw.out W (bl HB9.out hW HB9.out.size)
        clear HMp HGp HKn HRw HV9 HGb9 HK9 HTb9
        generalize gapsF (fun a=>f (a / t)) L = G at *
        generalize strB (mapT k f) = MS at *
        generalize strB (viewT st5 r k nd m) = VS at *
        have hms:(MS.toList == MS.toList) = true:=beq_self_eq_true _
        have hvs:(VS.toList == VS.toList) = true:=beq_self_eq_true _
        have hqv:=eq_view (L:Int) (t:Int) (k:Int) (D:Int) (st5:Int) (r:Int) (nd:Nat) (m:Int)
        refine wp_region_shapes (fun ix=>([.val (.agg #[.int .i64 (L:Nat),.int .i64 (t:Nat),.int .i64 (k:Nat),.int .u32 (D:Nat),.int .i64 (st5:Nat),.int .i64 (r:Nat),.int .i64 (nd:Nat),.int .i64 (m:Nat)]),.val (.agg #[.int .i64 (L:Nat),.int .i64 (t:Nat),.int .i64 (k:Nat),.int .u32 (D:Nat)]),.val (.int .i64 (st5:Nat)),.val (.slice q5 X5.length c5),(ShRw4 K5),.val (.int .i64 (r:Nat)),.val (.int .i64 (nd:Nat)),.val (.int .i64 (m:Nat)),.val (.agg #[.int .i64 (L:Nat),.int .i64 (t:Nat),.int .i64 (k:Nat),.int .u32 (D:Nat),.int .i64 (st5:Nat),.int .i64 (r:Nat),.int .i64 (nd:Nat),.int .i64 (m:Nat)]),.val (.bool false),.val (.bool false),.val (.agg #[.int .i64 (L:Nat),.int .i64 (t:Nat),.int .i64 (k:Nat),.int .u32 (D:Nat),.int .i64 (st5:Nat),.int .i64 (r:Nat),.int .i64 (nd:Nat),.int .i64 (m:Nat)]),.val (.string VS),.val (.int .i64 (st5:Nat)),.val (.pointer (some ⟨gv,5,none⟩)),.val (.int .i64 (r:Nat)),.val (.pointer (some ⟨g1,2,none⟩)),.val (.int .i64 (k:Nat)),.val (.int .i64 (nd:Nat)),.val (.int .i64 (m:Nat)),.val (.string VS),.val (.bool false),.val (.bool false),.val (.bool false),.val (.pointer (some ⟨gt,0,none⟩)),.val (.string MS),.val (.slice (some ⟨g,0,none⟩) k k),.val (.string MS),.val (.bool false),.val (.bool false),.val (.bool false),.val (.pointer (some ⟨gt,0,none⟩)),(ShPrT G),.val (.slice (some ⟨gg,0,none⟩) L L),(ShPrT G),.val (.bool true),.val (.bool false),.val (.bool false)][ix]?).getD (.any)) 159 rfl (by kernel_rfl) (by decide +kernel) (by decide +kernel) (by decide +kernel) ?_ ?_
        ·refine ⟨?_,?_,?_,?_,?_,?_,?_,?_,?_,?_,?_,?_,?_,?_,?_,?_,?_,?_,?_,?_,?_,?_,?_,?_,?_,?_,?_,?_,?_,?_,?_,?_,?_,?_,?_,?_,?_,?_,trivial⟩
         ·intro a W hb0 hs hp hi;have hb:=undrew hb0;clear hb0
          have tt:sl a 18 = .pointer (some ⟨gv,0,none⟩):=hi 18 (by decide)
          have dd0:=(hb.cell (p:=⟨gv,0,none⟩) (lt_of_cell v0)).trans v0
          have dd1:=(hb.cell (p:=⟨gv,1,none⟩) (lt_of_cell v1)).trans v1
          have dd2:=(hb.cell (p:=⟨gv,2,none⟩) (lt_of_cell v2)).trans v2
          have dd3:=(hb.cell (p:=⟨gv,3,none⟩) (lt_of_cell v3)).trans v3
          have dd4:=(hb.cell (p:=⟨gv,4,none⟩) (lt_of_cell v4)).trans v4
          have dd5:=(hb.cell (p:=⟨gv,5,none⟩) (lt_of_cell v5)).trans v5
          have dd6:=(hb.cell (p:=⟨gv,6,none⟩) (lt_of_cell v6)).trans v6
          have dd7:=(hb.cell (p:=⟨gv,7,none⟩) (lt_of_cell v7)).trans v7
          refine ite_y rfl (wp_val (.agg #[.int .i64 (L:Nat),.int .i64 (t:Nat),.int .i64 (k:Nat),.int .u32 (D:Nat),.int .i64 (st5:Nat),.int .i64 (r:Nat),.int .i64 (nd:Nat),.int .i64 (m:Nat)]) ?_ ?_)
          ·simp only [execOp,eval_tmp,tt];simp [go_sem,dd0,dd1,dd2,dd3,dd4,dd5,dd6,dd7]
          ·exact ⟨_,rfl,Below.refl _ _,rfl⟩
         ·intro a W hb0 hs hp hi;have hb:=undrew hb0;clear hb0
          have tt:sl a 2 = .pointer (some ⟨w.heap.size,0,none⟩):=hi 2 (by decide)
          have dd0:=(hb.cell (p:=⟨w.heap.size,0,none⟩) (lt_of_cell e0)).trans e0
          have dd1:=(hb.cell (p:=⟨w.heap.size,1,none⟩) (lt_of_cell e1)).trans e1
          have dd2:=(hb.cell (p:=⟨w.heap.size,2,none⟩) (lt_of_cell e2)).trans e2
          have dd3:=(hb.cell (p:=⟨w.heap.size,3,none⟩) (lt_of_cell e3)).trans e3
          refine ite_y rfl (wp_val (.agg #[.int .i64 (L:Nat),.int .i64 (t:Nat),.int .i64 (k:Nat),.int .u32 (D:Nat)]) ?_ ?_)
          ·simp only [execOp,eval_tmp,tt];simp [go_sem,dd0,dd1,dd2,dd3]
          ·exact ⟨_,rfl,Below.refl _ _,rfl⟩
         ·intro a W hb0 hs hp hi;have hb:=undrew hb0;clear hb0
          have t9:sl a 9 = .int .i64 (st5:Nat):=hi 9 (by decide)
          exact ite_y rfl (wp_val (sl a 9) rfl ⟨_,rfl,Below.refl _ _,t9⟩)
         ·intro a W hb0 hs hp hi;have hb:=undrew hb0;clear hb0
          have t8:sl a 8 = .slice q5 X5.length c5:=hi 8 (by decide)
          exact ite_y rfl (wp_val (sl a 8) rfl ⟨_,rfl,Below.refl _ _,t8⟩)
         ·intro a W hb0 hs hp hi;have hb:=undrew hb0;clear hb0
          have tt:sl a 123 = .slice q5 X5.length c5:=hp 3 (by decide)
          refine ite_y rfl (wp_enter 30 #[.slice q5 X5.length c5] ?_ (HQW.out W hb) ?_)
          ·simp only [execOp,resolve,List.map_toArray,List.map,eval_tmp,eval_func,eval_const,tt];simp [go_sem]
          ·rintro e W' ⟨q6,n6,g6,rfl,rfl,hz,hw,-⟩;exact ⟨_,rfl,_,rfl,hw,q6,g6,rfl,hz⟩
         ·intro a W hb0 hs hp hi;have hb:=undrew hb0;clear hb0
          have tt:RwT4 K5 (sl a 124) W:=hp 4 (by decide)
          obtain ⟨q6,g6,tt,zz⟩:=tt
          rw [← HRl.out] at tt
          refine ite_y rfl (wp_val (.int .i64 (r:Nat)) ?_ ?_)
          ·simp only [execOp,resolve,List.map_toArray,List.map,eval_tmp,eval_func,eval_const,tt];simp [go_sem]
          ·exact ⟨_,rfl,Below.refl _ _,rfl⟩
         ·intro a W hb0 hs hp hi;have hb:=undrew hb0;clear hb0
          have t17:sl a 17 = .int .i64 (nd:Nat):=hi 17 (by decide)
          exact ite_y rfl (wp_val (sl a 17) rfl ⟨_,rfl,Below.refl _ _,t17⟩)
         ·intro a W hb0 hs hp hi;have hb:=undrew hb0;clear hb0
          have t13:sl a 13 = .int .i64 (m:Nat):=hi 13 (by decide)
          exact ite_y rfl (wp_val (sl a 13) rfl ⟨_,rfl,Below.refl _ _,t13⟩)
         ·intro a W hb0 hs hp hi;have hb:=undrew hb0;clear hb0
          have x1:sl a 121 = .agg #[.int .i64 (L:Nat),.int .i64 (t:Nat),.int .i64 (k:Nat),.int .u32 (D:Nat)]:=hp 1 (by decide)
          have x2:sl a 122 = .int .i64 (st5:Nat):=hp 2 (by decide)
          have x3:sl a 125 = .int .i64 (r:Nat):=hp 5 (by decide)
          have x4:sl a 126 = .int .i64 (nd:Nat):=hp 6 (by decide)
          have x5:sl a 127 = .int .i64 (m:Nat):=hp 7 (by decide)
          refine ite_y rfl (wp_val (.agg #[.int .i64 (L:Nat),.int .i64 (t:Nat),.int .i64 (k:Nat),.int .u32 (D:Nat),.int .i64 (st5:Nat),.int .i64 (r:Nat),.int .i64 (nd:Nat),.int .i64 (m:Nat)]) ?_ ?_)
          ·simp only [execOp,eval_tmp,eval_const,List.map_toArray,List.map,x1,x2,x3,x4,x5];simp [go_sem,Tryz.underlying63,x1,x2,x3,x4,x5]
          ·exact ⟨_,rfl,Below.refl _ _,rfl⟩
         ·intro a W hb0 hs hp hi;have hb:=undrew hb0;clear hb0
          have x1:sl a 120 = .agg #[.int .i64 (L:Nat),.int .i64 (t:Nat),.int .i64 (k:Nat),.int .u32 (D:Nat),.int .i64 (st5:Nat),.int .i64 (r:Nat),.int .i64 (nd:Nat),.int .i64 (m:Nat)]:=hp 0 (by decide)
          have x2:sl a 128 = .agg #[.int .i64 (L:Nat),.int .i64 (t:Nat),.int .i64 (k:Nat),.int .u32 (D:Nat),.int .i64 (st5:Nat),.int .i64 (r:Nat),.int .i64 (nd:Nat),.int .i64 (m:Nat)]:=hp 8 (by decide)
          refine ite_y rfl (wp_val (.bool false) ?_ ?_)
          ·simp only [execOp,eval_tmp,x1,x2];simp [go_sem,hqv]
          ·exact ⟨_,rfl,Below.refl _ _,rfl⟩
         ·intro a W hb0 hs hp hi;have hb:=undrew hb0;clear hb0
          have t129:sl a 129 = .bool false:=hp 9 (by decide)
          exact ite_y rfl (wp_val (sl a 129) rfl ⟨_,rfl,Below.refl _ _,t129⟩)
         ·intro a W hb0 hs hp hi;have hb:=undrew hb0;clear hb0
          have tg:sl a 130 = .bool false:=hp 10 (by decide)
          have tt:sl a 18 = .pointer (some ⟨gv,0,none⟩):=hi 18 (by decide)
          have dd0:=(hb.cell (p:=⟨gv,0,none⟩) (lt_of_cell v0)).trans v0
          have dd1:=(hb.cell (p:=⟨gv,1,none⟩) (lt_of_cell v1)).trans v1
          have dd2:=(hb.cell (p:=⟨gv,2,none⟩) (lt_of_cell v2)).trans v2
          have dd3:=(hb.cell (p:=⟨gv,3,none⟩) (lt_of_cell v3)).trans v3
          have dd4:=(hb.cell (p:=⟨gv,4,none⟩) (lt_of_cell v4)).trans v4
          have dd5:=(hb.cell (p:=⟨gv,5,none⟩) (lt_of_cell v5)).trans v5
          have dd6:=(hb.cell (p:=⟨gv,6,none⟩) (lt_of_cell v6)).trans v6
          have dd7:=(hb.cell (p:=⟨gv,7,none⟩) (lt_of_cell v7)).trans v7
          refine ite_y (wanted_yes rfl rfl (by have hz:a.tmps.size = 159:=hs;rw [hz];decide) tg) (wp_val (.agg #[.int .i64 (L:Nat),.int .i64 (t:Nat),.int .i64 (k:Nat),.int .u32 (D:Nat),.int .i64 (st5:Nat),.int .i64 (r:Nat),.int .i64 (nd:Nat),.int .i64 (m:Nat)]) ?_ ?_)
          ·simp only [execOp,eval_tmp,tt];simp [go_sem,dd0,dd1,dd2,dd3,dd4,dd5,dd6,dd7]
          ·exact ⟨_,rfl,Below.refl _ _,rfl⟩
         ·intro a W hb0 hs hp hi;have hb:=undrew hb0;clear hb0
          have tg:sl a 130 = .bool false:=hp 10 (by decide)
          have t131:sl a 131 = .agg #[.int .i64 (L:Nat),.int .i64 (t:Nat),.int .i64 (k:Nat),.int .u32 (D:Nat),.int .i64 (st5:Nat),.int .i64 (r:Nat),.int .i64 (nd:Nat),.int .i64 (m:Nat)]:=hp 11 (by decide)
          refine ite_y (wanted_yes rfl rfl (by have hz:a.tmps.size = 159:=hs;rw [hz];decide) tg) (wp_enter 39 #[.agg #[.int .i64 (L:Nat),.int .i64 (t:Nat),.int .i64 (k:Nat),.int .u32 (D:Nat),.int .i64 (st5:Nat),.int .i64 (r:Nat),.int .i64 (nd:Nat),.int .i64 (m:Nat)]] ?_ (HQT.out W hb) ?_)
          ·simp only [execOp,resolve,List.map_toArray,List.map,eval_tmp,eval_func,eval_const,t131];simp [go_sem]
          ·rintro e W' ⟨rfl,hw⟩;exact ⟨_,rfl,_,rfl,hw,rfl⟩
         ·intro a W hb0 hs hp hi;have hb:=undrew hb0;clear hb0
          have tg:sl a 130 = .bool false:=hp 10 (by decide)
          have t9:sl a 9 = .int .i64 (st5:Nat):=hi 9 (by decide)
          exact ite_y (wanted_yes rfl rfl (by have hz:a.tmps.size = 159:=hs;rw [hz];decide) tg) (wp_val (sl a 9) rfl ⟨_,rfl,Below.refl _ _,t9⟩)
         ·intro a W hb0 hs hp hi;have hb:=undrew hb0;clear hb0
          have tg:sl a 130 = .bool false:=hp 10 (by decide)
          have t18:sl a 18 = .pointer (some ⟨gv,0,none⟩):=hi 18 (by decide)
          refine ite_y (wanted_yes rfl rfl (by have hz:a.tmps.size = 159:=hs;rw [hz];decide) tg) (wp_val (.pointer (some ⟨gv,5,none⟩)) ?_ ?_)
          ·simp only [execOp,eval_tmp,eval_const,t18];simp [go_sem]
          ·exact ⟨_,rfl,Below.refl _ _,rfl⟩
         ·intro a W hb0 hs hp hi;have hb:=undrew hb0;clear hb0
          have tg:sl a 130 = .bool false:=hp 10 (by decide)
          have tt:sl a 134 = .pointer (some ⟨gv,5,none⟩):=hp 14 (by decide)
          have dd:=(hb.cell (p:=⟨gv,5,none⟩) (lt_of_cell v5)).trans v5
          refine ite_y (wanted_yes rfl rfl (by have hz:a.tmps.size = 159:=hs;rw [hz];decide) tg) (wp_val (.int .i64 (r:Nat)) ?_ ?_)
          ·simp only [execOp,eval_tmp,tt];simp [go_sem,dd]
          ·exact ⟨_,rfl,Below.refl _ _,rfl⟩
         ·intro a W hb0 hs hp hi;have hb:=undrew hb0;clear hb0
          have tg:sl a 130 = .bool false:=hp 10 (by decide)
          have t7:sl a 7 = .pointer (some ⟨g1,0,none⟩):=hi 7 (by decide)
          refine ite_y (wanted_yes rfl rfl (by have hz:a.tmps.size = 159:=hs;rw [hz];decide) tg) (wp_val (.pointer (some ⟨g1,2,none⟩)) ?_ ?_)
          ·simp only [execOp,eval_tmp,eval_const,t7];simp [go_sem]
          ·exact ⟨_,rfl,Below.refl _ _,rfl⟩
         ·intro a W hb0 hs hp hi;have hb:=undrew hb0;clear hb0
          have tg:sl a 130 = .bool false:=hp 10 (by decide)
          have tt:sl a 136 = .pointer (some ⟨g1,2,none⟩):=hp 16 (by decide)
          have dd:=(hb.cell (p:=⟨g1,2,none⟩) (lt_of_cell d2)).trans d2
          refine ite_y (wanted_yes rfl rfl (by have hz:a.tmps.size = 159:=hs;rw [hz];decide) tg) (wp_val (.int .i64 (k:Nat)) ?_ ?_)
          ·simp only [execOp,eval_tmp,tt];simp [go_sem,dd]
          ·exact ⟨_,rfl,Below.refl _ _,rfl⟩
         ·intro a W hb0 hs hp hi;have hb:=undrew hb0;clear hb0
          have tg:sl a 130 = .bool false:=hp 10 (by decide)
          have t17:sl a 17 = .int .i64 (nd:Nat):=hi 17 (by decide)
          exact ite_y (wanted_yes rfl rfl (by have hz:a.tmps.size = 159:=hs;rw [hz];decide) tg) (wp_val (sl a 17) rfl ⟨_,rfl,Below.refl _ _,t17⟩)
         ·intro a W hb0 hs hp hi;have hb:=undrew hb0;clear hb0
          have tg:sl a 130 = .bool false:=hp 10 (by decide)
          have t13:sl a 13 = .int .i64 (m:Nat):=hi 13 (by decide)
          exact ite_y (wanted_yes rfl rfl (by have hz:a.tmps.size = 159:=hs;rw [hz];decide) tg) (wp_val (sl a 13) rfl ⟨_,rfl,Below.refl _ _,t13⟩)
         ·intro a W hb0 hs hp hi;have hb:=undrew hb0;clear hb0
          have tg:sl a 130 = .bool false:=hp 10 (by decide)
          have t133:sl a 133 = .int .i64 (st5:Nat):=hp 13 (by decide)
          have t135:sl a 135 = .int .i64 (r:Nat):=hp 15 (by decide)
          have t137:sl a 137 = .int .i64 (k:Nat):=hp 17 (by decide)
          have t138:sl a 138 = .int .i64 (nd:Nat):=hp 18 (by decide)
          have t139:sl a 139 = .int .i64 (m:Nat):=hp 19 (by decide)
          refine ite_y (wanted_yes rfl rfl (by have hz:a.tmps.size = 159:=hs;rw [hz];decide) tg) (wp_enter 40 #[.int .i64 (st5:Nat),.int .i64 (r:Nat),.int .i64 (k:Nat),.int .i64 (nd:Nat),.int .i64 (m:Nat)] ?_ (HQR.out W hb) ?_)
          ·simp only [execOp,resolve,List.map_toArray,List.map,eval_tmp,eval_func,eval_const,t133,t135,t137,t138,t139];simp [go_sem]
          ·rintro e W' ⟨rfl,hw⟩;exact ⟨_,rfl,_,rfl,hw,rfl⟩
         ·intro a W hb0 hs hp hi;have hb:=undrew hb0;clear hb0
          have tg:sl a 130 = .bool false:=hp 10 (by decide)
          have x1:sl a 132 = .string VS:=hp 12 (by decide)
          have x2:sl a 140 = .string VS:=hp 20 (by decide)
          refine ite_y (wanted_yes rfl rfl (by have hz:a.tmps.size = 159:=hs;rw [hz];decide) tg) (wp_val (.bool false) ?_ ?_)
          ·simp only [execOp,eval_tmp,x1,x2];simp [go_sem,hvs]
          ·exact ⟨_,rfl,Below.refl _ _,rfl⟩
         ·intro a W hb0 hs hp hi;have hb:=undrew hb0;clear hb0
          have t130:sl a 130 = .bool false:=hp 10 (by decide)
          have t141:sl a 141 = .bool false:=hp 21 (by decide)
          refine ite_y rfl (wp_val (.bool false) ?_ ?_)
          ·simp only [execOp,eval_tmp,eval_const,t130,t141];simp [go_sem]
          ·exact ⟨_,rfl,Below.refl _ _,rfl⟩
         ·intro a W hb0 hs hp hi;have hb:=undrew hb0;clear hb0
          have t142:sl a 142 = .bool false:=hp 22 (by decide)
          exact ite_y rfl (wp_val (sl a 142) rfl ⟨_,rfl,Below.refl _ _,t142⟩)
         ·intro a W hb0 hs hp hi;have hb:=undrew hb0;clear hb0
          have tg:sl a 143 = .bool false:=hp 23 (by decide)
          have t5:sl a 5 = .pointer (some ⟨gt,0,none⟩):=hi 5 (by decide)
          exact ite_y (wanted_yes rfl rfl (by have hz:a.tmps.size = 159:=hs;rw [hz];decide) tg) (wp_val (sl a 5) rfl ⟨_,rfl,Below.refl _ _,t5⟩)
         ·intro a W hb0 hs hp hi;have hb:=undrew hb0;clear hb0
          have tg:sl a 143 = .bool false:=hp 23 (by decide)
          have t144:sl a 144 = .pointer (some ⟨gt,0,none⟩):=hp 24 (by decide)
          refine ite_y (wanted_yes rfl rfl (by have hz:a.tmps.size = 159:=hs;rw [hz];decide) tg) (wp_enter 36 #[.pointer (some ⟨gt,0,none⟩)] ?_ (HQM.out W hb) ?_)
          ·simp only [execOp,resolve,List.map_toArray,List.map,eval_tmp,eval_func,eval_const,t144];simp [go_sem]
          ·rintro e W' ⟨rfl,hw⟩;exact ⟨_,rfl,_,rfl,hw,rfl⟩
         ·intro a W hb0 hs hp hi;have hb:=undrew hb0;clear hb0
          have tg:sl a 143 = .bool false:=hp 23 (by decide)
          have t12:sl a 12 = .slice (some ⟨g,0,none⟩) k k:=hi 12 (by decide)
          exact ite_y (wanted_yes rfl rfl (by have hz:a.tmps.size = 159:=hs;rw [hz];decide) tg) (wp_val (sl a 12) rfl ⟨_,rfl,Below.refl _ _,t12⟩)
         ·intro a W hb0 hs hp hi;have hb:=undrew hb0;clear hb0
          have tg:sl a 143 = .bool false:=hp 23 (by decide)
          have t146:sl a 146 = .slice (some ⟨g,0,none⟩) k k:=hp 26 (by decide)
          refine ite_y (wanted_yes rfl rfl (by have hz:a.tmps.size = 159:=hs;rw [hz];decide) tg) (wp_enter 41 #[.slice (some ⟨g,0,none⟩) k k] ?_ (HQN.out W hb) ?_)
          ·simp only [execOp,resolve,List.map_toArray,List.map,eval_tmp,eval_func,eval_const,t146];simp [go_sem]
          ·rintro e W' ⟨rfl,hw⟩;exact ⟨_,rfl,_,rfl,hw,rfl⟩
         ·intro a W hb0 hs hp hi;have hb:=undrew hb0;clear hb0
          have tg:sl a 143 = .bool false:=hp 23 (by decide)
          have x1:sl a 145 = .string MS:=hp 25 (by decide)
          have x2:sl a 147 = .string MS:=hp 27 (by decide)
          refine ite_y (wanted_yes rfl rfl (by have hz:a.tmps.size = 159:=hs;rw [hz];decide) tg) (wp_val (.bool false) ?_ ?_)
          ·simp only [execOp,eval_tmp,x1,x2];simp [go_sem,hms]
          ·exact ⟨_,rfl,Below.refl _ _,rfl⟩
         ·intro a W hb0 hs hp hi;have hb:=undrew hb0;clear hb0
          have t143:sl a 143 = .bool false:=hp 23 (by decide)
          have t148:sl a 148 = .bool false:=hp 28 (by decide)
          refine ite_y rfl (wp_val (.bool false) ?_ ?_)
          ·simp only [execOp,eval_tmp,eval_const,t143,t148];simp [go_sem]
          ·exact ⟨_,rfl,Below.refl _ _,rfl⟩
         ·intro a W hb0 hs hp hi;have hb:=undrew hb0;clear hb0
          have t149:sl a 149 = .bool false:=hp 29 (by decide)
          exact ite_y rfl (wp_val (sl a 149) rfl ⟨_,rfl,Below.refl _ _,t149⟩)
         ·intro a W hb0 hs hp hi;have hb:=undrew hb0;clear hb0
          have tg:sl a 150 = .bool false:=hp 30 (by decide)
          have t5:sl a 5 = .pointer (some ⟨gt,0,none⟩):=hi 5 (by decide)
          exact ite_y (wanted_yes rfl rfl (by have hz:a.tmps.size = 159:=hs;rw [hz];decide) tg) (wp_val (sl a 5) rfl ⟨_,rfl,Below.refl _ _,t5⟩)
         ·intro a W hb0 hs hp hi;have hb:=undrew hb0;clear hb0
          have tg:sl a 150 = .bool false:=hp 30 (by decide)
          have tt:sl a 151 = .pointer (some ⟨gt,0,none⟩):=hp 31 (by decide)
          refine ite_y (wanted_yes rfl rfl (by have hz:a.tmps.size = 159:=hs;rw [hz];decide) tg) (wp_enter 37 #[.pointer (some ⟨gt,0,none⟩)] ?_ (HQG.out W hb) ?_)
          ·simp only [execOp,resolve,List.map_toArray,List.map,eval_tmp,eval_func,eval_const,tt];simp [go_sem]
          ·rintro e W' ⟨q6,n6,g6,rfl,ho,hw⟩;obtain rfl:=ho.1;exact ⟨_,rfl,_,rfl,hw,_,q6,g6,rfl,ho⟩
         ·intro a W hb0 hs hp hi;have hb:=undrew hb0;clear hb0
          have tg:sl a 150 = .bool false:=hp 30 (by decide)
          have t15:sl a 15 = .slice (some ⟨gg,0,none⟩) L L:=hi 15 (by decide)
          exact ite_y (wanted_yes rfl rfl (by have hz:a.tmps.size = 159:=hs;rw [hz];decide) tg) (wp_val (sl a 15) rfl ⟨_,rfl,Below.refl _ _,t15⟩)
         ·intro a W hb0 hs hp hi;have hb:=undrew hb0;clear hb0
          have tg:sl a 150 = .bool false:=hp 30 (by decide)
          have tt:sl a 153 = .slice (some ⟨gg,0,none⟩) L L:=hp 33 (by decide)
          refine ite_y (wanted_yes rfl rfl (by have hz:a.tmps.size = 159:=hs;rw [hz];decide) tg) (wp_enter 43 #[.slice (some ⟨gg,0,none⟩) L L] ?_ (HQH.out W hb) ?_)
          ·simp only [execOp,resolve,List.map_toArray,List.map,eval_tmp,eval_func,eval_const,tt];simp [go_sem]
          ·rintro e W' ⟨q6,n6,g6,rfl,ho,hw⟩;obtain rfl:=ho.1;exact ⟨_,rfl,_,rfl,hw,_,q6,g6,rfl,ho⟩
         ·intro a W hb0 hs hp hi;have hb:=undrew hb0;clear hb0
          have tg:sl a 150 = .bool false:=hp 30 (by decide)
          have x1:PrT G (sl a 152) W:=hp 32 (by decide)
          have x2:PrT G (sl a 154) W:=hp 34 (by decide)
          obtain ⟨bA,qA,cA,x1,yA⟩:=x1
          obtain ⟨bB,qB,cB,x2,yB⟩:=x2
          refine ite_y (wanted_yes rfl rfl (by have hz:a.tmps.size = 159:=hs;rw [hz];decide) tg) (wp_enter 42 #[.slice qA G.length cA,.slice qB G.length cB] ?_ (EqP_same bA bB qA qB G.length cA cB G W yA yB) ?_)
          ·simp only [execOp,resolve,List.map_toArray,List.map,eval_tmp,eval_func,eval_const,x1,x2];simp [go_sem]
          ·rintro e W' ⟨rfl,hw⟩;exact ⟨_,rfl,_,rfl,hw,rfl⟩
         ·intro a W hb0 hs hp hi;have hb:=undrew hb0;clear hb0
          have tg:sl a 150 = .bool false:=hp 30 (by decide)
          have t155:sl a 155 = .bool true:=hp 35 (by decide)
          refine ite_y (wanted_yes rfl rfl (by have hz:a.tmps.size = 159:=hs;rw [hz];decide) tg) (wp_val (.bool false) ?_ ?_)
          ·simp only [execOp,eval_tmp,eval_const,t155];simp [go_sem]
          ·exact ⟨_,rfl,Below.refl _ _,rfl⟩
         ·intro a W hb0 hs hp hi;have hb:=undrew hb0;clear hb0
          have t150:sl a 150 = .bool false:=hp 30 (by decide)
          have t156:sl a 156 = .bool false:=hp 36 (by decide)
          refine ite_y rfl (wp_val (.bool false) ?_ ?_)
          ·simp only [execOp,eval_tmp,eval_const,t150,t156];simp [go_sem]
          ·exact ⟨_,rfl,Below.refl _ _,rfl⟩
        intro a wa hb hs hd hI ht
        have ha:=act_is [120,121,122,123,124,125,126,127,128,129,130,131,132,133,134,135,136,137,138,139,140,141,142,143,144,145,146,147,148,149,150,151,152,153,154,155,156,157] hs hd ht (by decide)
        have t157:sl a 157 = .bool false:=hI 37 (by decide)
        simp only [List.foldl,t157] at ha
        generalize sl a 120 = u120 at ha
        generalize sl a 121 = u121 at ha
        generalize sl a 122 = u122 at ha
        generalize sl a 123 = u123 at ha
        generalize sl a 124 = u124 at ha
        generalize sl a 125 = u125 at ha
        generalize sl a 126 = u126 at ha
        generalize sl a 127 = u127 at ha
        generalize sl a 128 = u128 at ha
        generalize sl a 129 = u129 at ha
        generalize sl a 130 = u130 at ha
        generalize sl a 131 = u131 at ha
        generalize sl a 132 = u132 at ha
        generalize sl a 133 = u133 at ha
        generalize sl a 134 = u134 at ha
        generalize sl a 135 = u135 at ha
        generalize sl a 136 = u136 at ha
        generalize sl a 137 = u137 at ha
        generalize sl a 138 = u138 at ha
        generalize sl a 139 = u139 at ha
        generalize sl a 140 = u140 at ha
        generalize sl a 141 = u141 at ha
        generalize sl a 142 = u142 at ha
        generalize sl a 143 = u143 at ha
        generalize sl a 144 = u144 at ha
        generalize sl a 145 = u145 at ha
        generalize sl a 146 = u146 at ha
        generalize sl a 147 = u147 at ha
        generalize sl a 148 = u148 at ha
        generalize sl a 149 = u149 at ha
        generalize sl a 150 = u150 at ha
        generalize sl a 151 = u151 at ha
        generalize sl a 152 = u152 at ha
        generalize sl a 153 = u153 at ha
        generalize sl a 154 = u154 at ha
        generalize sl a 155 = u155 at ha
        generalize sl a 156 = u156 at ha
        simp only [Act.put,List.setIfInBounds_toArray,List.set_cons_zero,List.set_cons_succ] at ha
        rw [ha]
        clear ha hI ht
        have HB10:=Lib.hid (bl HB9.out hb HB9.out.size)
        clear hb v0 v1 v2 v3 v4 v5 v6 v7 d0 d1 d2 d3 e0 e1 e2 e3 HB9 HQT HQR HQM HQN HQG HQH HQW hms hvs hqv
        have HR10:=Lib.hid (HR5.out.keep HB10.out)
        have HF10:=Lib.hid (HF5.out.keep HB10.out)
        have KD10:=Lib.hid ((HB10.out.block _ (lt_of_block KD5.out)).trans KD5.out)
        have KP10:=Lib.hid ((HB10.out.block _ (lt_of_block KP5.out)).trans KP5.out)
        have HW10:=Lib.hid (bl HW5.out HB10.out HW5.out.size)
        clear HB10 HR5 HF5 KD5 KP5 HW5
        go_wp2
        go_roundw
        case rel=>exact ⟨i + 1,M4,v4,C5,K5,X5,st5,q5,c5,HLT.out,by go_num,rfl,rfl,hxl,HR10.out,HX5.out,HF10.out,HS4.out,KP10.out,HW10.out,KD10.out⟩
        case measure=>simp [intOf];have:=HLT.out;omega
       ·have hz:((st5:Int) == 0) = false:=beq_eq_false_iff_ne.2 (by omega)
        have HOf2:Hid (∀ W,Below w5.heap.size w5 W→Calls Tryz.prog 35 #[.pointer (some ⟨gt,0,none⟩)] W fun e w'=>e = .returned (.agg #[.int .i64 (L:Nat),.int .i64 (t:Nat),.int .i64 (k:Nat),.int .u32 (D:Nat),.int .i64 (st5:Nat),.int .i64 (r:Nat),.int .i64 0,.int .i64 (m:Nat)])∧Below W.heap.size W w'):=fun W hW=>by
         have:=HOf.out W hW
         rw [if_neg hst,← hr] at this
         exact this
        have hrl:r≤12:=by omega
        have HB6:=HB
        have HGb6:=HGb
        have HK6:=HK
        have HTb6:=HRT
        clear hst HOf hr hKk hst2 HB HGb HK HRT d0 d1 d2 d3
        go_wp2_with fail
        refine Calls.mono (HOf2.out wr HB6.out) ?_
        rintro e w8 ⟨rfl,hb⟩
        have HB8:=Lib.hid (bl HB6.out hb HB6.out.size)
        have HGb8:=Lib.hid ((hb.block _ (lt_of_block HGb6.out)).trans HGb6.out)
        have HK8:=Lib.hid ((hb.block _ (lt_of_block HK6.out)).trans HK6.out)
        have HTb8:=Lib.hid (HTb6.out.keep hb)
        clear hb HB6 HGb6 HK6 HTb6 HOf2
        have ba:Below w8.heap.size w8 (w8.alloc (.cells #[.int .i64 (L:Nat),.int .i64 (t:Nat),.int .i64 (k:Nat),.int .u32 (D:Nat),.int .i64 (st5:Nat),.int .i64 (r:Nat),.int .i64 0,.int .i64 (m:Nat)] 63 (0,0))):=al (Below.refl _ _) (Nat.le_refl _)
        have hv:(w8.alloc (.cells #[.int .i64 (L:Nat),.int .i64 (t:Nat),.int .i64 (k:Nat),.int .u32 (D:Nat),.int .i64 (st5:Nat),.int .i64 (r:Nat),.int .i64 0,.int .i64 (m:Nat)] 63 (0,0))).heap[w8.heap.size]? = some (.cells #[.int .i64 (L:Nat),.int .i64 (t:Nat),.int .i64 (k:Nat),.int .u32 (D:Nat),.int .i64 (st5:Nat),.int .i64 (r:Nat),.int .i64 0,.int .i64 (m:Nat)] 63 (0,0)):=hnew rfl
        have HV9:=Lib.hid hv
        have HB9:=Lib.hid (bl HB8.out ba HB8.out.size)
        have HGb9:=Lib.hid ((ba.block _ (lt_of_block HGb8.out)).trans HGb8.out)
        have HK9:=Lib.hid ((ba.block _ (lt_of_block HK8.out)).trans HK8.out)
        have HTb9:=Lib.hid (HTb8.out.keep ba)
        clear ba hv HB8 HGb8 HK8 HTb8
        go_upto_region 34 with (fail)
        obtain ⟨gv,hgv⟩:∃ gv,gv = w8.heap.size:=⟨_,rfl⟩
        rw [← hgv] at HV9 ⊢
        clear hgv
        generalize w8.alloc (.cells #[.int .i64 (L:Nat),.int .i64 (t:Nat),.int .i64 (k:Nat),.int .u32 (D:Nat),.int .i64 (st5:Nat),.int .i64 (r:Nat),.int .i64 0,.int .i64 (m:Nat)] 63 (0,0)) = w9 at *
        obtain ⟨v0,v1,v2,v3,v4,v5,v6,v7⟩:=cells_eight HV9.out
        obtain ⟨d0,d1,d2,d3⟩:=cells_four ((HB9.out.block _ (lt_of_block KD5.out)).trans KD5.out)
        obtain ⟨e0,e1,e2,e3⟩:=cells_four ((HB9.out.block _ (lt_of_block KP5.out)).trans KP5.out)
        have HQT:Hid (∀ W,Below w9.heap.size w9 W→Calls Tryz.prog 39 #[.agg #[.int .i64 (L:Nat),.int .i64 (t:Nat),.int .i64 (k:Nat),.int .u32 (D:Nat),.int .i64 (st5:Nat),.int .i64 (r:Nat),.int .i64 0,.int .i64 (m:Nat)]] W fun e w'=>e = .returned (.string (strB (viewT st5 r k 0 m)))∧Below W.heap.size W w'):=fun W hW=>VText_any L t k D st5 r 0 m W (HTb9.out.keep hW) HSt.out (by omega) (by omega) (by omega) (by omega)
        have HQR:Hid (∀ W,Below w9.heap.size w9 W→Calls Tryz.prog 40 #[.int .i64 (st5:Nat),.int .i64 (r:Nat),.int .i64 (k:Nat),.int .i64 0,.int .i64 (m:Nat)] W fun e w'=>e = .returned (.string (strB (viewT st5 r k 0 m)))∧Below W.heap.size W w'):=fun W hW=>RText25_any k st5 r 0 m W (HTb9.out.keep hW) HSt.out (by omega) (by omega) (by omega) (by omega)
        have HQM:Hid (∀ W,Below w9.heap.size w9 W→Calls Tryz.prog 36 #[.pointer (some ⟨gt,0,none⟩)] W fun e w'=>e = .returned (.string (strB (mapT k f)))∧Below W.heap.size W w'):=fun W hW=>HMp.out W (bl HB9.out hW HB9.out.size)
        have HQN:Hid (∀ W,Below w9.heap.size w9 W→Calls Tryz.prog 41 #[.slice (some ⟨g,0,none⟩) k k] W fun e w'=>e = .returned (.string (strB (mapT k f)))∧Below W.heap.size W w'):=fun W hW=>(RMap25_any g k f W ((hW.block _ (lt_of_block HK9.out)).trans HK9.out) (by omega)).mono fun e w' ⟨h1,h2⟩=>⟨h1,by rw [← h2];exact Below.refl _ _⟩
        have HQG:Hid (∀ W,Below w9.heap.size w9 W→Calls Tryz.prog 37 #[.pointer (some ⟨gt,0,none⟩)] W (RetPr W (gapsF (fun a=>f (a / t)) L))):=fun W hW=>HGp.out W (bl HB9.out hW HB9.out.size)
        have HQH:Hid (∀ W,Below w9.heap.size w9 W→Calls Tryz.prog 43 #[.slice (some ⟨gg,0,none⟩) L L] W (RetPr W (gapsF (fun a=>f (a / t)) L))):=fun W hW=>RGaps_any gg L (fun a=>f (a / t)) W ((hW.block _ (lt_of_block HGb9.out)).trans HGb9.out) hLm
        have HQW:Hid (∀ W,Below w9.heap.size w9 W→Calls Tryz.prog 30 #[.slice q5 X5.length c5] W (RetKN W K5)):=fun W hW=>HRw.out W (bl HB9.out hW HB9.out.size)
        clear HMp HGp HKn HRw HV9 HGb9 HK9 HTb9
        generalize gapsF (fun a=>f (a / t)) L = G at *
        generalize strB (mapT k f) = MS at *
        generalize strB (viewT st5 r k 0 m) = VS at *
        have hms:(MS.toList == MS.toList) = true:=beq_self_eq_true _
        have hvs:(VS.toList == VS.toList) = true:=beq_self_eq_true _
        have hqv:=eq_view (L:Int) (t:Int) (k:Int) (D:Int) (st5:Int) (r:Int) (0:Nat) (m:Int)
        refine wp_region_shapes (fun ix=>([.val (.agg #[.int .i64 (L:Nat),.int .i64 (t:Nat),.int .i64 (k:Nat),.int .u32 (D:Nat),.int .i64 (st5:Nat),.int .i64 (r:Nat),.int .i64 0,.int .i64 (m:Nat)]),.val (.agg #[.int .i64 (L:Nat),.int .i64 (t:Nat),.int .i64 (k:Nat),.int .u32 (D:Nat)]),.val (.int .i64 (st5:Nat)),.val (.slice q5 X5.length c5),(ShRw4 K5),.val (.int .i64 (r:Nat)),.val (.int .i64 0),.val (.int .i64 (m:Nat)),.val (.agg #[.int .i64 (L:Nat),.int .i64 (t:Nat),.int .i64 (k:Nat),.int .u32 (D:Nat),.int .i64 (st5:Nat),.int .i64 (r:Nat),.int .i64 0,.int .i64 (m:Nat)]),.val (.bool false),.val (.bool false),.val (.agg #[.int .i64 (L:Nat),.int .i64 (t:Nat),.int .i64 (k:Nat),.int .u32 (D:Nat),.int .i64 (st5:Nat),.int .i64 (r:Nat),.int .i64 0,.int .i64 (m:Nat)]),.val (.string VS),.val (.int .i64 (st5:Nat)),.val (.pointer (some ⟨gv,5,none⟩)),.val (.int .i64 (r:Nat)),.val (.pointer (some ⟨g1,2,none⟩)),.val (.int .i64 (k:Nat)),.val (.int .i64 0),.val (.int .i64 (m:Nat)),.val (.string VS),.val (.bool false),.val (.bool false),.val (.bool false),.val (.pointer (some ⟨gt,0,none⟩)),.val (.string MS),.val (.slice (some ⟨g,0,none⟩) k k),.val (.string MS),.val (.bool false),.val (.bool false),.val (.bool false),.val (.pointer (some ⟨gt,0,none⟩)),(ShPrT G),.val (.slice (some ⟨gg,0,none⟩) L L),(ShPrT G),.val (.bool true),.val (.bool false),.val (.bool false)][ix]?).getD (.any)) 159 rfl (by kernel_rfl) (by decide +kernel) (by decide +kernel) (by decide +kernel) ?_ ?_
        ·refine ⟨?_,?_,?_,?_,?_,?_,?_,?_,?_,?_,?_,?_,?_,?_,?_,?_,?_,?_,?_,?_,?_,?_,?_,?_,?_,?_,?_,?_,?_,?_,?_,?_,?_,?_,?_,?_,?_,?_,trivial⟩
         ·intro a W hb0 hs hp hi;have hb:=undrew hb0;clear hb0
          have tt:sl a 18 = .pointer (some ⟨gv,0,none⟩):=hi 18 (by decide)
          have dd0:=(hb.cell (p:=⟨gv,0,none⟩) (lt_of_cell v0)).trans v0
          have dd1:=(hb.cell (p:=⟨gv,1,none⟩) (lt_of_cell v1)).trans v1
          have dd2:=(hb.cell (p:=⟨gv,2,none⟩) (lt_of_cell v2)).trans v2
          have dd3:=(hb.cell (p:=⟨gv,3,none⟩) (lt_of_cell v3)).trans v3
          have dd4:=(hb.cell (p:=⟨gv,4,none⟩) (lt_of_cell v4)).trans v4
          have dd5:=(hb.cell (p:=⟨gv,5,none⟩) (lt_of_cell v5)).trans v5
          have dd6:=(hb.cell (p:=⟨gv,6,none⟩) (lt_of_cell v6)).trans v6
          have dd7:=(hb.cell (p:=⟨gv,7,none⟩) (lt_of_cell v7)).trans v7
          refine ite_y rfl (wp_val (.agg #[.int .i64 (L:Nat),.int .i64 (t:Nat),.int .i64 (k:Nat),.int .u32 (D:Nat),.int .i64 (st5:Nat),.int .i64 (r:Nat),.int .i64 0,.int .i64 (m:Nat)]) ?_ ?_)
          ·simp only [execOp,eval_tmp,tt];simp [go_sem,dd0,dd1,dd2,dd3,dd4,dd5,dd6,dd7]
          ·exact ⟨_,rfl,Below.refl _ _,rfl⟩
         ·intro a W hb0 hs hp hi;have hb:=undrew hb0;clear hb0
          have tt:sl a 2 = .pointer (some ⟨w.heap.size,0,none⟩):=hi 2 (by decide)
          have dd0:=(hb.cell (p:=⟨w.heap.size,0,none⟩) (lt_of_cell e0)).trans e0
          have dd1:=(hb.cell (p:=⟨w.heap.size,1,none⟩) (lt_of_cell e1)).trans e1
          have dd2:=(hb.cell (p:=⟨w.heap.size,2,none⟩) (lt_of_cell e2)).trans e2
          have dd3:=(hb.cell (p:=⟨w.heap.size,3,none⟩) (lt_of_cell e3)).trans e3
          refine ite_y rfl (wp_val (.agg #[.int .i64 (L:Nat),.int .i64 (t:Nat),.int .i64 (k:Nat),.int .u32 (D:Nat)]) ?_ ?_)
          ·simp only [execOp,eval_tmp,tt];simp [go_sem,dd0,dd1,dd2,dd3]
          ·exact ⟨_,rfl,Below.refl _ _,rfl⟩
         ·intro a W hb0 hs hp hi;have hb:=undrew hb0;clear hb0
          have t9:sl a 9 = .int .i64 (st5:Nat):=hi 9 (by decide)
          exact ite_y rfl (wp_val (sl a 9) rfl ⟨_,rfl,Below.refl _ _,t9⟩)
         ·intro a W hb0 hs hp hi;have hb:=undrew hb0;clear hb0
          have t8:sl a 8 = .slice q5 X5.length c5:=hi 8 (by decide)
          exact ite_y rfl (wp_val (sl a 8) rfl ⟨_,rfl,Below.refl _ _,t8⟩)
         ·intro a W hb0 hs hp hi;have hb:=undrew hb0;clear hb0
          have tt:sl a 123 = .slice q5 X5.length c5:=hp 3 (by decide)
          refine ite_y rfl (wp_enter 30 #[.slice q5 X5.length c5] ?_ (HQW.out W hb) ?_)
          ·simp only [execOp,resolve,List.map_toArray,List.map,eval_tmp,eval_func,eval_const,tt];simp [go_sem]
          ·rintro e W' ⟨q6,n6,g6,rfl,rfl,hz,hw,-⟩;exact ⟨_,rfl,_,rfl,hw,q6,g6,rfl,hz⟩
         ·intro a W hb0 hs hp hi;have hb:=undrew hb0;clear hb0
          have tt:RwT4 K5 (sl a 124) W:=hp 4 (by decide)
          obtain ⟨q6,g6,tt,zz⟩:=tt
          rw [← HRl.out] at tt
          refine ite_y rfl (wp_val (.int .i64 (r:Nat)) ?_ ?_)
          ·simp only [execOp,resolve,List.map_toArray,List.map,eval_tmp,eval_func,eval_const,tt];simp [go_sem]
          ·exact ⟨_,rfl,Below.refl _ _,rfl⟩
         ·intro a W hb0 hs hp hi;have hb:=undrew hb0;clear hb0
          have t17:sl a 17 = .int .i64 0:=hi 17 (by decide)
          exact ite_y rfl (wp_val (sl a 17) rfl ⟨_,rfl,Below.refl _ _,t17⟩)
         ·intro a W hb0 hs hp hi;have hb:=undrew hb0;clear hb0
          have t13:sl a 13 = .int .i64 (m:Nat):=hi 13 (by decide)
          exact ite_y rfl (wp_val (sl a 13) rfl ⟨_,rfl,Below.refl _ _,t13⟩)
         ·intro a W hb0 hs hp hi;have hb:=undrew hb0;clear hb0
          have x1:sl a 121 = .agg #[.int .i64 (L:Nat),.int .i64 (t:Nat),.int .i64 (k:Nat),.int .u32 (D:Nat)]:=hp 1 (by decide)
          have x2:sl a 122 = .int .i64 (st5:Nat):=hp 2 (by decide)
          have x3:sl a 125 = .int .i64 (r:Nat):=hp 5 (by decide)
          have x4:sl a 126 = .int .i64 0:=hp 6 (by decide)
          have x5:sl a 127 = .int .i64 (m:Nat):=hp 7 (by decide)
          refine ite_y rfl (wp_val (.agg #[.int .i64 (L:Nat),.int .i64 (t:Nat),.int .i64 (k:Nat),.int .u32 (D:Nat),.int .i64 (st5:Nat),.int .i64 (r:Nat),.int .i64 0,.int .i64 (m:Nat)]) ?_ ?_)
          ·simp only [execOp,eval_tmp,eval_const,List.map_toArray,List.map,x1,x2,x3,x4,x5];simp [go_sem,Tryz.underlying63,x1,x2,x3,x4,x5]
          ·exact ⟨_,rfl,Below.refl _ _,rfl⟩
         ·intro a W hb0 hs hp hi;have hb:=undrew hb0;clear hb0
          have x1:sl a 120 = .agg #[.int .i64 (L:Nat),.int .i64 (t:Nat),.int .i64 (k:Nat),.int .u32 (D:Nat),.int .i64 (st5:Nat),.int .i64 (r:Nat),.int .i64 0,.int .i64 (m:Nat)]:=hp 0 (by decide)
          have x2:sl a 128 = .agg #[.int .i64 (L:Nat),.int .i64 (t:Nat),.int .i64 (k:Nat),.int .u32 (D:Nat),.int .i64 (st5:Nat),.int .i64 (r:Nat),.int .i64 0,.int .i64 (m:Nat)]:=hp 8 (by decide)
          refine ite_y rfl (wp_val (.bool false) ?_ ?_)
          ·simp only [execOp,eval_tmp,x1,x2];simp [go_sem,hqv]
          ·exact ⟨_,rfl,Below.refl _ _,rfl⟩
         ·intro a W hb0 hs hp hi;have hb:=undrew hb0;clear hb0
          have t129:sl a 129 = .bool false:=hp 9 (by decide)
          exact ite_y rfl (wp_val (sl a 129) rfl ⟨_,rfl,Below.refl _ _,t129⟩)
         ·intro a W hb0 hs hp hi;have hb:=undrew hb0;clear hb0
          have tg:sl a 130 = .bool false:=hp 10 (by decide)
          have tt:sl a 18 = .pointer (some ⟨gv,0,none⟩):=hi 18 (by decide)
          have dd0:=(hb.cell (p:=⟨gv,0,none⟩) (lt_of_cell v0)).trans v0
          have dd1:=(hb.cell (p:=⟨gv,1,none⟩) (lt_of_cell v1)).trans v1
          have dd2:=(hb.cell (p:=⟨gv,2,none⟩) (lt_of_cell v2)).trans v2
          have dd3:=(hb.cell (p:=⟨gv,3,none⟩) (lt_of_cell v3)).trans v3
          have dd4:=(hb.cell (p:=⟨gv,4,none⟩) (lt_of_cell v4)).trans v4
          have dd5:=(hb.cell (p:=⟨gv,5,none⟩) (lt_of_cell v5)).trans v5
          have dd6:=(hb.cell (p:=⟨gv,6,none⟩) (lt_of_cell v6)).trans v6
          have dd7:=(hb.cell (p:=⟨gv,7,none⟩) (lt_of_cell v7)).trans v7
          refine ite_y (wanted_yes rfl rfl (by have hz:a.tmps.size = 159:=hs;rw [hz];decide) tg) (wp_val (.agg #[.int .i64 (L:Nat),.int .i64 (t:Nat),.int .i64 (k:Nat),.int .u32 (D:Nat),.int .i64 (st5:Nat),.int .i64 (r:Nat),.int .i64 0,.int .i64 (m:Nat)]) ?_ ?_)
          ·simp only [execOp,eval_tmp,tt];simp [go_sem,dd0,dd1,dd2,dd3,dd4,dd5,dd6,dd7]
          ·exact ⟨_,rfl,Below.refl _ _,rfl⟩
         ·intro a W hb0 hs hp hi;have hb:=undrew hb0;clear hb0
          have tg:sl a 130 = .bool false:=hp 10 (by decide)
          have t131:sl a 131 = .agg #[.int .i64 (L:Nat),.int .i64 (t:Nat),.int .i64 (k:Nat),.int .u32 (D:Nat),.int .i64 (st5:Nat),.int .i64 (r:Nat),.int .i64 0,.int .i64 (m:Nat)]:=hp 11 (by decide)
          refine ite_y (wanted_yes rfl rfl (by have hz:a.tmps.size = 159:=hs;rw [hz];decide) tg) (wp_enter 39 #[.agg #[.int .i64 (L:Nat),.int .i64 (t:Nat),.int .i64 (k:Nat),.int .u32 (D:Nat),.int .i64 (st5:Nat),.int .i64 (r:Nat),.int .i64 0,.int .i64 (m:Nat)]] ?_ (HQT.out W hb) ?_)
          ·simp only [execOp,resolve,List.map_toArray,List.map,eval_tmp,eval_func,eval_const,t131];simp [go_sem]
          ·rintro e W' ⟨rfl,hw⟩;exact ⟨_,rfl,_,rfl,hw,rfl⟩
         ·intro a W hb0 hs hp hi;have hb:=undrew hb0;clear hb0
          have tg:sl a 130 = .bool false:=hp 10 (by decide)
          have t9:sl a 9 = .int .i64 (st5:Nat):=hi 9 (by decide)
          exact ite_y (wanted_yes rfl rfl (by have hz:a.tmps.size = 159:=hs;rw [hz];decide) tg) (wp_val (sl a 9) rfl ⟨_,rfl,Below.refl _ _,t9⟩)
         ·intro a W hb0 hs hp hi;have hb:=undrew hb0;clear hb0
          have tg:sl a 130 = .bool false:=hp 10 (by decide)
          have t18:sl a 18 = .pointer (some ⟨gv,0,none⟩):=hi 18 (by decide)
          refine ite_y (wanted_yes rfl rfl (by have hz:a.tmps.size = 159:=hs;rw [hz];decide) tg) (wp_val (.pointer (some ⟨gv,5,none⟩)) ?_ ?_)
          ·simp only [execOp,eval_tmp,eval_const,t18];simp [go_sem]
          ·exact ⟨_,rfl,Below.refl _ _,rfl⟩
         ·intro a W hb0 hs hp hi;have hb:=undrew hb0;clear hb0
          have tg:sl a 130 = .bool false:=hp 10 (by decide)
          have tt:sl a 134 = .pointer (some ⟨gv,5,none⟩):=hp 14 (by decide)
          have dd:=(hb.cell (p:=⟨gv,5,none⟩) (lt_of_cell v5)).trans v5
          refine ite_y (wanted_yes rfl rfl (by have hz:a.tmps.size = 159:=hs;rw [hz];decide) tg) (wp_val (.int .i64 (r:Nat)) ?_ ?_)
          ·simp only [execOp,eval_tmp,tt];simp [go_sem,dd]
          ·exact ⟨_,rfl,Below.refl _ _,rfl⟩
         ·intro a W hb0 hs hp hi;have hb:=undrew hb0;clear hb0
          have tg:sl a 130 = .bool false:=hp 10 (by decide)
          have t7:sl a 7 = .pointer (some ⟨g1,0,none⟩):=hi 7 (by decide)
          refine ite_y (wanted_yes rfl rfl (by have hz:a.tmps.size = 159:=hs;rw [hz];decide) tg) (wp_val (.pointer (some ⟨g1,2,none⟩)) ?_ ?_)
          ·simp only [execOp,eval_tmp,eval_const,t7];simp [go_sem]
          ·exact ⟨_,rfl,Below.refl _ _,rfl⟩
         ·intro a W hb0 hs hp hi;have hb:=undrew hb0;clear hb0
          have tg:sl a 130 = .bool false:=hp 10 (by decide)
          have tt:sl a 136 = .pointer (some ⟨g1,2,none⟩):=hp 16 (by decide)
          have dd:=(hb.cell (p:=⟨g1,2,none⟩) (lt_of_cell d2)).trans d2
          refine ite_y (wanted_yes rfl rfl (by have hz:a.tmps.size = 159:=hs;rw [hz];decide) tg) (wp_val (.int .i64 (k:Nat)) ?_ ?_)
          ·simp only [execOp,eval_tmp,tt];simp [go_sem,dd]
          ·exact ⟨_,rfl,Below.refl _ _,rfl⟩
         ·intro a W hb0 hs hp hi;have hb:=undrew hb0;clear hb0
          have tg:sl a 130 = .bool false:=hp 10 (by decide)
          have t17:sl a 17 = .int .i64 0:=hi 17 (by decide)
          exact ite_y (wanted_yes rfl rfl (by have hz:a.tmps.size = 159:=hs;rw [hz];decide) tg) (wp_val (sl a 17) rfl ⟨_,rfl,Below.refl _ _,t17⟩)
         ·intro a W hb0 hs hp hi;have hb:=undrew hb0;clear hb0
          have tg:sl a 130 = .bool false:=hp 10 (by decide)
          have t13:sl a 13 = .int .i64 (m:Nat):=hi 13 (by decide)
          exact ite_y (wanted_yes rfl rfl (by have hz:a.tmps.size = 159:=hs;rw [hz];decide) tg) (wp_val (sl a 13) rfl ⟨_,rfl,Below.refl _ _,t13⟩)
         ·intro a W hb0 hs hp hi;have hb:=undrew hb0;clear hb0
          have tg:sl a 130 = .bool false:=hp 10 (by decide)
          have t133:sl a 133 = .int .i64 (st5:Nat):=hp 13 (by decide)
          have t135:sl a 135 = .int .i64 (r:Nat):=hp 15 (by decide)
          have t137:sl a 137 = .int .i64 (k:Nat):=hp 17 (by decide)
          have t138:sl a 138 = .int .i64 0:=hp 18 (by decide)
          have t139:sl a 139 = .int .i64 (m:Nat):=hp 19 (by decide)
          refine ite_y (wanted_yes rfl rfl (by have hz:a.tmps.size = 159:=hs;rw [hz];decide) tg) (wp_enter 40 #[.int .i64 (st5:Nat),.int .i64 (r:Nat),.int .i64 (k:Nat),.int .i64 0,.int .i64 (m:Nat)] ?_ (HQR.out W hb) ?_)
          ·simp only [execOp,resolve,List.map_toArray,List.map,eval_tmp,eval_func,eval_const,t133,t135,t137,t138,t139];simp [go_sem]
          ·rintro e W' ⟨rfl,hw⟩;exact ⟨_,rfl,_,rfl,hw,rfl⟩
         ·intro a W hb0 hs hp hi;have hb:=undrew hb0;clear hb0
          have tg:sl a 130 = .bool false:=hp 10 (by decide)
          have x1:sl a 132 = .string VS:=hp 12 (by decide)
          have x2:sl a 140 = .string VS:=hp 20 (by decide)
          refine ite_y (wanted_yes rfl rfl (by have hz:a.tmps.size = 159:=hs;rw [hz];decide) tg) (wp_val (.bool false) ?_ ?_)
          ·simp only [execOp,eval_tmp,x1,x2];simp [go_sem,hvs]
          ·exact ⟨_,rfl,Below.refl _ _,rfl⟩
         ·intro a W hb0 hs hp hi;have hb:=undrew hb0;clear hb0
          have t130:sl a 130 = .bool false:=hp 10 (by decide)
          have t141:sl a 141 = .bool false:=hp 21 (by decide)
          refine ite_y rfl (wp_val (.bool false) ?_ ?_)
          ·simp only [execOp,eval_tmp,eval_const,t130,t141];simp [go_sem]
          ·exact ⟨_,rfl,Below.refl _ _,rfl⟩
         ·intro a W hb0 hs hp hi;have hb:=undrew hb0;clear hb0
          have t142:sl a 142 = .bool false:=hp 22 (by decide)
          exact ite_y rfl (wp_val (sl a 142) rfl ⟨_,rfl,Below.refl _ _,t142⟩)
         ·intro a W hb0 hs hp hi;have hb:=undrew hb0;clear hb0
          have tg:sl a 143 = .bool false:=hp 23 (by decide)
          have t5:sl a 5 = .pointer (some ⟨gt,0,none⟩):=hi 5 (by decide)
          exact ite_y (wanted_yes rfl rfl (by have hz:a.tmps.size = 159:=hs;rw [hz];decide) tg) (wp_val (sl a 5) rfl ⟨_,rfl,Below.refl _ _,t5⟩)
         ·intro a W hb0 hs hp hi;have hb:=undrew hb0;clear hb0
          have tg:sl a 143 = .bool false:=hp 23 (by decide)
          have t144:sl a 144 = .pointer (some ⟨gt,0,none⟩):=hp 24 (by decide)
          refine ite_y (wanted_yes rfl rfl (by have hz:a.tmps.size = 159:=hs;rw [hz];decide) tg) (wp_enter 36 #[.pointer (some ⟨gt,0,none⟩)] ?_ (HQM.out W hb) ?_)
          ·simp only [execOp,resolve,List.map_toArray,List.map,eval_tmp,eval_func,eval_const,t144];simp [go_sem]
          ·rintro e W' ⟨rfl,hw⟩;exact ⟨_,rfl,_,rfl,hw,rfl⟩
         ·intro a W hb0 hs hp hi;have hb:=undrew hb0;clear hb0
          have tg:sl a 143 = .bool false:=hp 23 (by decide)
          have t12:sl a 12 = .slice (some ⟨g,0,none⟩) k k:=hi 12 (by decide)
          exact ite_y (wanted_yes rfl rfl (by have hz:a.tmps.size = 159:=hs;rw [hz];decide) tg) (wp_val (sl a 12) rfl ⟨_,rfl,Below.refl _ _,t12⟩)
         ·intro a W hb0 hs hp hi;have hb:=undrew hb0;clear hb0
          have tg:sl a 143 = .bool false:=hp 23 (by decide)
          have t146:sl a 146 = .slice (some ⟨g,0,none⟩) k k:=hp 26 (by decide)
          refine ite_y (wanted_yes rfl rfl (by have hz:a.tmps.size = 159:=hs;rw [hz];decide) tg) (wp_enter 41 #[.slice (some ⟨g,0,none⟩) k k] ?_ (HQN.out W hb) ?_)
          ·simp only [execOp,resolve,List.map_toArray,List.map,eval_tmp,eval_func,eval_const,t146];simp [go_sem]
          ·rintro e W' ⟨rfl,hw⟩;exact ⟨_,rfl,_,rfl,hw,rfl⟩
         ·intro a W hb0 hs hp hi;have hb:=undrew hb0;clear hb0
          have tg:sl a 143 = .bool false:=hp 23 (by decide)
          have x1:sl a 145 = .string MS:=hp 25 (by decide)
          have x2:sl a 147 = .string MS:=hp 27 (by decide)
          refine ite_y (wanted_yes rfl rfl (by have hz:a.tmps.size = 159:=hs;rw [hz];decide) tg) (wp_val (.bool false) ?_ ?_)
          ·simp only [execOp,eval_tmp,x1,x2];simp [go_sem,hms]
          ·exact ⟨_,rfl,Below.refl _ _,rfl⟩
         ·intro a W hb0 hs hp hi;have hb:=undrew hb0;clear hb0
          have t143:sl a 143 = .bool false:=hp 23 (by decide)
          have t148:sl a 148 = .bool false:=hp 28 (by decide)
          refine ite_y rfl (wp_val (.bool false) ?_ ?_)
          ·simp only [execOp,eval_tmp,eval_const,t143,t148];simp [go_sem]
          ·exact ⟨_,rfl,Below.refl _ _,rfl⟩
         ·intro a W hb0 hs hp hi;have hb:=undrew hb0;clear hb0
          have t149:sl a 149 = .bool false:=hp 29 (by decide)
          exact ite_y rfl (wp_val (sl a 149) rfl ⟨_,rfl,Below.refl _ _,t149⟩)
         ·intro a W hb0 hs hp hi;have hb:=undrew hb0;clear hb0
          have tg:sl a 150 = .bool false:=hp 30 (by decide)
          have t5:sl a 5 = .pointer (some ⟨gt,0,none⟩):=hi 5 (by decide)
          exact ite_y (wanted_yes rfl rfl (by have hz:a.tmps.size = 159:=hs;rw [hz];decide) tg) (wp_val (sl a 5) rfl ⟨_,rfl,Below.refl _ _,t5⟩)
         ·intro a W hb0 hs hp hi;have hb:=undrew hb0;clear hb0
          have tg:sl a 150 = .bool false:=hp 30 (by decide)
          have tt:sl a 151 = .pointer (some ⟨gt,0,none⟩):=hp 31 (by decide)
          refine ite_y (wanted_yes rfl rfl (by have hz:a.tmps.size = 159:=hs;rw [hz];decide) tg) (wp_enter 37 #[.pointer (some ⟨gt,0,none⟩)] ?_ (HQG.out W hb) ?_)
          ·simp only [execOp,resolve,List.map_toArray,List.map,eval_tmp,eval_func,eval_const,tt];simp [go_sem]
          ·rintro e W' ⟨q6,n6,g6,rfl,ho,hw⟩;obtain rfl:=ho.1;exact ⟨_,rfl,_,rfl,hw,_,q6,g6,rfl,ho⟩
         ·intro a W hb0 hs hp hi;have hb:=undrew hb0;clear hb0
          have tg:sl a 150 = .bool false:=hp 30 (by decide)
          have t15:sl a 15 = .slice (some ⟨gg,0,none⟩) L L:=hi 15 (by decide)
          exact ite_y (wanted_yes rfl rfl (by have hz:a.tmps.size = 159:=hs;rw [hz];decide) tg) (wp_val (sl a 15) rfl ⟨_,rfl,Below.refl _ _,t15⟩)
         ·intro a W hb0 hs hp hi;have hb:=undrew hb0;clear hb0
          have tg:sl a 150 = .bool false:=hp 30 (by decide)
          have tt:sl a 153 = .slice (some ⟨gg,0,none⟩) L L:=hp 33 (by decide)
          refine ite_y (wanted_yes rfl rfl (by have hz:a.tmps.size = 159:=hs;rw [hz];decide) tg) (wp_enter 43 #[.slice (some ⟨gg,0,none⟩) L L] ?_ (HQH.out W hb) ?_)
          ·simp only [execOp,resolve,List.map_toArray,List.map,eval_tmp,eval_func,eval_const,tt];simp [go_sem]
          ·rintro e W' ⟨q6,n6,g6,rfl,ho,hw⟩;obtain rfl:=ho.1;exact ⟨_,rfl,_,rfl,hw,_,q6,g6,rfl,ho⟩
         ·intro a W hb0 hs hp hi;have hb:=undrew hb0;clear hb0
          have tg:sl a 150 = .bool false:=hp 30 (by decide)
          have x1:PrT G (sl a 152) W:=hp 32 (by decide)
          have x2:PrT G (sl a 154) W:=hp 34 (by decide)
          obtain ⟨bA,qA,cA,x1,yA⟩:=x1
          obtain ⟨bB,qB,cB,x2,yB⟩:=x2
          refine ite_y (wanted_yes rfl rfl (by have hz:a.tmps.size = 159:=hs;rw [hz];decide) tg) (wp_enter 42 #[.slice qA G.length cA,.slice qB G.length cB] ?_ (EqP_same bA bB qA qB G.length cA cB G W yA yB) ?_)
          ·simp only [execOp,resolve,List.map_toArray,List.map,eval_tmp,eval_func,eval_const,x1,x2];simp [go_sem]
          ·rintro e W' ⟨rfl,hw⟩;exact ⟨_,rfl,_,rfl,hw,rfl⟩
         ·intro a W hb0 hs hp hi;have hb:=undrew hb0;clear hb0
          have tg:sl a 150 = .bool false:=hp 30 (by decide)
          have t155:sl a 155 = .bool true:=hp 35 (by decide)
          refine ite_y (wanted_yes rfl rfl (by have hz:a.tmps.size = 159:=hs;rw [hz];decide) tg) (wp_val (.bool false) ?_ ?_)
          ·simp only [execOp,eval_tmp,eval_const,t155];simp [go_sem]
          ·exact ⟨_,rfl,Below.refl _ _,rfl⟩
         ·intro a W hb0 hs hp hi;have hb:=undrew hb0;clear hb0
          have t150:sl a 150 = .bool false:=hp 30 (by decide)
          have t156:sl a 156 = .bool false:=hp 36 (by decide)
          refine ite_y rfl (wp_val (.bool false) ?_ ?_)
          ·simp only [execOp,eval_tmp,eval_const,t150,t156];simp [go_sem]
          ·exact ⟨_,rfl,Below.refl _ _,rfl⟩
        intro a wa hb hs hd hI ht
        have ha:=act_is [120,121,122,123,124,125,126,127,128,129,130,131,132,133,134,135,136,137,138,139,140,141,142,143,144,145,146,147,148,149,150,151,152,153,154,155,156,157] hs hd ht (by decide)
        have t157:sl a 157 = .bool false:=hI 37 (by decide)
        simp only [List.foldl,t157] at ha
        generalize sl a 120 = u120 at ha
        generalize sl a 121 = u121 at ha
        generalize sl a 122 = u122 at ha
        generalize sl a 123 = u123 at ha
        generalize sl a 124 = u124 at ha
        generalize sl a 125 = u125 at ha
        generalize sl a 126 = u126 at ha
        generalize sl a 127 = u127 at ha
        generalize sl a 128 = u128 at ha
        generalize sl a 129 = u129 at ha
        generalize sl a 130 = u130 at ha
        generalize sl a 131 = u131 at ha
        generalize sl a 132 = u132 at ha
        generalize sl a 133 = u133 at ha
        generalize sl a 134 = u134 at ha
        generalize sl a 135 = u135 at ha
        generalize sl a 136 = u136 at ha
        generalize sl a 137 = u137 at ha
        generalize sl a 138 = u138 at ha
        generalize sl a 139 = u139 at ha
        generalize sl a 140 = u140 at ha
        generalize sl a 141 = u141 at ha
        generalize sl a 142 = u142 at ha
        generalize sl a 143 = u143 at ha
        generalize sl a 144 = u144 at ha
        generalize sl a 145 = u145 at ha
        generalize sl a 146 = u146 at ha
        generalize sl a 147 = u147 at ha
        generalize sl a 148 = u148 at ha
        generalize sl a 149 = u149 at ha
        generalize sl a 150 = u150 at ha
        generalize sl a 151 = u151 at ha
        generalize sl a 152 = u152 at ha
        generalize sl a 153 = u153 at ha
        generalize sl a 154 = u154 at ha
        generalize sl a 155 = u155 at ha
        generalize sl a 156 = u156 at ha
        simp only [Act.put,List.setIfInBounds_toArray,List.set_cons_zero,List.set_cons_succ] at ha
        rw [ha]
        clear ha hI ht
        have HB10:=Lib.hid (bl HB9.out hb HB9.out.size)
        clear hb v0 v1 v2 v3 v4 v5 v6 v7 d0 d1 d2 d3 e0 e1 e2 e3 HB9 HQT HQR HQM HQN HQG HQH HQW hms hvs hqv
        have HR10:=Lib.hid (HR5.out.keep HB10.out)
        have HF10:=Lib.hid (HF5.out.keep HB10.out)
        have KD10:=Lib.hid ((HB10.out.block _ (lt_of_block KD5.out)).trans KD5.out)
        have KP10:=Lib.hid ((HB10.out.block _ (lt_of_block KP5.out)).trans KP5.out)
        have HW10:=Lib.hid (bl HW5.out HB10.out HW5.out.size)
        clear HB10 HR5 HF5 KD5 KP5 HW5
        go_wp2
        go_roundw
        case rel=>exact ⟨i + 1,M4,v4,C5,K5,X5,st5,q5,c5,HLT.out,by go_num,rfl,rfl,hxl,HR10.out,HX5.out,HF10.out,HS4.out,KP10.out,HW10.out,KD10.out⟩
        case measure=>simp [intOf];have:=HLT.out;omega
  ·obtain rfl:i = n1:=by omega
   clear hlt
   go_wp2
   go_ret
   exact ⟨rfl,HB6.out⟩
end Go.Proofs.YtccaiiigdfieoaaGreatDoor
namespace Go.Proofs.YtccaiiigdfieoaaGreatDoor
open Go.RowKit Go.By
theorem tab10_of {d32 d64 : DataW Unit} {rest : List (String × DataW Unit)} {W : World} (h : laidMet Tryz.prog (("math/bits.deBruijn32tab", d32) :: ("math/bits.deBruijn64tab", d64) :: ("internal/strconv.uint64pow10", Rows.laid_internal_strconv_uint64pow10) :: rest) W) : Tab10 W := by
 have hz:(Rows.laid_internal_strconv_uint64pow10:DataW Unit) = Lib.tabData .u64 Lib.pow10Tab:=rfl
 have h2:=laidMet.tail (laidMet.tail h)
 rw [hz] at h2
 exact Lib.tabIs_of_head (g:=2) (t:=323) (e:=81) (n:=20) (by kernel_rfl) (by kernel_rfl) (by kernel_rfl) (by kernel_rfl) (by kernel_rfl) (by kernel_rfl) h2
end Go.Proofs.YtccaiiigdfieoaaGreatDoor
namespace Go.Proofs.YtccaiiigdfieoaaGreatDoor
open Go.RowKit Go.By
theorem halves_of {rest : List (String × DataW Unit)} {W : World} (h : laidMet Tryz.prog (("wellspring/sum.halves", Rows.laid_wellspring_sum_halves) :: rest) W) : HalfT W := by
 obtain ⟨zs,hz,hzl,hzc⟩:∃ zs:List Int,(Rows.laid_wellspring_sum_halves:DataW Unit) = Lib.tabData .u32 zs∧zs.length = 16∧∀ i,i < 16→zs.getD i 0 = ((crcTab.getD i 0:Nat):Int):=⟨[0,498536548,997073096,651767980,1994146192,1802195444,1303535960,1342533948,3988292384,4027552580,3604390888,3412177804,2607071920,2262029012,2685067896,3183342108],rfl,rfl,by decide⟩
 rw [hz] at h
 have h3:=Lib.tabIs_of_head (g:=0) (t:=304) (e:=23) (n:=16) (by kernel_rfl) (by kernel_rfl) (by kernel_rfl) (by kernel_rfl) (by kernel_rfl) (by kernel_rfl) h
 intro i hi
 have:=h3.cell (g:=0) (by kernel_rfl) i (by omega)
 rw [hzc i hi] at this
 exact this
end Go.Proofs.YtccaiiigdfieoaaGreatDoor
namespace Go.Proofs.YtccaiiigdfieoaaGreatDoor
open Go.RowKit Go.By
theorem keep_of {d32 d64 : DataW Unit} {rest : List (String × DataW Unit)} {W : World} (h : laidMet Tryz.prog (("math/bits.deBruijn32tab", d32) :: ("math/bits.deBruijn64tab", d64) :: ("internal/strconv.uint64pow10", Rows.laid_internal_strconv_uint64pow10) :: ("wellspring/sum.halves", Rows.laid_wellspring_sum_halves) :: rest) W) : Tab10 W ∧ HalfT W := ⟨tab10_of h, halves_of (laidMet.tail (laidMet.tail (laidMet.tail h)))⟩
end Go.Proofs.YtccaiiigdfieoaaGreatDoor
namespace Go.Proofs.YtccaiiigdfieoaaGreatDoor
open Go.RowKit Go.By Go.Maps
set_option maxRecDepth 100000 in
set_option maxHeartbeats 4000000 in
theorem ViewTells_out (l s n d:Int) (p1:Option Addr) (n1 c1:Nat) (xss:List (List UInt8)) (w:World) (hl:l≤9223372036854775807) (h1:Sl2 w p1 n1 c1 xss) (hT:HalfT w) (hX:Tab10 w)
  (hx:((xss.all (fun y=>decide (y.length≤800)) && decide (n1≤30)) && small19 l s n) = false) :
  Calls Tryz.prog 5 #[.agg #[.int .i64 l,.int .i64 s,.int .i64 n,.int .u32 d],.slice p1 n1 c1] w fun e w'=>e = .returned (.bool true)∧Below w.heap.size w w':=by
 have HT:=Lib.hid hT
 have HTX:=Lib.hid hX
 have HFew:Hid (∀ w,Sl2 w p1 n1 c1 xss→Calls Tryz.prog 25 #[.slice p1 n1 c1] w fun e w'=>e = .returned (.bool (xss.all (fun y=>decide (y.length≤800)) && decide (n1≤30)))∧w = w'):=fun w h=>Few18_any p1 n1 c1 xss w h
 have HSm:=Lib.hid (fun w=>Small19_any l s n d w hl)
 generalize (xss.all (fun y=>decide (y.length≤800)) && decide (n1≤30)) = F at *
 generalize small19 l s n = S at *
 have H1:=Lib.hid h1
 clear hT h1 hX
 cases F with
 | false =>
  clear hx
  go_enter Tryz.func5,Tryz.ntmps5
  go_wp2_with fail
  refine Calls.mono (awake25 _ (HTX.out.keep (al (Below.refl _ _) (Nat.le_refl _)))) ?_
  rintro e w1 ⟨rfl,hb⟩
  have HB1:=Lib.hid (one_of hb).1
  clear hb
  go_wp2_with fail
  refine Calls.mono (HFew.out _ (H1.out.keep HB1.out)) ?_
  rintro e w2 ⟨rfl,rfl⟩
  go_wp2
  go_ret
  exact ⟨rfl,HB1.out⟩
 | true =>
  cases S with
  | false =>
   clear hx
   go_enter Tryz.func5,Tryz.ntmps5
   go_wp2_with fail
   refine Calls.mono (awake25 _ (HTX.out.keep (al (Below.refl _ _) (Nat.le_refl _)))) ?_
   rintro e w1 ⟨rfl,hb⟩
   obtain ⟨hb1,kp,hs1⟩:=one_of hb
   have HB1:=Lib.hid hb1
   clear hb hb1
   go_wp2_with fail
   refine Calls.mono (HFew.out _ (H1.out.keep HB1.out)) ?_
   rintro e w2 ⟨rfl,rfl⟩
   obtain ⟨z0,z1,z2,z3⟩:=cells_four kp
   go_wp2_with fail
   refine Calls.mono (HSm.out _) ?_
   rintro e w3 ⟨rfl,hb⟩
   have HB3:=Lib.hid (bl HB1.out hb HB1.out.size)
   clear hb z0 z1 z2 z3 kp HB1
   go_wp2
   go_ret
   exact ⟨rfl,HB3.out⟩
  | true=>cases hx
set_option maxRecDepth 100000 in
set_option maxHeartbeats 4000000 in
theorem ViewTells_bad (l s n d:Int) (p1:Option Addr) (n1 c1:Nat) (xss:List (List UInt8)) (w:World) (hl:l≤9223372036854775807) (h1:Sl2 w p1 n1 c1 xss) (hT:HalfT w) (hX:Tab10 w)
  (hfew:(xss.all (fun y=>decide (y.length≤800)) && decide (n1≤30)) = true) (hc:checkS l s n≠0) :
  Calls Tryz.prog 5 #[.agg #[.int .i64 l,.int .i64 s,.int .i64 n,.int .u32 d],.slice p1 n1 c1] w fun e w'=>e = .returned (.bool true)∧Below w.heap.size w w':=by
 have HT:=Lib.hid hT
 have HTX:=Lib.hid hX
 have HFew:Hid (∀ w,Sl2 w p1 n1 c1 xss→Calls Tryz.prog 25 #[.slice p1 n1 c1] w fun e w'=>e = .returned (.bool true)∧w = w'):=fun w h=>by have:=Few18_any p1 n1 c1 xss w h;rw [hfew] at this;exact this
 have hsm:small19 l s n = true:=by unfold small19;rw [if_neg hc]
 have HSm:Hid (∀ w,Calls Tryz.prog 26 #[.agg #[.int .i64 l,.int .i64 s,.int .i64 n,.int .u32 d]] w fun e w'=>e = .returned (.bool true)∧Below w.heap.size w w'):=fun w=>by have:=Small19_any l s n d w hl;rw [hsm] at this;exact this
 have HNew:=Lib.hid (fun w=>TNew_bad l s n d w hl hc)
 have hz:(checkS l s n != 0) = true:=bne_iff_ne.2 hc
 generalize checkS l s n = C at *
 have H1:=Lib.hid h1
 clear hT h1 hsm hc hfew hX
 go_enter Tryz.func5,Tryz.ntmps5
 go_wp2_with fail
 refine Calls.mono (awake25 _ (HTX.out.keep (al (Below.refl _ _) (Nat.le_refl _)))) ?_
 rintro e w1 ⟨rfl,hb⟩
 obtain ⟨hb1,kp,hs1⟩:=one_of hb
 have HB1:=Lib.hid hb1
 clear hb hb1
 go_wp2_with fail
 refine Calls.mono (HFew.out _ (H1.out.keep HB1.out)) ?_
 rintro e w2 ⟨rfl,rfl⟩
 obtain ⟨z0,z1,z2,z3⟩:=cells_four kp
 go_wp2_with fail
 refine Calls.mono (HSm.out _) ?_
 rintro e w3 ⟨rfl,hb⟩
 have HB3:=Lib.hid (bl HB1.out hb HB1.out.size)
 have kp3:=(hb.block _ (lt_of_block kp)).trans kp
 clear hb z0 z1 z2 z3 kp HB1 hs1
 obtain ⟨z0,z1,z2,z3⟩:=cells_four kp3
 go_wp2_with fail
 refine Calls.mono (HNew.out _) ?_
 rintro e w4 ⟨rfl,hb⟩
 have HB4:=Lib.hid (bl HB3.out hb HB3.out.size)
 clear hb kp3 z0 z1 z2 z3 HB3
 have hqv:=eq_view 0 0 0 0 0 0 0 0
 go_wp2_with fail
 refine Calls.mono (VOf_nil _) ?_
 rintro e w5 ⟨rfl,hb⟩
 have HB5:=Lib.hid (bl HB4.out hb HB4.out.size)
 clear hb
 go_wp2_with (first | simp only [hqv] | fail)
 refine Calls.mono (VMap_nil _) ?_
 rintro e w6 ⟨rfl,rfl⟩
 go_wp2_with fail
 refine Calls.mono (VGaps_nil _) ?_
 rintro e w6 ⟨rfl,hb⟩
 have HB6:=Lib.hid (bl HB5.out hb HB5.out.size)
 clear hb
 go_wp2
 go_ret
 exact ⟨rfl,HB6.out⟩
theorem ViewTells_any (l s n d:Int) (p1:Option Addr) (n1 c1:Nat) (xss:List (List UInt8)) (w:World) (w0:(Lit.int .i64 l).wf = true) (_w1:(Lit.int .i64 s).wf = true) (_w2:(Lit.int .i64 n).wf = true) (w3:(Lit.int .u32 d).wf = true) (h1:Sl2 w p1 n1 c1 xss) (hK:Tab10 w∧HalfT w) :
  Calls Tryz.prog 5 #[.agg #[.int .i64 l,.int .i64 s,.int .i64 n,.int .u32 d],.slice p1 n1 c1] w fun e w'=>e = .returned (.bool true)∧Below w.heap.size w w':=by
 have hl:=(Go.bounds_i64 w0).2
 have hd:=Go.bounds_u32 w3
 obtain ⟨hX,hT⟩:=hK
 by_cases hx:((xss.all (fun y=>decide (y.length≤800)) && decide (n1≤30)) && small19 l s n) = false
 ·exact ViewTells_out l s n d p1 n1 c1 xss w hl h1 hT hX hx
 ·rw [Bool.not_eq_false,Bool.and_eq_true] at hx
  obtain ⟨hfew,hsm⟩:=hx
  by_cases hc:checkS l s n = 0
  ·obtain ⟨L,t,k,D,rfl,rfl,rfl,rfl,hP⟩:=pok_of hl hc hd.1 (by omega)
   have hsm':=hsm
   unfold small19 at hsm'
   rw [if_pos hc,Bool.and_eq_true] at hsm'
   have h12:=of_decide_eq_true hsm'.1
   have h20:=of_decide_eq_true hsm'.2
   exact ViewTells_core L t k D p1 n1 c1 xss w hP (by omega) (by omega) hfew hsm h1 hT hX
  ·exact ViewTells_bad l s n d p1 n1 c1 xss w hl h1 hT hX hfew hc
end Go.Proofs.YtccaiiigdfieoaaGreatDoor
namespace Go.By
open Go.RowKit
theorem spot_none {w:World} {x:Addr} {v:Value} (h:w.cell? (x.add 0) = some v):∃ b o,x = ⟨b,o,none⟩:=by
 obtain ⟨b,off,spot⟩:=x
 have hspot:spot = none:=by simpa [Addr.add] using World.cell?_spot h
 subst hspot
 exact ⟨b,off,rfl⟩
theorem sl2_of_rows {w:World} {a:Option Addr} {len cap:Nat} (hl:len≤cap) (hm:cap≤maxLen) (hn:a = none→len = 0∧cap = 0) (A:Nat→Option Addr) (L C:Nat→Nat) (Z:Nat→List Int)
  (h:∀ x,a = some x→∀ r,r < cap→w.cell? (x.add r) = some (.slice (A r) (L r) (C r))∧L r≤C r∧C r≤maxLen∧(Z r).length = C r∧(∀ n ∈ Z r,(Lit.int .u8 n).wf = true)∧(A r = none→C r = 0) ∧
    ∀ a',A r = some a'→∀ c,c < C r→w.cell? (a'.add c) = some (.int .u8 ((Z r).getD c 0))):∃ xss,Sl2 w a len cap xss:=by
 have each:∀ r,∃ xs,r < len→Sl B8 w (A r) (L r) (C r) xs:=by
  intro r
  by_cases hr:r < len
  ·cases ha:a with
   | none=>have:=hn ha;omega
   | some x =>
    obtain ⟨_,h1,h2,h3,h4,h5,h6⟩:=h x ha r (by omega)
    cases hA:A r with
    | none =>
     have:=h5 hA
     have hL:L r = 0:=by omega
     exact ⟨[],fun _=>by rw [hL,this];exact Sl.nil0 _ _⟩
    | some a' =>
     obtain ⟨xs,hx⟩:=sl_of_row (w:=w) (a:=some a') (len:=L r) (cap:=C r) (zs:=Z r) (.inr ⟨a',rfl,h1,h2,h3,fun i hi=>h6 a' hA i (by omega),h4⟩)
     exact ⟨xs,fun _=>hx⟩
  ·exact ⟨[],fun h=>absurd h hr⟩
 refine ⟨(List.range len).map fun r=>Classical.choose (each r),⟨by simp,hl,hm,hn,?_⟩⟩
 intro i xs hi
 obtain ⟨hi',e⟩:=List.getElem?_eq_some_iff.1 hi
 simp at hi' e
 have hs:=Classical.choose_spec (each i) hi'
 rw [e] at hs
 cases ha:a with
 | none=>have:=hn ha;omega
 | some x =>
  obtain ⟨hc,_⟩:=h x ha i (by omega)
  obtain ⟨b,o,rfl⟩:=spot_none (h x ha 0 (by omega)).1
  rw [Addr.add_lit] at hc
  exact ⟨b,o,A i,C i,rfl,by rw [hs.len];exact hc,by rw [hs.len];exact hs⟩
end Go.By
