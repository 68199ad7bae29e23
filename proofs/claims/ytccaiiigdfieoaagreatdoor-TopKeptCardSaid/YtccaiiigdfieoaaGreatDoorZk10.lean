/- The theorems through the layers: sent: the packets of an object. The theorems through the layers: awake. Plain law of TripArrives: which ones came hangs on lengths alone; what is harmed,calmly,is not let in. Chapter 22: trip.Vectors. The theorems through the layers: TopKept,of an object that a small plan fits. The library's table of powers of ten,out of the row's condition. What the library's variables hold: out of the row's condition,and of the world's shape. The table of the sum,out of the row's condition. What the library's variables hold,for Parse: out of the row's condition. The theorems through the layers: TopKept,of whatever comes. Arguments that came in: slices of byte slices. -/
import Derived.Test.YtccaiiigdfieoaaGreatDoorZk9
import Derived.Test.YtccaiiigdfieoaaGreatDoorRows
import Derived.Lib.LaidTab
import Derived.Stop.LaidErr
import Derived.Shelf.Vars
import Derived.SizedLaws
import Derived.OpenShut
import Derived.Deep.Matrix
namespace Go.Proofs.YtccaiiigdfieoaaGreatDoor
open Go.RowKit Go.By Gf Go.Maps
theorem hdr_mono22 {T2 T1 B B' n:Nat} {w:World} {v:Value} {xss:List (List UInt8)} (h:HdrF T2 T1 B w v n xss) (hB:B'≤B):HdrF T2 T1 B' w v n xss:=by
 obtain ⟨vs,h1,h2,h3⟩:=h
 refine ⟨vs,owns_mono h1 hB,h2,fun j u hu=>?_⟩
 obtain ⟨q,m,c,xs,e1,e2,e3⟩:=h3 j u hu
 exact ⟨q,m,c,xs,e1,e2,e3.mono hB⟩
structure S1 (wI w0 w:World) (gs L t k D:Nat) (FX:List (List UInt8)) (nx:Nat):Prop where
 bel:Below wI.heap.size wI w
 i0:wI.heap.size≤w0.heap.size
 le:w0.heap.size≤w.heap.size
 gs0:wI.heap.size≤gs
 snd:SndO w0 w gs L t k D nx FX
section
variable {wI w0 w w':World} {gs L t k D nx:Nat} {FX:List (List UInt8)}
theorem S1.keep (h:S1 wI w0 w gs L t k D FX nx) (hb:Below w.heap.size w w'):S1 wI w0 w' gs L t k D FX nx :=
 ⟨bl h.bel hb h.bel.size,h.i0,Nat.le_trans h.le hb.size,h.gs0,h.snd.keep hb h.le⟩
theorem S1.grown (h:S1 wI w0 w gs L t k D FX nx) {T e n:Nat} {u:Value} {ys:List Value} (ho:w.ownsRow w0.heap.size T e u n ys) (hg:w.grownBy w' u.ownBlock) :
  S1 wI w0 w' gs L t k D FX nx∧(∀ T',T≠T'→∀ (b:Nat) (cs:Array Value) (fr:Nat × Nat),w.heap[b]? = some (.cells cs T' fr)→w'.heap[b]? = w.heap[b]?):=by
 rcases ho.2 with ⟨e1,_⟩ | ⟨g,cap,cur,e1,hgb,hh,_⟩
 ·have hb:Below w.heap.size w w':=⟨hg.os,hg.tape,hg.output,hg.size,fun b hb=>hg.block b hb (fun e=>by rw [e1] at e;cases e)⟩
  exact ⟨h.keep hb,fun T' _ b cs fr hc=>hb.block b (lt_of_block hc)⟩
 ·have hc:GChg w g w':=⟨hg.os,hg.tape,hg.output,hg.size,fun b hb hne=>hg.block b hb (fun e=>by rw [e1] at e;cases e;exact hne rfl)⟩
  exact ⟨⟨h.bel.trans (hc.below (Nat.le_trans h.i0 hgb) h.bel.size),h.i0,Nat.le_trans h.le hc.size,h.gs0,h.snd.keep (hc.below hgb h.le) (Nat.le_refl _)⟩,fun T' hne=>hc.same hh hne⟩
theorem S1_sendA (h:S1 wI w0 w gs L t k D FX nx) (hT:HalfT wI) (hnx:nx < 4294967296) {m:UInt8} {p:Option Addr} {j c s:Nat} {xs:List UInt8} (hs:Sl B8 w p j c xs) (hr:Room j) :
  Calls Tryz.prog 46 #[.pointer (some ⟨gs,0,none⟩),SVal m p j c s] w fun e w'=>∃ q n c',e = .returned (.tuple #[.slice q n c',.int .i64 (srcC m j k)])∧Fresh 5 w.heap.size w' q n c' (sentX D nx k FX m j s xs)∧S1 wI w0 w' gs L t k D FX (nextX nx k m j)∧KeepS w w':=by
 unfold sentX nextX
 by_cases hm:srcC m j k = 0
 ·rw [if_pos hm,if_pos hm,hm]
  refine Calls.mono (SSend_okF gs L t k D nx FX m p j c s xs w h.snd.snd hnx hm hs hr (hT.keep h.bel)) ?_
  rintro e w1 ⟨⟨q,n,c',he,hf⟩,hq⟩
  have hS:=h.snd.sent hq
  obtain ⟨⟨_,_,_,_,_,_,hg⟩,-⟩:=hq
  obtain ⟨_,_,_,_,hbx,_,_⟩:=h.snd.mem
  exact ⟨q,n,c',he,hf,⟨h.bel.trans (hg.below h.gs0 h.bel.size),h.i0,Nat.le_trans h.le hg.size,h.gs0,hS⟩,hg.keepSS hbx⟩
 ·rw [if_neg hm,if_neg hm]
  refine Calls.mono (SSend_bad gs L t k D nx FX m p j c s xs w h.snd.snd hnx hm hs hr) ?_
  rintro e w1 ⟨rfl,hb⟩
  exact ⟨none,0,0,rfl,Fresh.none _ _ _,h.keep hb,KeepS.of hb⟩
end
def SentRet (w:World) (XS:List (List UInt8)) (e:Ending) (w':World):Prop :=
 ∃ q c,e = .returned (.tuple #[.slice q XS.length c,.bool true])∧HdrF 22 5 w.heap.size w' (.slice q XS.length c) XS.length XS∧Below w.heap.size w w'
set_option maxRecDepth 100000 in
set_option maxHeartbeats 4000000 in
theorem TSent_ok (L t k D:Nat) (q0:Option Addr) (c0:Nat) (o:List UInt8) (p1:Option Addr) (n1 c1:Nat) (srcs:List SrcD) (w:World) (hP:POK L t k D) (hfit:∀ i:Nat,i < k→i * t≤L) (h0:Sl B8 w q0 L c0 o) (h1:SlS w p1 n1 c1 srcs) (hT:HalfT w)
  (hn1:n1≤1000) (hsr:∀ a,a ∈ srcs→a.xs.length≤1000000) :
  Calls Tryz.prog 14 #[PVal L t k D,.slice q0 L c0,.slice p1 n1 c1] w (SentRet w (sendsS D k ((List.range k).map (pieceS o t)) srcs)):=by
 obtain ⟨FX,hFX⟩:∃ FX,FX = (List.range k).map (pieceS o t):=⟨_,rfl⟩
 have HT:=Lib.hid hT
 have HSR:=Lib.hid hsr
 have H1:=Lib.hid h1
 have HSN:Hid (∀ W,Below w.heap.size w W→Calls Tryz.prog 45 #[PVal L t k D,.slice q0 L c0] W fun e w'=>∃ gs,e = .returned (.tuple #[.pointer (some ⟨gs,0,none⟩),.int .i64 0])∧W.heap.size≤gs∧Snd w' gs L t k D 0 FX∧Below W.heap.size W w'):=fun W hb=>by
  rw [hFX];exact SNew_ok L t k D q0 L c0 o W hP (h0.keep hb) hfit rfl
 rw [← hFX]
 clear hP hfit h0 h1 hT hsr hFX
 go_enter Tryz.func14,Tryz.ntmps14
 go_wp2_with fail
 have ba:Below w.heap.size w (w.alloc (.cells #[.int .i64 (L:Nat),.int .i64 (t:Nat),.int .i64 (k:Nat),.int .u32 (D:Nat)] 27 (0,0))):=al (Below.refl _ _) (Nat.le_refl _)
 refine Calls.mono (HSN.out _ ba) ?_
 rintro e w0 ⟨gs,rfl,hgs,hsn,hb⟩
 have HS0:Hid (S1 w w0 w0 gs L t k D FX 0):=⟨bl ba hb ba.size,(bl ba hb ba.size).size,Nat.le_refl _,Nat.le_trans ba.size hgs,SndO.start hsn⟩
 clear hb ba hgs hsn HSN
 go_wp2
 go_loopw [10,25] (fun sv iv wr=>∃ (i:Nat) (XS:List (List UInt8)),i≤n1∧iv = .int .i64 (i:Nat)∧XS.length≤i∧Hid (XS = sendsS D k FX (srcs.take i))∧Hid (S1 w w0 wr gs L t k D FX XS.length)∧Hid (HdrF 22 5 w0.heap.size wr sv XS.length XS)) (fun _ iv _=>n1 - (intOf iv).toNat)
 case atStart=>exact ⟨0,[],Nat.zero_le _,rfl,Nat.le_refl _,rfl,HS0.out,HdrF.nil _ _ _ _⟩
 case round =>
  obtain ⟨i,XS,hi,rfl,hXi,HXS,HR,HX⟩:=hrel
  clear HS0
  obtain ⟨qs,cs,rfl⟩:=HX.out.shape
  by_cases hlt:i < n1
  ·obtain ⟨b,ob,q,j,c',a,rfl,hga,f0,f1,f2,hs,hs64⟩:=H1.out.at hlt
   have x0:=(HR.out.bel.cell (p:=⟨b,ob + i * 3,none⟩) (lt_of_cell f0)).trans f0
   have x1:=(HR.out.bel.cell (p:=⟨b,ob + i * 3 + 1,none⟩) (lt_of_cell f1)).trans f1
   have x2:=(HR.out.bel.cell (p:=⟨b,ob + i * 3 + 2,none⟩) (lt_of_cell f2)).trans f2
   have hlt':(i:Int) < (n1:Int):=by omega
   have HSX:=Lib.hid hs
   have hjl:=hs.len
   have hj:j≤1000000:=by rw [← hjl];exact HSR.out a (List.mem_of_getElem? hga.out)
   have HNX:Hid (sendsS D k FX (srcs.take (i + 1)) = sendF D k FX XS a):=by show _ = _;rw [sends_snoc hga.out,← HXS.out]
   have ba:Below wr.heap.size wr (wr.alloc (.cells #[B8 a.m,.slice q j c',.int .u64 (a.s:Nat)] 83 (0,0))):=al (Below.refl _ _) (Nat.le_refl _)
   have HRa:=Lib.hid (HR.out.keep ba)
   have hsend:=S1_sendA HRa.out HT.out (by omega) ((HSX.out.keep HR.out.bel).keep ba) (show j≤140737488355328 by omega) (m:=a.m) (s:=a.s)
   have HXa:=Lib.hid (HX.out.keep ba)
   have HLE:=Lib.hid HR.out.le
   have HSD:=Lib.hid hsend
   clear f0 f1 f2 hs hlt ba hsend HX HR hga
   by_cases hm:srcC a.m j k = 0
   ·have HNX2:Hid (XS ++ [pktB a.m D XS.length a.xs a.s (combS (vecS a.m a.xs a.s k) FX).1] = sendsS D k FX (srcs.take (i + 1))):=by
     show _ = _
     rw [HNX.out];unfold sendF;rw [hjl,if_pos hm]
    unfold sentX nextX at HSD
    rw [if_pos hm,if_pos hm,hm] at HSD
    clear hm HNX hjl
    generalize pktB a.m D XS.length a.xs a.s (combS (vecS a.m a.xs a.s k) FX).1 = pk at *
    go_wp2_with fail
    refine Calls.mono HSD.out ?_
    rintro e wd ⟨ql,nl,cl,rfl,hf,hS,hK⟩
    have ba:Below wd.heap.size wd (wd.alloc (.cells #[.slice ql nl cl] 22 (0,0))):=al (Below.refl _ _) (Nat.le_refl _)
    have HSf:=Lib.hid (hS.keep ba)
    have HXf:=Lib.hid ((hK.hdr os_rows os_u8 HXa.out).keep ba)
    have FLf:Hid (Fresh 5 w0.heap.size (wd.alloc (.cells #[.slice ql nl cl] 22 (0,0))) ql nl cl pk):=(hf.mono (by have:=HLE.out;simp;omega)).keep ba
    clear ba hf hS hK x0 x1 x2 HRa HSD HXa
    go_wp2_with (first | (at_builtin;refine wpList_hdr rfl _ _ rfl w0.heap.size XS.length (.slice qs XS.length cs) XS rfl HXf.out (by omega) HSf.out.le wd.heap.size rfl ql nl cl (0,0) pk (hnew rfl) FLf.out ?_) | fail)
    rintro sA wA hA1 ⟨ys,hA2⟩ hA3 -
    obtain ⟨hSA,-⟩:=HSf.out.grown hA2 hA3
    have HSA:Hid (S1 w w0 wA gs L t k D FX (XS ++ [pk]).length):=by rw [List.length_append];exact hSA
    have HXA:Hid (HdrF 22 5 w0.heap.size wA sA (XS ++ [pk]).length (XS ++ [pk])):=by rw [List.length_append];exact hA1
    clear hA1 hA2 hA3 hSA HSf HXf FLf
    go_wp2
    go_roundw
    case rel=>exact ⟨i + 1,XS ++ [pk],by omega,by go_num,by rw [List.length_append];simp;omega,HNX2.out,HSA.out,HXA.out⟩
    case measure=>simp [intOf];omega
   ·have HNX2:Hid (XS = sendsS D k FX (srcs.take (i + 1))):=by
     show _ = _
     rw [HNX.out];unfold sendF;rw [hjl,if_neg hm]
    unfold sentX nextX at HSD
    rw [if_neg hm,if_neg hm] at HSD
    have hz5:(srcC a.m j k == 0) = false:=beq_eq_false_iff_ne.2 hm
    generalize srcC a.m j k = R at *
    clear hm HNX hjl
    go_wp2_with fail
    refine Calls.mono HSD.out ?_
    rintro e wd ⟨ql,nl,cl,rfl,-,hS,hK⟩
    have HSA:=Lib.hid hS
    have HXA:=Lib.hid (hK.hdr os_rows os_u8 HXa.out)
    clear hS hK x0 x1 x2 HRa HSD HXa
    go_wp2
    go_roundw
    case rel=>exact ⟨i + 1,XS,by omega,by go_num,by omega,HNX2.out,HSA.out,HXA.out⟩
    case measure=>simp [intOf];omega
  ·obtain rfl:n1 = i:=by omega
   have hXE:sendsS D k FX srcs = XS:=by rw [HXS.out,← H1.out.len,List.take_length]
   have HB:=Lib.hid HR.out.bel
   have HXF:=Lib.hid (hdr_mono22 HX.out HR.out.i0)
   have HXE:=Lib.hid hXE
   clear hlt hi HXS HR HX hXE
   go_wp2
   go_ret2
   rw [HXE.out]
   exact ⟨qs,cs,rfl,HXF.out,HB.out⟩
end Go.Proofs.YtccaiiigdfieoaaGreatDoor
namespace Go.Proofs.YtccaiiigdfieoaaGreatDoor
open Go.RowKit Go.By Go.Maps
theorem pok221:POK 2 2 1 1:=⟨by decide,by decide,by decide,by decide,by decide,by decide,by decide⟩
theorem of221:ofS 2 2 1 = .tuple #[PVal 2 2 1 1,.int .i64 0]:=by
 have h:fitS 2 2 = 0:=by decide
 have h2:needS 2 2 = 1:=by decide
 unfold ofS;rw [if_pos h,h2];rfl
def pktT:List UInt8:=pktB 0 1 0 [9] 0 (combS [9] [[3,4]]).1
theorem lenTc:(combS [9] [[3,4]]).1.length = 2:=by decide +kernel
theorem putT:putK [] ([9],(combS [9] [[3,4]]).1) = [([1],[3,4])]∧nextS [] ([9],(combS [9] [[3,4]]).1) 1 = 1:=by decide +kernel
theorem readT:readC 1 2 1 pktT = 0∧eqX 1 2 pktT = ([9],(combS [9] [[3,4]]).1):=by
 obtain ⟨h1,h2,h3,h4,h5,h6⟩:=read_write (m:=0) (D:=1) (n:=0) (s:=0) (k:=1) (t:=2) (xs:=[9]) (ys:=(combS [9] [[3,4]]).1) rfl (fun _=>rfl) lenTc (by decide) (by decide)
 refine ⟨h1,?_⟩
 unfold eqX
 rw [show pktM pktT = 0 from h2,show pktX 1 pktT = [9] from h4,show pktY 1 2 pktT = (combS [9] [[3,4]]).1 from h6]
 rfl
theorem takeT:takeK 1 2 1 [] 0 pktT = [([1],[3,4])]∧takeS 1 2 1 [] 0 pktT = 1:=by
 unfold takeK takeS
 rw [if_pos ⟨readT.1,rfl⟩,if_pos ⟨readT.1,rfl⟩,readT.2]
 exact putT
theorem lenT:pktT.length = 17:=by simp [pktT,pktB,bodyP,headB,srcB,put4_len,lenTc]
theorem piecesT:(List.range 1).map (pieceS [3,4] 2) = [[3,4]]:=by decide
theorem joinT:joinS 2 2 1 (([([1],[3,4])]:List Rw).map (fun x:Rw=>x.2)) = ([3,4],0):=by decide +kernel
set_option maxRecDepth 100000 in
set_option maxHeartbeats 8000000 in
theorem awakeT (w:World) (hT:HalfT w):Calls Tryz.prog 11 #[] w fun e w'=>e = .returned (.bool true)∧Below w.heap.size w w':=by
 have HT:=Lib.hid hT
 have HOf:Hid (∀ w,Calls Tryz.prog 44 #[.int .i64 2,.int .i64 2,.int .u32 1] w fun e w'=>e = .returned (.tuple #[PVal 2 2 1 1,.int .i64 0])∧Below w.heap.size w w'):=fun w=>by have:=POf_any 2 2 1 w (by decide);rw [of221] at this;exact this
 have HSm:Hid (∀ xs p1 p2 n1 n2 c1 c2 w,Sl B8 w p1 n1 c1 xs→Sl B8 w p2 n2 c2 xs→Calls Tryz.prog 23 #[.slice p1 n1 c1,.slice p2 n2 c2] w fun e w'=>e = .returned (.bool true)∧Below w.heap.size w w'):=fun xs p1 p2 n1 n2 c1 c2 w h1 h2=>by
  have:=Same_any p1 p2 n1 n2 c1 c2 xs xs w h1 h2
  rw [decide_eq_true rfl] at this
  exact this
 clear hT
 go_enter Tryz.func11,Tryz.ntmps11
 go_wp2_with fail
 refine Calls.mono (HOf.out w) ?_
 rintro e w1 ⟨rfl,hb1⟩
 have HB1:=Lib.hid hb1
 clear hb1
 go_wp2_with fail
 refine Calls.mono (SNew_ok 2 2 1 1 _ 2 2 [3,4] _ pok221 (sl_block [3,4] 2 (hnew (by simp)) rfl rfl (by simp [maxLen])) (fun i hi=>by omega) rfl) ?_
 rintro e w2 ⟨gs,rfl,hgs,hsn,hb⟩
 rw [piecesT] at hsn
 obtain ⟨hb2,kp,-,hs2⟩:=two_of hb
 have HB2:=Lib.hid (bl HB1.out hb2 HB1.out.size)
 have HSn:=Lib.hid hsn
 have HGS:Hid (w.heap.size≤gs):=by have:=HB1.out.size;show w.heap.size≤gs;simp at hgs;omega
 clear hb hb2 hsn hgs hs2
 obtain ⟨p0,p1,p2,p3⟩:=cells_four kp
 go_wp2_with fail
 refine Calls.mono (TNew_ok 2 2 1 1 w2 pok221) ?_
 rintro e w3 ⟨gt,be,v,rfl,ht,hb⟩
 have HB3:=Lib.hid (bl HB2.out hb HB2.out.size)
 have HT3:=Lib.hid ht
 have HSn3:=Lib.hid (HSn.out.keep hb)
 clear hb ht HSn kp p0 p1 p2 p3
 go_wp2_with fail
 have ba:=al (o:=.cells #[.int .u8 9] 5 (0,0)) (Below.refl w3.heap.size w3) (Nat.le_refl _)
 have HT4:=Lib.hid (HT3.out.keep ba)
 have HSn4:=Lib.hid (HSn3.out.keep ba)
 have HB4:=Lib.hid (bl HB3.out ba HB3.out.size)
 have HX4:Hid (Sl B8 (w3.alloc (.cells #[.int .u8 9] 5 (0,0))) (some ⟨w3.heap.size,0,none⟩) 1 1 [9]):=sl_block [9] 1 (hnew rfl) rfl rfl (by simp [maxLen])
 clear ba HT3 HSn3
 refine Calls.mono (SExplicit_ok gs 2 2 1 1 0 [[3,4]] _ 1 1 [9] _ HSn4.out (by decide) rfl HX4.out (HT.out.keep HB4.out)) ?_
 rintro e w5 ⟨ql,nl,cl,rfl,hl,hsn,hg⟩
 obtain ⟨_,_,hbx,-⟩:=HSn4.out.mem
 have HL:=Lib.hid hl
 have HT5:=Lib.hid (hg.tkr hbx HT4.out (by decide) (by decide) (by decide) (by decide))
 have HB5:=Lib.hid (HB4.out.trans (hg.below HGS.out HB4.out.size))
 have hnl:nl = 17:=by rw [← hl.len];exact lenT
 have HNL:=Lib.hid hnl
 clear hg hbx hl hsn HT4 HSn4 HB4 HX4 hnl
 go_wp2_with fail
 refine Calls.mono (TTake_any _ gt be 2 2 1 1 0 (.map none) v (.map []) [] 0 ql nl cl pktT w5 HT5.out (HT.out.keep HB5.out) (by decide) HL.out (by rw [HNL.out];show 17≤140737488355328;decide)) ?_
 rintro e w8 ⟨he,M8,v8,hT8,hc8,-⟩
 rw [readT.1] at he
 subst he
 rw [takeT.1,takeT.2] at hT8
 have HT8:=Lib.hid hT8
 have HB8:=Lib.hid (HB5.out.trans (hc8.below HT5.out HB2.out.size HB5.out.size))
 clear hT8 hc8 HT5 HB5 HL HNL
 go_wp2_with fail
 have hob:=TObject_done _ gt be 2 2 1 1 _ M8 v8 _ _ w8 HT8.out rfl
 rw [show joinS ((2:Nat):Int) ((2:Nat):Int) ((1:Nat):Int) (([([1],[3,4])]:List Rw).map (fun x:Rw=>x.2)) = ([3,4],0) from joinT] at hob
 refine Calls.mono hob ?_
 rintro e wA ⟨qo,no,co,rfl,ho,hb⟩
 have HO:=Lib.hid ho
 have HBA:=Lib.hid (bl HB8.out hb HB8.out.size)
 clear hob hb ho HT8 HB8
 go_wp2_with fail
 refine Calls.mono (HSm.out [3,4] _ _ _ _ _ _ _ (HO.out.keep (al (Below.refl _ _) (Nat.le_refl _))) (sl_block [3,4] 2 (hnew rfl) rfl rfl (by simp [maxLen]))) ?_
 rintro e wC ⟨rfl,hb⟩
 have HBC:=Lib.hid (bl HBA.out (one_of hb).1 HBA.out.size)
 clear hb
 go_wp2
 go_ret
 exact ⟨rfl,HBC.out⟩
end Go.Proofs.YtccaiiigdfieoaaGreatDoor
namespace Go.Proofs.YtccaiiigdfieoaaGreatDoor
open Go.RowKit Go.By
end Go.Proofs.YtccaiiigdfieoaaGreatDoor
namespace Go.Proofs.YtccaiiigdfieoaaGreatDoor
open Go.RowKit Go.By Gf Go.Maps
def vecF (k:Nat) (acc:List (List UInt8)) (a:SrcD):List (List UInt8):=if srcC a.m a.xs.length k = 0 then acc ++ [vecS a.m a.xs a.s k] else acc
def blkF (k t:Nat) (acc:List (List UInt8)) (a:SrcD):List (List UInt8):=if srcC a.m a.xs.length k = 0 then acc ++ [List.replicate (lenP a.m k t) 0] else acc
def vecsS (k:Nat) (l:List SrcD):List (List UInt8):=l.foldl (vecF k) []
def blksS (k t:Nat) (l:List SrcD):List (List UInt8):=l.foldl (blkF k t) []
theorem vecs_snoc {k:Nat} {l:List SrcD} {i:Nat} {a:SrcD} (h:l[i]? = some a):vecsS k (l.take (i + 1)) = vecF k (vecsS k (l.take i)) a:=by
 obtain ⟨hi,e⟩:=List.getElem?_eq_some_iff.1 h
 unfold vecsS
 rw [foldl_take_succ _ _ _ _ hi,e]
theorem blks_snoc {k t:Nat} {l:List SrcD} {i:Nat} {a:SrcD} (h:l[i]? = some a):blksS k t (l.take (i + 1)) = blkF k t (blksS k t (l.take i)) a:=by
 obtain ⟨hi,e⟩:=List.getElem?_eq_some_iff.1 h
 unfold blksS
 rw [foldl_take_succ _ _ _ _ hi,e]
structure RelX (k t D:Nat) (FX XS VS BS:List (List UInt8)):Prop where
 l1:VS.length = XS.length
 l2:BS.length = XS.length
 at_:∀ (n:Nat) (x v b:List UInt8),XS[n]? = some x→VS[n]? = some v→BS[n]? = some b→readC k t D x = 0∧eqX k t x = rowC t FX v∧v.length = k∧b.length = x.length
theorem RelX.push {k t D:Nat} {FX XS VS BS:List (List UInt8)} {x v b:List UInt8} (h:RelX k t D FX XS VS BS) (hx:readC k t D x = 0∧eqX k t x = rowC t FX v∧v.length = k∧b.length = x.length):RelX k t D FX (XS ++ [x]) (VS ++ [v]) (BS ++ [b]):=by
 refine ⟨by simp [h.l1],by simp [h.l2],fun n x' v' b' h1 h2 h3=>?_⟩
 have l1:=h.l1;have l2:=h.l2
 rcases Nat.lt_trichotomy n XS.length with g | g | g
 ·rw [List.getElem?_append_left (by omega)] at h1 h2 h3
  exact h.at_ n x' v' b' h1 h2 h3
 ·subst g
  rw [List.getElem?_append_right (by omega),Nat.sub_self] at h1
  rw [List.getElem?_append_right (by omega),l1,Nat.sub_self] at h2
  rw [List.getElem?_append_right (by omega),l2,Nat.sub_self] at h3
  simp at h1 h2 h3
  subst h1 h2 h3
  exact hx
 ·rw [List.getElem?_eq_none (by simp;omega)] at h1;cases h1
theorem pkt_len {m:UInt8} {D n s k t:Nat} {xs ys:List UInt8} (hs:srcC m xs.length k = 0) (hy:ys.length = t):(pktB m D n xs s ys).length = lenP m k t:=by
 obtain ⟨hm,hx⟩:=srcC_zero hs
 unfold pktB bodyP headB srcB lenP widS
 by_cases h0:m = 0
 ·rw [if_pos h0,if_pos h0];simp [put4_len,hy,hx h0];omega
 ·have h1:m = 1:=by
   unfold modeC at hm
   by_cases h1:m = 1
   ·exact h1
   ·rw [if_neg (by simp [h0,h1])] at hm;cases hm
  rw [if_neg h0,if_neg h0];simp [put4_len,put8_len,hy,h1];omega
theorem RelX.all {k t D:Nat} {FX:List (List UInt8)} (hF:∀ x,x ∈ FX→x.length = t) (hk:FX.length = k) (k1:1≤k) (hD:D < 4294967296):∀ (l:List SrcD),l.length≤1000→(∀ a,a ∈ l→a.s < 18446744073709551616)→RelX k t D FX (sendsS D k FX l) (vecsS k l) (blksS k t l):=by
 intro l hl hs
 have:∀ i,i≤l.length→RelX k t D FX (sendsS D k FX (l.take i)) (vecsS k (l.take i)) (blksS k t (l.take i)):=by
  intro i
  induction i with
  | zero=>exact fun _=>⟨rfl,rfl,fun n x v b h=>by simp [sendsS] at h⟩
  | succ i ih =>
   intro hi
   have h:=ih (by omega)
   have ha:l[i]? = some l[i]:=List.getElem?_eq_getElem (by omega)
   rw [sends_snoc ha,vecs_snoc ha,blks_snoc ha]
   unfold sendF vecF blkF
   by_cases hc:srcC l[i].m l[i].xs.length k = 0
   ·rw [if_pos hc,if_pos hc,if_pos hc]
    have hn:=sends_len D k FX (l.take i)
    have hn2:(l.take i).length≤1000:=by rw [List.length_take];omega
    obtain ⟨e1,e2⟩:=sent_eq (k:=k) (t:=t) (D:=D) (n:=(sendsS D k FX (l.take i)).length) (s:=l[i].s) (m:=l[i].m) (xs:=l[i].xs) hF hk k1 hc (hs _ (List.getElem_mem _)) hD (by omega)
    have hv:=vecS_len (s:=l[i].s) hc rfl
    refine h.push ⟨e1,e2,hv,?_⟩
    rw [List.length_replicate]
    refine (pkt_len hc ?_).symm
    rw [comb_mulR hF hk k1 hv];exact mulR_len hF _
   ·rw [if_neg hc,if_neg hc,if_neg hc];exact h
 have h:=this l.length (Nat.le_refl _)
 rwa [List.take_length] at h
end Go.Proofs.YtccaiiigdfieoaaGreatDoor
namespace Go.By
open Go.RowKit Go.Proofs.YtccaiiigdfieoaaGreatDoor
theorem relx_read {k t D:Nat} {FX XS VS BS:List (List UInt8)} (R:RelX k t D FX XS VS BS):∀ x,x ∈ XS→readC k t D x = 0:=fun x hx=>by
 obtain ⟨n,hn,e⟩:=List.getElem_of_mem hx
 have h1:n < VS.length:=by rw [R.l1];exact hn
 have h2:n < BS.length:=by rw [R.l2];exact hn
 exact (R.at_ n x _ _ (by rw [List.getElem?_eq_getElem hn,e]) (List.getElem?_eq_getElem h1) (List.getElem?_eq_getElem h2)).1
end Go.By
namespace Go.Proofs.YtccaiiigdfieoaaGreatDoor
open Go.RowKit Go.By Gf Go.Maps
set_option maxRecDepth 1000000 in
set_option maxHeartbeats 8000000 in
theorem TopKept_core (L t k D:Nat) (q0:Option Addr) (c0:Nat) (o:List UInt8) (q1:Option Addr) (c1:Nat) (o2:List UInt8) (p1:Option Addr) (n1 d1:Nat) (srcs:List SrcD) (p2:Option Addr) (n2 d2:Nat) (srcs2:List SrcD) (w:World) (hO:ObjP L t k D) (h0:Sl B8 w q0 L c0 o) (h0':Sl B8 w q1 L c1 o2) (h1:SlS w p1 n1 d1 srcs) (h2:SlS w p2 n2 d2 srcs2) (hT:HalfT w) (hX:Tab10 w) (hE:ErrI w) (hM:MaxI w)
  (hk12:k≤12) (ht20:t≤20) (hn1:n1≤20) (hn2:n2≤20) (hsr:∀ a,a ∈ srcs→a.xs.length≤1000000) (hs64:∀ a,a ∈ srcs→a.s < 18446744073709551616) (hsr2:∀ a,a ∈ srcs2→a.xs.length≤1000000) (hs642:∀ a,a ∈ srcs2→a.s < 18446744073709551616) (hof:ofS (L:Int) (t:Int) (D:Int) = .tuple #[PVal L t k D,.int .i64 0]) (hfw:fewT srcs = true) (hfw2:fewT srcs2 = true) (hsm:small19 L t k = true) :
  Calls Tryz.prog 3 #[.slice q0 L c0,.slice q1 L c1,.int .i64 (t:Nat),.int .u32 (D:Nat),.slice p1 n1 d1,.slice p2 n2 d2] w fun e w'=>e = .returned (.bool true)∧Below w.heap.size w w':=by
 have HT:=Lib.hid hT
 have HX:=Lib.hid hX
 have HEr:=Lib.hid hE
 have HMx:=Lib.hid hM
 have hP:=hO.ok
 have hl1:=h1.len
 have hl2:=h2.len
 obtain ⟨FX,hFX⟩:∃ FX,FX = (List.range k).map (pieceS o t):=⟨_,rfl⟩
 obtain ⟨FY,hFY⟩:∃ FY,FY = (List.range k).map (pieceS o2 t):=⟨_,rfl⟩
 have hR:=RelX.all (t:=t) (D:=D) (FX:=FX) (by rw [hFX];exact pieces_len.1) (by rw [hFX];exact pieces_len.2) hP.k1 hP.d srcs (by omega) hs64
 have hR2:=RelX.all (t:=t) (D:=D) (FX:=FY) (by rw [hFY];exact pieces_len.1) (by rw [hFY];exact pieces_len.2) hP.k1 hP.d srcs2 (by omega) hs642
 obtain ⟨XS,hXS⟩:∃ XS,XS = sendsS D k FX srcs:=⟨_,rfl⟩
 obtain ⟨YS,hYS⟩:∃ YS,YS = sendsS D k FY srcs2:=⟨_,rfl⟩
 have hxl:XS.length≤20:=by rw [hXS];exact Nat.le_trans (sends_len D k FX srcs) (by omega)
 have hyl:YS.length≤20:=by rw [hYS];exact Nat.le_trans (sends_len D k FY srcs2) (by omega)
 rw [← hXS] at hR
 rw [← hYS] at hR2
 have HRd:Hid (∀ x,x ∈ XS ++ YS→readC k t D x = 0):=fun x hx=>by
  rcases List.mem_append.1 hx with hx | hx
  ·exact relx_read hR x hx
  ·exact relx_read hR2 x hx
 have HSm:Hid (∀ w,Calls Tryz.prog 12 #[.slice q0 L c0,.int .i64 (t:Nat),.int .u32 (D:Nat)] w fun e w'=>e = .returned (.tuple #[PVal L t k D,.bool true])∧Below w.heap.size w w'):=fun w=>by
  have:=TSmall_ok q0 L c0 (t:Int) (k:Int) (D:Int) w h0.bound hof
  rw [hsm] at this;exact this
 have HFw:Hid (∀ W,Below w.heap.size w W→Calls Tryz.prog 13 #[.slice p1 n1 d1] W fun e w'=>e = .returned (.bool true)∧Below W.heap.size W w'):=fun W hb=>by
  have:=TFew_any p1 n1 d1 srcs W (h1.keep hb)
  rw [hfw] at this;exact this
 have HFw2:Hid (∀ W,Below w.heap.size w W→Calls Tryz.prog 13 #[.slice p2 n2 d2] W fun e w'=>e = .returned (.bool true)∧Below W.heap.size W w'):=fun W hb=>by
  have:=TFew_any p2 n2 d2 srcs2 W (h2.keep hb)
  rw [hfw2] at this;exact this
 have HSe:Hid (∀ W,Below w.heap.size w W→Calls Tryz.prog 14 #[PVal L t k D,.slice q0 L c0,.slice p1 n1 d1] W (SentRet W XS)):=fun W hb=>by
  have:=TSent_ok L t k D q0 c0 o p1 n1 d1 srcs W hP hO.fit (h0.keep hb) (h1.keep hb) (hT.keep hb) (by omega) hsr
  rw [← hFX,← hXS] at this
  exact this
 have HSe2:Hid (∀ W,Below w.heap.size w W→Calls Tryz.prog 14 #[PVal L t k D,.slice q1 L c1,.slice p2 n2 d2] W (SentRet W YS)):=fun W hb=>by
  have:=TSent_ok L t k D q1 c1 o2 p2 n2 d2 srcs2 W hP hO.fit (h0'.keep hb) (h2.keep hb) (hT.keep hb) (by omega) hsr2
  rw [← hFY,← hYS] at this
  exact this
 have hLL:((L:Int) != (L:Int)) = false:=by simp
 have HNew:=Lib.hid (fun w=>TNew_ok L t k D w hP)
 have HP:=Lib.hid hP
 have HK12:=Lib.hid hk12
 have HT20:=Lib.hid ht20
 clear hT hX hE hM hO hP h0 h0' h1 h2 hl1 hl2 hR hR2 hXS hYS hFX hFY hsr hs64 hsr2 hs642 hof hfw hfw2 hsm hk12 ht20
 go_enter Tryz.func3,Tryz.ntmps3
 go_wp2_with fail
 refine Calls.mono (awakeT _ HT.out) ?_
 rintro e wa ⟨rfl,hb⟩
 have HBa:=Lib.hid hb
 clear hb
 go_wp2_with fail
 refine Calls.mono (HSm.out _) ?_
 rintro e wb ⟨rfl,hb⟩
 have HBb:=Lib.hid (bl HBa.out hb HBa.out.size)
 clear hb HBa
 have ba:Below wb.heap.size wb (wb.alloc (.cells #[.int .i64 (L:Nat),.int .i64 (t:Nat),.int .i64 (k:Nat),.int .u32 (D:Nat)] 27 (0,0))):=al (Below.refl _ _) (Nat.le_refl _)
 have kp1:(wb.alloc (.cells #[.int .i64 (L:Nat),.int .i64 (t:Nat),.int .i64 (k:Nat),.int .u32 (D:Nat)] 27 (0,0))).heap[wb.heap.size]? = some (.cells #[.int .i64 (L:Nat),.int .i64 (t:Nat),.int .i64 (k:Nat),.int .u32 (D:Nat)] 27 (0,0)):=hnew rfl
 have HBc:=Lib.hid (bl HBb.out ba HBb.out.size)
 have KP:=Lib.hid kp1
 clear ba kp1 HBb
 go_wp2_with fail
 obtain ⟨gp,hgp⟩:∃ g,g = wb.heap.size:=⟨_,rfl⟩
 rw [← hgp] at KP ⊢
 clear hgp
 generalize wb.alloc (.cells #[.int .i64 (L:Nat),.int .i64 (t:Nat),.int .i64 (k:Nat),.int .u32 (D:Nat)] 27 (0,0)) = wc at *
 refine Calls.mono (HFw.out wc HBc.out) ?_
 rintro e wd ⟨rfl,hb⟩
 have HBd:=Lib.hid (bl HBc.out hb HBc.out.size)
 have KPd:=Lib.hid ((hb.block _ (lt_of_block KP.out)).trans KP.out)
 clear hb HBc KP HFw
 go_wp2_with fail
 refine Calls.mono (HFw2.out wd HBd.out) ?_
 rintro e we ⟨rfl,hb⟩
 have HBe:=Lib.hid (bl HBd.out hb HBd.out.size)
 have KPe:=Lib.hid ((hb.block _ (lt_of_block KPd.out)).trans KPd.out)
 clear hb HBd KPd HFw2
 obtain ⟨z0,z1,z2,z3⟩:=cells_four KPe.out
 go_wp2_with fail
 refine Calls.mono (HSe.out we HBe.out) ?_
 rintro e wf ⟨qX,cX,rfl,hx,hb⟩
 have HBf:=Lib.hid (bl HBe.out hb HBe.out.size)
 have KPf:=Lib.hid ((hb.block _ (lt_of_block KPe.out)).trans KPe.out)
 have HXf:=Lib.hid (hdrF_mono hx HBe.out.size)
 clear hb hx HBe KPe HSe z0 z1 z2 z3
 obtain ⟨z0,z1,z2,z3⟩:=cells_four KPf.out
 go_wp2_with fail
 refine Calls.mono (HSe2.out wf HBf.out) ?_
 rintro e wg ⟨qY,cY,rfl,hy,hb⟩
 have HBg:=Lib.hid (bl HBf.out hb HBf.out.size)
 have KPg:=Lib.hid ((hb.block _ (lt_of_block KPf.out)).trans KPf.out)
 have HXg:=Lib.hid (HXf.out.keep hb)
 have HYg:=Lib.hid (hdrF_mono hy HBf.out.size)
 clear hb hy HBf KPf HXf HSe2 z0 z1 z2 z3
 obtain ⟨z0,z1,z2,z3⟩:=cells_four KPg.out
 go_wp2_with fail
 refine Calls.mono (HNew.out wg) ?_
 rintro e wh ⟨gt,be,v0,rfl,ht,hb⟩
 have HBh:=Lib.hid (bl HBg.out hb HBg.out.size)
 have KPh:=Lib.hid ((hb.block _ (lt_of_block KPg.out)).trans KPg.out)
 have HXh:=Lib.hid (HXg.out.keep hb)
 have HYh:=Lib.hid (HYg.out.keep hb)
 have HTh:=Lib.hid ht
 have HB0:Hid (w.heap.size≤wg.heap.size):=HBg.out.size
 obtain ⟨base,hbase⟩:∃ base,base = wg.heap.size:=⟨_,rfl⟩
 rw [← hbase] at HTh HB0
 clear hb ht HBg KPg HXg HYg hbase z0 z1 z2 z3
 obtain ⟨z0,z1,z2,z3⟩:=cells_four KPh.out
 go_wp2_with fail
 refine Calls.mono (HNew.out wh) ?_
 rintro e wi ⟨gu,eu,vu,rfl,hu,hb⟩
 have HBi:=Lib.hid (bl HBh.out hb HBh.out.size)
 have HXi:=Lib.hid (HXh.out.keep hb)
 have HYi:=Lib.hid (HYh.out.keep hb)
 have tk1h:TkB wh base gt be L t k D 0 v0 [] 0:=⟨0,_,_,Nat.le_refl _,HTh.out⟩
 have tk2:TkB wi wh.heap.size gu eu L t k D 0 vu [] 0:=⟨0,_,_,Nat.le_refl _,hu⟩
 have hD:Duo wi w.heap.size L t k D base gt be wh.heap.size gu eu 0 [] 0 [] 0:=⟨HB0.out,HBh.out.size,HBi.out.size,v0,vu,tk1h.keep hb,tk2,TApart.late tk1h tk2 (Nat.le_refl _)⟩
 have HDi:=Lib.hid hD
 have HYi2:=Lib.hid HYi.out
 obtain ⟨bu,hbu⟩:∃ b,b = wh.heap.size:=⟨_,rfl⟩
 rw [← hbu] at HDi
 clear hb hu hD tk1h tk2 hbu HBh KPh HXh HYh HTh z0 z1 z2 z3 HNew
 obtain ⟨m1,hm1⟩:∃ m,m = XS.length:=⟨_,rfl⟩
 obtain ⟨m2,hm2⟩:∃ m,m = YS.length:=⟨_,rfl⟩
 rw [← hm1] at HXi hxl ⊢
 rw [← hm2] at HYi HYi2 hyl ⊢
 have HM1:=Lib.hid hm1
 have HM2:=Lib.hid hm2
 clear hm1 hm2
 have ba:Below wi.heap.size wi (wi.alloc (.cells #[] 22 (0,0))):=al (Below.refl _ _) (Nat.le_refl _)
 have HL0:Hid (HdG wi.heap.size w.heap.size (wi.alloc (.cells #[] 22 (0,0))) (.slice (some ⟨wi.heap.size,0,none⟩) 0 0) 0 []):=⟨[],World.ownsRow_lit wi #[] 0 (Nat.le_refl _) (by simp [maxLen]) rfl,rfl,fun j u h=>by simp at h⟩
 have HXj:=Lib.hid (HXi.out.keep ba)
 have HYj:=Lib.hid (HYi.out.keep ba)
 have HB1:=Lib.hid ba
 clear ba HXi HYi
 go_wp2_with (at_builtin;refine wpList_append_hf rfl _ _ rfl wi.heap.size w.heap.size 0 _ [] rfl HL0.out w.heap.size qX m1 cX XS rfl HXj.out (Nat.le_refl _) (by omega) HB1.out.size ?_)
 intro v1 w1 hv1 hge1 hg1 hk1
 try simp only [Nat.zero_add,List.nil_append] at hv1
 have HB2:Hid (Below wi.heap.size wi w1):=HB1.out.grown hg1 HB1.out.size hge1
 have HY2:Hid (HdrF 22 5 w.heap.size w1 (.slice qY m2 cY) m2 YS):=HYi2.out.keep HB2.out
 obtain ⟨qV,cV,rfl⟩:=hv1.shape
 have HV1:=Lib.hid hv1
 clear hv1 hge1 hg1 hk1 HL0 HB1 HXj HYj
 go_wp2_with (at_builtin;refine wpList_append_hf rfl _ _ rfl wi.heap.size w.heap.size m1 _ XS rfl HV1.out w.heap.size qY m2 cY YS rfl HY2.out (Nat.le_refl _) (by omega) HB2.out.size ?_)
 intro v2 w2 hv2 hge2 hg2 hk2
 have HB3:Hid (Below wi.heap.size wi w2):=HB2.out.grown hg2 HB2.out.size hge2
 obtain ⟨qW,cW,rfl⟩:=hv2.shape
 have HZ2:=Lib.hid (hv2.hdrF HBi.out.size)
 have HD2:=Lib.hid (HDi.out.keep HB3.out)
 have HBw:=Lib.hid (bl HBi.out HB3.out HBi.out.size)
 clear hv2 hge2 hg2 hk2 HV1 HB2 HY2 HB3 HDi HBi HYi2
 obtain ⟨ZS,hZS⟩:∃ z,z = XS ++ YS:=⟨_,rfl⟩
 rw [← hZS] at HZ2 HRd
 obtain ⟨m,hm⟩:∃ m,m = m1 + m2:=⟨_,rfl⟩
 rw [← hm] at HZ2 ⊢
 have hm40:m≤40:=by omega
 have HK1:Hid (1≤k):=HP.out.k1
 clear hm hZS HM1 HM2 hxl hyl
 go_wp2
 go_loopw [20,102] (fun uv iv wr=>∃ (i bu gu eu:Nat) (K:List Rw) (st:Nat),i≤m∧iv = .int .i64 (i:Nat)∧uv = .pointer (some ⟨gu,0,none⟩)∧Hid (Duo wr w.heap.size L t k D base gt be bu gu eu (6000 + 2 * i) K st K st)∧Hid (StF k K st)∧Hid (HdrF 22 5 w.heap.size wr (.slice qW m cW) m ZS)∧Hid (Below w.heap.size w wr)) (fun _ iv _=>m - (intOf iv).toNat)
 case atStart=>exact ⟨0,bu,gu,eu,[],0,Nat.zero_le _,rfl,rfl,HD2.out.more (by omega),StF.nil HK1.out,HZ2.out,HBw.out⟩
 case round =>
  clear HD2 HZ2 HBw
  obtain ⟨i,bu,gu,eu,K,st,hi,rfl,rfl,HDr,HS,HZ,HB⟩:=hrel
  by_cases hlt:i < m
  ·obtain ⟨bb,oo,qx,mx,cx,xs,rfl,hcd,hxd,hfx⟩:=HZ.out.at hlt
   have hrd:=HRd.out xs (List.mem_of_getElem? hxd.out)
   have hmb:Room mx:=by rw [← hfx.sl.len];exact read_roomT HP.out hrd
   have HFx:=Lib.hid hfx
   have hlt':(i:Int) < (m:Int):=by omega
   have HLT:=Lib.hid hlt
   have HTk:=Lib.hid (Duo.take HDr.out (HT.out.keep HB.out) (by omega) hfx.sl hmb)
   have HRD:=Lib.hid hrd
   clear hxd hfx hlt hrd
   go_wp2_with fail
   rw [HRD.out] at HTk
   refine Calls.mono HTk.out ?_
   rintro e wa ⟨rfl,hd,hb,hks⟩
   have HBa:=Lib.hid (HB.out.trans hb)
   have HZa:=Lib.hid (HZ.out.keepS hks)
   have HFa:Hid (Fresh 5 w.heap.size wa qx mx cx xs):=fresh_same HFx.out (hks.same _ os_u8)
   have HTk2:=Lib.hid (Duo.take hd.swap (HT.out.keep HBa.out) (by omega) HFa.out.sl hmb)
   clear hd hb hks HTk HDr HZ HB HFx hcd
   go_wp2_with fail
   rw [HRD.out] at HTk2
   refine Calls.mono HTk2.out ?_
   rintro e wb ⟨rfl,hd,hb,hks⟩
   have HBb:=Lib.hid (HBa.out.trans hb)
   have HZb:=Lib.hid (HZa.out.keepS hks)
   have HDb:=Lib.hid hd.swap
   have HS2:=Lib.hid (HS.out.take (t:=t) (D:=D) xs)
   clear hd hb hks HTk2 HZa HBa HFa HS HRD hmb
   generalize takeK k t D K st xs = K5 at *
   generalize takeS k t D K st xs = st5 at *
   obtain ⟨Nb,Mb,vb,Cb,T2⟩:=HDb.out.snd
   have HX2:Hid (∀ W,Below wb.heap.size wb W→Calls Tryz.prog 18 #[.pointer (some ⟨gu,0,none⟩)] W fun e w'=>e = .returned (.string (strB (keepT L t k D K5 st5)))∧Below W.heap.size W w'):=fun W hb=>KText19 (T2.keep hb) HK12.out HT20.out (HX.out.keep (bl HBb.out hb HBb.out.size)) (HT.out.keep (bl HBb.out hb HBb.out.size))
   have HPr:Hid (∀ W,Below wb.heap.size wb W→Calls Tryz.prog 17 #[.string (strB (keepT L t k D K5 st5))] W fun e w'=>∃ base2 gt2 be2 N2 M2 v2 C2,e = .returned (.tuple #[.pointer (some ⟨gt2,0,none⟩),.int .i64 0])∧W.heap.size≤base2∧N2≤5000∧Tkr w' base2 gt2 be2 L t k D N2 M2 v2 C2 K5 st5∧Below W.heap.size W w'):=fun W hb =>
    (KParse_any (keepT L t k D K5 st5) W (by have:=keepT_len (st:=st5) HP.out T2.red HK12.out HT20.out;omega) (HMx.out.keep (bl HBb.out hb HBb.out.size)) (HEr.out.keep (bl HBb.out hb HBb.out.size)) (HT.out.keep (bl HBb.out hb HBb.out.size))).mono fun e w' hp=>hp.back5 HP.out T2.red HS2.out
   obtain ⟨S,hS⟩:∃ S,S = strB (keepT L t k D K5 st5):=⟨_,rfl⟩
   rw [← hS] at HX2 HPr
   clear hS T2
   go_wp2_with fail
   refine Calls.mono (HX2.out wb (Below.refl _ _)) ?_
   rintro e wc ⟨rfl,hb⟩
   have HBc:=Lib.hid hb
   clear hb HX2
   go_wp2_with fail
   refine Calls.mono (HPr.out wc HBc.out) ?_
   rintro e wd ⟨bn,gn,en,Nn,Mn,vn,Cn,rfl,hbn,hNn,htn,hb⟩
   have HBx:=Lib.hid (bl HBc.out hb HBc.out.size)
   have HDd:=Lib.hid (Duo.next HDb.out HBx.out htn (by omega) (Nat.le_trans HBc.out.size hbn))
   have HZd:=Lib.hid (HZb.out.keep HBx.out)
   have HBd:=Lib.hid (bl HBb.out HBx.out HBb.out.size)
   clear hb hbn hNn htn HBc HPr HDb HZb HBb HBx
   obtain ⟨Na,Ma,va,Ca,T1⟩:=HDd.out.fst
   obtain ⟨Nc,Mc,vc,Cc,T2⟩:=HDd.out.snd
   have HO1:Hid (∀ W,Below wd.heap.size wd W→Calls Tryz.prog 19 #[.pointer (some ⟨gt,0,none⟩)] W (RetL W (objX L t k K5 st5) (objC st5))):=fun W hb=>TObj_any (T1.keep hb) HS2.out
   have HO2:Hid (∀ W,Below wd.heap.size wd W→Calls Tryz.prog 19 #[.pointer (some ⟨gn,0,none⟩)] W (RetL W (objX L t k K5 st5) (objC st5))):=fun W hb=>TObj_any (T2.keep hb) HS2.out
   have HR1:Hid (∀ W,Below wd.heap.size wd W→Calls Tryz.prog 21 #[.pointer (some ⟨gt,0,none⟩)] W fun e w'=>∃ v',e = .returned v'∧RwL 99 5 w' W.heap.size v' K5.length K5∧Below W.heap.size W w'):=fun W hb=>TRows_any _ _ _ _ _ _ _ _ _ _ _ _ _ W (T1.keep hb)
   have HR2:Hid (∀ W,Below wd.heap.size wd W→Calls Tryz.prog 21 #[.pointer (some ⟨gn,0,none⟩)] W fun e w'=>∃ v',e = .returned v'∧RwL 99 5 w' W.heap.size v' K5.length K5∧Below W.heap.size W w'):=fun W hb=>TRows_any _ _ _ _ _ _ _ _ _ _ _ _ _ W (T2.keep hb)
   have HS1:Hid (∀ W,Below wd.heap.size wd W→Calls Tryz.prog 22 #[.pointer (some ⟨gt,0,none⟩)] W fun e w'=>e = .returned (.int .i64 (st5:Nat))∧W = w'):=fun W hb=>TStatus_any _ _ _ _ _ _ _ _ _ _ _ _ _ W (T1.keep hb)
   have HSn:Hid (∀ W,Below wd.heap.size wd W→Calls Tryz.prog 22 #[.pointer (some ⟨gn,0,none⟩)] W fun e w'=>e = .returned (.int .i64 (st5:Nat))∧W = w'):=fun W hb=>TStatus_any _ _ _ _ _ _ _ _ _ _ _ _ _ W (T2.keep hb)
   clear T1 T2
   have hst:((st5:Int) != (st5:Int)) = false:=by simp
   have hcc:(objC st5 != objC st5) = false:=by simp
   obtain ⟨CX,hCX⟩:∃ c,c = objC st5:=⟨_,rfl⟩
   obtain ⟨OX,hOX⟩:∃ c,c = objX L t k K5 st5:=⟨_,rfl⟩
   rw [← hCX,← hOX] at HO1 HO2
   rw [← hCX] at hcc
   clear hCX hOX
   go_wp2_with fail
   refine Calls.mono (HO1.out wd (Below.refl _ _)) ?_
   rintro e we ⟨qa,ma,da,rfl,sa,hb⟩
   have HBe:=Lib.hid hb
   have SA:=Lib.hid sa
   clear hb sa HO1
   go_wp2_with fail
   refine Calls.mono (HO2.out we HBe.out) ?_
   rintro e wf ⟨qb,mb,db,rfl,sb,hb⟩
   have HBf:=Lib.hid (bl HBe.out hb HBe.out.size)
   have SAb:=Lib.hid (SA.out.keep hb)
   have SB:=Lib.hid sb
   clear hb sb SA HBe HO2
   go_wp2_with fail
   refine Calls.mono (HR1.out wf HBf.out) ?_
   rintro e wg ⟨vr1,rfl,hr1,hb⟩
   obtain ⟨qr1,cr1,rfl⟩:=hr1.shape
   have HBg:=Lib.hid (bl HBf.out hb HBf.out.size)
   have SAg:=Lib.hid (SAb.out.keep hb)
   have SBg:=Lib.hid (SB.out.keep hb)
   have RG:=Lib.hid hr1.rwS
   clear hb hr1 SAb SB HBf HR1
   go_wp2_with fail
   refine Calls.mono (HR2.out wg HBg.out) ?_
   rintro e wh ⟨vr2,rfl,hr2,hb⟩
   obtain ⟨qr2,cr2,rfl⟩:=hr2.shape
   have HBh:=Lib.hid (bl HBg.out hb HBg.out.size)
   have SAh:=Lib.hid (SAg.out.keep hb)
   have SBh:=Lib.hid (SBg.out.keep hb)
   have RGh:=Lib.hid (RG.out.keep hb)
   have RH:=Lib.hid hr2.rwS
   clear hb hr2 SAg SBg HBg RG HR2
   go_wp2_with fail
   refine Calls.mono (sameRows_same qr1 qr2 K5.length cr1 cr2 K5 wh RGh.out RH.out) ?_
   rintro e wj ⟨rfl,hb⟩
   have HBj:=Lib.hid (bl HBh.out hb HBh.out.size)
   have SAj:=Lib.hid (SAh.out.keep hb)
   have SBj:=Lib.hid (SBh.out.keep hb)
   clear hb SAh SBh HBh RGh RH
   go_wp2_with fail
   refine Calls.mono (HS1.out wj HBj.out) ?_
   rintro e wk ⟨rfl,rfl⟩
   go_wp2_with fail
   refine Calls.mono (HSn.out wj HBj.out) ?_
   rintro e wk ⟨rfl,rfl⟩
   go_wp2_with fail
   refine Calls.mono (Same_eq qa qb ma mb da db OX wj SAj.out SBj.out) ?_
   rintro e wk ⟨rfl,hb⟩
   have HBk:=Lib.hid (bl HBj.out hb HBj.out.size)
   have HDk:=Lib.hid (HDd.out.keep HBk.out)
   have HZk:=Lib.hid (HZd.out.keep HBk.out)
   have HBw:=Lib.hid (bl HBd.out HBk.out HBd.out.size)
   clear hb SAj SBj HBj HBk HDd HZd HBd HS1 HSn hst hcc
   go_wp2
   go_roundw
   case rel=>exact ⟨i + 1,bn,gn,en,K5,st5,HLT.out,by go_num,rfl,HDk.out.more (by omega),HS2.out,HZk.out,HBw.out⟩
   case measure=>simp [intOf];have:=HLT.out;omega
  ·have hge:¬ (i:Int) < (m:Int):=by omega
   clear hlt
   go_wp2
   go_ret
   exact ⟨rfl,HB.out⟩
end Go.Proofs.YtccaiiigdfieoaaGreatDoor
namespace Go.Proofs.YtccaiiigdfieoaaGreatDoor
open Go.RowKit Go.By
theorem tab10_of {d32 d64 : DataW Unit} {rest : List (String × DataW Unit)} {W : World} (h : laidMet Tryz.prog (("math/bits.deBruijn32tab", d32) :: ("math/bits.deBruijn64tab", d64) :: ("internal/strconv.uint64pow10", Rows.laid_internal_strconv_uint64pow10) :: rest) W) : Tab10 W := by
 have hz:(Rows.laid_internal_strconv_uint64pow10:DataW Unit) = Lib.tabData .u64 Lib.pow10Tab:=rfl
 have h2:=laidMet.tail (laidMet.tail h)
 rw [hz] at h2
 exact Lib.tabIs_of_head (g:=2) (t:=323) (e:=81) (n:=20) (by kernel_rfl) (by kernel_rfl) (by kernel_rfl) (by kernel_rfl) (by kernel_rfl) (by kernel_rfl) h2
end Go.Proofs.YtccaiiigdfieoaaGreatDoor
namespace Go.By
open Go.RowKit
theorem handed_shaped_and {H:Type} {enc:TypeId × Value→H} {a:Assume} {C:Checked} {os:Os} {f:FuncId} {fn:Func} {s:ChangeSpec} {conds:List PathCond} {apart fresh handsOn again:Bool} {X:World→Array Value→Prop}
  (hX:∀ (w w':World) (args:Array Value),w.heap = w'.heap→X w args→X w' args)
  (own:ownKnob C.prog.godebug = none) (started:os.Started) (noInit:C.prog.inits.idxOf? f = none) (hfn:C.prog.funcs[f]? = some fn)
  (witness:∃ (w:World) (tape:Tape) (i:Input),w.os = os∧(w.forCall tape i).Shaped C.prog∧i.vars = []∧Input.okWide C.prog (w.forCall tape i) .any w.heap.size f i ∧
   ((s.pre enc C.prog fn conds apart (w.forCall tape i).memory i.args∧X (w.forCall tape i).memory i.args)∧sizedMet enc C.prog fn (OpenSpec.ofChange s) apart (w.forCall tape i).memory i.args)∧a.holds C.prog (lone (Frame.enter C.prog f i.args .normal) [] (w.forCall tape i)))
  (contract:∀ (W:World) (base:Nat) (args:Array Value) (ds gs:List (DataW H)) (before:List MemPlace),
   (∀ (j:Nat) t v,fn.params[j]? = some t→args[j]? = some v→Value.okWide C.prog W .any base t v) →
   DataW.Whole enc C.prog fn.params.toList s.vars apart W args.toList ds gs before →
   conds.all (PathCond.test C.prog ⟨fn.params.toList,ds,s.plain.varTypes C.prog,gs⟩) = true →
   (DataW.weightsEach C.prog (fn.params.toList ++ s.plain.varTypes C.prog) (ds ++ gs)).all (·≤reachBytes) = true→X W args→W.ShapedOpen C.prog →
   a.holds C.prog (lone (Frame.enter C.prog f args .normal) [] W) →
   Calls C.prog f args W fun e W'=>∃ v,e = .returned v∧s.post enc C.prog fn apart fresh handsOn again W args v W') :
  ReturnsInHanded a C os f .any (fun w args=>(s.pre enc C.prog fn conds apart w args∧X w args)∧sizedMet enc C.prog fn (OpenSpec.ofChange s) apart w args) (s.post enc C.prog fn apart fresh handsOn again) :=
 returnsInHanded_of_calls own started noInit witness (fun w tape i _ shape _ ok before holds=>by
  have value:=ok.2.2.2
  obtain ⟨fn2,h2,_,_,_,_,value⟩:=value
  cases hfn.symm.trans h2
  obtain ⟨⟨⟨ds,gs,places,whole,conds⟩,x⟩,sized⟩:=before
  exact (contract _ w.heap.size i.args ds gs places value (DataW.Whole.of_heap (w:=(w.forCall tape i).memory) (w':=w.forCall tape i) rfl whole) conds (sized.weights whole) (hX (w.forCall tape i).memory (w.forCall tape i) _ rfl x) shape holds).mono (fun e W' h=>by
   obtain ⟨v,e1,post⟩:=h
   cases e1
   exact ChangeSpec.post_blind post))
end Go.By
namespace Go.Proofs.YtccaiiigdfieoaaGreatDoor
open Go.RowKit Go.By
theorem maxI_of {W:World} (h:W.ShapedOpen Tryz.prog):MaxI W :=
 Go.Proofs.cell_of_shapedOpen_int (zero:=#[.int .i64 0]) (t:=3) h (of_decide_eq_true (by kernel_rfl)) (by kernel_rfl) rfl (by kernel_rfl) (by kernel_rfl) Tryz.underlying3
theorem row_errS (u : TypeId) (h : Tryz.prog.typeName? 3 u = some "*errors.errorString") : u = 350 :=
 typeName_ptr_named (nm := "errors.errorString") (by rw [show "*" ++ "errors.errorString" = "*errors.errorString" by decide]; kernel_rfl) (by kernel_rfl) (by decide) u (by rw [show "*" ++ "errors.errorString" = "*errors.errorString" by decide]; exact h)
theorem errI_of {a b c d : String × DataW Unit} {rest : List (String × DataW Unit)} {W : World} (h : laidMet Tryz.prog (a :: b :: c :: d :: ("strconv.ErrRange", Rows.laid_strconv_ErrRange) :: rest) W) : ErrI W := by
 have h2:=laidMet.tail (laidMet.tail (laidMet.tail (laidMet.tail h)))
 obtain ⟨p,s,hv,_⟩:=laid_sentinel (g:=6) (ti:=137) (tp:=350) (te:=352) (ts:=9) h2 (by kernel_rfl) (by kernel_rfl) Tryz.underlying137 row_errS Tryz.underlying350 Tryz.underlying352 rfl rfl Tryz.underlying9 (by kernel_rfl) (by kernel_rfl)
 exact ⟨_,World.var?_cell (by kernel_rfl) hv 0,.inr ⟨_,_,rfl⟩⟩
end Go.Proofs.YtccaiiigdfieoaaGreatDoor
namespace Go.Proofs.YtccaiiigdfieoaaGreatDoor
open Go.RowKit Go.By
theorem halves_of {rest : List (String × DataW Unit)} {W : World} (h : laidMet Tryz.prog (("wellspring/sum.halves", Rows.laid_wellspring_sum_halves) :: rest) W) : HalfT W := by
 obtain ⟨zs,hz,hzl,hzc⟩:∃ zs:List Int,(Rows.laid_wellspring_sum_halves:DataW Unit) = Lib.tabData .u32 zs∧zs.length = 16∧∀ i,i < 16→zs.getD i 0 = ((crcTab.getD i 0:Nat):Int):=⟨[0,498536548,997073096,651767980,1994146192,1802195444,1303535960,1342533948,3988292384,4027552580,3604390888,3412177804,2607071920,2262029012,2685067896,3183342108],rfl,rfl,by decide⟩
 rw [hz] at h
 have h3:=Lib.tabIs_of_head (g:=0) (t:=304) (e:=23) (n:=16) (by kernel_rfl) (by kernel_rfl) (by kernel_rfl) (by kernel_rfl) (by kernel_rfl) (by kernel_rfl) h
 intro i hi
 have:=h3.cell (g:=0) (by kernel_rfl) i (by omega)
 rw [hzc i hi] at this
 exact this
end Go.Proofs.YtccaiiigdfieoaaGreatDoor
namespace Go.Proofs.YtccaiiigdfieoaaGreatDoor
open Go.RowKit Go.By
theorem prs_of {d32 d64 : DataW Unit} {d : String × DataW Unit} {rest : List (String × DataW Unit)} {W : World} (h : laidMet Tryz.prog (("math/bits.deBruijn32tab", d32) :: ("math/bits.deBruijn64tab", d64) :: ("internal/strconv.uint64pow10", Rows.laid_internal_strconv_uint64pow10) :: d :: ("wellspring/sum.halves", Rows.laid_wellspring_sum_halves) :: ("strconv.ErrRange", Rows.laid_strconv_ErrRange) :: rest) W) : Tab10 W ∧ HalfT W ∧ ErrI W := ⟨tab10_of h, halves_of (laidMet.tail (laidMet.tail (laidMet.tail (laidMet.tail h)))), errI_of (laidMet.tail h)⟩
end Go.Proofs.YtccaiiigdfieoaaGreatDoor
namespace Go.Proofs.YtccaiiigdfieoaaGreatDoor
open Go.RowKit Go.By Gf Go.Maps
set_option maxRecDepth 100000 in
set_option maxHeartbeats 4000000 in
theorem TopKept_out (q0:Option Addr) (n0 c0:Nat) (o:List UInt8) (q1:Option Addr) (n1 c1:Nat) (o2:List UInt8) (s d:Int) (p1:Option Addr) (m1 d1:Nat) (srcs:List SrcD) (p2:Option Addr) (m2 d2:Nat) (srcs2:List SrcD) (w:World) (h0:Sl B8 w q0 n0 c0 o) (h0':Sl B8 w q1 n1 c1 o2) (h1:SlS w p1 m1 d1 srcs) (h2:SlS w p2 m2 d2 srcs2) (hT:HalfT w)
  (hx:¬ (fitS n0 s = 0∧small19 n0 s (needS n0 s) = true∧fewT srcs = true∧fewT srcs2 = true∧n1 = n0)) :
  Calls Tryz.prog 3 #[.slice q0 n0 c0,.slice q1 n1 c1,.int .i64 s,.int .u32 d,.slice p1 m1 d1,.slice p2 m2 d2] w fun e w'=>e = .returned (.bool true)∧Below w.heap.size w w':=by
 have hn0:=h0.bound
 have hn1:=h0'.bound
 have HT:=Lib.hid hT
 by_cases hf:fitS n0 s = 0
 ·have hof:ofS (n0:Int) s d = .tuple #[.agg #[.int .i64 n0,.int .i64 s,.int .i64 (needS n0 s),.int .u32 d],.int .i64 0]:=by unfold ofS;rw [if_pos hf]
  have HSm:=Lib.hid (fun w=>TSmall_ok q0 n0 c0 s (needS n0 s) d w hn0 hof)
  have HFw:Hid (∀ W,Below w.heap.size w W→Calls Tryz.prog 13 #[.slice p1 m1 d1] W fun e w'=>e = .returned (.bool (fewT srcs))∧Below W.heap.size W w'):=fun W hb=>TFew_any p1 m1 d1 srcs W (h1.keep hb)
  have HFw2:Hid (∀ W,Below w.heap.size w W→Calls Tryz.prog 13 #[.slice p2 m2 d2] W fun e w'=>e = .returned (.bool (fewT srcs2))∧Below W.heap.size W w'):=fun W hb=>TFew_any p2 m2 d2 srcs2 W (h2.keep hb)
  clear hT h0 h0' h1 h2 hof
  generalize small19 n0 s (needS n0 s) = S at *
  generalize fewT srcs = F at *
  generalize fewT srcs2 = G at *
  generalize needS n0 s = k at *
  cases S with
  | false =>
   clear hx hf HFw HFw2
   go_enter Tryz.func3,Tryz.ntmps3
   go_wp2_with fail
   refine Calls.mono (awakeT _ HT.out) ?_
   rintro e wa ⟨rfl,hb⟩
   have HBa:=Lib.hid hb
   clear hb
   go_wp2_with fail
   refine Calls.mono (HSm.out _) ?_
   rintro e wb ⟨rfl,hb⟩
   have HBb:=Lib.hid (bl HBa.out hb HBa.out.size)
   clear hb HBa
   go_wp2
   go_ret
   exact ⟨rfl,al HBb.out HBb.out.size⟩
  | true =>
   cases F with
   | false =>
    clear hx hf HFw2
    go_enter Tryz.func3,Tryz.ntmps3
    go_wp2_with fail
    refine Calls.mono (awakeT _ HT.out) ?_
    rintro e wa ⟨rfl,hb⟩
    have HBa:=Lib.hid hb
    clear hb
    go_wp2_with fail
    refine Calls.mono (HSm.out _) ?_
    rintro e wb ⟨rfl,hb⟩
    have HBb:=Lib.hid (bl HBa.out hb HBa.out.size)
    clear hb HBa
    go_wp2_with fail
    refine Calls.mono (HFw.out _ (al HBb.out HBb.out.size)) ?_
    rintro e wc ⟨rfl,hb⟩
    have HBc:=Lib.hid (bl (al HBb.out HBb.out.size) hb (al HBb.out HBb.out.size).size)
    clear hb HBb
    go_wp2
    go_ret
    exact ⟨rfl,HBc.out⟩
   | true =>
    cases G with
    | false =>
     clear hx hf
     go_enter Tryz.func3,Tryz.ntmps3
     go_wp2_with fail
     refine Calls.mono (awakeT _ HT.out) ?_
     rintro e wa ⟨rfl,hb⟩
     have HBa:=Lib.hid hb
     clear hb
     go_wp2_with fail
     refine Calls.mono (HSm.out _) ?_
     rintro e wb ⟨rfl,hb⟩
     have HBb:=Lib.hid (bl HBa.out hb HBa.out.size)
     clear hb HBa
     go_wp2_with fail
     refine Calls.mono (HFw.out _ (al HBb.out HBb.out.size)) ?_
     rintro e wc ⟨rfl,hb⟩
     have HBc:=Lib.hid (bl (al HBb.out HBb.out.size) hb (al HBb.out HBb.out.size).size)
     clear hb HBb
     go_wp2_with fail
     refine Calls.mono (HFw2.out _ HBc.out) ?_
     rintro e wd ⟨rfl,hb⟩
     have HBd:=Lib.hid (bl HBc.out hb HBc.out.size)
     clear hb HBc
     go_wp2
     go_ret
     exact ⟨rfl,HBd.out⟩
    | true =>
     have hne:((n1:Int) != (n0:Int)) = true:=bne_iff_ne.2 (fun e=>hx ⟨hf,rfl,rfl,rfl,by omega⟩)
     clear hx hf
     go_enter Tryz.func3,Tryz.ntmps3
     go_wp2_with fail
     refine Calls.mono (awakeT _ HT.out) ?_
     rintro e wa ⟨rfl,hb⟩
     have HBa:=Lib.hid hb
     clear hb
     go_wp2_with fail
     refine Calls.mono (HSm.out _) ?_
     rintro e wb ⟨rfl,hb⟩
     have HBb:=Lib.hid (bl HBa.out hb HBa.out.size)
     clear hb HBa
     go_wp2_with fail
     refine Calls.mono (HFw.out _ (al HBb.out HBb.out.size)) ?_
     rintro e wc ⟨rfl,hb⟩
     have HBc:=Lib.hid (bl (al HBb.out HBb.out.size) hb (al HBb.out HBb.out.size).size)
     clear hb HBb
     go_wp2_with fail
     refine Calls.mono (HFw2.out _ HBc.out) ?_
     rintro e wd ⟨rfl,hb⟩
     have HBd:=Lib.hid (bl HBc.out hb HBc.out.size)
     clear hb HBc
     go_wp2
     go_ret
     exact ⟨rfl,HBd.out⟩
 ·have HSm:=Lib.hid (fun w=>TSmall_bad q0 n0 c0 s d w hn0 hf)
  clear hx hf hT h0 h0' h1 h2
  go_enter Tryz.func3,Tryz.ntmps3
  go_wp2_with fail
  refine Calls.mono (awakeT _ HT.out) ?_
  rintro e wa ⟨rfl,hb⟩
  have HBa:=Lib.hid hb
  clear hb
  go_wp2_with fail
  refine Calls.mono (HSm.out _) ?_
  rintro e wb ⟨rfl,hb⟩
  have HBb:=Lib.hid (bl HBa.out hb HBa.out.size)
  clear hb HBa
  go_wp2
  go_ret
  exact ⟨rfl,al HBb.out HBb.out.size⟩
theorem TopKept_any (q0:Option Addr) (n0 c0:Nat) (o:List UInt8) (q1:Option Addr) (n1 c1:Nat) (o2:List UInt8) (s d:Int) (p1:Option Addr) (m1 d1:Nat) (srcs:List SrcD) (p2:Option Addr) (m2 d2:Nat) (srcs2:List SrcD) (w:World) (h0:Sl B8 w q0 n0 c0 o) (h0':Sl B8 w q1 n1 c1 o2) (_w1:(Lit.int .i64 s).wf = true) (w2:(Lit.int .u32 d).wf = true) (h1:SlS w p1 m1 d1 srcs) (h2:SlS w p2 m2 d2 srcs2) (hK:Tab10 w∧HalfT w∧ErrI w) (hM:MaxI w) :
  Calls Tryz.prog 3 #[.slice q0 n0 c0,.slice q1 n1 c1,.int .i64 s,.int .u32 d,.slice p1 m1 d1,.slice p2 m2 d2] w fun e w'=>e = .returned (.bool true)∧Below w.heap.size w w':=by
 have hd:=Go.bounds_u32 w2
 obtain ⟨hX,hT,hE⟩:=hK
 by_cases hx:fitS n0 s = 0∧small19 n0 s (needS n0 s) = true∧fewT srcs = true∧fewT srcs2 = true∧n1 = n0
 ·obtain ⟨hf,hsm,hfw,hfw2,rfl⟩:=hx
  obtain ⟨t,k,D,rfl,rfl,hO,hof⟩:=of_obj (n:=n1) hf (by have:=h0.bound;omega) hd.1 (by omega)
  have hk:needS (n1:Int) (t:Int) = (k:Int):=by
   have:=hO.ok.chk
   unfold checkS at this
   rw [if_pos hf] at this
   by_cases h:(k:Int) = needS n1 t
   ·exact h.symm
   ·rw [if_neg h] at this;cases this
  rw [hk] at hsm
  have hk12:k≤12∧t≤20:=by
   have h:=hsm
   unfold small19 at h
   rw [if_pos hO.ok.chk,Bool.and_eq_true] at h
   have h1:=of_decide_eq_true h.1
   have h2:=of_decide_eq_true h.2
   omega
  have few:∀ {p:Option Addr} {m c:Nat} {l:List SrcD},SlS w p m c l→fewT l = true→m≤20∧(∀ a,a ∈ l→a.xs.length≤1000000)∧∀ a,a ∈ l→a.s < 18446744073709551616:=fun {p m c l} h hff=>by
   unfold fewT at hff
   rw [Bool.and_eq_true] at hff
   obtain ⟨f1,f3⟩:=hff
   refine ⟨by have:=of_decide_eq_true f3;rw [h.len] at this;exact this,fun a ha=>by have:=of_decide_eq_true (List.all_eq_true.1 f1 a ha);omega,fun a ha=>?_⟩
   obtain ⟨j,hj,e⟩:=List.getElem_of_mem ha
   obtain ⟨_,_,_,_,_,_,_,_,_,_,h⟩:=h.rs j a (by rw [List.getElem?_eq_getElem hj,e])
   exact h
  obtain ⟨a1,a2,a3⟩:=few h1 hfw
  obtain ⟨b1,b2,b3⟩:=few h2 hfw2
  exact TopKept_core n1 t k D q0 c0 o q1 c1 o2 p1 m1 d1 srcs p2 m2 d2 srcs2 w hO h0 h0' h1 h2 hT hX hE hM hk12.1 hk12.2 a1 b1 a2 a3 b2 b3 hof hfw hfw2 hsm
 ·exact TopKept_out q0 n0 c0 o q1 n1 c1 o2 s d p1 m1 d1 srcs p2 m2 d2 srcs2 w h0 h0' h1 h2 hT hx
end Go.Proofs.YtccaiiigdfieoaaGreatDoor
namespace Go.By
open Go.RowKit
end Go.By
