/- The document's packets as read (chapters 14,15). A row of headers that read in an older world; vectors of rows. Where equations first clash. The reference's Vectors. The reference's Wide. The reference's Judge. Chapter 19,plain: the equations that the document keeps,and a taker's rows; how they lie in memory. Chapter 19: the document's Take. Chapter 24: keep.Export. Chapter 24: no taker. Chapter 24,the law: awake. Chapter 19: TakerNone. Chapter 25: equal gaps; no taker; the law's awake. Chapter 25: views compared. The document's packets as written (of what fits,told by bytes): chapters 13,14,15. Chapter 15,the reference: Write: the bytes lie in new memory. A region that draws its order,op by op: one invariant of all slots and of the world,told by which operations have run. Chapter 24,the reference: Export. Chapter 18: how often a gate was asked: Seen. A row of one's own of which every cell,the spare ones too,is told: appends leave other slices' cells alone. Chapter 19: what TakerTakes leans on: Seen of any gate; equal lists of bools; the object of one that is done. Chapter 19: TakerTakes,of a plan that may be. Chapter 24: KeepExports,of a plan that may be. Plain: a taker's rows,told as packets and heard again,are the same rows,and the status. -/
import Derived.Test.YtccaiiigdfieoaaGreatDoorZl10
import Derived.Deep.DeepCutAuto
import Derived.Deep.QuietTactic
import Derived.BigQuiet
import Derived.Laws.StructEq
import Derived.ChangeKeysEq
namespace Go.By
open Go.RowKit
theorem sum_bytes {xs:List UInt8} {E C:Nat} (hl:E + 4≤xs.length) (hC:C < 4294967296):(∀ j,j < 4→xs[E + j]? = (put4 C)[j]?)↔get4 ((xs.drop E).take 4) = C:=by
 have h4:((xs.drop E).take 4).length = 4:=by rw [List.length_take,List.length_drop];omega
 constructor
 ·intro h
  have e:(xs.drop E).take 4 = put4 C:=by
   apply List.ext_getElem?
   intro j
   by_cases hj:j < 4
   ·rw [List.getElem?_take,if_pos hj,List.getElem?_drop,h j hj]
   ·rw [List.getElem?_eq_none (by omega),List.getElem?_eq_none (by rw [put4_len];omega)]
  rw [e,get4_put4 hC]
 ·intro h j hj
  rw [← h,put4_get4 h4,List.getElem?_take,if_pos hj,List.getElem?_drop]
end Go.By
namespace Go.Proofs.YtccaiiigdfieoaaGreatDoor
open Go.RowKit Go.By
def VecQ (m:UInt8) (B:Nat) (w':World) (v:Value) (p:Option Addr) (j c:Nat) (ys:List UInt8):Prop:=(m = 0∧v = .slice p j c)∨(m≠0∧∃ q n c',v = .slice q n c'∧Fresh 5 B w' q n c' ys)
theorem RVector14_any (m:UInt8) (k:Nat) (hm:modeC m = 0) (h1:1≤k) (h2:k≤4096) (p:Option Addr) (j c s:Nat) (xs:List UInt8) (w:World) (hj:m = 0→j = k) :
  Calls Tryz.prog 146 #[B8 m,.slice p j c,.int .u64 (s:Nat),.int .i64 (k:Nat)] w fun e w'=>∃ v,e = .returned (.tuple #[v,.int .i64 0])∧VecQ m w.heap.size w' v p j c (vecS m xs s k)∧Below w.heap.size w w':=by
 have HW:=Lib.hid (fun w=>RWidth14_any m k hm h1 h2 w)
 have hm2:m = 0∨m = 1:=by
  unfold modeC at hm
  by_cases h:m = 0∨m = 1
  ·exact h
  ·rw [if_neg h] at hm;cases hm
 rcases hm2 with rfl | rfl
 ·obtain rfl:=hj rfl
  have hk:((j:Int) != (j:Int)) = false:=by simp
  clear h1 h2 hj hm
  rw [show B8 0 = .int .u8 0 from rfl] at HW ⊢
  go_enter Tryz.func146,Tryz.ntmps146
  go_wp2_with fail
  refine Calls.mono (HW.out _) ?_
  rintro e w1 ⟨rfl,rfl⟩
  go_wp2
  go_ret2
  exact ⟨_,rfl,.inl ⟨rfl,rfl⟩,Below.refl _ _⟩
 ·have HB:=Lib.hid (fun w=>RBytes5_any s k (by omega) w)
  clear h1 h2 hj hm
  rw [show B8 1 = .int .u8 1 from rfl] at HW ⊢
  go_enter Tryz.func146,Tryz.ntmps146
  go_wp2_with fail
  refine Calls.mono (HW.out _) ?_
  rintro e w1 ⟨rfl,rfl⟩
  go_wp2_with fail
  refine Calls.mono (HB.out _) ?_
  rintro e w2 ⟨s',q,c',rfl,ho,hb⟩
  have HO:=Lib.hid ho
  have HBB:=Lib.hid hb
  clear ho hb
  go_wp2
  go_ret2
  exact ⟨_,rfl,.inr ⟨by decide,q,k,c',rfl,Fresh.of_owns HO.out⟩,HBB.out⟩
set_option maxRecDepth 100000 in
set_option maxHeartbeats 1000000 in
theorem RVector15_any (L t k D O M:Nat) (m:UInt8) (p:Option Addr) (j c s:Nat) (q:Option Addr) (n d:Nat) (xs:List UInt8) (w:World) (hP:POK L t k D) (hm:modeC m = 0) (hj:m = 0→j = k) :
  Calls Tryz.prog 84 #[PVal L t k D,PkVal m O M m p j c s q n d] w fun e w'=>∃ v,e = .returned v∧VecQ m w.heap.size w' v p j c (vecS m xs s k)∧Below w.heap.size w w':=by
 have HV:=Lib.hid (fun W=>RVector14_any m k hm hP.k1 hP.k2 p j c s xs W hj)
 clear hP hm hj
 go_enter Tryz.func84,Tryz.ntmps84
 go_wp2_with fail
 have ba:Below w.heap.size w ((w.alloc (.cells #[.int .i64 (L:Nat),.int .i64 (t:Nat),.int .i64 (k:Nat),.int .u32 (D:Nat)] 52)).alloc (.cells #[B8 m,.int .u32 (O:Nat),.int .u32 (M:Nat),B8 m,.slice p j c,.int .u64 (s:Nat),.slice q n d] 153)):=al (al (Below.refl _ _) (Nat.le_refl _)) (by simp)
 refine Calls.mono (HV.out _) ?_
 rintro e w1 ⟨v1,rfl,h,hb⟩
 have HS:Hid (VecQ m w.heap.size w1 v1 p j c (vecS m xs s k)):=by
  rcases h with h | ⟨h,q1,n1,c1,e1,g⟩
  ·exact .inl h
  ·exact .inr ⟨h,q1,n1,c1,e1,g.mono ba.size⟩
 have HB:=Lib.hid (bl ba hb ba.size)
 clear h hb ba
 go_wp2
 go_ret
 exact ⟨v1,rfl,HS.out,HB.out⟩
theorem info_packet15:(Tryz.prog.info? 153).map (·.size) = some 7:=by kernel_rfl
def RdRet (k t D:Nat) (p:Option Addr) (n c:Nat) (xs:List UInt8) (w:World) (e:Ending) (w':World):Prop :=
 Below w.heap.size w w'∧((readC k t D xs = 0∧∃ q j c1 q2 d2,e = .returned (.tuple #[PkVal (pktM xs) D (pktN xs) (pktM xs) q j c1 (pktS k xs) q2 t d2,.int .i64 0])∧(∀ W,Sl B8 W p n c xs→Sl B8 W q j c1 (pktX k xs))∧(pktM xs = 0→j = k)∧∀ W,Sl B8 W p n c xs→Sl B8 W q2 t d2 (pktY k t xs)) ∨
  (readC k t D xs≠0∧e = .returned (.tuple #[PkVal 0 0 0 0 none 0 0 0 none 0 0,.int .i64 (readC k t D xs)])))
set_option maxRecDepth 100000 in
set_option maxHeartbeats 2000000 in
theorem RRead15_head (L t k D:Nat) (p:Option Addr) (n c:Nat) (xs:List UInt8) (w:World) (hP:POK L t k D) (h:Sl B8 w p n c xs) (hc:headC xs≠0) :
  Calls Tryz.prog 83 #[PVal L t k D,.slice p n c] w (PZero w (headC xs)):=by
 have HK:Hid (∀ w,Calls Tryz.prog 90 #[PVal L t k D] w fun e w'=>e = .returned (.int .i64 0)∧Below w.heap.size w w'):=fun w=>by
  have:=RCheck_any (L:Int) (t:Int) (k:Int) (D:Int) w hP.l
  rw [hP.chk] at this;exact this
 have HR:Hid (∀ w,Sl B8 w p n c xs→Calls Tryz.prog 140 #[.slice p n c] w (RHd13z w (headC xs))):=fun w h=>Calls.mono (RHead13_any p n c xs w h) fun e w' g=>by
  rcases g with ⟨g,-⟩ | ⟨-,g⟩
  ·exact absurd g hc
  ·exact g
 have H:=Lib.hid h
 have e0:(headC xs != 0) = true:=bne_iff_ne.2 hc
 generalize headC xs = C at *
 clear hP h hc
 go_enter Tryz.func83,Tryz.ntmps83
 go_wp2_with fail
 refine Calls.mono (HK.out _) ?_
 rintro e w1 ⟨rfl,hb⟩
 obtain ⟨hb1,h1,h2,hs⟩:=two_of hb
 have HB:=Lib.hid hb1
 clear hb hb1
 go_wp2_with fail
 refine Calls.mono (HR.out _ (H.out.keep HB.out)) ?_
 rintro e w2 ⟨rfl,hb⟩
 have h1':=(hb.block _ (by omega)).trans h1
 have h2':=(hb.block _ (by omega)).trans h2
 have HB2:=Lib.hid (bl HB.out hb HB.out.size)
 clear hb h1 h2 hs
 go_wp2_with (refine wpList_store_row (o:=⟨none,.store 153 (.tmp 4) (.tmp 31),_,_,_,_⟩) rfl 153 (.tmp 4) (.tmp 31) rfl (w.heap.size + 1) #[.int .u8 0,.int .u32 0,.int .u32 0,.int .u8 0,.slice none 0 0,.int .u64 0,.slice none 0 0] rfl rfl _ _ (hal h2') info_packet15 rfl (by simp [Value.oneCell']) ?_)
 refine bodyPost_ret (res_ct rfl _ _ _ 153 #[.int .u8 0,.int .u32 0,.int .u32 0,.int .u8 0,.slice none 0 0,.int .u64 0,.slice none 0 0] (0,0) _ (.int .i64 C) rfl (hrs (hal h2')) rfl Tryz.underlying153 rfl info_packet15) rfl ?_
 exact ⟨rfl,below_row (al HB2.out HB2.out.size) (by omega)⟩
structure Rd15 (w W:World) (gp gr gh gs L t k D:Nat) (m:UInt8) (O M C:Nat):Prop where
 bel:Below w.heap.size w W
 p:W.heap[gp]? = some (.cells #[.int .i64 (L:Nat),.int .i64 (t:Nat),.int .i64 (k:Nat),.int .u32 (D:Nat)] 52 (0,0))
 r:W.heap[gr]? = some (.cells #[.int .u8 0,.int .u32 0,.int .u32 0,.int .u8 0,.slice none 0 0,.int .u64 0,.slice none 0 0] 153 (0,0))
 h:W.heap[gh]? = some (.cells #[B8 m,.int .u32 (O:Nat),.int .u32 (M:Nat)] 151 (0,0))
 s:W.heap[gs]? = some (.cells ((put4 C).map B8).toArray 5 (0,0))
 rb:w.heap.size≤gr
theorem Rd15.keep {w W W':World} {gp gr gh gs L t k D O M C:Nat} {m:UInt8} (h:Rd15 w W gp gr gh gs L t k D m O M C) (hb:Below W.heap.size W W'):Rd15 w W' gp gr gh gs L t k D m O M C :=
 ⟨bl h.bel hb h.bel.size,(hb.block _ (lt_of_block h.p)).trans h.p,(hb.block _ (lt_of_block h.r)).trans h.r,(hb.block _ (lt_of_block h.h)).trans h.h,(hb.block _ (lt_of_block h.s)).trans h.s,h.rb⟩
set_option maxRecDepth 100000 in
set_option maxHeartbeats 4000000 in
theorem RRead15_body (L t k D b o n c:Nat) (xs:List UInt8) (w:World) (hP:POK L t k D) (h:Sl B8 w (some ⟨b,o,none⟩) n c xs) (hc:headC xs = 0) (h10:10≤n) :
  Calls Tryz.prog 83 #[PVal L t k D,.slice (some ⟨b,o,none⟩) n c] w (RdRet k t D (some ⟨b,o,none⟩) n c xs w):=by
 have HK:Hid (∀ w,Calls Tryz.prog 90 #[PVal L t k D] w fun e w'=>e = .returned (.int .i64 0)∧Below w.heap.size w w'):=fun w=>by
  have:=RCheck_any (L:Int) (t:Int) (k:Int) (D:Int) w hP.l
  rw [hP.chk] at this;exact this
 have HR:Hid (∀ w,Sl B8 w (some ⟨b,o,none⟩) n c xs→Calls Tryz.prog 140 #[.slice (some ⟨b,o,none⟩) n c] w (RHd13 w b o n c (xs.getD 1 0) (get4 ((xs.drop 2).take 4)) (get4 ((xs.drop 6).take 4)))):=fun w h=>Calls.mono (RHead13_any _ n c xs w h) fun e w' g=>by
  rcases g with ⟨-,b',o',e1,-,g⟩ | ⟨g,-⟩
  ·cases e1;exact g
  ·exact absurd hc g
 have hm:=headC_mode hc
 have HN:=Lib.hid (fun w=>RLength15_ok L t k D (xs.getD 1 0) w hP hm)
 have HWD:=Lib.hid (fun w=>RWidth14_any (xs.getD 1 0) k hm hP.k1 hP.k2 w)
 have H:=Lib.hid h
 have hl:=h.len
 have hle:=h.le
 have hmx:=h.max
 unfold maxLen at hmx
 have hcl:crcS (xs.take (n - 4)) < 4294967296:=crcS_lt _
 -- what the answer is
 have HQ:Hid (∀ e w',(Below w.heap.size w w'∧readC k t D xs≠0∧e = .returned (.tuple #[PkVal 0 0 0 0 none 0 0 0 none 0 0,.int .i64 (readC k t D xs)]))→RdRet k t D (some ⟨b,o,none⟩) n c xs w e w'):=fun e w' g=>⟨g.1,.inr g.2⟩
 have HRC:Hid ((n≠lenP (xs.getD 1 0) k t→readC k t D xs = 4)∧(n = lenP (xs.getD 1 0) k t→get4 ((xs.drop (n - 4)).take 4)≠crcS (xs.take (n - 4))→readC k t D xs = 10)∧(n = lenP (xs.getD 1 0) k t→get4 ((xs.drop (n - 4)).take 4) = crcS (xs.take (n - 4))→get4 ((xs.drop 2).take 4)≠D→readC k t D xs = 9)∧(n = lenP (xs.getD 1 0) k t→get4 ((xs.drop (n - 4)).take 4) = crcS (xs.take (n - 4))→get4 ((xs.drop 2).take 4) = D→readC k t D xs = 0)):=by
  unfold readC
  rw [hl,if_neg (Classical.not_not.2 hc)]
  refine ⟨fun g=>if_pos g,fun g g2=>?_,fun g g2 g3=>?_,fun g g2 g3=>?_⟩
  ·rw [if_neg (Classical.not_not.2 g),if_pos g2]
  ·rw [if_neg (Classical.not_not.2 g),if_neg (Classical.not_not.2 g2),if_pos g3]
  ·rw [if_neg (Classical.not_not.2 g),if_neg (Classical.not_not.2 g2),if_neg (Classical.not_not.2 g3)]
 have HPX:Hid (pktM xs = xs.getD 1 0∧pktN xs = get4 ((xs.drop 6).take 4)∧pktX k xs = rdX (xs.getD 1 0) ((xs.drop 10).take (widS (xs.getD 1 0) k))∧pktS k xs = rdS (xs.getD 1 0) ((xs.drop 10).take (widS (xs.getD 1 0) k))∧pktY k t xs = (xs.drop (10 + widS (xs.getD 1 0) k)).take t):=⟨rfl,rfl,rfl,rfl,rfl⟩
 have hm2:xs.getD 1 0 = 0∨xs.getD 1 0 = 1:=by
  unfold modeC at hm
  by_cases h:xs.getD 1 0 = 0∨xs.getD 1 0 = 1
  ·exact h
  ·rw [if_neg h] at hm;cases hm
 have HM2:=Lib.hid hm2
 generalize xs.getD 1 0 = m at *
 generalize get4 ((xs.drop 2).take 4) = O at *
 generalize get4 ((xs.drop 6).take 4) = M at *
 clear hP h hc hm hm2
 go_enter Tryz.func83,Tryz.ntmps83
 go_wp2_with fail
 refine Calls.mono (HK.out _) ?_
 rintro e w1 ⟨rfl,hb⟩
 obtain ⟨hb1,h1,h2,hs⟩:=two_of hb
 have HB:=Lib.hid hb1
 clear hb hb1
 go_wp2_with fail
 refine Calls.mono (HR.out _ (H.out.keep HB.out)) ?_
 rintro e w2 ⟨rfl,hb⟩
 generalize hqr:(if c = 10 then (some ⟨b,o,none⟩:Option Addr) else some ⟨b,o + 10,none⟩) = qr
 have HQR:=Lib.hid hqr
 have h1':=(hb.block _ (by omega)).trans h1
 have h2':=(hb.block _ (by omega)).trans h2
 have HB2:=Lib.hid (bl HB.out hb HB.out.size)
 have HGR:Hid (w.heap.size≤w.heap.size + 1):=Nat.le_succ _
 obtain ⟨gr,hgr⟩:∃ gr,gr = w.heap.size + 1:=⟨_,rfl⟩
 obtain ⟨gp,hgp⟩:∃ gp,gp = w.heap.size:=⟨_,rfl⟩
 rw [← hgr] at h2' HGR ⊢
 rw [← hgp] at h1' ⊢
 clear hb h1 h2 hs hqr HR HK hgr hgp
 have c0:∀ o',(w2.alloc o').cell? ⟨gp,0,none⟩ = _:=fun _=>calloc (cells_four h1').1
 have c1:∀ o',(w2.alloc o').cell? ⟨gp,1,none⟩ = _:=fun _=>calloc (cells_four h1').2.1
 have c2:∀ o',(w2.alloc o').cell? ⟨gp,2,none⟩ = _:=fun _=>calloc (cells_four h1').2.2.1
 have c3:∀ o',(w2.alloc o').cell? ⟨gp,3,none⟩ = _:=fun _=>calloc (cells_four h1').2.2.2
 go_wp2_with fail
 refine Calls.mono (HN.out _) ?_
 rintro e w3 ⟨rfl,hb⟩
 obtain ⟨hb3,h3,hs3⟩:=one_of hb
 have h1:=(hb3.block _ (lt_of_block h1')).trans h1'
 have h2:=(hb3.block _ (lt_of_block h2')).trans h2'
 have HB3:=Lib.hid (bl HB2.out hb3 HB2.out.size)
 clear hb hb3 h1' h2' c0 c1 c2 c3 HB HB2 HN
 generalize w2.heap.size = gh at *
 by_cases hN:n = lenP m k t
 ·have hn4:14≤n:=by rw [hN];unfold lenP;omega
  have HNL:Hid (n = 10 + widS m k + t + 4):=hN
  obtain ⟨E,hE⟩:∃ E,E = n - 4:=⟨_,rfl⟩
  have eE:(n:Int) - 4 = (E:Int):=by omega
  rw [← hE] at hcl HRC
  have HE:Hid (n = E + 4):=by show n = E + 4;omega
  have EW:Hid (IntKind.i64.wrap (E:Int) = (E:Int)):=by show _ = _;rw [IntKind.wrap_i64];omega
  have hnb:n≤9223372036854775807:=by omega
  have r2:=HRC.out.2.1 hN
  have r3:=HRC.out.2.2.1 hN
  have r4:=HRC.out.2.2.2 hN
  have HR2:=Lib.hid r2
  have HR3:=Lib.hid r3
  have HR4:=Lib.hid r4
  have hSum:∀ W,Sl B8 W (some ⟨b,o,none⟩) E c (xs.take E)→Calls Tryz.prog 143 #[.slice (some ⟨b,o,none⟩) E c] W fun e w'=>e = .returned (.int .u32 (crcS (xs.take E):Nat))∧W = w':=fun W h=>RSum4_any _ _ _ _ W h
  have HSum:=Lib.hid hSum
  have SE:=Lib.hid (Sl.front' (k:=E) H.out (by omega))
  generalize crcS (xs.take E) = C at *
  rw [← hN]
  have hx4:E + 4≤xs.length:=by rw [hl];omega
  have HSB:=Lib.hid (sum_bytes hx4 hcl)
  have HPut:=Lib.hid (fun W=>RPut4_any C hcl W)
  have hqr:qr = some ⟨b,o + 10,none⟩:=by rw [← HQR.out,if_neg (by omega)]
  have HH3:=Lib.hid h3
  have HH2:=Lib.hid h2
  have HH1:=Lib.hid h1
  subst hqr
  clear hN r2 r3 r4 HRC hSum hx4 hcl h1 h2 h3 HQR hE
  have ea1:(E:Int)≤(c:Int):=by omega
  have ea2:(E:Int)≤(n:Int):=by omega
  go_wp2_with fail
  refine Calls.mono (HSum.out _ (SE.out.keep HB3.out)) ?_
  rintro e w4 ⟨rfl,rfl⟩
  go_wp2_with fail
  refine Calls.mono (HPut.out _) ?_
  rintro e w5 ⟨gs,rfl,hgs,hp4,hb⟩
  have HD:Hid (Rd15 w w5 gp gr gh gs L t k D m O M C):=⟨bl HB3.out hb HB3.out.size,(hb.block _ (lt_of_block HH1.out)).trans HH1.out,(hb.block _ (lt_of_block HH2.out)).trans HH2.out,(hb.block _ (lt_of_block HH3.out)).trans HH3.out,hp4,HGR.out⟩
  clear hb hgs hp4 HB3 HH1 HH2 HH3 SE HSum HPut ea1 ea2 hs3
  go_wp2
  go_loopw [13] (fun iv wr=>∃ i:Nat,i≤4∧iv = .int .i64 (i:Nat)∧Hid (∀ j,j < i→xs[E + j]? = (put4 C)[j]?)∧Hid (Rd15 w wr gp gr gh gs L t k D m O M C)) (fun iv _=>4 - (intOf iv).toNat)
  case atStart=>exact ⟨0,by omega,rfl,fun j hj=>by omega,HD.out⟩
  case round =>
   obtain ⟨i,hi,rfl,HJ,HR⟩:=hrel
   clear HD
   by_cases hi4:i < 4
   ·have hi4':(i:Int) < 4:=by omega
    obtain ⟨ei,hei⟩:∃ ei,ei = E + i:=⟨_,rfl⟩
    have hein:ei < n:=by have:=HE.out;omega
    obtain ⟨b',o',x,e1,hx,hxe⟩:=(H.out.keep HR.out.bel).at ei hein
    cases e1
    obtain ⟨z,hz⟩:∃ z,(put4 C)[i]? = some z:=⟨_,List.getElem?_eq_getElem (by rw [put4_len];exact hi4)⟩
    have hzc:wr.cell? ⟨gs,i,none⟩ = some (B8 z):=by
     rw [cell_of_row _ _ i _ _ _ HR.out.s,List.getElem?_toArray,List.getElem?_map,hz];rfl
    have eEI:IntKind.i64.wrap ((E:Int) + (i:Int)) = (ei:Int):=by rw [hei,IntKind.wrap_i64];omega
    have hein':(ei:Int) < (n:Int):=by omega
    have HXE:Hid (xs[E + i]? = some x):=by show _ = _;rw [← hei];exact hxe.out
    have HZ:=Lib.hid hz
    have HI4:=Lib.hid hi4
    clear hxe hz hei hi4
    by_cases hxz:x = z
    ·have hd:((x.toNat:Int) != (z.toNat:Int)) = false:=by rw [hxz];simp
     have HJ2:Hid (∀ j,j < i + 1→xs[E + j]? = (put4 C)[j]?):=fun j hj=>by
      by_cases h:j = i
      ·rw [h,HXE.out,HZ.out,hxz]
      ·exact HJ.out j (by omega)
     clear hxz HJ
     go_wp2_with fail
     refine wp_region_shapes (fun ix=>([.val (.slice (some ⟨b,o,none⟩) n c),.val (.int .i64 (n:Nat)),.val (.int .i64 (E:Nat)),.val (.int .i64 (i:Nat)),.val (.int .i64 (ei:Nat)),.val (.pointer (some ⟨b,o + ei,none⟩)),.val (B8 x),.val (.slice (some ⟨gs,0,none⟩) 4 4),.val (.int .i64 (i:Nat)),.val (.pointer (some ⟨gs,i,none⟩)),.val (B8 z),.val (.bool false)][ix]?).getD (.any)) 105 rfl (by kernel_rfl) (by decide +kernel) (by decide +kernel) (by decide +kernel) ?_ ?_
     ·refine ⟨?_,?_,?_,?_,?_,?_,?_,?_,?_,?_,?_,?_,trivial⟩
      ·intro a W hb0 hs hp hi;have hb:=undrew hb0;clear hb0
       have t1:sl a 1 = .slice (some ⟨b,o,none⟩) n c:=hi 1 (by decide)
       exact ite_y rfl (wp_val (sl a 1) rfl ⟨_,rfl,Below.refl _ _,t1⟩)
      ·intro a W hb0 hs hp hi;have hb:=undrew hb0;clear hb0
       have t10:sl a 10 = .int .i64 (n:Nat):=hi 10 (by decide)
       exact ite_y rfl (wp_val (sl a 10) rfl ⟨_,rfl,Below.refl _ _,t10⟩)
      ·intro a W hb0 hs hp hi;have hb:=undrew hb0;clear hb0
       have t56:sl a 56 = .int .i64 (n:Nat):=hp 1 (by decide)
       refine ite_y rfl (wp_val (.int .i64 (E:Nat)) ?_ ?_)
       ·simp only [execOp,eval_tmp,eval_const,t56];simp [go_sem,eE,EW.out]
       ·exact ⟨_,rfl,Below.refl _ _,rfl⟩
      ·intro a W hb0 hs hp hi;have hb:=undrew hb0;clear hb0
       have t13:sl a 13 = .int .i64 (i:Nat):=hi 13 (by decide)
       exact ite_y rfl (wp_val (sl a 13) rfl ⟨_,rfl,Below.refl _ _,t13⟩)
      ·intro a W hb0 hs hp hi;have hb:=undrew hb0;clear hb0
       have t57:sl a 57 = .int .i64 (E:Nat):=hp 2 (by decide)
       have t58:sl a 58 = .int .i64 (i:Nat):=hp 3 (by decide)
       refine ite_y rfl (wp_val (.int .i64 (ei:Nat)) ?_ ?_)
       ·simp only [execOp,eval_tmp,eval_const,t57,t58];simp [go_sem,eEI]
       ·exact ⟨_,rfl,Below.refl _ _,rfl⟩
      ·intro a W hb0 hs hp hi;have hb:=undrew hb0;clear hb0
       have ti0:sl a 55 = .slice (some ⟨b,o,none⟩) n c:=hp 0 (by decide)
       have ti1:sl a 59 = .int .i64 (ei:Nat):=hp 4 (by decide)
       refine ite_y rfl (wp_val (.pointer (some ⟨b,o + ei,none⟩)) ?_ ?_)
       ·simp only [execOp,eval_tmp,eval_const,ti0,ti1];simp [go_sem,hein']
       ·exact ⟨_,rfl,Below.refl _ _,rfl⟩
      ·intro a W hb0 hs hp hi;have hb:=undrew hb0;clear hb0
       have tt:sl a 60 = .pointer (some ⟨b,o + ei,none⟩):=hp 5 (by decide)
       have dd:=(hb.cell (p:=⟨b,o + ei,none⟩) (lt_of_cell hx)).trans hx
       refine ite_y rfl (wp_val (B8 x) ?_ ?_)
       ·simp only [execOp,eval_tmp,tt];simp [go_sem,dd]
       ·exact ⟨_,rfl,Below.refl _ _,rfl⟩
      ·intro a W hb0 hs hp hi;have hb:=undrew hb0;clear hb0
       have t12:sl a 12 = .slice (some ⟨gs,0,none⟩) 4 4:=hi 12 (by decide)
       exact ite_y rfl (wp_val (sl a 12) rfl ⟨_,rfl,Below.refl _ _,t12⟩)
      ·intro a W hb0 hs hp hi;have hb:=undrew hb0;clear hb0
       have t13:sl a 13 = .int .i64 (i:Nat):=hi 13 (by decide)
       exact ite_y rfl (wp_val (sl a 13) rfl ⟨_,rfl,Below.refl _ _,t13⟩)
      ·intro a W hb0 hs hp hi;have hb:=undrew hb0;clear hb0
       have ti0:sl a 62 = .slice (some ⟨gs,0,none⟩) 4 4:=hp 7 (by decide)
       have ti1:sl a 63 = .int .i64 (i:Nat):=hp 8 (by decide)
       refine ite_y rfl (wp_val (.pointer (some ⟨gs,i,none⟩)) ?_ ?_)
       ·simp only [execOp,eval_tmp,eval_const,ti0,ti1];simp [go_sem,hi4']
       ·exact ⟨_,rfl,Below.refl _ _,rfl⟩
      ·intro a W hb0 hs hp hi;have hb:=undrew hb0;clear hb0
       have tt:sl a 64 = .pointer (some ⟨gs,i,none⟩):=hp 9 (by decide)
       have dd:=(hb.cell (p:=⟨gs,i,none⟩) (lt_of_cell hzc)).trans hzc
       refine ite_y rfl (wp_val (B8 z) ?_ ?_)
       ·simp only [execOp,eval_tmp,tt];simp [go_sem,dd]
       ·exact ⟨_,rfl,Below.refl _ _,rfl⟩
      ·intro a W hb0 hs hp hi;have hb:=undrew hb0;clear hb0
       have t61:sl a 61 = B8 x:=hp 6 (by decide)
       have t65:sl a 65 = B8 z:=hp 10 (by decide)
       refine ite_y rfl (wp_val (.bool false) ?_ ?_)
       ·simp only [execOp,eval_tmp,eval_const,t61,t65];simp [go_sem,hd]
       ·exact ⟨_,rfl,Below.refl _ _,rfl⟩
     intro a w6 hb hs hd hI ht
     have ha:=act_is [55,56,57,58,59,60,61,62,63,64,65,66] hs hd ht (by decide)
     have t66:sl a 66 = .bool false:=hI 11 (by decide)
     simp only [List.foldl,t66] at ha
     generalize sl a 55 = u55 at ha
     generalize sl a 56 = u56 at ha
     generalize sl a 57 = u57 at ha
     generalize sl a 58 = u58 at ha
     generalize sl a 59 = u59 at ha
     generalize sl a 60 = u60 at ha
     generalize sl a 61 = u61 at ha
     generalize sl a 62 = u62 at ha
     generalize sl a 63 = u63 at ha
     generalize sl a 64 = u64 at ha
     generalize sl a 65 = u65 at ha
     simp only [Act.put,List.setIfInBounds_toArray,List.set_cons_zero,List.set_cons_succ] at ha
     rw [ha]
     clear ha hI ht
     have HR6:=Lib.hid (HR.out.keep hb)
     clear hb HR hx hzc hd eEI hein'
     go_wp2
     go_roundw
     case rel=>exact ⟨i + 1,by have:=HI4.out;omega,by go_num,HJ2.out,HR6.out⟩
     case measure=>simp [intOf];have:=HI4.out;omega
    ·have hd:((x.toNat:Int) != (z.toNat:Int)) = true:=bne_iff_ne.2 fun e=>hxz (UInt8.toNat_inj.1 (by omega))
     have h10:readC k t D xs = 10:=HR2.out fun e=>hxz (by
      have:=(HSB.out.2 e) i HI4.out
      rw [HXE.out,HZ.out] at this
      exact Option.some.inj this)
     have HR10:=Lib.hid h10
     clear hxz HJ h10
     go_wp2_with fail
     refine wp_region_shapes (fun ix=>([.val (.slice (some ⟨b,o,none⟩) n c),.val (.int .i64 (n:Nat)),.val (.int .i64 (E:Nat)),.val (.int .i64 (i:Nat)),.val (.int .i64 (ei:Nat)),.val (.pointer (some ⟨b,o + ei,none⟩)),.val (B8 x),.val (.slice (some ⟨gs,0,none⟩) 4 4),.val (.int .i64 (i:Nat)),.val (.pointer (some ⟨gs,i,none⟩)),.val (B8 z),.val (.bool true)][ix]?).getD (.any)) 105 rfl (by kernel_rfl) (by decide +kernel) (by decide +kernel) (by decide +kernel) ?_ ?_
     ·refine ⟨?_,?_,?_,?_,?_,?_,?_,?_,?_,?_,?_,?_,trivial⟩
      ·intro a W hb0 hs hp hi;have hb:=undrew hb0;clear hb0
       have t1:sl a 1 = .slice (some ⟨b,o,none⟩) n c:=hi 1 (by decide)
       exact ite_y rfl (wp_val (sl a 1) rfl ⟨_,rfl,Below.refl _ _,t1⟩)
      ·intro a W hb0 hs hp hi;have hb:=undrew hb0;clear hb0
       have t10:sl a 10 = .int .i64 (n:Nat):=hi 10 (by decide)
       exact ite_y rfl (wp_val (sl a 10) rfl ⟨_,rfl,Below.refl _ _,t10⟩)
      ·intro a W hb0 hs hp hi;have hb:=undrew hb0;clear hb0
       have t56:sl a 56 = .int .i64 (n:Nat):=hp 1 (by decide)
       refine ite_y rfl (wp_val (.int .i64 (E:Nat)) ?_ ?_)
       ·simp only [execOp,eval_tmp,eval_const,t56];simp [go_sem,eE,EW.out]
       ·exact ⟨_,rfl,Below.refl _ _,rfl⟩
      ·intro a W hb0 hs hp hi;have hb:=undrew hb0;clear hb0
       have t13:sl a 13 = .int .i64 (i:Nat):=hi 13 (by decide)
       exact ite_y rfl (wp_val (sl a 13) rfl ⟨_,rfl,Below.refl _ _,t13⟩)
      ·intro a W hb0 hs hp hi;have hb:=undrew hb0;clear hb0
       have t57:sl a 57 = .int .i64 (E:Nat):=hp 2 (by decide)
       have t58:sl a 58 = .int .i64 (i:Nat):=hp 3 (by decide)
       refine ite_y rfl (wp_val (.int .i64 (ei:Nat)) ?_ ?_)
       ·simp only [execOp,eval_tmp,eval_const,t57,t58];simp [go_sem,eEI]
       ·exact ⟨_,rfl,Below.refl _ _,rfl⟩
      ·intro a W hb0 hs hp hi;have hb:=undrew hb0;clear hb0
       have ti0:sl a 55 = .slice (some ⟨b,o,none⟩) n c:=hp 0 (by decide)
       have ti1:sl a 59 = .int .i64 (ei:Nat):=hp 4 (by decide)
       refine ite_y rfl (wp_val (.pointer (some ⟨b,o + ei,none⟩)) ?_ ?_)
       ·simp only [execOp,eval_tmp,eval_const,ti0,ti1];simp [go_sem,hein']
       ·exact ⟨_,rfl,Below.refl _ _,rfl⟩
      ·intro a W hb0 hs hp hi;have hb:=undrew hb0;clear hb0
       have tt:sl a 60 = .pointer (some ⟨b,o + ei,none⟩):=hp 5 (by decide)
       have dd:=(hb.cell (p:=⟨b,o + ei,none⟩) (lt_of_cell hx)).trans hx
       refine ite_y rfl (wp_val (B8 x) ?_ ?_)
       ·simp only [execOp,eval_tmp,tt];simp [go_sem,dd]
       ·exact ⟨_,rfl,Below.refl _ _,rfl⟩
      ·intro a W hb0 hs hp hi;have hb:=undrew hb0;clear hb0
       have t12:sl a 12 = .slice (some ⟨gs,0,none⟩) 4 4:=hi 12 (by decide)
       exact ite_y rfl (wp_val (sl a 12) rfl ⟨_,rfl,Below.refl _ _,t12⟩)
      ·intro a W hb0 hs hp hi;have hb:=undrew hb0;clear hb0
       have t13:sl a 13 = .int .i64 (i:Nat):=hi 13 (by decide)
       exact ite_y rfl (wp_val (sl a 13) rfl ⟨_,rfl,Below.refl _ _,t13⟩)
      ·intro a W hb0 hs hp hi;have hb:=undrew hb0;clear hb0
       have ti0:sl a 62 = .slice (some ⟨gs,0,none⟩) 4 4:=hp 7 (by decide)
       have ti1:sl a 63 = .int .i64 (i:Nat):=hp 8 (by decide)
       refine ite_y rfl (wp_val (.pointer (some ⟨gs,i,none⟩)) ?_ ?_)
       ·simp only [execOp,eval_tmp,eval_const,ti0,ti1];simp [go_sem,hi4']
       ·exact ⟨_,rfl,Below.refl _ _,rfl⟩
      ·intro a W hb0 hs hp hi;have hb:=undrew hb0;clear hb0
       have tt:sl a 64 = .pointer (some ⟨gs,i,none⟩):=hp 9 (by decide)
       have dd:=(hb.cell (p:=⟨gs,i,none⟩) (lt_of_cell hzc)).trans hzc
       refine ite_y rfl (wp_val (B8 z) ?_ ?_)
       ·simp only [execOp,eval_tmp,tt];simp [go_sem,dd]
       ·exact ⟨_,rfl,Below.refl _ _,rfl⟩
      ·intro a W hb0 hs hp hi;have hb:=undrew hb0;clear hb0
       have t61:sl a 61 = B8 x:=hp 6 (by decide)
       have t65:sl a 65 = B8 z:=hp 10 (by decide)
       refine ite_y rfl (wp_val (.bool true) ?_ ?_)
       ·simp only [execOp,eval_tmp,eval_const,t61,t65];simp [go_sem,hd]
       ·exact ⟨_,rfl,Below.refl _ _,rfl⟩
     intro a w6 hb hs hd hI ht
     have ha:=act_is [55,56,57,58,59,60,61,62,63,64,65,66] hs hd ht (by decide)
     have t66:sl a 66 = .bool true:=hI 11 (by decide)
     simp only [List.foldl,t66] at ha
     generalize sl a 55 = u55 at ha
     generalize sl a 56 = u56 at ha
     generalize sl a 57 = u57 at ha
     generalize sl a 58 = u58 at ha
     generalize sl a 59 = u59 at ha
     generalize sl a 60 = u60 at ha
     generalize sl a 61 = u61 at ha
     generalize sl a 62 = u62 at ha
     generalize sl a 63 = u63 at ha
     generalize sl a 64 = u64 at ha
     generalize sl a 65 = u65 at ha
     simp only [Act.put,List.setIfInBounds_toArray,List.set_cons_zero,List.set_cons_succ] at ha
     rw [ha]
     clear ha hI ht
     have HR6:=Lib.hid (HR.out.keep hb)
     have hr6:=HR6.out.r
     clear hb HR hx hzc hd eEI hein'
     go_wp2_with (refine wpList_store_row (o:=⟨none,.store 153 (.tmp 4) (.tmp 67),_,_,_,_⟩) rfl 153 (.tmp 4) (.tmp 67) rfl gr #[.int .u8 0,.int .u32 0,.int .u32 0,.int .u8 0,.slice none 0 0,.int .u64 0,.slice none 0 0] rfl rfl _ _ hr6 info_packet15 rfl (by simp [Value.oneCell']) ?_)
     refine bodyPost_ret (res_ct rfl _ _ _ 153 #[.int .u8 0,.int .u32 0,.int .u32 0,.int .u8 0,.slice none 0 0,.int .u64 0,.slice none 0 0] (0,0) _ (.int .i64 10) rfl (hrs hr6) rfl Tryz.underlying153 rfl info_packet15) rfl ?_
     exact HQ.out _ _ ⟨below_row HR6.out.bel HR6.out.rb,by rw [HR10.out];decide,by rw [HR10.out];rfl⟩
   ·obtain rfl:i = 4:=by omega
    have hsum:=HSB.out.1 HJ.out
    have HSM:=Lib.hid hsum
    clear hi4 hi HJ hsum
    obtain ⟨p0,p1,p2,p3⟩:=cells_four HR.out.p
    obtain ⟨d0,d1,d2⟩:=cells_three HR.out.h
    by_cases hO:O = D
    ·have hod:((O:Int) != (D:Int)) = false:=by rw [hO];simp
     have HR0:=Lib.hid (HR4.out HSM.out hO)
     have HOD:=Lib.hid hO
     clear hO
     have a0:∀ o',(wr.alloc o').cell? ⟨gh,0,none⟩ = _:=fun _=>calloc d0
     have a2:∀ o',(wr.alloc o').cell? ⟨gp,2,none⟩ = _:=fun _=>calloc p2
     go_wp2_with fail
     refine Calls.mono (HWD.out _) ?_
     rintro e w6 ⟨rfl,rfl⟩
     have ba:Below wr.heap.size wr (wr.alloc (.cells #[B8 m,.int .u32 (O:Nat),.int .u32 (M:Nat),B8 m,.slice none 0 0,.int .u64 0,.slice none 0 0] 153 (0,0))):=al (Below.refl _ _) (Nat.le_refl _)
     have k7:(wr.alloc (.cells #[B8 m,.int .u32 (O:Nat),.int .u32 (M:Nat),B8 m,.slice none 0 0,.int .u64 0,.slice none 0 0] 153 (0,0))).heap[wr.heap.size]? = some (.cells #[B8 m,.int .u32 (O:Nat),.int .u32 (M:Nat),B8 m,.slice none 0 0,.int .u64 0,.slice none 0 0] 153 (0,0)):=hnew rfl
     have HR6:=Lib.hid (HR.out.keep ba)
     have HG7:Hid (w.heap.size≤wr.heap.size∧gr < wr.heap.size∧gh < wr.heap.size∧gp < wr.heap.size):=⟨HR.out.bel.size,lt_of_block HR.out.r,lt_of_block HR.out.h,lt_of_block HR.out.p⟩
     obtain ⟨g7,hg7⟩:∃ g7,g7 = wr.heap.size:=⟨_,rfl⟩
     rw [← hg7] at k7 HG7
     clear a0 a2 p0 p1 p2 p3 d0 d1 d2 ba HR
     rcases HM2.out with hm0 | hm1
     ·subst hm0
      rw [show widS 0 k = k from if_pos rfl] at HNL HPX ⊢
      rw [← hg7]
      clear hg7
      generalize wr.alloc (.cells #[B8 0,.int .u32 (O:Nat),.int .u32 (M:Nat),B8 0,.slice none 0 0,.int .u64 0,.slice none 0 0] 153 (0,0)) = w7 at *
      obtain ⟨d0,d1,d2⟩:=cells_three HR6.out.h
      obtain ⟨p0,p1,p2,p3⟩:=cells_four HR6.out.p
      have z4:=frozen_of_row _ _ 4 _ _ k7
      obtain ⟨f0,f1,f2,f3,f4,f5,f6⟩:=cells_seven k7
      have hV:14 + k + t≤n:=by have:=HNL.out;omega
      have hcn:14≤c:=by omega
      have eb1:(k:Int)≤((c - 10:Nat):Int):=by omega
      have eb2:(k:Int)≤((n - 10:Nat):Int):=by omega
      have hk65:k≤n:=by omega
      go_upto_region 23 with (fail)
      have k8:(w7.setCell ⟨g7,4,none⟩ (.slice (some ⟨b,o + 10,none⟩) k (c - 10))).heap[g7]? = some (.cells #[B8 0,.int .u32 (O:Nat),.int .u32 (M:Nat),B8 0,.slice (some ⟨b,o + 10,none⟩) k (c - 10),.int .u64 0,.slice none 0 0] 153 (0,0)):=hss k7
      have q1:(w7.setCell ⟨g7,4,none⟩ (.slice (some ⟨b,o + 10,none⟩) k (c - 10))).heap[gr]? = _:=hsc HR6.out.r (by have:=HG7.out;simp;omega)
      have q2:(w7.setCell ⟨g7,4,none⟩ (.slice (some ⟨b,o + 10,none⟩) k (c - 10))).heap[gp]? = _:=hsc HR6.out.p (by have:=HG7.out;simp;omega)
      have HB8:=Lib.hid (HR6.out.bel.setCell (p:=⟨g7,4,none⟩) (by have:=HG7.out;simp;omega) (.slice (some ⟨b,o + 10,none⟩) k (c - 10)))
      generalize w7.setCell ⟨g7,4,none⟩ (.slice (some ⟨b,o + 10,none⟩) k (c - 10)) = w8 at *
      have HRB:=Lib.hid HR6.out.rb
      clear k7 HR6 z4 f0 f1 f2 f3 f4 f5 f6 d0 d1 d2 p0 p1 p2 p3 eb1 eb2 hk65
      obtain ⟨p0,p1,p2,p3⟩:=cells_four q2
      have z6:=frozen_of_row _ _ 6 _ _ k8
      obtain ⟨f0,f1,f2,f3,f4,f5,f6⟩:=cells_seven k8
      have ec1:(k:Int)≤((k:Nat):Int) + (t:Int):=by omega
      have ec2:((k:Nat):Int) + (t:Int)≤((c - 10:Nat):Int):=by omega
      have ec3:¬ (c - 10 = k):=by omega
      have ec4:k + t - k = t:=by omega
      go_upto_region 24 with (fail)
      have k9:(w8.setCell ⟨g7,6,none⟩ (.slice (some ⟨b,o + 10 + k,none⟩) t (c - 10 - k))).heap[g7]? = some (.cells #[B8 0,.int .u32 (O:Nat),.int .u32 (M:Nat),B8 0,.slice (some ⟨b,o + 10,none⟩) k (c - 10),.int .u64 0,.slice (some ⟨b,o + 10 + k,none⟩) t (c - 10 - k)] 153 (0,0)):=hss k8
      have r9:(w8.setCell ⟨g7,6,none⟩ (.slice (some ⟨b,o + 10 + k,none⟩) t (c - 10 - k))).heap[gr]? = _:=hsc q1 (by have:=HG7.out;simp;omega)
      have HB9:=Lib.hid (HB8.out.setCell (p:=⟨g7,6,none⟩) (by have:=HG7.out;simp;omega) (.slice (some ⟨b,o + 10 + k,none⟩) t (c - 10 - k)))
      generalize w8.setCell ⟨g7,6,none⟩ (.slice (some ⟨b,o + 10 + k,none⟩) t (c - 10 - k)) = w9 at *
      clear k8 q1 q2 HB8 z6 f0 f1 f2 f3 f4 f5 f6 p0 p1 p2 p3 ec1 ec2 ec3 ec4
      obtain ⟨f0,f1,f2,f3,f4,f5,f6⟩:=cells_seven k9
      go_wp2_with (refine wpList_store_row (o:=⟨none,.store 153 (.tmp 4) (.tmp 104),_,_,_,_⟩) rfl 153 (.tmp 4) (.tmp 104) rfl gr #[B8 0,.int .u32 (O:Nat),.int .u32 (M:Nat),B8 0,.slice (some ⟨b,o + 10,none⟩) k (c - 10),.int .u64 0,.slice (some ⟨b,o + 10 + k,none⟩) t (c - 10 - k)] rfl rfl _ _ r9 info_packet15 rfl (by simp [Value.oneCell']) ?_)
      refine bodyPost_ret (res_ct rfl _ _ _ 153 #[B8 0,.int .u32 (O:Nat),.int .u32 (M:Nat),B8 0,.slice (some ⟨b,o + 10,none⟩) k (c - 10),.int .u64 0,.slice (some ⟨b,o + 10 + k,none⟩) t (c - 10 - k)] (0,0) _ (.int .i64 0) rfl (hrs r9) rfl Tryz.underlying153 rfl info_packet15) rfl ?_
      have HBZ:=below_row (cs:=#[B8 0,.int .u32 (O:Nat),.int .u32 (M:Nat),B8 0,.slice (some ⟨b,o + 10,none⟩) k (c - 10),.int .u64 0,.slice (some ⟨b,o + 10 + k,none⟩) t (c - 10 - k)]) HB9.out HRB.out
      refine ⟨HBZ,.inl ⟨HR0.out,?_⟩⟩
      obtain ⟨x1,x2,x3,x4,x5⟩:=HPX.out
      rw [x1,x2,x3,x4,x5,← HOD.out]
      refine ⟨_,_,_,_,_,rfl,?_,fun _=>rfl,?_⟩
      ·exact fun W hW=>Sl.part (k:=10) (m:=k) hW (by omega)
      ·intro W hW
       have:=Sl.part (k:=10 + k) (m:=t) hW (by omega)
       rw [← Nat.add_assoc,← Nat.sub_sub] at this;exact this
     ·subst hm1
      rw [show widS 1 k = 8 from rfl] at HNL HPX ⊢
      rw [← hg7]
      clear hg7
      generalize wr.alloc (.cells #[B8 1,.int .u32 (O:Nat),.int .u32 (M:Nat),B8 1,.slice none 0 0,.int .u64 0,.slice none 0 0] 153 (0,0)) = w7 at *
      obtain ⟨d0,d1,d2⟩:=cells_three HR6.out.h
      obtain ⟨p0,p1,p2,p3⟩:=cells_four HR6.out.p
      have z4:=frozen_of_row _ _ 5 _ _ k7
      obtain ⟨f0,f1,f2,f3,f4,f5,f6⟩:=cells_seven k7
      have hV:14 + 8 + t≤n:=by have:=HNL.out;omega
      have hcn:14≤c:=by omega
      have hE8:=REight15_any (some ⟨b,o + 10,none⟩) (n - 10) (c - 10) ((xs.drop 10).take (n - 10)) w7 (Sl.part (k:=10) (m:=n - 10) (H.out.keep HR6.out.bel) (by omega)) (by omega)
      rw [List.take_take,Nat.min_eq_left (by omega)] at hE8
      obtain ⟨S,hS⟩:∃ S,S = get8 ((xs.drop 10).take 8):=⟨_,rfl⟩
      rw [← hS] at hE8
      have HE8:=Lib.hid hE8
      have HSS:=Lib.hid hS
      clear hE8 hS
      go_wp2_with fail
      refine Calls.mono HE8.out ?_
      rintro e w8 ⟨rfl,rfl⟩
      go_upto_region 23 with (fail)
      have k8:(w7.setCell ⟨g7,5,none⟩ (.int .u64 (S:Nat))).heap[g7]? = some (.cells #[B8 1,.int .u32 (O:Nat),.int .u32 (M:Nat),B8 1,.slice none 0 0,.int .u64 (S:Nat),.slice none 0 0] 153 (0,0)):=hss k7
      have q1:(w7.setCell ⟨g7,5,none⟩ (.int .u64 (S:Nat))).heap[gr]? = _:=hsc HR6.out.r (by have:=HG7.out;simp;omega)
      have q2:(w7.setCell ⟨g7,5,none⟩ (.int .u64 (S:Nat))).heap[gp]? = _:=hsc HR6.out.p (by have:=HG7.out;simp;omega)
      have HB8:=Lib.hid (HR6.out.bel.setCell (p:=⟨g7,5,none⟩) (by have:=HG7.out;simp;omega) (.int .u64 (S:Nat)))
      generalize w7.setCell ⟨g7,5,none⟩ (.int .u64 (S:Nat)) = w8 at *
      have HRB:=Lib.hid HR6.out.rb
      clear k7 HR6 z4 f0 f1 f2 f3 f4 f5 f6 d0 d1 d2 p0 p1 p2 p3
      obtain ⟨p0,p1,p2,p3⟩:=cells_four q2
      have z6:=frozen_of_row _ _ 6 _ _ k8
      obtain ⟨f0,f1,f2,f3,f4,f5,f6⟩:=cells_seven k8
      have ec1:(8:Int)≤((8:Nat):Int) + (t:Int):=by omega
      have ec2:((8:Nat):Int) + (t:Int)≤((c - 10:Nat):Int):=by omega
      have ec3:¬ (c - 10 = 8):=by omega
      have ec4:8 + t - 8 = t:=by omega
      go_upto_region 24 with (fail)
      have k9:(w8.setCell ⟨g7,6,none⟩ (.slice (some ⟨b,o + 10 + 8,none⟩) t (c - 10 - 8))).heap[g7]? = some (.cells #[B8 1,.int .u32 (O:Nat),.int .u32 (M:Nat),B8 1,.slice none 0 0,.int .u64 (S:Nat),.slice (some ⟨b,o + 10 + 8,none⟩) t (c - 10 - 8)] 153 (0,0)):=hss k8
      have r9:(w8.setCell ⟨g7,6,none⟩ (.slice (some ⟨b,o + 10 + 8,none⟩) t (c - 10 - 8))).heap[gr]? = _:=hsc q1 (by have:=HG7.out;simp;omega)
      have HB9:=Lib.hid (HB8.out.setCell (p:=⟨g7,6,none⟩) (by have:=HG7.out;simp;omega) (.slice (some ⟨b,o + 10 + 8,none⟩) t (c - 10 - 8)))
      generalize w8.setCell ⟨g7,6,none⟩ (.slice (some ⟨b,o + 10 + 8,none⟩) t (c - 10 - 8)) = w9 at *
      clear k8 q1 q2 HB8 z6 f0 f1 f2 f3 f4 f5 f6 p0 p1 p2 p3 ec1 ec2 ec3 ec4
      obtain ⟨f0,f1,f2,f3,f4,f5,f6⟩:=cells_seven k9
      go_wp2_with (refine wpList_store_row (o:=⟨none,.store 153 (.tmp 4) (.tmp 104),_,_,_,_⟩) rfl 153 (.tmp 4) (.tmp 104) rfl gr #[B8 1,.int .u32 (O:Nat),.int .u32 (M:Nat),B8 1,.slice none 0 0,.int .u64 (S:Nat),.slice (some ⟨b,o + 10 + 8,none⟩) t (c - 10 - 8)] rfl rfl _ _ r9 info_packet15 rfl (by simp [Value.oneCell']) ?_)
      refine bodyPost_ret (res_ct rfl _ _ _ 153 #[B8 1,.int .u32 (O:Nat),.int .u32 (M:Nat),B8 1,.slice none 0 0,.int .u64 (S:Nat),.slice (some ⟨b,o + 10 + 8,none⟩) t (c - 10 - 8)] (0,0) _ (.int .i64 0) rfl (hrs r9) rfl Tryz.underlying153 rfl info_packet15) rfl ?_
      have HBZ:=below_row (cs:=#[B8 1,.int .u32 (O:Nat),.int .u32 (M:Nat),B8 1,.slice none 0 0,.int .u64 (S:Nat),.slice (some ⟨b,o + 10 + 8,none⟩) t (c - 10 - 8)]) HB9.out HRB.out
      refine ⟨HBZ,.inl ⟨HR0.out,?_⟩⟩
      obtain ⟨x1,x2,x3,x4,x5⟩:=HPX.out
      rw [x1,x2,x3,x4,x5,← HOD.out]
      refine ⟨none,0,0,_,_,by rw [show rdS 1 ((xs.drop 10).take 8) = S by rw [HSS.out];rfl],?_,fun h=>(by cases h),?_⟩
      ·exact fun W _=>Sl.nil0 B8 W
      ·intro W hW
       have:=Sl.part (k:=10 + 8) (m:=t) hW (by omega)
       rw [← Nat.add_assoc,← Nat.sub_sub] at this;exact this
    ·have hod:((O:Int) != (D:Int)) = true:=bne_iff_ne.2 (by omega)
     have HR9:=Lib.hid (HR3.out HSM.out hO)
     have hr6:=HR.out.r
     clear hO
     go_wp2_with (refine wpList_store_row (o:=⟨none,.store 153 (.tmp 4) (.tmp 73),_,_,_,_⟩) rfl 153 (.tmp 4) (.tmp 73) rfl gr #[.int .u8 0,.int .u32 0,.int .u32 0,.int .u8 0,.slice none 0 0,.int .u64 0,.slice none 0 0] rfl rfl _ _ hr6 info_packet15 rfl (by simp [Value.oneCell']) ?_)
     refine bodyPost_ret (res_ct rfl _ _ _ 153 #[.int .u8 0,.int .u32 0,.int .u32 0,.int .u8 0,.slice none 0 0,.int .u64 0,.slice none 0 0] (0,0) _ (.int .i64 9) rfl (hrs hr6) rfl Tryz.underlying153 rfl info_packet15) rfl ?_
     exact HQ.out _ _ ⟨below_row HR.out.bel HR.out.rb,by rw [HR9.out];decide,by rw [HR9.out];rfl⟩
 ·have e0:((n:Int) != (lenP m k t:Int)) = true:=bne_iff_ne.2 (by omega)
  have HR4:=Lib.hid (HRC.out.1 hN)
  generalize lenP m k t = N at *
  clear hN
  go_wp2_with (refine wpList_store_row (o:=⟨none,.store 153 (.tmp 4) (.tmp 44),_,_,_,_⟩) rfl 153 (.tmp 4) (.tmp 44) rfl gr #[.int .u8 0,.int .u32 0,.int .u32 0,.int .u8 0,.slice none 0 0,.int .u64 0,.slice none 0 0] rfl rfl _ _ h2 info_packet15 rfl (by simp [Value.oneCell']) ?_)
  refine bodyPost_ret (res_ct rfl _ _ _ 153 #[.int .u8 0,.int .u32 0,.int .u32 0,.int .u8 0,.slice none 0 0,.int .u64 0,.slice none 0 0] (0,0) _ (.int .i64 4) rfl (hrs h2) rfl Tryz.underlying153 rfl info_packet15) rfl ?_
  exact HQ.out _ _ ⟨below_row HB3.out HGR.out,by rw [HR4.out];decide,by rw [HR4.out];rfl⟩
theorem RRead15_any (L t k D:Nat) (p:Option Addr) (n c:Nat) (xs:List UInt8) (w:World) (hP:POK L t k D) (h:Sl B8 w p n c xs) :
  Calls Tryz.prog 83 #[PVal L t k D,.slice p n c] w (RdRet k t D p n c xs w):=by
 have hl:=h.len
 by_cases hc:headC xs = 0
 ·have h10:10≤n:=by
   have g:=hc
   unfold headC at g
   by_cases e:xs.length < 10
   ·rw [if_pos e] at g;cases g
   ·omega
  obtain ⟨b,o,rfl,_⟩:=h.has (by omega)
  exact RRead15_body L t k D b o n c xs w hP h hc h10
 ·have e:readC k t D xs = headC xs:=by unfold readC;rw [if_pos hc]
  refine Calls.mono (RRead15_head L t k D p n c xs w hP h hc) fun e' w' g=>⟨g.2,.inr ⟨by rw [e];exact hc,by rw [e];exact g.1⟩⟩
end Go.Proofs.YtccaiiigdfieoaaGreatDoor
namespace Go.By
open Go.RowKit
def OwnH (T2:TypeId) (w0 w:World) (base:Nat) (v:Value) (n:Nat) (xss:List (List UInt8)):Prop :=
 ∃ vs:List Value,w.ownsRow base T2 1 v n vs∧xss.length = n∧∀ (j:Nat) (val:Value),vs[j]? = some val→∃ xs q c',xss[j]? = some xs∧val = Value.slice q xs.length c'∧Sl B8 w0 q xs.length c' xs
theorem OwnH.nil (T2:TypeId) (w0 w:World) (base:Nat):OwnH T2 w0 w base (.slice none 0 0) 0 []:=⟨[],World.ownsRow_nil _ _ _ _,rfl,fun j val h=>by simp at h⟩
theorem OwnH.sl2 {T2:TypeId} {w0 w:World} {base n c:Nat} {p:Option Addr} {xss:List (List UInt8)} (h:OwnH T2 w0 w base (.slice p n c) n xss) (hb:Below w0.heap.size w0 w):Sl2 w p n c xss:=by
 obtain ⟨vs,h1,h2,h3⟩:=h
 have hs:Sl id w p n c vs:=Sl.of_owns (by rw [List.map_id];exact h1)
 refine ⟨h2,hs.le,hs.max,hs.nil,?_⟩
 intro i xs hi
 have hlt:i < vs.length:=by
  have:=(List.getElem?_eq_some_iff.1 hi).1
  rw [hs.len];omega
 obtain ⟨b,o,hp,hc⟩:=hs.rs i hlt
 obtain ⟨xs',q,c',a1,a2,a3⟩:=h3 i _ (List.getElem?_eq_getElem hlt)
 have e:=hi.symm.trans a1
 cases e
 exact ⟨b,o,q,c',hp,by rw [hc,id,a2],a3.keep hb⟩
theorem OwnH.push {T2:TypeId} {w0 w':World} {base n:Nat} {vs:List Value} {v':Value} {q:Option Addr} {m c:Nat} {xs:List UInt8} {xss:List (List UInt8)} (hvl:vs.length = n) (h2:xss.length = n)
  (h3:∀ (j:Nat) (val:Value),vs[j]? = some val→∃ xs q c',xss[j]? = some xs∧val = Value.slice q xs.length c'∧Sl B8 w0 q xs.length c' xs)
  (hr:Sl B8 w0 q m c xs) (ho:w'.ownsRow base T2 1 v' (n + 1) (vs ++ [.slice q m c])):OwnH T2 w0 w' base v' (n + 1) (xss ++ [xs]):=by
 have hml:m = xs.length:=hr.len.symm
 refine ⟨_,ho,by simp [h2],?_⟩
 intro j val hj
 by_cases hjn:j < n
 ·rw [List.getElem?_append_left (by omega)] at hj
  obtain ⟨ys,q',c',a,b,d⟩:=h3 j val hj
  exact ⟨ys,q',c',by rw [List.getElem?_append_left (by omega)];exact a,b,d⟩
 ·rw [List.getElem?_append_right (by omega)] at hj
  have hj0:j = n:=by
   have:=(List.getElem?_eq_some_iff.1 hj).1
   simp at this;omega
  subst hj0
  rw [hvl] at hj
  simp at hj
  subst hj
  exact ⟨xs,q,c,by rw [List.getElem?_append_right (by omega),h2];simp,by rw [hml],by rw [← hml];exact hr⟩
end Go.By
namespace Go.Proofs.YtccaiiigdfieoaaGreatDoor
open Go.RowKit Go.By
theorem vecsL_take {D:List Rw} {j:Nat} {x:Rw} (h:D[j]? = some x):vecsL (D.take (j + 1)) = vecsL (D.take j) ++ [x.1]:=by
 unfold vecsL;rw [List.take_add_one,h,List.map_append];rfl
end Go.Proofs.YtccaiiigdfieoaaGreatDoor
namespace Go.Proofs.YtccaiiigdfieoaaGreatDoor
open Go.RowKit Go.By
def clashI (D:List Rw):Nat→Int
 | 0=>-1
 | i + 1=>match D[i]? with
  | some x=>if clashB (kD (D.take i)) x = true∧clashI D i < 0 then (i:Int) else clashI D i
  | none=>clashI D i
theorem clashI_step {D:List Rw} {i:Nat} {x:Rw} (h:D[i]? = some x):clashI D (i + 1) = if clashB (kD (D.take i)) x = true∧clashI D i < 0 then (i:Int) else clashI D i:=by
 show (match D[i]? with | some x=>_ | none=>_) = _
 rw [h]
theorem sys_len {k t:Nat} {X K:List Rw} (h:Sys k t (kD X) K):K.length = (kD X).length:=(sys_rank h).trans (vecs_rank X)
theorem sys_clash {k t:Nat} {X K:List Rw} {x:Rw} (h:Sys k t (kD X) K) (hx:Fit k t x):clashB (kD X) x = clashB K x:=by
 unfold clashB;rw [h.rest hx]
end Go.Proofs.YtccaiiigdfieoaaGreatDoor
namespace Go.Proofs.YtccaiiigdfieoaaGreatDoor
open Go.RowKit Go.By
set_option maxRecDepth 100000 in
set_option maxHeartbeats 4000000 in
theorem RVectors_any (p:Option Addr) (m c:Nat) (D:List Rw) (w:World) (h:RwS w p m c D) (hm:m≤65536) :
  Calls Tryz.prog 148 #[.slice p m c] w fun e w'=>∃ q c',e = .returned (.slice q m c')∧Sl2 w' q m c' (vecsL D)∧Below w.heap.size w w':=by
 obtain ⟨r0,hr0,hrz,hr1,hr2⟩:=info_parts info_rows
 have H:=Lib.hid h;have HLEN:=Lib.hid h.len
 clear h
 go_enter Tryz.func148,Tryz.ntmps148
 go_wp2
 go_loopw [3,8] (fun o i wr=>∃ (k:Nat) (qo:Option Addr) (co:Nat),k≤m∧i = .int .i64 k∧o = .slice qo k co∧Hid (OwnH 22 w wr w.heap.size (.slice qo k co) k (vecsL (D.take k)))∧Hid (Below w.heap.size w wr)) (fun _ i _=>m - (intOf i).toNat)
 case atStart=>exact ⟨0,none,0,Nat.zero_le _,rfl,rfl,by show OwnH _ _ _ _ _ _ (vecsL (D.take 0));rw [List.take_zero];exact OwnH.nil _ _ _ _,Below.refl _ _⟩
 case round =>
  obtain ⟨k,qo,co,hk,rfl,rfl,hO,hB⟩:=hrel
  by_cases hlt:k < m
  ·have kn:(k:Int) < (m:Int):=by omega
   obtain ⟨x,hx⟩:∃ x,D[k]? = some x:=⟨_,List.getElem?_eq_getElem (by rw [HLEN.out];exact hlt)⟩
   obtain ⟨b,o,q1,m1,c1,q2,m2,c2,rfl,d1,d2,s1,s2⟩:=H.out.row k x hx
   have D1:=(hB.out.cell (p:=⟨b,o + k * 2,none⟩) (lt_of_cell d1)).trans d1
   have D2:=(hB.out.cell (p:=⟨b,o + k * 2 + 1,none⟩) (lt_of_cell d2)).trans d2
   have S1:=Lib.hid s1
   have HX:=Lib.hid hx
   have hsz:=hB.out.size
   obtain ⟨vs,oA,lA,rA⟩:=hO.out
   have OA:=Lib.hid oA;have LA:=Lib.hid lA;have RA:=Lib.hid rA
   have hvl:Hid (vs.length = k):=by show _ = _;have:=oA.1;simpa using this
   have hO2:Hid (∀ o1 o2,((wr.alloc o1).alloc o2).ownsRow w.heap.size 22 1 (.slice qo k co) k vs):=fun o1 o2=>owns_keep OA.out (bl (al (Below.refl _ _) (Nat.le_refl _)) (al (Below.refl _ _) (Nat.le_refl _)) (by simp))
   clear d1 d2 s1 s2 hx oA lA rA hO
   go_wp2_with (at_builtin;refine wpList_append_own _ rfl _ _ 31 rfl w.heap.size 22 r0 (.slice none 0 0) 1 24 Tryz.underlying31 hr0 hrz hr1 hr2 rfl (by omega) _ k _ rfl (hO2.out _ _) ⟨wr.heap.size + 1,0,none⟩ 1 1 [.slice q1 m1 c1] rfl rfl (one_cell' (by simp)) ?d2 ?d3 ?d4 ?d5 ?_)
   case d2=>intro y hy;simp at hy;subst hy;rfl
   case d3=>unfold maxLen;omega
   case d4=>omega
   case d5=>simp;omega
   intro v6 w6 ho6 hg6 _
   obtain ⟨q6,c6,rfl⟩:=owns_shape ho6
   have P6:Hid (OwnH 22 w w6 w.heap.size (.slice q6 (k + 1) c6) (k + 1) (vecsL (D.take (k + 1)))∧Below w.heap.size w w6):=by
    refine ⟨?_,(al (al hB.out hsz) (by simp;omega)).grown hg6 (by simp;omega) (fun kk hk=>(OA.out.lt kk hk).1)⟩
    rw [vecsL_take HX.out]
    exact OwnH.push hvl.out LA.out RA.out S1.out ho6
   clear ho6 hg6 hO2 OA LA RA hvl hsz D1 D2 S1 hB
   go_wp2
   go_roundw
   case rel=>exact ⟨k + 1,q6,c6,by omega,by go_num,rfl,P6.out.1,P6.out.2⟩
   case measure=>simp [intOf];omega
  ·have hkw:k = m:=by omega
   subst hkw
   have OF:Hid (Sl2 wr qo k co (vecsL D)):=by
    have:=hO.out.sl2 hB.out
    rwa [List.take_of_length_le (by rw [HLEN.out];exact Nat.le_refl _)] at this
   have BF:=Lib.hid hB.out
   clear hO hB
   go_wp2
   go_ret
   exact ⟨qo,co,rfl,OF.out,BF.out⟩
end Go.Proofs.YtccaiiigdfieoaaGreatDoor
namespace Go.Proofs.YtccaiiigdfieoaaGreatDoor
open Go.RowKit Go.By
theorem widesL_take {D:List Rw} {j:Nat} {x:Rw} (h:D[j]? = some x):widesL (D.take (j + 1)) = widesL (D.take j) ++ [cat x]:=by
 unfold widesL;rw [List.take_add_one,h,List.map_append];rfl
set_option maxRecDepth 100000 in
set_option maxHeartbeats 4000000 in
theorem RWide_any (k0 t0:Nat) (p:Option Addr) (m c:Nat) (D:List Rw) (w:World) (h:RwS w p m c D) (hm:m≤65536) (hD:∀ x,x ∈ D→Fit k0 t0 x) (hk0:k0≤65536) (ht0:t0≤65536) :
  Calls Tryz.prog 149 #[.slice p m c] w fun e w'=>∃ q c',e = .returned (.slice q m c')∧Sl2 w' q m c' (widesL D)∧Below w.heap.size w w':=by
 obtain ⟨r0,hr0,hrz,hr1,hr2⟩:=info_parts info_rows
 obtain ⟨i0,hi0,hz0,hz1,hz2⟩:=info_parts info_u8
 have H:=Lib.hid h;have HLEN:=Lib.hid h.len;have HD:=Lib.hid hD
 clear h hD
 go_enter Tryz.func149,Tryz.ntmps149
 go_wp2
 go_loopw [3,9] (fun o i wr=>∃ (k:Nat) (qo:Option Addr) (co:Nat),k≤m∧i = .int .i64 k∧o = .slice qo k co∧Hid (Own2 22 5 wr w.heap.size (.slice qo k co) k (widesL (D.take k)))∧Hid (Below w.heap.size w wr)) (fun _ i _=>m - (intOf i).toNat)
 case atStart=>exact ⟨0,none,0,Nat.zero_le _,rfl,rfl,by show Own2 _ _ _ _ _ _ (widesL (D.take 0));rw [List.take_zero];exact Own2.nil _ _ _ _,Below.refl _ _⟩
 case round =>
  obtain ⟨k,qo,co,hk,rfl,rfl,hO,hB⟩:=hrel
  by_cases hlt:k < m
  ·have kn:(k:Int) < (m:Int):=by omega
   obtain ⟨x,hx⟩:∃ x,D[k]? = some x:=⟨_,List.getElem?_eq_getElem (by rw [HLEN.out];exact hlt)⟩
   have hfit:=HD.out x (List.mem_of_getElem? hx)
   obtain ⟨b,o,q1,m1,c1,q2,m2,c2,rfl,d1,d2,s1,s2⟩:=H.out.row k x hx
   obtain rfl:k0 = m1:=by rw [← s1.len];exact hfit.1.symm
   obtain rfl:t0 = m2:=by rw [← s2.len];exact hfit.2.symm
   have D1:=(hB.out.cell (p:=⟨b,o + k * 2,none⟩) (lt_of_cell d1)).trans d1
   have D2:=(hB.out.cell (p:=⟨b,o + k * 2 + 1,none⟩) (lt_of_cell d2)).trans d2
   have S1:=Lib.hid (s1.keep hB.out);have S2:=Lib.hid (s2.keep hB.out)
   have HX:=Lib.hid hx
   have hsz:=hB.out.size
   obtain ⟨W1,hW1⟩:∃ W1,W1 = wr.alloc (.cells #[.slice q1 k0 c1,.slice q2 t0 c2] 101):=⟨_,rfl⟩
   have hb1:Below wr.heap.size wr W1:=by rw [hW1];exact al (Below.refl _ _) (Nat.le_refl _)
   have hs1:W1.heap.size = wr.heap.size + 1:=by rw [hW1];simp
   have HB1:=Lib.hid hb1
   have HS1:=Lib.hid hs1
   have z1:W1.cell? ⟨wr.heap.size,1,none⟩ = some (.slice q2 t0 c2):=by rw [hW1];exact cell_of_row _ _ 1 _ _ _ (hnew rfl)
   have Z1:=Lib.hid z1
   have HW1:=Lib.hid hW1
   clear d1 d2 s1 s2 hx hb1 hs1 z1 hW1 hfit
   go_wp2_with (at_builtin;refine wpList_append_rs _ rfl _ _ 22 rfl W1.heap.size 5 i0 (.int .u8 0) 1 Tryz.underlying22 hi0 hz0 hz1 hz2 rfl _ 0 [] rfl (World.ownsRow_nil _ _ _ _) B8 _ _ _ x.1 (fun _ _=>rfl) rfl (S1.out.keep (al (Below.refl _ _) (Nat.le_refl _))) ?a1 ?a2 ?a3 ?_)
   case a1=>unfold maxLen;omega
   case a2=>omega
   case a3=>rw [HS1.out];simp
   rw [← HW1.out]
   intro v5 w5 ho5 hg5
   obtain ⟨q5,c5,rfl⟩:=owns_shape ho5
   have b5:Below W1.heap.size W1 w5:=(Below.refl _ _).grown hg5 (Nat.le_refl _) (by simp [Value.ownBlock])
   have BB5:=Lib.hid b5
   have O5:Hid (w5.ownsRow W1.heap.size 5 1 (.slice q5 k0 c5) k0 (x.1.map B8)):=by
    show World.ownsRow _ _ _ _ _ _ _
    simpa using ho5
   have z5:w5.cell? ⟨wr.heap.size,1,none⟩ = some (.slice q2 t0 c2):=(b5.cell (p:=⟨wr.heap.size,1,none⟩) (by rw [HS1.out];simp)).trans Z1.out
   have hs5:=b5.size
   have S25:=Lib.hid ((S2.out.keep HB1.out).keep b5)
   clear ho5 hg5 b5
   go_wp2_with (at_builtin;refine wpList_append_rs _ rfl _ _ 22 rfl W1.heap.size 5 i0 (.int .u8 0) 1 Tryz.underlying22 hi0 hz0 hz1 hz2 rfl _ k0 (x.1.map B8) rfl O5.out B8 _ _ _ x.2 (fun _ _=>rfl) rfl S25.out ?b1 ?b2 ?b3 ?_)
   case b1=>unfold maxLen;omega
   case b2=>omega
   case b3=>exact hs5
   intro v6 w6 ho6 hg6
   obtain ⟨q6,c6,rfl⟩:=owns_shape ho6
   have b6:Below W1.heap.size w5 w6:=(Below.refl _ _).grown hg6 hs5 (fun kk hk=>(O5.out.lt kk hk).1)
   have hle:wr.heap.size≤W1.heap.size:=by rw [HS1.out];omega
   have B6:Hid (Below wr.heap.size wr w6):=bl HB1.out (BB5.out.trans b6) hle
   have O6:Hid (w6.ownsRow w.heap.size 5 1 (.slice q6 (k0 + t0) c6) (k0 + t0) ((cat x).map B8)):=by
    show World.ownsRow _ _ _ _ _ _ _
    have:(cat x).map B8 = x.1.map B8 ++ x.2.map B8:=by unfold cat;rw [List.map_append]
    rw [this]
    exact owns_mono ho6 (Nat.le_trans hsz hle)
   have hs6:=B6.out.size
   have OQ:Hid (Own2 22 5 w6 w.heap.size (.slice qo k co) k (widesL (D.take k))):=hO.out.keep B6.out
   obtain ⟨vs,oA,lA,rA⟩:=OQ.out
   have OA:=Lib.hid oA;have LA:=Lib.hid lA;have RA:=Lib.hid rA
   have bal:∀ (W:World) (o:Obj),Below W.heap.size W (W.alloc o):=fun W o=>al (Below.refl _ _) (Nat.le_refl _)
   have hO2:Hid (∀ o,(w6.alloc o).ownsRow w.heap.size 22 1 (.slice qo k co) k vs):=fun o=>owns_keep OA.out (bal _ _)
   have HBAL:=Lib.hid bal
   have BQ:Hid (Below w.heap.size w w6):=bl hB.out B6.out hsz
   clear ho6 hg6 b6 hs5 z5 S25 O5 BB5 oA lA rA bal OQ hO D1 D2 S1 S2 HW1 Z1 HS1 HB1 hle
   go_wp2_with (at_builtin;refine wpList_append_own _ rfl _ _ 31 rfl w.heap.size 22 r0 (.slice none 0 0) 1 24 Tryz.underlying31 hr0 hrz hr1 hr2 rfl (by omega) _ k _ rfl (hO2.out _) ⟨w6.heap.size,0,none⟩ 1 1 [.slice q6 (k0 + t0) c6] rfl rfl (one_cell' rfl) ?d2 ?d3 ?d4 ?d5 ?_)
   case d2=>intro y hy;simp at hy;subst hy;rfl
   case d3=>unfold maxLen;omega
   case d4=>omega
   case d5=>simp;omega
   intro v7 w7 ho7 hg7 _
   obtain ⟨q7,c7,rfl⟩:=owns_shape ho7
   have P7:Hid (Own2 22 5 w7 w.heap.size (.slice q7 (k + 1) c7) (k + 1) (widesL (D.take (k + 1)))∧Below w.heap.size w w7):=by
    refine ⟨?_,(al BQ.out (by omega)).grown hg7 (by simp;omega) (fun kk hk=>(OA.out.lt kk hk).1)⟩
    rw [widesL_take HX.out]
    exact Own2.push (by decide) LA.out (fun jj val hjj=>by
     obtain ⟨xs,q,c',a,b,d⟩:=RA.out jj val hjj
     exact ⟨xs,q,c',a,b,owns_keep d (HBAL.out _ _)⟩) (hO2.out _) (owns_keep O6.out (HBAL.out _ _)) ho7 hg7
   clear ho7 hg7 hO2 OA LA RA hsz BQ hB O6 B6
   go_wp2
   go_roundw
   case rel=>exact ⟨k + 1,q7,c7,by omega,by go_num,rfl,P7.out.1,P7.out.2⟩
   case measure=>simp [intOf];omega
  ·have hkw:k = m:=by omega
   subst hkw
   have OF:Hid (Sl2 wr qo k co (widesL D)):=by
    have:=hO.out.sl2
    rwa [List.take_of_length_le (by rw [HLEN.out];exact Nat.le_refl _)] at this
   have BF:=Lib.hid hB.out
   clear hO hB
   go_wp2
   go_ret
   exact ⟨qo,co,rfl,OF.out,BF.out⟩
end Go.Proofs.YtccaiiigdfieoaaGreatDoor
namespace Go.By
open Go.RowKit
theorem RwS.take {w:World} {p:Option Addr} {n c j:Nat} {K:List (List UInt8 × List UInt8)} (h:RwS w p n c K) (hj:j≤n):RwS w p j c (K.take j) :=
 ⟨by rw [List.length_take,h.len];omega,Nat.le_trans hj h.le,h.max,fun e=>⟨by have:=h.nil e;omega,(h.nil e).2⟩,fun i k hi=>by
  rw [List.getElem?_take] at hi
  split at hi
  ·exact h.row i k hi
  ·cases hi⟩
def Shp.vecN (n:Nat) (xss:List (List UInt8)):Shp:=⟨fun v w=>∃ p c,v = .slice p n c∧Sl2 w p n c xss,fun _ _ _ ⟨p,c,e,h⟩ hb=>⟨p,c,e,h.keep hb⟩⟩
end Go.By
namespace Go.Proofs.YtccaiiigdfieoaaGreatDoor
open Go.RowKit Go.By
theorem clashI_keep {D:List Rw} {i:Nat} (h:0≤clashI D i):∀ d,clashI D (i + d) = clashI D i
 | 0=>rfl
 | d + 1=>by
  have ih:=clashI_keep h d
  show (match D[i + d]? with | some x=>_ | none=>_) = _
  split
  ·rw [if_neg (fun g=>by have g2:clashI D (i + d) < 0:=g.2;rw [ih] at g2;omega)];exact ih
  ·exact ih
theorem calm_clashI {D:List Rw}:∀ i,calm D i→clashI D i = -1
 | 0,_=>rfl
 | i + 1,h=>by
  have ih:=calm_clashI i (fun j x hj hx=>h j x (by omega) hx)
  show (match D[i]? with | some x=>_ | none=>_) = _
  split
  ·rename_i x hx
   rw [if_neg (fun g=>by rw [h i x (by omega) hx] at g;cases g.1)];exact ih
  ·exact ih
theorem first_clashI {D:List Rw} {i m:Nat} {x:Rw} (h:calm D i) (hx:D[i]? = some x) (hc:clashB (kD (D.take i)) x = true) (hm:i < m):clashI D m = i:=by
 have e:clashI D (i + 1) = i:=by rw [clashI_step hx,if_pos ⟨hc,by rw [calm_clashI i h];decide⟩]
 have:=clashI_keep (i:=i + 1) (D:=D) (by rw [e];omega) (m - (i + 1))
 rw [show i + 1 + (m - (i + 1)) = m by omega,e] at this
 exact this
theorem vecs_len {k t:Nat} {X:List Rw} (h:∀ x,x ∈ X→Fit k t x):∀ r,r ∈ vecsL X→r.length = k:=fun r hr=>by
 obtain ⟨x,hx,rfl⟩:=List.mem_map.1 hr;exact (h x hx).1
theorem wides_len {k t:Nat} {X:List Rw} (h:∀ x,x ∈ X→Fit k t x):∀ r,r ∈ widesL X→r.length = k + t:=fun r hr=>by
 obtain ⟨x,hx,rfl⟩:=List.mem_map.1 hr;exact (h x hx).cat
set_option maxRecDepth 100000 in
set_option maxHeartbeats 4000000 in
theorem RJudge_any (k t:Nat) (p:Option Addr) (m c:Nat) (D:List Rw) (w:World) (h:RwS w p m c D) (hk:k≤4096) (ht:t≤65535) (hm:m≤4096) (hD:∀ x,x ∈ D→Fit k t x) :
  Calls Tryz.prog 85 #[.slice p m c] w fun e w'=>e = .returned (.tuple #[.int .i64 (kD D).length,.int .i64 (clashI D m)])∧Below w.heap.size w w':=by
 have H:=Lib.hid h;have HL:=Lib.hid h.len;have HD:=Lib.hid hD
 have hmc:=h.le;have hcm:c≤9223372036854775807:=by have:=h.max;unfold maxLen at this;omega
 have HA:Hid (∀ W,RwS W p m c D→Calls Tryz.prog 148 #[.slice p m c] W fun e w'=>∃ q c',e = .returned (.slice q m c')∧Sl2 w' q m c' (vecsL D)∧Below W.heap.size W w'):=fun W hW=>RVectors_any p m c D W hW (by omega)
 have HB:Hid (∀ W q c',Sl2 W q m c' (vecsL D)→Calls Tryz.prog 147 #[.slice q m c'] W fun e w'=>e = .returned (.int .i64 (kD D).length)∧Below W.heap.size W w'):=fun W q c' hW=>by
  have:=RRank_any k q m c' (vecsL D) W hW (vecs_len HD.out) (by unfold Room;omega) (by omega)
  rwa [vecs_rank] at this
 clear h hD
 go_enter Tryz.func85,Tryz.ntmps85
 go_wp2
 go_loopw [7] (fun iv wr=>∃ i:Nat,i≤m∧iv = .int .i64 i∧Hid (calm D i)∧Hid (Below w.heap.size w wr)) (fun iv _=>m - (intOf iv).toNat)
 case atStart=>exact ⟨0,Nat.zero_le _,rfl,fun j x hj _=>by omega,Below.refl _ _⟩
 case round =>
  obtain ⟨i,hi,rfl,hC,hB⟩:=hrel
  by_cases hlt:i < m
  ·have hlt':(i:Int) < (m:Int):=by omega
   obtain ⟨x,hx⟩:∃ x,D[i]? = some x:=⟨_,List.getElem?_eq_getElem (by rw [HL.out];exact hlt)⟩
   obtain ⟨b,o,q1,m1,c1,q2,m2,c2,rfl,d1,d2,s1,s2⟩:=H.out.row i x hx
   clear d1 d2 s1 s2
   obtain ⟨I,hI⟩:∃ I,I = i + 1:=⟨_,rfl⟩
   obtain ⟨X,hX⟩:∃ X,X = D.take I:=⟨_,rfl⟩
   have HR:Hid (RwS wr (some ⟨b,o,none⟩) I c X):=by
    rw [hX]
    exact (H.out.take (by omega)).keep hB.out
   have hXD:∀ y,y ∈ X→Fit k t y:=fun y hy=>HD.out y (List.mem_of_mem_take (by rw [← hX];exact hy))
   obtain ⟨R1,hR1⟩:∃ R1,R1 = (iK (vecsL X)).length:=⟨_,rfl⟩
   obtain ⟨R2,hR2⟩:∃ R2,R2 = (iK (widesL X)).length:=⟨_,rfl⟩
   have CV:Hid (∀ W,RwS W (some ⟨b,o,none⟩) I c X→Calls Tryz.prog 148 #[.slice (some ⟨b,o,none⟩) I c] W fun e w'=>∃ q c',e = .returned (.slice q I c')∧Sl2 w' q I c' (vecsL X)∧Below W.heap.size W w'):=fun W hW=>RVectors_any _ I c X W hW (by omega)
   have CW:Hid (∀ W,RwS W (some ⟨b,o,none⟩) I c X→Calls Tryz.prog 149 #[.slice (some ⟨b,o,none⟩) I c] W fun e w'=>∃ q c',e = .returned (.slice q I c')∧Sl2 w' q I c' (widesL X)∧Below W.heap.size W w'):=fun W hW=>RWide_any k t _ I c X W hW (by omega) hXD (by omega) (by omega)
   have C1:Hid (∀ W q c',Sl2 W q I c' (vecsL X)→Calls Tryz.prog 147 #[.slice q I c'] W fun e w'=>e = .returned (.int .i64 R1)∧Below W.heap.size W w'):=fun W q c' hW=>by
    rw [hR1];exact RRank_any k q I c' (vecsL X) W hW (vecs_len hXD) (by unfold Room;omega) (by omega)
   have C2:Hid (∀ W q c',Sl2 W q I c' (widesL X)→Calls Tryz.prog 147 #[.slice q I c'] W fun e w'=>e = .returned (.int .i64 R2)∧Below W.heap.size W w'):=fun W q c' hW=>by
    rw [hR2];exact RRank_any (k + t) q I c' (widesL X) W hW (wides_len hXD) (by unfold Room;omega) (by omega)
   have HJ:Hid ((R1 = R2)↔clashB (kD (D.take i)) x = false):=by
    have:=judge_at HD.out hx hC.out
    rw [hR1,hR2,hX,hI];exact this
   have HX:=Lib.hid hx
   have A1:IntKind.i64.wrap ((i:Int) + 1) = (I:Int):=by rw [hI];exact (Go.IntWalk.i64_in _ (by omega)).trans (by omega)
   have A2:(I:Int)≤(c:Int):=by omega
   have A3:I≤c:=by omega
   have A4:¬ c = 0:=by omega
   have HIx:=Lib.hid hI
   clear hX hXD hR1 hR2 hx hI
   by_cases hc:clashB (kD (D.take i)) x = true
   ·have hne:¬ R1 = R2:=fun e=>by have:=HJ.out.1 e;rw [hc] at this;cases this
    have hd:((R1:Int) != (R2:Int)) = true:=by simp;omega
    have hd2:¬ (R1:Int) = (R2:Int):=fun e=>hne (by omega)
    have HRES:Hid (clashI D m = i):=first_clashI hC.out HX.out hc hlt
    clear hc hne HJ hC
    go_wp2
    refine wp_region_shapes (fun ix=>([.val (.slice (some ⟨b,o,none⟩) m c),.val (.int .i64 i),.val (.int .i64 I),.val (.slice (some ⟨b,o,none⟩) I c),(Shp.vecN I (vecsL X)),.val (.int .i64 R1),.val (.slice (some ⟨b,o,none⟩) m c),.val (.int .i64 i),.val (.int .i64 I),.val (.slice (some ⟨b,o,none⟩) I c),(Shp.vecN I (widesL X)),.val (.int .i64 R2),.val (.bool true)][ix]?).getD (.any)) 31 rfl (by kernel_rfl) (by decide) (by decide) (by decide) ?_ ?_
    ·refine ⟨?_,?_,?_,?_,?_,?_,?_,?_,?_,?_,?_,?_,?_,trivial⟩
     ·intro a W hb0 hs hp hi;have hb:=undrew hb0;clear hb0
      have t0:sl a 0 = .slice (some ⟨b,o,none⟩) m c:=hi 0 (by decide)
      exact ite_y rfl (wp_val (sl a 0) rfl ⟨_,rfl,Below.refl _ _,t0⟩)
     ·intro a W hb0 hs hp hi;have hb:=undrew hb0;clear hb0
      have t4:sl a 4 = .int .i64 i:=hi 4 (by decide)
      exact ite_y rfl (wp_val (sl a 4) rfl ⟨_,rfl,Below.refl _ _,t4⟩)
     ·intro a W hb0 hs hp hi;have hb:=undrew hb0;clear hb0
      have t11:sl a 11 = .int .i64 i:=hp 1 (by decide)
      refine ite_y rfl (wp_val (.int .i64 I) ?_ ?_)
      ·simp only [execOp,eval_tmp,eval_const,t11];simp [go_sem,A1]
      ·exact ⟨_,rfl,Below.refl _ _,rfl⟩
     ·intro a W hb0 hs hp hi;have hb:=undrew hb0;clear hb0
      have tt:sl a 10 = .slice (some ⟨b,o,none⟩) m c:=hp 0 (by decide)
      have tj:sl a 12 = .int .i64 I:=hp 2 (by decide)
      refine ite_y rfl (wp_val (.slice (some ⟨b,o,none⟩) I c) ?_ ?_)
      ·simp only [execOp,eval_tmp,tt,tj,Option.map];simp [go_sem,A2,A3,A4,Addr.add_lit]
      ·exact ⟨_,rfl,Below.refl _ _,rfl⟩
     ·intro a W hb0 hs hp hi;have hb:=undrew hb0;clear hb0
      have tt:sl a 13 = .slice (some ⟨b,o,none⟩) I c:=hp 3 (by decide)
      refine ite_y rfl (wp_enter 148 #[.slice (some ⟨b,o,none⟩) I c] ?_ (CV.out W (HR.out.keep hb)) ?_)
      ·simp only [execOp,resolve,List.map_toArray,List.map,eval_tmp,eval_func,eval_const,tt];simp [go_sem]
      ·rintro e W' ⟨q,c',rfl,hs9,hw⟩;exact ⟨_,rfl,_,rfl,hw,q,c',rfl,hs9⟩
     ·intro a W hb0 hs hp hi;have hb:=undrew hb0;clear hb0
      have tt:(Shp.vecN I (vecsL X)).ok (sl a 14) W:=hp 4 (by decide)
      obtain ⟨q4,c4,tt,s4⟩:=tt
      refine ite_y rfl (wp_enter 147 #[.slice q4 I c4] ?_ (C1.out W q4 c4 s4) ?_)
      ·simp only [execOp,resolve,List.map_toArray,List.map,eval_tmp,eval_func,eval_const,tt];simp [go_sem]
      ·rintro e W' ⟨rfl,hw⟩;exact ⟨_,rfl,_,rfl,hw,rfl⟩
     ·intro a W hb0 hs hp hi;have hb:=undrew hb0;clear hb0
      have t0:sl a 0 = .slice (some ⟨b,o,none⟩) m c:=hi 0 (by decide)
      exact ite_y rfl (wp_val (sl a 0) rfl ⟨_,rfl,Below.refl _ _,t0⟩)
     ·intro a W hb0 hs hp hi;have hb:=undrew hb0;clear hb0
      have t4:sl a 4 = .int .i64 i:=hi 4 (by decide)
      exact ite_y rfl (wp_val (sl a 4) rfl ⟨_,rfl,Below.refl _ _,t4⟩)
     ·intro a W hb0 hs hp hi;have hb:=undrew hb0;clear hb0
      have t17:sl a 17 = .int .i64 i:=hp 7 (by decide)
      refine ite_y rfl (wp_val (.int .i64 I) ?_ ?_)
      ·simp only [execOp,eval_tmp,eval_const,t17];simp [go_sem,A1]
      ·exact ⟨_,rfl,Below.refl _ _,rfl⟩
     ·intro a W hb0 hs hp hi;have hb:=undrew hb0;clear hb0
      have tt:sl a 16 = .slice (some ⟨b,o,none⟩) m c:=hp 6 (by decide)
      have tj:sl a 18 = .int .i64 I:=hp 8 (by decide)
      refine ite_y rfl (wp_val (.slice (some ⟨b,o,none⟩) I c) ?_ ?_)
      ·simp only [execOp,eval_tmp,tt,tj,Option.map];simp [go_sem,A2,A3,A4,Addr.add_lit]
      ·exact ⟨_,rfl,Below.refl _ _,rfl⟩
     ·intro a W hb0 hs hp hi;have hb:=undrew hb0;clear hb0
      have tt:sl a 19 = .slice (some ⟨b,o,none⟩) I c:=hp 9 (by decide)
      refine ite_y rfl (wp_enter 149 #[.slice (some ⟨b,o,none⟩) I c] ?_ (CW.out W (HR.out.keep hb)) ?_)
      ·simp only [execOp,resolve,List.map_toArray,List.map,eval_tmp,eval_func,eval_const,tt];simp [go_sem]
      ·rintro e W' ⟨q,c',rfl,hs9,hw⟩;exact ⟨_,rfl,_,rfl,hw,q,c',rfl,hs9⟩
     ·intro a W hb0 hs hp hi;have hb:=undrew hb0;clear hb0
      have tt:(Shp.vecN I (widesL X)).ok (sl a 20) W:=hp 10 (by decide)
      obtain ⟨q4,c4,tt,s4⟩:=tt
      refine ite_y rfl (wp_enter 147 #[.slice q4 I c4] ?_ (C2.out W q4 c4 s4) ?_)
      ·simp only [execOp,resolve,List.map_toArray,List.map,eval_tmp,eval_func,eval_const,tt];simp [go_sem]
      ·rintro e W' ⟨rfl,hw⟩;exact ⟨_,rfl,_,rfl,hw,rfl⟩
     ·intro a W hb0 hs hp hi;have hb:=undrew hb0;clear hb0
      have t15:sl a 15 = .int .i64 R1:=hp 5 (by decide)
      have t21:sl a 21 = .int .i64 R2:=hp 11 (by decide)
      refine ite_y rfl (wp_val (.bool true) ?_ ?_)
      ·simp only [execOp,eval_tmp,eval_const,t15,t21];simp [go_sem,hd,hd2]
      ·exact ⟨_,rfl,Below.refl _ _,rfl⟩
    intro a wk hb hs hd hI ht
    have ha:=act_is [10,11,12,13,14,15,16,17,18,19,20,21,22] hs hd ht (by decide)
    have t22:sl a 22 = .bool true:=hI 12 (by decide)
    simp only [List.foldl,t22] at ha
    generalize sl a 10 = u10 at ha
    generalize sl a 11 = u11 at ha
    generalize sl a 12 = u12 at ha
    generalize sl a 13 = u13 at ha
    generalize sl a 14 = u14 at ha
    generalize sl a 15 = u15 at ha
    generalize sl a 16 = u16 at ha
    generalize sl a 17 = u17 at ha
    generalize sl a 18 = u18 at ha
    generalize sl a 19 = u19 at ha
    generalize sl a 20 = u20 at ha
    generalize sl a 21 = u21 at ha
    simp only [Act.put,List.setIfInBounds_toArray,List.set_cons_zero,List.set_cons_succ] at ha
    rw [ha]
    clear ha hI ht
    have hW:Hid (Below w.heap.size w wk):=bl hB.out hb hB.out.size
    clear hb HR CV CW C1 C2 A1 A2 A3 A4
    go_wp2_with fail
    refine Calls.mono (HA.out _ (H.out.keep hW.out)) ?_
    rintro e w5 ⟨q,c',rfl,hs,hb⟩
    have hW5:Hid (Below w.heap.size w w5):=bl hW.out hb hW.out.size
    have S5:=Lib.hid hs
    clear hb hs hW
    go_wp2_with fail
    refine Calls.mono (HB.out _ _ _ S5.out) ?_
    rintro e w6 ⟨rfl,hb⟩
    have hW6:Hid (Below w.heap.size w w6):=bl hW5.out hb hW5.out.size
    clear hb hW5 S5
    go_wp2
    go_ret2
    exact ⟨by rw [HRES.out];rfl,hW6.out⟩
   ·have hcf:clashB (kD (D.take i)) x = false:=by simpa using hc
    have he:R1 = R2:=HJ.out.2 hcf
    subst he
    have HC2:Hid (calm D (i + 1)):=fun j y hj hy=>by
     by_cases hji:j < i
     ·exact hC.out j y hji hy
     ·obtain rfl:j = i:=by omega
      rw [HX.out] at hy;cases hy;exact hcf
    have hd:((R1:Int) != (R1:Int)) = false:=by simp
    have hd2:(R1:Int) = (R1:Int):=rfl
    clear hc hcf HJ hC
    go_wp2
    refine wp_region_shapes (fun ix=>([.val (.slice (some ⟨b,o,none⟩) m c),.val (.int .i64 i),.val (.int .i64 I),.val (.slice (some ⟨b,o,none⟩) I c),(Shp.vecN I (vecsL X)),.val (.int .i64 R1),.val (.slice (some ⟨b,o,none⟩) m c),.val (.int .i64 i),.val (.int .i64 I),.val (.slice (some ⟨b,o,none⟩) I c),(Shp.vecN I (widesL X)),.val (.int .i64 R1),.val (.bool false)][ix]?).getD (.any)) 31 rfl (by kernel_rfl) (by decide) (by decide) (by decide) ?_ ?_
    ·refine ⟨?_,?_,?_,?_,?_,?_,?_,?_,?_,?_,?_,?_,?_,trivial⟩
     ·intro a W hb0 hs hp hi;have hb:=undrew hb0;clear hb0
      have t0:sl a 0 = .slice (some ⟨b,o,none⟩) m c:=hi 0 (by decide)
      exact ite_y rfl (wp_val (sl a 0) rfl ⟨_,rfl,Below.refl _ _,t0⟩)
     ·intro a W hb0 hs hp hi;have hb:=undrew hb0;clear hb0
      have t4:sl a 4 = .int .i64 i:=hi 4 (by decide)
      exact ite_y rfl (wp_val (sl a 4) rfl ⟨_,rfl,Below.refl _ _,t4⟩)
     ·intro a W hb0 hs hp hi;have hb:=undrew hb0;clear hb0
      have t11:sl a 11 = .int .i64 i:=hp 1 (by decide)
      refine ite_y rfl (wp_val (.int .i64 I) ?_ ?_)
      ·simp only [execOp,eval_tmp,eval_const,t11];simp [go_sem,A1]
      ·exact ⟨_,rfl,Below.refl _ _,rfl⟩
     ·intro a W hb0 hs hp hi;have hb:=undrew hb0;clear hb0
      have tt:sl a 10 = .slice (some ⟨b,o,none⟩) m c:=hp 0 (by decide)
      have tj:sl a 12 = .int .i64 I:=hp 2 (by decide)
      refine ite_y rfl (wp_val (.slice (some ⟨b,o,none⟩) I c) ?_ ?_)
      ·simp only [execOp,eval_tmp,tt,tj,Option.map];simp [go_sem,A2,A3,A4,Addr.add_lit]
      ·exact ⟨_,rfl,Below.refl _ _,rfl⟩
     ·intro a W hb0 hs hp hi;have hb:=undrew hb0;clear hb0
      have tt:sl a 13 = .slice (some ⟨b,o,none⟩) I c:=hp 3 (by decide)
      refine ite_y rfl (wp_enter 148 #[.slice (some ⟨b,o,none⟩) I c] ?_ (CV.out W (HR.out.keep hb)) ?_)
      ·simp only [execOp,resolve,List.map_toArray,List.map,eval_tmp,eval_func,eval_const,tt];simp [go_sem]
      ·rintro e W' ⟨q,c',rfl,hs9,hw⟩;exact ⟨_,rfl,_,rfl,hw,q,c',rfl,hs9⟩
     ·intro a W hb0 hs hp hi;have hb:=undrew hb0;clear hb0
      have tt:(Shp.vecN I (vecsL X)).ok (sl a 14) W:=hp 4 (by decide)
      obtain ⟨q4,c4,tt,s4⟩:=tt
      refine ite_y rfl (wp_enter 147 #[.slice q4 I c4] ?_ (C1.out W q4 c4 s4) ?_)
      ·simp only [execOp,resolve,List.map_toArray,List.map,eval_tmp,eval_func,eval_const,tt];simp [go_sem]
      ·rintro e W' ⟨rfl,hw⟩;exact ⟨_,rfl,_,rfl,hw,rfl⟩
     ·intro a W hb0 hs hp hi;have hb:=undrew hb0;clear hb0
      have t0:sl a 0 = .slice (some ⟨b,o,none⟩) m c:=hi 0 (by decide)
      exact ite_y rfl (wp_val (sl a 0) rfl ⟨_,rfl,Below.refl _ _,t0⟩)
     ·intro a W hb0 hs hp hi;have hb:=undrew hb0;clear hb0
      have t4:sl a 4 = .int .i64 i:=hi 4 (by decide)
      exact ite_y rfl (wp_val (sl a 4) rfl ⟨_,rfl,Below.refl _ _,t4⟩)
     ·intro a W hb0 hs hp hi;have hb:=undrew hb0;clear hb0
      have t17:sl a 17 = .int .i64 i:=hp 7 (by decide)
      refine ite_y rfl (wp_val (.int .i64 I) ?_ ?_)
      ·simp only [execOp,eval_tmp,eval_const,t17];simp [go_sem,A1]
      ·exact ⟨_,rfl,Below.refl _ _,rfl⟩
     ·intro a W hb0 hs hp hi;have hb:=undrew hb0;clear hb0
      have tt:sl a 16 = .slice (some ⟨b,o,none⟩) m c:=hp 6 (by decide)
      have tj:sl a 18 = .int .i64 I:=hp 8 (by decide)
      refine ite_y rfl (wp_val (.slice (some ⟨b,o,none⟩) I c) ?_ ?_)
      ·simp only [execOp,eval_tmp,tt,tj,Option.map];simp [go_sem,A2,A3,A4,Addr.add_lit]
      ·exact ⟨_,rfl,Below.refl _ _,rfl⟩
     ·intro a W hb0 hs hp hi;have hb:=undrew hb0;clear hb0
      have tt:sl a 19 = .slice (some ⟨b,o,none⟩) I c:=hp 9 (by decide)
      refine ite_y rfl (wp_enter 149 #[.slice (some ⟨b,o,none⟩) I c] ?_ (CW.out W (HR.out.keep hb)) ?_)
      ·simp only [execOp,resolve,List.map_toArray,List.map,eval_tmp,eval_func,eval_const,tt];simp [go_sem]
      ·rintro e W' ⟨q,c',rfl,hs9,hw⟩;exact ⟨_,rfl,_,rfl,hw,q,c',rfl,hs9⟩
     ·intro a W hb0 hs hp hi;have hb:=undrew hb0;clear hb0
      have tt:(Shp.vecN I (widesL X)).ok (sl a 20) W:=hp 10 (by decide)
      obtain ⟨q4,c4,tt,s4⟩:=tt
      refine ite_y rfl (wp_enter 147 #[.slice q4 I c4] ?_ (C2.out W q4 c4 s4) ?_)
      ·simp only [execOp,resolve,List.map_toArray,List.map,eval_tmp,eval_func,eval_const,tt];simp [go_sem]
      ·rintro e W' ⟨rfl,hw⟩;exact ⟨_,rfl,_,rfl,hw,rfl⟩
     ·intro a W hb0 hs hp hi;have hb:=undrew hb0;clear hb0
      have t15:sl a 15 = .int .i64 R1:=hp 5 (by decide)
      have t21:sl a 21 = .int .i64 R1:=hp 11 (by decide)
      refine ite_y rfl (wp_val (.bool false) ?_ ?_)
      ·simp only [execOp,eval_tmp,eval_const,t15,t21];simp [go_sem]
      ·exact ⟨_,rfl,Below.refl _ _,rfl⟩
    intro a wk hb hs hd hI ht
    have ha:=act_is [10,11,12,13,14,15,16,17,18,19,20,21,22] hs hd ht (by decide)
    have t22:sl a 22 = .bool false:=hI 12 (by decide)
    simp only [List.foldl,t22] at ha
    generalize sl a 10 = u10 at ha
    generalize sl a 11 = u11 at ha
    generalize sl a 12 = u12 at ha
    generalize sl a 13 = u13 at ha
    generalize sl a 14 = u14 at ha
    generalize sl a 15 = u15 at ha
    generalize sl a 16 = u16 at ha
    generalize sl a 17 = u17 at ha
    generalize sl a 18 = u18 at ha
    generalize sl a 19 = u19 at ha
    generalize sl a 20 = u20 at ha
    generalize sl a 21 = u21 at ha
    simp only [Act.put,List.setIfInBounds_toArray,List.set_cons_zero,List.set_cons_succ] at ha
    rw [ha]
    clear ha hI ht
    have hW:Hid (Below w.heap.size w wk):=bl hB.out hb hB.out.size
    clear hb HR CV CW C1 C2 A1 A2 A3 A4 hB hd hd2
    go_wp2
    go_roundw
    case rel=>exact ⟨i + 1,by omega,by go_num,HC2.out,hW.out⟩
    case measure=>simp [intOf];omega
  ·obtain rfl:i = m:=by omega
   have HRES:Hid (clashI D i = -1):=calm_clashI i hC.out
   clear hC
   go_wp2_with fail
   refine Calls.mono (HA.out _ (H.out.keep hB.out)) ?_
   rintro e w5 ⟨q,c',rfl,hs,hb⟩
   have hW5:Hid (Below w.heap.size w w5):=bl hB.out hb hB.out.size
   have S5:=Lib.hid hs
   clear hb hs hB
   go_wp2_with fail
   refine Calls.mono (HB.out _ _ _ S5.out) ?_
   rintro e w6 ⟨rfl,hb⟩
   have hW6:Hid (Below w.heap.size w w6):=bl hW5.out hb hW5.out.size
   clear hb hW5 S5
   go_wp2
   go_ret2
   exact ⟨by rw [HRES.out];rfl,hW6.out⟩
end Go.Proofs.YtccaiiigdfieoaaGreatDoor
namespace Go.By
open Go.RowKit Go.Proofs.YtccaiiigdfieoaaGreatDoor Gf Go.Maps
theorem read_fit {k t D:Nat} {xs:List UInt8} (h:readC k t D xs = 0):Fit k t (eqX k t xs):=by
 obtain ⟨h1,h2,h3⟩:=read_fits h
 refine ⟨?_,h3⟩
 show (vecS (pktM xs) (pktX k xs) (pktS k xs) k).length = k
 unfold vecS
 by_cases h0:pktM xs = 0
 ·rw [if_pos h0];exact h2 h0
 ·rw [if_neg h0];exact mixRow_len _ _
theorem clashI_front (X:List Rw) (x:Rw):∀ j,j≤X.length→clashI (X ++ [x]) j = clashI X j
 | 0,_=>rfl
 | j + 1,hj=>by
  have h1:X[j]? = some X[j]:=List.getElem?_eq_getElem (by omega)
  have h2:(X ++ [x])[j]? = some X[j]:=by rw [List.getElem?_append_left (by omega),h1]
  rw [clashI_step h1,clashI_step h2,clashI_front X x j (by omega),List.take_append_of_le_length (by omega)]
structure RefS (k t:Nat) (X K:List Rw):Prop where
 sys:Go.Proofs.YtccaiiigdfieoaaGreatDoor.Sys k t (kD X) K
 fit:∀ x,x ∈ X→Fit k t x
 calm:∀ j,j≤X.length→clashI X j = -1
theorem RefS.nil (k t:Nat):RefS k t [] []:=⟨Sys.nil k t,fun x h=>(by cases h),fun j h=>by
 have:j = 0:=by simpa using h
 rw [this];rfl⟩
def refX (k t D:Nat) (X:List Rw) (st:Nat) (xs:List UInt8):List Rw:=if readC k t D xs = 0∧st = 0∧clashI (X ++ [eqX k t xs]) (X.length + 1) < 0 then X ++ [eqX k t xs] else X
def refZ (k t D:Nat) (X:List Rw) (st:Nat) (xs:List UInt8):Nat:=if readC k t D xs = 0∧st = 0 then (if clashI (X ++ [eqX k t xs]) (X.length + 1) < 0 then (if (kD (X ++ [eqX k t xs])).length = k then 1 else 0) else 2) else st
theorem refX_len (k t D:Nat) (X:List Rw) (st:Nat) (xs:List UInt8):(refX k t D X st xs).length≤X.length + 1:=by
 unfold refX;split <;> simp
theorem RefS.take {k t D st:Nat} {X K:List Rw} (h:RefS k t X K) (xs:List UInt8):RefS k t (refX k t D X st xs) (takeK k t D K st xs)∧refZ k t D X st xs = takeS k t D K st xs:=by
 unfold refX refZ takeK takeS
 by_cases hc:readC k t D xs = 0∧st = 0
 ·rw [if_pos hc,if_pos hc,if_pos hc]
  obtain ⟨hr,h0⟩:=hc
  have hf:=read_fit hr
  generalize eqX k t xs = x at *
  have h1:(X ++ [x])[X.length]? = some x:=by simp
  have e1:clashI (X ++ [x]) (X.length + 1) = if clashB (kD X) x = true then (X.length:Int) else -1:=by
   rw [clashI_step h1,clashI_front X x _ (Nat.le_refl _),h.calm _ (Nat.le_refl _),List.take_left]
   by_cases hb:clashB (kD X) x = true
   ·rw [if_pos ⟨hb,by decide⟩,if_pos hb]
   ·rw [if_neg (fun g=>hb g.1),if_neg hb]
  have e2:clashB (kD X) x = clashB K x:=sys_clash h.sys hf
  rw [e2] at e1
  by_cases hb:clashB K x = true
  ·rw [if_pos hb] at e1
   have hn:¬ clashI (X ++ [x]) (X.length + 1) < 0:=by rw [e1];omega
   have h2:codeF K x = 2:=clashB_code.1 hb
   rw [if_neg (fun g=>hn g.2.2),if_neg hn]
   have hl:leadS (restF K x).1 < 0:=by
    unfold codeF at h2
    by_cases g:leadS (restF K x).1 < 0
    ·exact g
    ·rw [if_neg g] at h2;cases h2
   refine ⟨?_,?_⟩
   ·unfold putK;rw [if_pos hl];exact h
   ·unfold nextS;rw [if_pos h2]
  ·rw [if_neg hb] at e1
   have hn:clashI (X ++ [x]) (X.length + 1) < 0:=by rw [e1];decide
   have h2:codeF K x≠2:=fun g=>hb (clashB_code.2 g)
   rw [if_pos ⟨hr,h0,hn⟩,if_pos hn]
   have hs:=h.sys.putX hf
   refine ⟨⟨hs,fun y hy=>?_,fun j hj=>?_⟩,?_⟩
   ·rcases List.mem_append.1 hy with hy | hy
    ·exact h.fit y hy
    ·simp at hy;rw [hy];exact hf
   ·rw [List.length_append] at hj
    rcases Nat.lt_or_ge j (X.length + 1) with g | g
    ·rw [clashI_front X x j (by omega)];exact h.calm j (by omega)
    ·have:j = X.length + 1:=by simp at hj;omega
     rw [this];exact e1
   ·unfold nextS
    rw [if_neg h2,sys_len hs]
 ·rw [if_neg hc,if_neg hc,if_neg hc,if_neg (fun g=>hc ⟨g.1,g.2.1⟩)]
  exact ⟨h,rfl⟩
def OldB (wI w:World) (v:Value) (xs:List UInt8):Prop:=∃ q n c,v = .slice q n c∧(Sl B8 wI q n c xs∨Fresh 5 wI.heap.size w q n c xs)
theorem OldB.keep {wI w w':World} {v:Value} {xs:List UInt8} (h:OldB wI w v xs) (hb:Below w.heap.size w w'):OldB wI w' v xs:=by
 obtain ⟨q,n,c,e,h | h⟩:=h
 ·exact ⟨q,n,c,e,.inl h⟩
 ·exact ⟨q,n,c,e,.inr (h.keep hb)⟩
theorem OldB.same {wI w w':World} {v:Value} {xs:List UInt8} (h:OldB wI w v xs) (hp:∀ (b:Nat) (cs:Array Value) (fr:Nat × Nat),w.heap[b]? = some (.cells cs 5 fr)→w'.heap[b]? = w.heap[b]?):OldB wI w' v xs:=by
 obtain ⟨q,n,c,e,h | h⟩:=h
 ·exact ⟨q,n,c,e,.inl h⟩
 ·exact ⟨q,n,c,e,.inr (fresh_same h hp)⟩
theorem OldB.sl {wI w:World} {v:Value} {xs:List UInt8} (h:OldB wI w v xs) (hb:Below wI.heap.size wI w):∃ q n c,v = .slice q n c∧Sl B8 w q n c xs:=by
 obtain ⟨q,n,c,e,h | h⟩:=h
 ·exact ⟨q,n,c,e,h.keep hb⟩
 ·exact ⟨q,n,c,e,h.sl⟩
def RRef (wI w:World) (q:Option Addr) (n c:Nat) (X:List Rw):Prop :=
 ∃ vs:List (Value × Value),w.ownsRow wI.heap.size 101 2 (.slice q n c) n (fl2 vs)∧vs.length = n∧X.length = n∧∀ (j:Nat) (u:Value × Value),vs[j]? = some u→∃ k,X[j]? = some k∧OldB wI w u.1 k.1∧OldB wI w u.2 k.2
section
variable {wI w w':World} {q:Option Addr} {n c:Nat} {X:List Rw}
theorem RRef.nil (wI w:World):RRef wI w none 0 0 []:=⟨[],World.ownsRow_nil _ _ _ _,rfl,rfl,fun j u h=>by simp at h⟩
theorem RRef.keep (h:RRef wI w q n c X) (hb:Below w.heap.size w w'):RRef wI w' q n c X:=by
 obtain ⟨vs,o,l1,l2,r⟩:=h
 exact ⟨vs,owns_keep o hb,l1,l2,fun j u hj=>by obtain ⟨k,hk,g1,g2⟩:=r j u hj;exact ⟨k,hk,g1.keep hb,g2.keep hb⟩⟩
theorem RRef.same (h:RRef wI w q n c X) (hsz:w.heap.size≤w'.heap.size) (h1:∀ (b:Nat) (cs:Array Value) (fr:Nat × Nat),w.heap[b]? = some (.cells cs 5 fr)→w'.heap[b]? = w.heap[b]?) (h2:∀ (b:Nat) (cs:Array Value) (fr:Nat × Nat),w.heap[b]? = some (.cells cs 101 fr)→w'.heap[b]? = w.heap[b]?):RRef wI w' q n c X:=by
 obtain ⟨vs,o,l1,l2,r⟩:=h
 refine ⟨vs,owns_same o hsz fun g hg=>?_,l1,l2,fun j u hj=>by obtain ⟨k,hk,g1,g2⟩:=r j u hj;exact ⟨k,hk,g1.same h1,g2.same h1⟩⟩
 rcases o.2 with ⟨e1,_⟩ | ⟨g',cap,cur,e1,_,hh,_⟩
 ·rw [e1] at hg;cases hg
 ·rw [e1] at hg;cases hg
  exact h2 _ _ _ hh
theorem RRef.len (h:RRef wI w q n c X):X.length = n:=by obtain ⟨_,_,_,h,_⟩:=h;exact h
theorem RRef.vals (h:RRef wI w q n c X):∃ vs,RwV w q n c vs∧vs.length = n∧∀ (j:Nat) (u:Value × Value),vs[j]? = some u→∃ k,X[j]? = some k∧OldB wI w u.1 k.1∧OldB wI w u.2 k.2:=by
 obtain ⟨vs,o,l1,l2,r⟩:=h
 refine ⟨vs,RwV.of_owns o fun u hu=>?_,l1,r⟩
 obtain ⟨x,hx,hu⟩:=List.mem_flatMap.1 (show u ∈ vs.flatMap (fun p=>[p.1,p.2]) from hu)
 obtain ⟨j,hj,e⟩:=List.getElem_of_mem hx
 obtain ⟨k,_,⟨q1,n1,c1,e1,_⟩,⟨q2,n2,c2,e2,_⟩⟩:=r j x (by rw [List.getElem?_eq_getElem hj,e])
 simp at hu
 rcases hu with rfl | rfl
 ·rw [e1];rfl
 ·rw [e2];rfl
theorem RRef.rwS (h:RRef wI w q n c X) (hb:Below wI.heap.size wI w):RwS w q n c X:=by
 obtain ⟨vs,hv,l1,r⟩:=h.vals
 refine ⟨h.len,hv.le,hv.max,hv.nil,fun j k hj=>?_⟩
 have hjn:j < n:=by have:=(List.getElem?_eq_some_iff.1 hj).1;have:=h.len;omega
 obtain ⟨k',hk',g1,g2⟩:=r j vs[j] (List.getElem?_eq_getElem (by omega))
 rw [hj] at hk';cases hk'
 obtain ⟨q1,m1,c1,e1,s1⟩:=g1.sl hb
 obtain ⟨q2,m2,c2,e2,s2⟩:=g2.sl hb
 have c0:=fl2_at (vs:=vs) (List.getElem?_eq_getElem (show j < vs.length by omega))
 obtain ⟨b,o,e,hc⟩:=hv.cell (j * 2) _ c0.1
 obtain ⟨b',o',e',hc'⟩:=hv.cell (j * 2 + 1) _ c0.2
 rw [e] at e';cases e'
 exact ⟨b,o,q1,m1,c1,q2,m2,c2,e,by rw [hc,e1],by rw [← e2];exact hc',s1,s2⟩
end
theorem os_rrow:OthS 101:=⟨by decide,by decide,by decide,by decide⟩
theorem RRef.keepS {wI w w':World} {q:Option Addr} {n c:Nat} {X:List Rw} (h:RRef wI w q n c X) (hk:KeepS w w'):RRef wI w' q n c X:=h.same hk.size (hk.same _ os_u8) (hk.same _ os_rrow)
end Go.By
namespace Go.By
open Go.RowKit Go.Proofs.YtccaiiigdfieoaaGreatDoor
def ShVq (m:UInt8) (B:Nat) (p:Option Addr) (j c:Nat) (ys:List UInt8):Shp:=⟨fun v w=>VecQ m B w v p j c ys,fun _ _ _ h hb=>by
 rcases h with h | ⟨h,q,n,c',e,g⟩
 ·exact .inl h
 ·exact .inr ⟨h,q,n,c',e,g.keep hb⟩⟩
def ShEq (m:UInt8) (B:Nat) (p:Option Addr) (j c:Nat) (ys:List UInt8) (u:Value):Shp:=⟨fun v w=>∃ q n c',v = .agg #[.slice q n c',u]∧VecQ m B w (.slice q n c') p j c ys,fun _ _ _ ⟨q,n,c',e,h⟩ hb=>⟨q,n,c',e,by
 rcases h with h | ⟨h,q,n,c',e,g⟩
 ·exact .inl h
 ·exact .inr ⟨h,q,n,c',e,g.keep hb⟩⟩⟩
def ShNewR (T B:Nat) (cs:Array Value):Shp:=⟨fun v w=>∃ g,v = .pointer (some ⟨g,0,none⟩)∧B≤g∧w.heap[g]? = some (.cells cs T (0,0)),fun _ _ _ ⟨g,e,h1,h2⟩ hb=>⟨g,e,h1,(hb.block _ (lt_of_block h2)).trans h2⟩⟩
end Go.By
namespace Go.Proofs.YtccaiiigdfieoaaGreatDoor
open Go.RowKit Go.By Gf Go.Maps
theorem info_rrow3:(Tryz.prog.info? 101).map (fun i=>(i.zero,i.size,i.bytes)) = some (some (.agg #[.slice none 0 0,.slice none 0 0]),2,48):=by kernel_rfl
theorem info_rrow2:(Tryz.prog.info? 101).map (·.size) = some 2:=by kernel_rfl
def TkR19 (wI w:World) (X:List Rw) (st:Nat) (code:Int) (e:Ending) (w':World):Prop :=
 ∃ q n c,e = .returned (.tuple #[.slice q n c,.int .i64 (st:Nat),.int .i64 code])∧RRef wI w' q n c X∧Below w.heap.size w w'
set_option maxRecDepth 100000 in
set_option maxHeartbeats 2000000 in
theorem RTake19_no (L t k D:Nat) (q:Option Addr) (n c:Nat) (X:List Rw) (st:Nat) (p:Option Addr) (m d:Nat) (xs:List UInt8) (wI w:World) (hP:POK L t k D) (hB:Below wI.heap.size wI w) (hR:RRef wI w q n c X) (hs:Sl B8 wI p m d xs) (hx:¬ (readC k t D xs = 0∧st = 0)) :
  Calls Tryz.prog 28 #[PVal L t k D,.slice q n c,.int .i64 (st:Nat),.slice p m d] w (TkR19 wI w X st (readC k t D xs)):=by
 have HR:=Lib.hid hR
 have HRD:Hid (∀ W,Below w.heap.size w W→Calls Tryz.prog 83 #[PVal L t k D,.slice p m d] W fun e w'=>∃ a1 a2 a3 a4 b1 b2 b3 b4 b5 b6 b7,e = .returned (.tuple #[PkVal a1 a2 a3 a4 b1 b2 b3 b4 b5 b6 b7,.int .i64 (readC k t D xs)])∧Below W.heap.size W w'):=fun W hb=>by
  refine Calls.mono (RRead15_any L t k D p m d xs W hP (hs.keep (bl hB hb hB.size))) ?_
  rintro e w' ⟨hb,⟨h0,_,_,_,_,_,rfl,_⟩ | ⟨h0,rfl⟩⟩
  ·exact ⟨_,_,_,_,_,_,_,_,_,_,_,by rw [h0],hb⟩
  ·exact ⟨0,0,0,0,none,0,0,0,none,0,0,rfl,hb⟩
 have e0:(readC k t D xs != 0) = true∨((readC k t D xs != 0) = false∧((st:Int) != 0) = true):=by
  by_cases h:readC k t D xs = 0
  ·refine .inr ⟨by rw [h];rfl,bne_iff_ne.2 fun g=>hx ⟨h,by omega⟩⟩
  ·exact .inl (bne_iff_ne.2 h)
 generalize readC k t D xs = C at *
 clear hP hR hs hx
 rcases e0 with e0 | ⟨e0,e1⟩
 all_goals
  go_enter Tryz.func28,Tryz.ntmps28
  go_wp2_with fail
  have ba:Below w.heap.size w (w.alloc (.cells #[.int .i64 (L:Nat),.int .i64 (t:Nat),.int .i64 (k:Nat),.int .u32 (D:Nat)] 52 (0,0))):=al (Below.refl _ _) (Nat.le_refl _)
  refine Calls.mono (HRD.out _ ba) ?_
  rintro e w1 ⟨a1,a2,a3,a4,b1,b2,b3,b4,b5,b6,b7,rfl,hb⟩
  have HB:=Lib.hid (bl ba hb ba.size)
  clear hb ba HRD
  go_wp2
  go_ret3
  exact ⟨q,n,c,rfl,HR.out.keep (al HB.out HB.out.size),al HB.out HB.out.size⟩
set_option maxRecDepth 100000 in
set_option maxHeartbeats 4000000 in
theorem RTake19_yes (L t k D:Nat) (q:Option Addr) (n c:Nat) (X:List Rw) (p:Option Addr) (m d:Nat) (xs:List UInt8) (wI w:World) (hP:POK L t k D) (hB:Below wI.heap.size wI w) (hR:RRef wI w q n c X) (hs:Sl B8 wI p m d xs) (hf:∀ x,x ∈ X→Fit k t x) (hn:n≤4000) (hx:readC k t D xs = 0) :
  Calls Tryz.prog 28 #[PVal L t k D,.slice q n c,.int .i64 0,.slice p m d] w (TkR19 wI w (refX k t D X 0 xs) (refZ k t D X 0 xs) 0):=by
 obtain ⟨r0,hr0,hrz,hr1',hr2'⟩:=info_parts info_rrow3
 have HR:=Lib.hid hR
 have HBI:=Lib.hid hB
 have hm0:=(read_fits hx).1
 have hfx:=read_fit hx
 have hXl:=hR.len
 have HK:Hid (∀ (M:Nat) (p1:Option Addr) (j1 c1:Nat) (q2:Option Addr) (d2:Nat) (W:World),(pktM xs = 0→j1 = k)→Calls Tryz.prog 84 #[PVal L t k D,PkVal (pktM xs) D M (pktM xs) p1 j1 c1 (pktS k xs) q2 t d2] W fun e w'=>∃ v,e = .returned v∧VecQ (pktM xs) W.heap.size w' v p1 j1 c1 (vecS (pktM xs) (pktX k xs) (pktS k xs) k)∧Below W.heap.size W w'):=fun M p1 j1 c1 q2 d2 W hj=>RVector15_any L t k D D M (pktM xs) p1 j1 c1 (pktS k xs) q2 t d2 (pktX k xs) W hP hm0 hj
 have HRD:Hid (∀ W,Below w.heap.size w W→Calls Tryz.prog 83 #[PVal L t k D,.slice p m d] W fun e w'=>∃ q1 j1 c1 q2 d2,e = .returned (.tuple #[PkVal (pktM xs) D (pktN xs) (pktM xs) q1 j1 c1 (pktS k xs) q2 t d2,.int .i64 0])∧Sl B8 wI q1 j1 c1 (pktX k xs)∧(pktM xs = 0→j1 = k)∧Sl B8 wI q2 t d2 (pktY k t xs)∧Below W.heap.size W w'):=fun W hb=>by
  refine Calls.mono (RRead15_any L t k D p m d xs W hP (hs.keep (bl hB hb hB.size))) ?_
  rintro e w' ⟨hb,⟨h0,q1,j1,c1,q2,d2,rfl,g1,g2,g3⟩ | ⟨h0,-⟩⟩
  ·exact ⟨q1,j1,c1,q2,d2,rfl,g1 wI hs,g2,g3 wI hs,hb⟩
  ·exact absurd hx h0
 obtain ⟨x,hxe⟩:∃ x,x = eqX k t xs:=⟨_,rfl⟩
 have HXV:Hid (x.1 = vecS (pktM xs) (pktX k xs) (pktS k xs) k∧x.2 = pktY k t xs∧(pktM xs = 0→vecS (pktM xs) (pktX k xs) (pktS k xs) k = pktX k xs)):=⟨by rw [hxe];rfl,by rw [hxe];rfl,fun h=>by unfold vecS;rw [if_pos h]⟩
 have HJD:Hid (∀ W a b,RwS W a (n + 1) b (X ++ [x])→Calls Tryz.prog 85 #[.slice a (n + 1) b] W fun e w'=>e = .returned (.tuple #[.int .i64 (kD (X ++ [x])).length,.int .i64 (clashI (X ++ [x]) (X.length + 1))])∧Below W.heap.size W w'):=fun W a b h=>by
  have:=RJudge_any k t a (n + 1) b (X ++ [x]) W h hP.k2 hP.t2 (by omega) (fun y hy=>by
   rcases List.mem_append.1 hy with hy | hy
   ·exact hf y hy
   ·simp at hy;rw [hy,hxe];exact hfx)
  rw [hXl];exact this
 have HQ:Hid (refX k t D X 0 xs = (if clashI (X ++ [x]) (X.length + 1) < 0 then X ++ [x] else X)∧refZ k t D X 0 xs = (if clashI (X ++ [x]) (X.length + 1) < 0 then (if (kD (X ++ [x])).length = k then 1 else 0) else 2)):=by
  unfold refX refZ
  rw [← hxe]
  refine ⟨?_,?_⟩
  ·by_cases h:clashI (X ++ [x]) (X.length + 1) < 0
   ·rw [if_pos ⟨hx,rfl,h⟩,if_pos h]
   ·rw [if_neg (fun g=>h g.2.2),if_neg h]
  ·rw [if_pos ⟨hx,rfl⟩]
 generalize refX k t D X 0 xs = X' at *
 generalize refZ k t D X 0 xs = Z' at *
 generalize pktM xs = M at *
 generalize pktN xs = PN at *
 generalize pktS k xs = S at *
 generalize vecS M (pktX k xs) S k = VX at *
 generalize pktX k xs = PX at *
 generalize pktY k t xs = PY at *
 generalize (kD (X ++ [x])).length = rk at *
 generalize clashI (X ++ [x]) (X.length + 1) = CL at *
 clear hP hB hR hs hf hx hm0 hfx hxe hXl
 go_enter Tryz.func28,Tryz.ntmps28
 go_wp2_with fail
 have ba:Below w.heap.size w (w.alloc (.cells #[.int .i64 (L:Nat),.int .i64 (t:Nat),.int .i64 (k:Nat),.int .u32 (D:Nat)] 52 (0,0))):=al (Below.refl _ _) (Nat.le_refl _)
 have kp1:(w.alloc (.cells #[.int .i64 (L:Nat),.int .i64 (t:Nat),.int .i64 (k:Nat),.int .u32 (D:Nat)] 52 (0,0))).heap[w.heap.size]? = some (.cells #[.int .i64 (L:Nat),.int .i64 (t:Nat),.int .i64 (k:Nat),.int .u32 (D:Nat)] 52 (0,0)):=hnew rfl
 refine Calls.mono (HRD.out _ ba) ?_
 rintro e w1 ⟨q1,j1,c1,q2,d2,rfl,g1,g2,g3,hb⟩
 obtain ⟨gp,hgp⟩:∃ gp,gp = w.heap.size:=⟨_,rfl⟩
 have kp:=(hb.block _ (lt_of_block kp1)).trans kp1
 rw [← hgp] at kp ⊢
 have HB1:=Lib.hid (bl ba hb ba.size)
 have G1:=Lib.hid g1
 have G2:=Lib.hid g2
 have G3:=Lib.hid g3
 clear hb ba kp1 hgp HRD g1 g2 g3
 have ba:Below w1.heap.size w1 (w1.alloc (.cells #[B8 M,.int .u32 (D:Nat),.int .u32 (PN:Nat),B8 M,.slice q1 j1 c1,.int .u64 (S:Nat),.slice q2 t d2] 153 (0,0))):=al (Below.refl _ _) (Nat.le_refl _)
 have kk:(w1.alloc (.cells #[B8 M,.int .u32 (D:Nat),.int .u32 (PN:Nat),B8 M,.slice q1 j1 c1,.int .u64 (S:Nat),.slice q2 t d2] 153 (0,0))).heap[w1.heap.size]? = some (.cells #[B8 M,.int .u32 (D:Nat),.int .u32 (PN:Nat),B8 M,.slice q1 j1 c1,.int .u64 (S:Nat),.slice q2 t d2] 153 (0,0)):=hnew rfl
 have kp2:=(ba.block _ (lt_of_block kp)).trans kp
 have HB2:=Lib.hid (bl HB1.out ba HB1.out.size)
 go_upto_region 4 with (fail)
 obtain ⟨gk,hgk⟩:∃ gk,gk = w1.heap.size:=⟨_,rfl⟩
 rw [← hgk] at kk ⊢
 generalize w1.alloc (.cells #[B8 M,.int .u32 (D:Nat),.int .u32 (PN:Nat),B8 M,.slice q1 j1 c1,.int .u64 (S:Nat),.slice q2 t d2] 153 (0,0)) = w2 at *
 clear hgk kp ba HB1
 obtain ⟨z0,z1,z2,z3⟩:=cells_four kp2
 obtain ⟨f0,f1,f2,f3,f4,f5,f6⟩:=cells_seven kk
 refine wp_region_tail (fun ix=>([.val (.agg #[.int .i64 (L:Nat),.int .i64 (t:Nat),.int .i64 (k:Nat),.int .u32 (D:Nat)]),.val (.agg #[B8 M,.int .u32 (D:Nat),.int .u32 (PN:Nat),B8 M,.slice q1 j1 c1,.int .u64 (S:Nat),.slice q2 t d2]),(ShVq M w2.heap.size q1 j1 c1 VX),.val (.pointer (some ⟨gk,6,none⟩)),.val (.slice q2 t d2),(ShEq M w2.heap.size q1 j1 c1 VX (.slice q2 t d2)),(ShNewR 101 w2.heap.size #[.slice none 0 0,.slice none 0 0]),.any][ix]?).getD (.any)) 59 7 rfl (by kernel_rfl) (by decide +kernel) (by decide +kernel) (by decide +kernel) (by decide +kernel) ?_ ?_
 ·refine ⟨?_,?_,?_,?_,?_,?_,?_,trivial⟩
  ·intro a W hb0 hs hp hi;have hb:=undrew hb0;clear hb0
   have tt:sl a 4 = .pointer (some ⟨gp,0,none⟩):=hi 4 (by decide)
   have dd0:=(hb.cell (p:=⟨gp,0,none⟩) (lt_of_cell z0)).trans z0
   have dd1:=(hb.cell (p:=⟨gp,1,none⟩) (lt_of_cell z1)).trans z1
   have dd2:=(hb.cell (p:=⟨gp,2,none⟩) (lt_of_cell z2)).trans z2
   have dd3:=(hb.cell (p:=⟨gp,3,none⟩) (lt_of_cell z3)).trans z3
   refine ite_y rfl (wp_val (.agg #[.int .i64 (L:Nat),.int .i64 (t:Nat),.int .i64 (k:Nat),.int .u32 (D:Nat)]) ?_ ?_)
   ·simp only [execOp,eval_tmp,tt];simp [go_sem,dd0,dd1,dd2,dd3]
   ·exact ⟨_,rfl,Below.refl _ _,rfl⟩
  ·intro a W hb0 hs hp hi;have hb:=undrew hb0;clear hb0
   have tt:sl a 11 = .pointer (some ⟨gk,0,none⟩):=hi 11 (by decide)
   have dd0:=(hb.cell (p:=⟨gk,0,none⟩) (lt_of_cell f0)).trans f0
   have dd1:=(hb.cell (p:=⟨gk,1,none⟩) (lt_of_cell f1)).trans f1
   have dd2:=(hb.cell (p:=⟨gk,2,none⟩) (lt_of_cell f2)).trans f2
   have dd3:=(hb.cell (p:=⟨gk,3,none⟩) (lt_of_cell f3)).trans f3
   have dd4:=(hb.cell (p:=⟨gk,4,none⟩) (lt_of_cell f4)).trans f4
   have dd5:=(hb.cell (p:=⟨gk,5,none⟩) (lt_of_cell f5)).trans f5
   have dd6:=(hb.cell (p:=⟨gk,6,none⟩) (lt_of_cell f6)).trans f6
   refine ite_y rfl (wp_val (.agg #[B8 M,.int .u32 (D:Nat),.int .u32 (PN:Nat),B8 M,.slice q1 j1 c1,.int .u64 (S:Nat),.slice q2 t d2]) ?_ ?_)
   ·simp only [execOp,eval_tmp,tt];simp [go_sem,dd0,dd1,dd2,dd3,dd4,dd5,dd6]
   ·exact ⟨_,rfl,Below.refl _ _,rfl⟩
  ·intro a W hb0 hs hp hi;have hb:=undrew hb0;clear hb0
   have t32:sl a 32 = .agg #[.int .i64 (L:Nat),.int .i64 (t:Nat),.int .i64 (k:Nat),.int .u32 (D:Nat)]:=hp 0 (by decide)
   have t33:sl a 33 = .agg #[B8 M,.int .u32 (D:Nat),.int .u32 (PN:Nat),B8 M,.slice q1 j1 c1,.int .u64 (S:Nat),.slice q2 t d2]:=hp 1 (by decide)
   refine ite_y rfl (wp_enter 84 #[.agg #[.int .i64 (L:Nat),.int .i64 (t:Nat),.int .i64 (k:Nat),.int .u32 (D:Nat)],.agg #[B8 M,.int .u32 (D:Nat),.int .u32 (PN:Nat),B8 M,.slice q1 j1 c1,.int .u64 (S:Nat),.slice q2 t d2]] ?_ (HK.out PN q1 j1 c1 q2 d2 W G2.out) ?_)
   ·simp only [execOp,resolve,List.map_toArray,List.map,eval_tmp,eval_func,eval_const,t32,t33];simp [go_sem]
   ·rintro e W' ⟨v5,rfl,hv,hw⟩
    refine ⟨_,rfl,_,rfl,hw,?_⟩
    rcases hv with hv | ⟨h,qf,nf,cf,e,g⟩
    ·exact .inl hv
    ·exact .inr ⟨h,qf,nf,cf,e,g.mono hb.size⟩
  ·intro a W hb0 hs hp hi;have hb:=undrew hb0;clear hb0
   have t11:sl a 11 = .pointer (some ⟨gk,0,none⟩):=hi 11 (by decide)
   refine ite_y rfl (wp_val (.pointer (some ⟨gk,6,none⟩)) ?_ ?_)
   ·simp only [execOp,eval_tmp,eval_const,t11];simp [go_sem]
   ·exact ⟨_,rfl,Below.refl _ _,rfl⟩
  ·intro a W hb0 hs hp hi;have hb:=undrew hb0;clear hb0
   have tt:sl a 35 = .pointer (some ⟨gk,6,none⟩):=hp 3 (by decide)
   have dd:=(hb.cell (p:=⟨gk,6,none⟩) (lt_of_cell f6)).trans f6
   refine ite_y rfl (wp_val (.slice q2 t d2) ?_ ?_)
   ·simp only [execOp,eval_tmp,tt];simp [go_sem,dd]
   ·exact ⟨_,rfl,Below.refl _ _,rfl⟩
  ·intro a W hb0 hs hp hi;have hb:=undrew hb0;clear hb0
   have t34:VecQ M w2.heap.size W (sl a 34) q1 j1 c1 VX:=hp 2 (by decide)
   have t36:sl a 36 = .slice q2 t d2:=hp 4 (by decide)
   obtain ⟨qf,nf,cf,t34e⟩:∃ qf nf cf,sl a 34 = .slice qf nf cf:=by
    rcases t34 with ⟨_,e⟩ | ⟨_,qf,nf,cf,e,_⟩
    ·exact ⟨_,_,_,e⟩
    ·exact ⟨_,_,_,e⟩
   rw [t34e] at t34
   have v34:a.tmps[34]?.getD undef = sl a 34:=by simp [sl]
   rw [t34e] at v34
   have v36:a.tmps[36]?.getD undef = sl a 36:=by simp [sl]
   rw [t36] at v36
   refine ite_y rfl (wp_val (.agg #[.slice qf nf cf,.slice q2 t d2]) ?_ ?_)
   ·simp only [execOp,eval_tmp,t34e,t36];simp [go_sem,v34,v36,Tryz.underlying101]
   ·exact ⟨_,rfl,Below.refl _ _,qf,nf,cf,rfl,t34⟩
  ·intro a W hb0 hs hp hi;have hb:=undrew hb0;clear hb0
   refine ite_y rfl (wp_val' (w':=W.alloc (.cells #[.slice none 0 0,.slice none 0 0] 101)) (.pointer (some ⟨W.heap.size,0,none⟩)) ?_ ?_)
   ·simp only [execOp];simp [go_sem]
   ·exact ⟨_,rfl,al (Below.refl _ _) (Nat.le_refl _),_,rfl,hb.size,hnew rfl⟩
 intro a w3 hb hs hd hI ht
 have ha:=act_is [32,33,34,35,36,37,13] hs hd ht (by decide)
 have y13:=hI 6 (by decide)
 obtain ⟨g13,t13,hg13,hh13⟩:=y13
 have y37:=hI 5 (by decide)
 obtain ⟨qv,nv,cv,t37,hvq⟩:=y37
 simp only [List.foldl,t13,t37] at ha
 generalize sl a 32 = u32 at ha
 generalize sl a 33 = u33 at ha
 generalize sl a 34 = u34 at ha
 generalize sl a 35 = u35 at ha
 generalize sl a 36 = u36 at ha
 simp only [Act.put,List.setIfInBounds_toArray,List.set_cons_zero,List.set_cons_succ] at ha
 rw [ha];clear ha hI ht hs hd
 simp only [List.drop_succ_cons,List.drop_zero]
 have kp3:=(hb.block _ (lt_of_block kp2)).trans kp2
 have HB3:=Lib.hid (bl HB2.out hb HB2.out.size)
 have HG3:Hid (w.heap.size≤g13):=Nat.le_trans HB2.out.size hg13
 have HGP:Hid (gp < g13):=by have:=lt_of_block kp2;show gp < g13;omega
 have HVQ:Hid (OldB wI w3 (.slice qv nv cv) x.1):=by
  obtain ⟨x1,x2,x3⟩:=HXV.out
  rcases hvq with ⟨h0,e⟩ | ⟨h0,qf,nf,cf,e,hfr⟩
  ·exact ⟨_,_,_,e,.inl (by rw [x1,x3 h0];exact G1.out)⟩
  ·exact ⟨_,_,_,e,.inr (by rw [x1];exact hfr.mono (Nat.le_trans HBI.out.size HB2.out.size))⟩
 clear hb z0 z1 z2 z3 f0 f1 f2 f3 f4 f5 f6 kk kp2 hvq HB2 HK
 have kb:=hh13
 go_upto_region 6 with (refine wpList_store_row (o:=⟨none,.store 101 (.tmp 13) (.tmp 37),_,_,_,_⟩) rfl 101 (.tmp 13) (.tmp 37) rfl g13 #[.slice qv nv cv,.slice q2 t d2] rfl rfl _ _ kb info_rrow2 rfl (by simp [Value.oneCell']) ?_)
 have k4:(w3.setRow g13 #[.slice qv nv cv,.slice q2 t d2]).heap[g13]? = some (.cells #[.slice qv nv cv,.slice q2 t d2] 101 (0,0)):=hrs kb
 have kp4:(w3.setRow g13 #[.slice qv nv cv,.slice q2 t d2]).heap[gp]? = _:=hro kp3 (Nat.ne_of_lt HGP.out)
 have HB4:=Lib.hid (below_row (cs:=#[.slice qv nv cv,.slice q2 t d2]) HB3.out HG3.out)
 have HVQ4:Hid (OldB wI (w3.setRow g13 #[.slice qv nv cv,.slice q2 t d2]) (.slice qv nv cv) x.1):=HVQ.out.same fun b cs fr hb=>by
  have hne:b≠g13:=fun e=>by rw [e,kb] at hb;injection hb with hb;injection hb with _ hb _;exact absurd hb (by decide)
  exact (hro hb hne).trans hb.symm
 generalize w3.setRow g13 #[.slice qv nv cv,.slice q2 t d2] = w4 at *
 have HR4:=Lib.hid (HR.out.keep HB4.out)
 obtain ⟨vs,hv,hvl,hvr⟩:=HR4.out.vals
 have HV:=Lib.hid hv
 have HVL:=Lib.hid hvl
 have HVR:=Lib.hid hvr
 clear kb hh13 kp3 HB3 HVQ hv hvl hvr
 go_wp2_with (at_builtin;refine wpList_append_two w4 rfl (.tmp 38) (.tmp 39) 53 rfl w4.heap.size 101 r0 _ 48 Tryz.underlying53 hr0 hrz hr1' hr2' rfl (.slice none 0 0) 0 [] rfl (World.ownsRow_nil _ _ _ _) q n c vs rfl HV.out (by unfold maxLen;omega) (by omega) (Nat.le_refl _) ?_)
 intro v5 w5 ho5 hg5
 obtain ⟨qa,ca,rfl⟩:=owns_shape ho5
 try simp only [Nat.zero_add,List.nil_append] at ho5
 have BA:Hid (Below w4.heap.size w4 w5):=(Below.refl _ _).grown hg5 (Nat.le_refl _) (by simp [Value.ownBlock])
 have OA:=Lib.hid ho5
 have KP4:=Lib.hid kp4
 have X5:Hid (w5.heap[g13]? = some (.cells #[.slice qv nv cv,.slice q2 t d2] 101 (0,0))):=(BA.out.block _ (lt_of_block k4)).trans k4
 obtain ⟨x0,x1⟩:=cells2 X5.out
 have OA2:Hid (∀ o,(w5.alloc o).ownsRow w4.heap.size 101 2 (.slice qa n ca) n (fl2 vs)):=fun o=>owns_keep OA.out (al (Below.refl _ _) (Nat.le_refl _))
 have sA:=BA.out.size
 clear ho5 hg5 k4 kp4 HV
 try rw [Nat.zero_add]
 go_wp2_with (at_builtin;refine wpList_append_own _ rfl (.tmp 41) (.tmp 43) 53 rfl w4.heap.size 101 r0 _ 2 48 Tryz.underlying53 hr0 hrz hr1' hr2' rfl (by omega) _ n (fl2 vs) rfl (OA2.out _) ⟨w5.heap.size,0,none⟩ 1 1 [.slice qv nv cv,.slice q2 t d2] rfl rfl ?_ ?_ ?_ ?_ ?_ ?_)
 ·intro j' y hj'
  rw [Addr.add_lit,Nat.zero_add,cell_of_row _ _ j' _ _ _ (hnew rfl)]
  match j' with
  | 0=>simpa using hj'
  | 1=>simpa using hj'
  | j' + 2=>simp at hj'
 ·intro y hy;simp at hy;rcases hy with rfl | rfl <;> rfl
 ·unfold maxLen;omega
 ·omega
 ·simp;omega
 intro v6 w6 ho6 hg6 _
 obtain ⟨qb,cb,rfl⟩:=owns_shape ho6
 have BB:Hid (Below w4.heap.size w4 w6):=(al BA.out sA).grown hg6 (by simp;omega) (fun kk hk=>(OA.out.lt kk hk).1)
 have HB6:=Lib.hid (bl HB4.out BB.out HB4.out.size)
 have KP6:=Lib.hid ((BB.out.block _ (lt_of_block KP4.out)).trans KP4.out)
 have RR:Hid (RRef wI w6 qb (n + 1) cb (X ++ [x])):=by
  refine ⟨vs ++ [(.slice qv nv cv,.slice q2 t d2)],?_,by simp [HVL.out],by simp [HR4.out.len],fun j u hj=>?_⟩
  ·rw [fl2_append];exact owns_mono ho6 (Nat.le_trans HBI.out.size HB4.out.size)
  ·rcases Nat.lt_or_ge j vs.length with g | g
   ·rw [List.getElem?_append_left g] at hj
    obtain ⟨k',hk',a1,a2⟩:=HVR.out j u hj
    exact ⟨k',by rw [List.getElem?_append_left (by have:=HR4.out.len;have:=HVL.out;omega)];exact hk',a1.keep BB.out,a2.keep BB.out⟩
   ·have hj0:j = vs.length:=by have:=(List.getElem?_eq_some_iff.1 hj).1;simp at this;omega
    subst hj0
    simp at hj
    subst hj
    refine ⟨x,by rw [List.getElem?_append_right (by have:=HR4.out.len;have:=HVL.out;omega),show vs.length - X.length = 0 by have:=HR4.out.len;have:=HVL.out;omega];rfl,HVQ4.out.keep BB.out,⟨q2,t,d2,rfl,.inl ?_⟩⟩
    rw [HXV.out.2.1];exact G3.out
 have JD:=Lib.hid (HJD.out w6 qb cb (RR.out.rwS (bl HBI.out HB6.out HBI.out.size)))
 clear ho6 hg6 x0 x1 OA2 OA X5 KP4 sA HJD BB BA HVQ4 HVR
 go_wp2_with fail
 refine Calls.mono JD.out ?_
 rintro e w7 ⟨rfl,hb⟩
 have HB7:=Lib.hid (bl HB6.out hb HB6.out.size)
 have R7:=Lib.hid (RR.out.keep hb)
 have R0:=Lib.hid (HR.out.keep HB7.out)
 have kp7:=(hb.block _ (lt_of_block KP6.out)).trans KP6.out
 obtain ⟨z0,z1,z2,z3⟩:=cells_four kp7
 obtain ⟨hq1,hq2⟩:=HQ.out
 clear hb JD RR HB6 HB4 KP6 kp7 HR HR4
 by_cases hcl:CL < 0
 ·have hc:¬ (0:Int)≤CL:=by omega
  rw [if_pos hcl] at hq1 hq2
  have HQ1:=Lib.hid hq1
  by_cases hrk:rk = k
  ·have hz:((rk:Int) == (k:Int)) = true:=by rw [hrk];simp
   rw [if_pos hrk] at hq2
   have HQ2:=Lib.hid hq2
   clear hq1 hq2 hcl hrk HQ
   go_wp2
   go_ret3
   exact ⟨qb,_,cb,by rw [HQ2.out];rfl,by rw [HQ1.out];exact R7.out,HB7.out⟩
  ·have hz:((rk:Int) == (k:Int)) = false:=beq_eq_false_iff_ne.2 (by omega)
   rw [if_neg hrk] at hq2
   have HQ2:=Lib.hid hq2
   clear hq1 hq2 hcl hrk HQ
   go_wp2
   go_ret3
   exact ⟨qb,_,cb,by rw [HQ2.out];rfl,by rw [HQ1.out];exact R7.out,HB7.out⟩
 ·have hc:(0:Int)≤CL:=by omega
  rw [if_neg hcl] at hq1 hq2
  have HQ1:=Lib.hid hq1
  have HQ2:=Lib.hid hq2
  clear hq1 hq2 hcl HQ
  go_wp2
  go_ret3
  exact ⟨q,_,c,by rw [HQ2.out];rfl,by rw [HQ1.out];exact R0.out,HB7.out⟩
theorem RTake19_any (L t k D:Nat) (q:Option Addr) (n c:Nat) (X:List Rw) (st:Nat) (p:Option Addr) (m d:Nat) (xs:List UInt8) (wI w:World) (hP:POK L t k D) (hB:Below wI.heap.size wI w) (hR:RRef wI w q n c X) (hs:Sl B8 wI p m d xs) (hf:∀ x,x ∈ X→Fit k t x) (hn:n≤4000) :
  Calls Tryz.prog 28 #[PVal L t k D,.slice q n c,.int .i64 (st:Nat),.slice p m d] w (TkR19 wI w (refX k t D X st xs) (refZ k t D X st xs) (readC k t D xs)):=by
 by_cases h:readC k t D xs = 0∧st = 0
 ·obtain ⟨h1,rfl⟩:=h
  rw [h1]
  exact RTake19_yes L t k D q n c X p m d xs wI w hP hB hR hs hf hn h1
 ·have e1:refX k t D X st xs = X:=by unfold refX;rw [if_neg (fun g=>h ⟨g.1,g.2.1⟩)]
  have e2:refZ k t D X st xs = st:=by unfold refZ;rw [if_neg h]
  rw [e1,e2]
  exact RTake19_no L t k D q n c X st p m d xs wI w hP hB hR hs h
end Go.Proofs.YtccaiiigdfieoaaGreatDoor
namespace Go.Proofs.YtccaiiigdfieoaaGreatDoor
open Go.RowKit Go.By
end Go.Proofs.YtccaiiigdfieoaaGreatDoor
namespace Go.Proofs.YtccaiiigdfieoaaGreatDoor
open Go.RowKit Go.By
end Go.Proofs.YtccaiiigdfieoaaGreatDoor
namespace Go.Proofs.YtccaiiigdfieoaaGreatDoor
open Go.RowKit Go.By
theorem pok523:POK 5 2 3 7:=⟨by decide,by decide,by decide,by decide,by decide,by decide,by decide⟩
theorem of527:ofS 5 2 7 = .tuple #[PVal 5 2 3 7,.int .i64 0]:=by
 have h:fitS 5 2 = 0:=by decide
 have h2:needS 5 2 = 3:=by decide
 unfold ofS;rw [if_pos h,h2];rfl
end Go.Proofs.YtccaiiigdfieoaaGreatDoor
namespace Go.Proofs.YtccaiiigdfieoaaGreatDoor
open Go.RowKit Go.By Go.Maps
set_option maxHeartbeats 1000000 in
theorem TSome_nil (w:World):Calls Tryz.prog 48 #[.pointer none] w fun e w'=>e = .returned (.tuple #[.slice none 0 0,.slice none 0 0])∧Below w.heap.size w w':=by
 go_enter Tryz.func48,Tryz.ntmps48
 go_wp2
 go_ret2
 exact ⟨rfl,Below.refl _ _⟩
end Go.Proofs.YtccaiiigdfieoaaGreatDoor
namespace Go.Proofs.YtccaiiigdfieoaaGreatDoor
open Go.RowKit Go.By Go.Maps
theorem PrO.at {w:World} {base:Nat} {q:Option Addr} {n c:Nat} {L:List (Nat × Nat)} (h:PrO w base q n c L) {i:Nat} (hi:i < n):∃ g x y,q = some ⟨g,0,none⟩∧w.cell? ⟨g,i * 2,none⟩ = some (.int .i64 ((x:Nat):Int))∧w.cell? ⟨g,i * 2 + 1,none⟩ = some (.int .i64 ((y:Nat):Int))∧Hid (L[i]? = some (x,y)):=by
 obtain ⟨hl,ho⟩:=h
 obtain ⟨g,cur,rfl,hb,hh,h1,h2,h3,h4⟩:=owns2_open ho (by omega)
 obtain ⟨p,hp⟩:∃ p,L[i]? = some p:=⟨_,List.getElem?_eq_getElem (by omega)⟩
 obtain ⟨e1,e2⟩:=prC_at hp
 rw [← h4,List.getElem?_take,if_pos (by omega)] at e1 e2
 exact ⟨g,p.1,p.2,rfl,by rw [cell_arr hh];exact e1,by rw [cell_arr hh];exact e2,hp⟩
theorem PrO.max {w:World} {base:Nat} {q:Option Addr} {n c:Nat} {L:List (Nat × Nat)} (h:PrO w base q n c L):n≤9223372036854775807:=by
 rcases Nat.eq_zero_or_pos n with e | e
 ·omega
 ·obtain ⟨_,_,_,_,_,h1,h2,_⟩:=owns2_open h.2 e
  unfold maxLen at h2;omega
theorem eq_pair (x y:Int) (W:World):(Op.equalIn 10000 74 (.agg #[.int .i64 x,.int .i64 y]) (.agg #[.int .i64 x,.int .i64 y])).run Tryz.prog W = .ok true W:=by
 obtain ⟨i0,hi,-,hz1,-⟩:=info_parts (show (Tryz.prog.info? 3).map (fun i=>(i.zero,i.size,i.bytes)) = some (some (.int .i64 0),1,8) by kernel_rfl)
 have hc:Tryz.prog.cellsOf 3 = 1:=by unfold Program.cellsOf;rw [hi];simp [hz1]
 rw [show (10000:Nat) = 9999 + 1 from rfl,run_equalIn_array W 9999 _ _ Tryz.underlying74 hi,hc]
 have h2:List.range 2 = [0,1]:=rfl
 rw [h2]
 simp [Op.eqItems,go_sem,part,Tryz.underlying3]
set_option maxRecDepth 100000 in
set_option maxHeartbeats 2000000 in
theorem EqP_same (b1 b2:Nat) (p1 p2:Option Addr) (n c1 c2:Nat) (L:List (Nat × Nat)) (w:World) (h1:PrO w b1 p1 n c1 L) (h2:PrO w b2 p2 n c2 L) :
  Calls Tryz.prog 42 #[.slice p1 n c1,.slice p2 n c2] w fun e w'=>e = .returned (.bool true)∧Below w.heap.size w w':=by
 have H1:=Lib.hid h1;have H2:=Lib.hid h2
 have hnb:=h1.max
 clear h1 h2
 go_enter Tryz.func42,Tryz.ntmps42
 go_wp2
 go_loopw [13] (fun iv wr=>∃ j:Nat,j≤n∧iv = .int .i64 (j:Nat)∧Hid (Below w.heap.size w wr)) (fun iv _=>n - (intOf iv).toNat)
 case atStart=>exact ⟨0,Nat.zero_le _,rfl,Below.refl _ _⟩
 case round =>
  obtain ⟨j,hj,rfl,HB⟩:=hrel
  by_cases hlt:j < n
  ·obtain ⟨g1,x1,y1,rfl,hc1,hd1,hx1⟩:=(H1.out.keep HB.out).at hlt
   obtain ⟨g2,x2,y2,rfl,hc2,hd2,hx2⟩:=(H2.out.keep HB.out).at hlt
   obtain ⟨rfl,rfl⟩:x1 = x2∧y1 = y2:=by have:=hx1.out;rw [hx2.out] at this;have:=Option.some.inj this;simp at this;exact ⟨this.1.symm,this.2.symm⟩
   have hlt':(j:Int) < (n:Int):=by omega
   have HLT:=Lib.hid hlt
   clear hlt hx1 hx2
   have hq:=eq_pair (x1:Int) (y1:Int)
   go_wp2
   go_quiet (first | simp only [hq] | fail)
   go_wp2
   go_roundw
   case rel=>exact ⟨j + 1,by have:=HLT.out;omega,by go_num,bdn HB.out⟩
   case measure=>simp [intOf];have:=HLT.out;omega
  ·obtain rfl:j = n:=by omega
   clear hlt
   go_wp2
   go_ret
   exact ⟨rfl,HB.out⟩
theorem VMap_nil (w:World):Calls Tryz.prog 36 #[.pointer none] w fun e w'=>e = .returned (.string ⟨#[]⟩)∧w = w':=by
 go_enter Tryz.func36,Tryz.ntmps36
 go_wp2
 go_ret
 exact ⟨rfl,rfl⟩
set_option maxRecDepth 100000 in
set_option maxHeartbeats 2000000 in
theorem VOf_nil (w:World):Calls Tryz.prog 35 #[.pointer none] w fun e w'=>e = .returned (.agg #[.int .i64 0,.int .i64 0,.int .i64 0,.int .u32 0,.int .i64 0,.int .i64 0,.int .i64 0,.int .i64 0])∧Below w.heap.size w w':=by
 have hinfo:(Tryz.prog.info? 63).map (·.size) = some 8:=by kernel_rfl
 have HX:Hid (∀ o,(w.alloc o).heap[w.heap.size]? = some o):=fun o=>hnew rfl
 have HB:Hid (∀ o,Below w.heap.size w (w.alloc o)):=fun o=>al (Below.refl _ _) (Nat.le_refl _)
 go_enter Tryz.func35,Tryz.ntmps35
 go_wp2
 exact bodyPost_ret (results_cell_row rfl _ _ _ 63 #[.int .i64 0,.int .i64 0,.int .i64 0,.int .u32 0,.int .i64 0,.int .i64 0,.int .i64 0,.int .i64 0] (0,0) _ rfl (HX.out _) Tryz.underlying63 rfl hinfo) rfl ⟨rfl,HB.out _⟩
theorem VGaps_nil (w:World):Calls Tryz.prog 37 #[.pointer none] w fun e w'=>e = .returned (.slice none 0 0)∧Below w.heap.size w w':=by
 have HS:=Lib.hid (TSome_nil w)
 go_enter Tryz.func37,Tryz.ntmps37
 go_wp2_with fail
 refine Calls.mono HS.out ?_
 rintro e w1 ⟨rfl,hb1⟩
 have HB1:=Lib.hid hb1
 clear hb1
 go_wp2
 go_loopw [5,15] (fun ov iv wr=>ov = .slice none 0 0∧iv = .int .i64 0∧Hid (Below w.heap.size w wr)) (fun _ _ _=>0)
 case atStart=>exact ⟨rfl,rfl,HB1.out⟩
 case round =>
  obtain ⟨rfl,rfl,HB⟩:=hrel
  go_wp2
  go_ret
  exact ⟨rfl,HB.out⟩
theorem map527:mapT 3 (knS 3 []) = [46,46,46]:=by decide +kernel
theorem cnt527:cntB (knS 3 []) 3 = 0:=by decide +kernel
theorem view527:viewT 0 0 3 3 0 = [112,101,110,100,105,110,103,32,48,47,51,32,51,32,48]:=by decide +kernel
set_option maxRecDepth 100000 in
set_option maxHeartbeats 2000000 in
theorem awake25 (w:World) (hT:Tab10 w):Calls Tryz.prog 34 #[] w fun e w'=>e = .returned (.bool true)∧Below w.heap.size w w':=by
 have HT:=Lib.hid hT
 have HOf:Hid (∀ w,Calls Tryz.prog 44 #[.int .i64 5,.int .i64 2,.int .u32 7] w fun e w'=>e = .returned (.tuple #[PVal 5 2 3 7,.int .i64 0])∧Below w.heap.size w w'):=fun w=>by have:=POf_any 5 2 7 w (by decide);rw [of527] at this;exact this
 clear hT
 go_enter Tryz.func34,Tryz.ntmps34
 go_wp2_with fail
 refine Calls.mono (HOf.out w) ?_
 rintro e w1 ⟨rfl,hb1⟩
 have HB1:=Lib.hid hb1
 clear hb1
 go_wp2_with fail
 have ba:=al (o:=.cells #[.int .i64 5,.int .i64 2,.int .i64 3,.int .u32 7] 27 (0,0)) (Below.refl w1.heap.size w1) (Nat.le_refl _)
 refine Calls.mono (TNew_ok 5 2 3 7 _ pok523) ?_
 rintro e w2 ⟨gt,be,v,rfl,ht,hb⟩
 have HB2:=Lib.hid (bl (bl HB1.out ba HB1.out.size) hb (bl HB1.out ba HB1.out.size).size)
 have hM:Calls _ _ _ _ _:=VMap_any _ gt be 5 2 3 7 0 _ v _ [] 0 w2 ht
 have HO:Hid (∀ W,Below w2.heap.size w2 W→Calls Tryz.prog 35 #[.pointer (some ⟨gt,0,none⟩)] W fun e w'=>e = .returned (VwV 5 2 3 7 0 0 3 0)∧Below W.heap.size W w'):=fun W hW=>by
  have:=VOf_any _ gt be 5 2 3 7 0 _ v _ [] 0 W (ht.keep hW)
  rw [cnt527] at this
  exact this
 rw [map527] at hM
 have HM:=Lib.hid hM
 have hw1:((strB [46,46,46]).toList == [46,46,46]) = true:=by rw [ByteArray.toList_eq,strB_data];rfl
 have hw2:((strB (viewT 0 0 3 3 0)).toList == [112,101,110,100,105,110,103,32,48,47,51,32,51,32,48]) = true:=by rw [view527,ByteArray.toList_eq,strB_data];rfl
 have HX:Hid (∀ W,Tab10 W→Calls Tryz.prog 39 #[VwV 5 2 3 7 0 0 3 0] W fun e w'=>e = .returned (.string (strB (viewT 0 0 3 3 0)))∧Below W.heap.size W w'):=fun W hW=>VText_any 5 2 3 7 0 0 3 0 W hW (.inl rfl) (by decide) (by decide) (by decide) (by decide)
 generalize strB [46,46,46] = X at *
 generalize strB (viewT 0 0 3 3 0) = Y at *
 clear ht hb ba hM
 go_wp2_with fail
 refine Calls.mono HM.out ?_
 rintro e w3 ⟨rfl,hb⟩
 have HB3:=Lib.hid (bl HB2.out hb HB2.out.size)
 have HBx:=Lib.hid hb
 clear hb
 go_wp2_with fail
 refine Calls.mono (HO.out w3 HBx.out) ?_
 rintro e w4 ⟨rfl,hb⟩
 have HB4:=Lib.hid (bl HB3.out hb HB3.out.size)
 clear hb
 go_wp2_with fail
 refine Calls.mono (HX.out w4 (HT.out.keep HB4.out)) ?_
 rintro e w5 ⟨rfl,hb⟩
 have HB5:=Lib.hid (bl HB4.out hb HB4.out.size)
 clear hb
 go_wp2
 go_ret
 exact ⟨rfl,HB5.out⟩
end Go.Proofs.YtccaiiigdfieoaaGreatDoor
namespace Go.Proofs.YtccaiiigdfieoaaGreatDoor
open Go.RowKit Go.By Go.Maps
theorem eq_view (a b c d e f g h:Int) (W:World):(Op.equalIn 10000 63 (.agg #[.int .i64 a,.int .i64 b,.int .i64 c,.int .u32 d,.int .i64 e,.int .i64 f,.int .i64 g,.int .i64 h]) (.agg #[.int .i64 a,.int .i64 b,.int .i64 c,.int .u32 d,.int .i64 e,.int .i64 f,.int .i64 g,.int .i64 h])).run Tryz.prog W = .ok true W:=by
 have h1:Tryz.prog.stoodInHeld 63 = false:=by kernel_rfl
 have h2:Tryz.prog.stoodInHeld 27 = false:=by kernel_rfl
 have i1:(Tryz.prog.info? 27).map (fun i=>i.size) = some 4:=by kernel_rfl
 obtain ⟨i0,hi,hz⟩:=Option.map_eq_some_iff.1 i1
 have hc:Tryz.prog.cellsOf 27 = 4:=by unfold Program.cellsOf;rw [hi];simp [hz]
 rw [show (10000:Nat) = 9999 + 1 from rfl,run_equalIn_agg W 9999 _ _ _ (by simp [Program.fieldsOf,Tryz.underlying63]) h1]
 simp [go_sem,part,isAgg,Tryz.underlying63,Tryz.underlying27,Tryz.underlying3,Tryz.underlying23,h2,run_sizeOf W hi,hc,Sem.run_bind,run_underlying]
end Go.Proofs.YtccaiiigdfieoaaGreatDoor
namespace Go.Proofs.YtccaiiigdfieoaaGreatDoor
open Go.RowKit Go.By
end Go.Proofs.YtccaiiigdfieoaaGreatDoor
namespace Go.Proofs.YtccaiiigdfieoaaGreatDoor
open Go.RowKit Go.By
end Go.Proofs.YtccaiiigdfieoaaGreatDoor
namespace Go.By
open Go.RowKit
section
variable {P:Program} {ops:Array Oper} {Q:Exit→Act→World→Prop}
end
end Go.By
namespace Go.By
open Go.RowKit Go.Proofs.YtccaiiigdfieoaaGreatDoor
theorem RRef.push {wI w:World} {qb:Option Addr} {n cb:Nat} {X:List Rw} {vs:List (Value × Value)} {u1 u2:Value} {x:Rw} (hl:vs.length = n) (hX:X.length = n) (hr:∀ (j:Nat) (u:Value × Value),vs[j]? = some u→∃ k,X[j]? = some k∧OldB wI w u.1 k.1∧OldB wI w u.2 k.2) (h1:OldB wI w u1 x.1) (h2:OldB wI w u2 x.2) (ho:w.ownsRow wI.heap.size 101 2 (.slice qb (n + 1) cb) (n + 1) (fl2 vs ++ [u1,u2])):RRef wI w qb (n + 1) cb (X ++ [x]):=by
 refine ⟨vs ++ [(u1,u2)],by rw [fl2_append];exact ho,by simp [hl],by simp [hX],fun j u hj=>?_⟩
 rcases Nat.lt_or_ge j vs.length with g | g
 ·rw [List.getElem?_append_left g] at hj
  obtain ⟨k',hk',a1,a2⟩:=hr j u hj
  exact ⟨k',by rw [List.getElem?_append_left (by omega)];exact hk',a1,a2⟩
 ·have hj0:j = vs.length:=by have:=(List.getElem?_eq_some_iff.1 hj).1;simp at this;omega
  subst hj0
  simp at hj
  subst hj
  exact ⟨x,by rw [List.getElem?_append_right (by omega),show vs.length - X.length = 0 by omega];rfl,h1,h2⟩
section
variable {wz w:World} {gp t k:Nat} {v18 v19 v20 v21 v22 v23 v24 v8:Value} {dn:Nat→Bool}
end
end Go.By
namespace Go.Proofs.YtccaiiigdfieoaaGreatDoor
open Go.RowKit Go.By
end Go.Proofs.YtccaiiigdfieoaaGreatDoor
namespace Go.By
open Go.RowKit Go.Maps
end Go.By
namespace Go.Proofs.YtccaiiigdfieoaaGreatDoor
open Go.RowKit Go.By Go.Maps
end Go.Proofs.YtccaiiigdfieoaaGreatDoor
namespace Go.By
open Go.RowKit
end Go.By
namespace Go.By
open Go.RowKit Go.Maps Go.Proofs.YtccaiiigdfieoaaGreatDoor
end Go.By
namespace Go.Proofs.YtccaiiigdfieoaaGreatDoor
open Go.RowKit Go.By Go.Maps
end Go.Proofs.YtccaiiigdfieoaaGreatDoor
namespace Go.By
open Go.RowKit Go.Maps Go.Proofs.YtccaiiigdfieoaaGreatDoor
theorem few_len19 {xss:List (List UInt8)} {n1:Nat} (h:(xss.all (fun y=>decide (y.length≤800)) && decide (n1≤30)) = true) {i:Nat} {xs:List UInt8} (hx:xss[i]? = some xs):xs.length≤800:=by
 rw [Bool.and_eq_true] at h
 have:=List.all_eq_true.1 h.1 xs (List.mem_of_getElem? hx)
 exact of_decide_eq_true this
theorem pok_fit {L t k D:Nat} (hP:POK L t k D):(∀ i:Nat,i < k→i * t≤L)∧L≤k * t:=by
 have hk:=(checkS_okC hP.chk).2.2.2.1
 have ht:=hP.t1
 unfold needS at hk
 by_cases h0:L = 0
 ·subst h0
  rw [if_pos (by simp)] at hk
  have:k = 1:=by omega
  subst this
  exact ⟨fun i hi => by have : i = 0 := by omega
                        subst this;simp,by omega⟩
 ·rw [if_neg (by omega)] at hk
  have e:((L:Int) - 1) / (t:Int) = (((L - 1) / t:Nat):Int):=by
   rw [show ((L:Int) - 1) = ((L - 1:Nat):Int) by omega];simp
  rw [e] at hk
  have hk':k = (L - 1) / t + 1:=by omega
  have hd:=Nat.div_add_mod (L - 1) t
  have hm:=Nat.mod_lt (L - 1) (show 0 < t by omega)
  have hc:t * ((L - 1) / t) = (L - 1) / t * t:=Nat.mul_comm _ _
  rw [hk']
  refine ⟨fun i hi=>?_,by rw [Nat.succ_mul];omega⟩
  have:i * t≤(L - 1) / t * t:=Nat.mul_le_mul_right t (by omega)
  omega
end Go.By
namespace Go.Proofs.YtccaiiigdfieoaaGreatDoor
open Go.RowKit Go.By Go.Maps
theorem RRows19 {k t:Nat} {X K:List Rw} {wI W:World} {q:Option Addr} {c:Nat} (hX:RefS k t X K) (hk:k≤12) (ht:t≤20) (hl:X.length≤31) (hR:RRef wI W q X.length c X) (hB:Below wI.heap.size wI W):Calls Tryz.prog 30 #[.slice q X.length c] W (RetKN W K):=by
 have:=RRows_any k t q X.length c X W (hR.rwS hB) hX.fit (by unfold Room;omega) (by unfold Room;omega) (by omega)
 rwa [show redL (kD X) = K from hX.sys.same.symm] at this
theorem RKnown19 {k t:Nat} {X K:List Rw} {wI W:World} {q:Option Addr} {c:Nat} (hX:RefS k t X K) (hk:k≤12) (ht:t≤20) (hl:X.length≤31) (hR:RRef wI W q X.length c X) (hB:Below wI.heap.size wI W) (n:Nat):Calls Tryz.prog 38 #[.slice q X.length c,.int .i64 (n:Nat)] W (RetK2 W (knownS k K n)):=by
 have:=RKnown8_any k t q X.length c X n W (hR.rwS hB) hX.fit (by unfold Room;omega) (by unfold Room;omega) (by omega) (by omega)
 rwa [show redL (kD X) = K from hX.sys.same.symm] at this
theorem pok_small {L t k D:Nat} (hP:POK L t k D) (hk:k≤12) (ht:t≤20):L≤1000000:=Nat.le_trans (pok_fit hP).2 (Nat.le_trans (Nat.mul_le_mul hk ht) (by decide))
end Go.Proofs.YtccaiiigdfieoaaGreatDoor
namespace Go.By
open Go.RowKit Go.Proofs.YtccaiiigdfieoaaGreatDoor
def RwT4 (K:List Rw) (v:Value) (w:World):Prop:=∃ q c,v = .slice q K.length c∧RwS w q K.length c K
def ShRw4 (K:List Rw):Shp:=⟨RwT4 K,fun _ _ _ ⟨q,c,e,h⟩ hb=>⟨q,c,e,h.keep hb⟩⟩
end Go.By
namespace Go.Proofs.YtccaiiigdfieoaaGreatDoor
open Go.RowKit Go.By Go.Maps
end Go.Proofs.YtccaiiigdfieoaaGreatDoor
namespace Go.By
open Go.RowKit Go.Proofs.YtccaiiigdfieoaaGreatDoor Gf
def StF (k:Nat) (K:List Rw) (st:Nat):Prop:=st≤2∧(st = 1↔K.length = k)
theorem StF.nil {k:Nat} (hk:1≤k):StF k [] 0:=⟨by omega,⟨fun h=>by omega,fun h=>by simp at h;omega⟩⟩
theorem StF.take {k t D st:Nat} {K:List Rw} (h:StF k K st) (xs:List UInt8):StF k (takeK k t D K st xs) (takeS k t D K st xs):=by
 unfold takeK takeS
 by_cases hc:readC k t D xs = 0∧st = 0
 ·rw [if_pos hc,if_pos hc]
  unfold nextS
  by_cases h2:codeF K (eqX k t xs) = 2
  ·rw [if_pos h2]
   have hk:putK K (eqX k t xs) = K:=by
    unfold codeF at h2
    unfold putK
    by_cases hl:leadS (restF K (eqX k t xs)).1 < 0
    ·rw [if_pos hl]
    ·rw [if_neg hl] at h2;cases h2
   rw [hk]
   exact ⟨by omega,⟨fun e=>by omega,fun e=>by have:=h.2.2 e;omega⟩⟩
  ·rw [if_neg h2]
   by_cases hl:(putK K (eqX k t xs)).length = k
   ·rw [if_pos hl];exact ⟨by omega,⟨fun _=>hl,fun _=>rfl⟩⟩
   ·rw [if_neg hl];exact ⟨by omega,⟨fun e=>by omega,fun e=>absurd e hl⟩⟩
 ·rw [if_neg hc,if_neg hc];exact h
end Go.By
