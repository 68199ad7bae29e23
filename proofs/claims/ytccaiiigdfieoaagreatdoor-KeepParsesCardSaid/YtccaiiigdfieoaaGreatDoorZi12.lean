/- Chapter 24: KeepParses. The library's table of powers of ten,out of the row's condition. What the library's variables hold: out of the row's condition,and of the world's shape. The table of the sum,out of the row's condition. What the library's variables hold,for Parse: out of the row's condition. Chapter 24: KeepParses,of any text. Arguments that came in: slices of byte slices. -/
import Derived.Test.YtccaiiigdfieoaaGreatDoorZi11
import Derived.Test.YtccaiiigdfieoaaGreatDoorRows
import Derived.Lib.LaidTab
import Derived.Stop.LaidErr
import Derived.Shelf.Vars
import Derived.SizedLaws
import Derived.OpenShut
import Derived.Deep.Matrix
namespace Go.Proofs.YtccaiiigdfieoaaGreatDoor
open Go.RowKit Go.By Go.Maps
set_option maxRecDepth 1000000 in
set_option maxHeartbeats 8000000 in
theorem KeepParses_core (s:List UInt8) (w:World) (hl:s.length≤2000) (hX:Tab10 w) (hT:HalfT w) (hE:ErrI w) (hM:MaxI w) :
  Calls Tryz.prog 7 #[.string (strB s)] w fun e w'=>e = .returned (.bool true)∧Below w.heap.size w w':=by
 have HX:=Lib.hid hX
 have HT:=Lib.hid hT
 have HE:=Lib.hid hE
 have HM:=Lib.hid hM
 have HPr:Hid (∀ W,Below w.heap.size w W→Calls Tryz.prog 17 #[.string (strB s)] W fun e w'=>∃ o ec,e = .returned (.tuple #[.pointer o,.int .i64 ec])∧Below W.heap.size W w'∧Prs W w' s o ec):=fun W hb =>
  (KParse_any s W (by omega) (hM.keep hb) (hE.keep hb) (hT.keep hb)).mono fun e w' h=>h.parts
 have HLn:=Lib.hid (fun W=>Lines_any s W (by omega))
 have hsz:(strB s).size = s.length:=strB_size s
 have HSl:=Lib.hid hl
 obtain ⟨S,hS⟩:∃ S,S = strB s:=⟨_,rfl⟩
 rw [← hS] at HPr HLn hsz ⊢
 obtain ⟨ns,hns⟩:∃ n,n = s.length:=⟨_,rfl⟩
 rw [← hns] at hsz
 have hns2:ns≤2000:=by omega
 clear hX hT hE hM hS hl hns
 go_enter Tryz.func7,Tryz.ntmps7
 go_wp2_with fail
 refine Calls.mono (awake24 w HX.out HT.out) ?_
 rintro e w1 ⟨rfl,hb⟩
 have HB1:=Lib.hid hb
 clear hb
 go_wp2_with fail
 refine Calls.mono (HPr.out w1 HB1.out) ?_
 rintro e w2 ⟨o,ec,rfl,hb,hp⟩
 have HB2:=Lib.hid (bl HB1.out hb HB1.out.size)
 have HP2:=Lib.hid hp
 clear hb hp HPr
 go_wp2_with fail
 refine Calls.mono (HLn.out w2) ?_
 rintro e w3 hln
 clear HLn
 rcases hln with ⟨hn,rfl,hb⟩ | ⟨Ls,g,cL,hn,rfl,hcl,hr,hb⟩
 case inl =>
  obtain ⟨rfl,rfl⟩:=HP2.out.form hn
  have HB3:=Lib.hid (bl HB2.out hb HB2.out.size)
  clear hb hn HP2
  go_wp2
  go_ret
  exact ⟨rfl,HB3.out⟩
 have HB3:=Lib.hid (bl HB2.out hb HB2.out.size)
 have HP3:=Lib.hid (HP2.out.keep hb)
 have HR3:=Lib.hid hr
 obtain ⟨a,T,rfl⟩:∃ a T,Ls = a :: T:=by
  cases Ls with
  | nil =>
   exfalso
   unfold linesP at hn
   split at hn
   ·exact splA_ne _ _ (Option.some.inj hn)
   ·cases hn
  | cons a T=>exact ⟨a,T,rfl⟩
 have HLs:=Lib.hid hn
 have hbnd:T.length≤2001∧∀ x ∈ a :: T,x.length≤2000:=by
  have hn':=hn
  unfold linesP at hn'
  split at hn'
  ·have e:=Option.some.inj hn'
   have h1:=splA_len 10 s.dropLast
   have h2:s.dropLast.length≤2000:=by have:=HSl.out;simp;omega
   rw [e] at h1
   refine ⟨by rw [List.length_cons] at h1;omega,fun x hx=>?_⟩
   rw [← e] at hx
   exact Nat.le_trans (spl_shortC _ _ _ _ hx) h2
  ·cases hn'
 have hTl:=hbnd.1
 have HSh:=Lib.hid hbnd.2
 clear hb hr hn HB2 HP2 hbnd
 obtain ⟨n,hnn⟩:∃ n,n = (a :: T).length:=⟨_,rfl⟩
 have HNT:Hid (n = T.length + 1):=by rw [hnn];rfl
 have hn1:n - 1 = T.length:=by rw [hnn];simp
 rw [← hnn] at hcl ⊢
 have hn0':0 < n:=by rw [hnn];simp
 obtain ⟨q',c',hsa,hq'⟩:=slice_oneC g n cL hn0' hcl
 rw [hn1] at hsa hq'
 have HQ:=Lib.hid hq'
 clear hq' hn1 hnn
 have hn0:(0:Int) < (n:Int):=by omega
 go_wp2
 clear hsa
 obtain ⟨m,hm⟩:∃ m,m = T.length:=⟨_,rfl⟩
 have HMT:=Lib.hid hm
 rw [← hm] at HQ HNT hTl ⊢
 clear hm
 go_loopw [7,46] (fun pv iv wr=>∃ (i c:Nat) (q:Option Addr) (P:List (List UInt8)),i≤m∧iv = .int .i64 (i:Nat)∧pv = .slice q i c∧Hid (pktsP (T.take i) = some P)∧Hid (HdrF 22 5 w3.heap.size wr (.slice q i c) i P)∧Hid (Below w3.heap.size w3 wr)) (fun _ iv _=>m - (intOf iv).toNat)
 case atStart=>exact ⟨0,0,none,[],Nat.zero_le _,rfl,rfl,rfl,HdrF.nil _ _ _ _,Below.refl _ _⟩
 case round =>
  obtain ⟨i,c,q,P,hi,rfl,rfl,HPk,HO,HB⟩:=hrel
  by_cases hlt:i < m
  ·obtain ⟨x,hx⟩:∃ x,T[i]? = some x:=⟨_,List.getElem?_eq_getElem (by have:=HMT.out;omega)⟩
   obtain rfl:=HQ.out (by omega)
   have hxm:=List.mem_of_getElem? hx
   have hc0:wr.cell? ⟨g,1 + i,none⟩ = some (.string (strB x)):=by
    have h1:=HR3.out (i + 1) x (by simpa using hx)
    rw [Nat.add_comm]
    exact (HB.out.cell (lt_of_cell h1)).trans h1
   have HRd:=Lib.hid (Unhex24_any x wr (by have:=HSh.out x (by simp [hxm]);omega))
   have HSn:=Lib.hid (pktsP_snoc HPk.out hx)
   have HXM:=Lib.hid hxm
   obtain ⟨X,hX⟩:∃ X,X = strB x:=⟨_,rfl⟩
   rw [← hX] at hc0 HRd
   have hlt':(i:Int) < (m:Int):=by omega
   have HLT:=Lib.hid hlt
   clear hx hxm hX hlt
   cases hu:unhexO x with
   | none =>
    rw [hu] at HRd
    obtain ⟨rfl,rfl⟩:=HP3.out.hex a T HLs.out (pktsP_bad hu HXM.out)
    clear hu HSn
    go_wp2_with fail
    refine Calls.mono HRd.out ?_
    clear HRd
    rintro e w4 ⟨q3,n3,c3,rfl,hf,hb⟩
    have HB4:=Lib.hid (bl HB3.out (bl HB.out hb HB.out.size) HB3.out.size)
    clear hf hb hc0
    go_wp2
    go_ret
    exact ⟨rfl,HB4.out⟩
   | some y =>
    rw [hu] at HRd HSn
    clear hu
    go_wp2_with fail
    refine Calls.mono HRd.out ?_
    clear HRd
    rintro e w4 ⟨qw,nw,cw,rfl,hf,hb⟩
    have HB4:=Lib.hid (bl HB.out hb HB.out.size)
    have HW4:=Lib.hid (hf.mono HB.out.size)
    have HO4:=Lib.hid (HO.out.keep hb)
    clear hf hb hc0 HO
    have ba:Below w4.heap.size w4 (w4.alloc (.cells #[.slice qw nw cw] 22 (0,0))):=al (Below.refl _ _) (Nat.le_refl _)
    have HO10:=Lib.hid (HO4.out.keep ba)
    have HW10:=Lib.hid (HW4.out.keep ba)
    have HB10:=Lib.hid (bl HB4.out ba HB4.out.size)
    clear ba
    go_wp2_with (first | (at_builtin;refine wpList_hdr rfl _ _ rfl w3.heap.size i (.slice q i c) P rfl HO10.out (by omega) HB10.out.size w4.heap.size rfl qw nw cw (0,0) _ (hnew rfl) HW10.out ?_) | fail)
    rintro sA wA hA1 ⟨ys,hA2⟩ hA3 hA4
    obtain ⟨qA,cA,rfl⟩:=hA1.shape
    have HA:=Lib.hid hA1
    have HBA:Hid (Below w3.heap.size w3 wA):=HB10.out.grown hA3 HB10.out.size (fun g hg=>(hA2.lt g hg).1)
    clear hA1 hA2 hA3 hA4 HO10 HW10 HB10
    go_wp2
    go_roundw
    case rel=>exact ⟨i + 1,cA,qA,_,HLT.out,by go_num,rfl,HSn.out,HA.out,HBA.out⟩
    case measure=>simp [intOf];have:=HLT.out;omega
  ·obtain rfl:i = m:=by omega
   have HPT:Hid (pktsP T = some P):=by have:=HPk.out;rwa [List.take_of_length_le (by have:=HMT.out;omega)] at this
   have hc0:wr.cell? ⟨g,0,none⟩ = some (.string (strB a)):=by
    have h1:=HR3.out 0 a rfl
    exact (HB.out.cell (lt_of_cell h1)).trans h1
   have HBw:=Lib.hid (bl HB3.out HB.out HB3.out.size)
   have HP5:=Lib.hid (HP3.out.keep HB.out)
   have HPP:=Lib.hid (RParse_any a wr (by have:=HSh.out a (by simp);omega))
   have hPl:P.length = i:=by rw [pktsP_len HPT.out];exact HMT.out.symm
   have HPS:Hid (∀ y ∈ P,y.length≤2000):=fun y hy=>pktsP_lens HPT.out (m:=2000) (fun x hx=>HSh.out x (by simp [hx])) y hy
   obtain ⟨A,hA⟩:∃ A,A = strB a:=⟨_,rfl⟩
   rw [← hA] at hc0 HPP
   clear hlt hA HPk HP3
   rcases parseV_two a with ⟨code,hcode,hpv⟩ | ⟨L,t,k,D,hP,hpv⟩
   ·rw [hpv] at HPP
    have hz:(code != 0) = true:=bne_iff_ne.2 hcode
    obtain ⟨rfl,rfl⟩:=HP5.out.plan a T P code _ HLs.out HPT.out hpv hcode
    have hcc:(ec == ec) = true:=beq_self_eq_true _
    clear hpv hcode hPl
    go_wp2_with fail
    refine Calls.mono HPP.out ?_
    clear HPP
    rintro e w4 ⟨rfl,hb⟩
    have HB4:=Lib.hid (bl HBw.out hb HBw.out.size)
    clear hb hc0
    go_wp2
    go_ret
    exact ⟨rfl,al HB4.out HB4.out.size⟩
   ·rw [hpv] at HPP
    have HPo:=Lib.hid hP
    have HI5:=Lib.hid (HP5.out.imp a T P L t k D HLs.out HPT.out hpv)
    have HSm:=Lib.hid (fun w=>Small19_any L t k D w hP.l)
    clear hpv HP5
    have hsm19:small19 (L:Int) (t:Int) (k:Int) = true→k≤12∧t≤20:=fun e=>by
     unfold small19 at e
     rw [if_pos hP.chk,Bool.and_eq_true] at e
     have h1:=of_decide_eq_true e.1
     have h2:=of_decide_eq_true e.2
     exact ⟨by omega,by omega⟩
    have HKT:=Lib.hid hsm19
    clear hsm19 hP
    go_wp2_with fail
    refine Calls.mono HPP.out ?_
    clear HPP
    rintro e w4 ⟨rfl,hb⟩
    have ba:Below w4.heap.size w4 (w4.alloc (.cells #[.int .i64 (L:Nat),.int .i64 (t:Nat),.int .i64 (k:Nat),.int .u32 (D:Nat)] 52 (0,0))):=al (Below.refl _ _) (Nat.le_refl _)
    have hbb:Below wr.heap.size wr (w4.alloc (.cells #[.int .i64 (L:Nat),.int .i64 (t:Nat),.int .i64 (k:Nat),.int .u32 (D:Nat)] 52 (0,0))):=bl hb ba hb.size
    have HB5:=Lib.hid (bl HBw.out hbb HBw.out.size)
    have HO5:=Lib.hid ((HO.out.keep hbb).sl2)
    have HI6:=Lib.hid (HI5.out.keep hbb)
    have kd:(w4.alloc (.cells #[.int .i64 (L:Nat),.int .i64 (t:Nat),.int .i64 (k:Nat),.int .u32 (D:Nat)] 52 (0,0))).heap[w4.heap.size]? = some (.cells #[.int .i64 (L:Nat),.int .i64 (t:Nat),.int .i64 (k:Nat),.int .u32 (D:Nat)] 52 (0,0)):=hnew rfl
    obtain ⟨gd,hgd⟩:∃ g,g = w4.heap.size:=⟨_,rfl⟩
    rw [← hgd] at kd
    have KD5:=Lib.hid kd
    clear hb ba hbb kd hc0 HO HI5 HBw
    have SM:Hid (∀ W,Calls Tryz.prog 26 #[PVal L t k D] W fun e w'=>e = .returned (.bool (small19 (L:Int) (t:Int) (k:Int)))∧Below W.heap.size W w'):=HSm.out
    clear HSm
    go_upto_region 19 with (fail)
    rw [← hgd]
    clear hgd
    generalize w4.alloc (.cells #[.int .i64 (L:Nat),.int .i64 (t:Nat),.int .i64 (k:Nat),.int .u32 (D:Nat)] 52 (0,0)) = w5 at *
    obtain ⟨z0,z1,z2,z3⟩:=cells_four KD5.out
    go_wp2_with fail
    refine Calls.mono (SM.out w5) ?_
    rintro e w6 ⟨rfl,hb⟩
    have HB6:=Lib.hid (bl HB5.out hb HB5.out.size)
    have HO6:=Lib.hid (HO5.out.keep hb)
    have HI7:=Lib.hid (HI6.out.keep hb)
    have KD6:=Lib.hid ((hb.block _ (lt_of_block KD5.out)).trans KD5.out)
    clear hb z0 z1 z2 z3 HB5 HO5 HI6 KD5 SM
    cases hsm:small19 (L:Int) (t:Int) (k:Int) with
    | false =>
     clear hsm
     go_wp2
     go_ret
     exact ⟨rfl,HB6.out⟩
    | true =>
     obtain ⟨hk12,ht20⟩:=HKT.out hsm
     have HK12:=Lib.hid hk12
     have HT20:=Lib.hid ht20
     clear hsm hk12 ht20
     obtain ⟨z0,z1,z2,z3⟩:=cells_four KD6.out
     go_wp2_with fail
     refine Calls.mono (KImport_any L t k D q i c P w6 HPo.out (HT.out.keep HB6.out) HO6.out (by omega) (fun y hy=>by have:=HPS.out y hy;omega)) ?_
     rintro e w7 hI
     obtain ⟨o2,ec2,rfl,hb,hi2⟩:=hI.parts
     have HB7:=Lib.hid (bl HB6.out hb HB6.out.size)
     have HO7:=Lib.hid (HO6.out.keep hb)
     have HI8:=Lib.hid (HI7.out.keep hb)
     have HJ8:=Lib.hid hi2
     have KD7:=Lib.hid ((hb.block _ (lt_of_block KD6.out)).trans KD6.out)
     clear hb hI hi2 z0 z1 z2 z3 HB6 HO6 HI7 KD6
     go_wp2
     go_loopw [16,17,95] (fun rv sv iv wr=>∃ (j:Nat) (X:List Rw) (q2:Option Addr) (c2:Nat),j≤i∧iv = .int .i64 (j:Nat)∧rv = .slice q2 X.length c2∧sv = .int .i64 ((tkR k t D (P.take j)).2:Nat)∧X.length≤j∧Hid (∀ (j':Nat) (y:List UInt8),j' < j→P[j']? = some y→readC k t D y = 0)∧Hid (RefS k t X (tkR k t D (P.take j)).1)∧Hid (RRef w7 wr q2 X.length c2 X)∧Hid (Below w7.heap.size w7 wr)) (fun _ _ iv _=>i - (intOf iv).toNat)
     case atStart=>exact ⟨0,[],none,0,Nat.zero_le _,rfl,rfl,by rw [tkR_zero];rfl,Nat.zero_le _,fun j y hj=>by omega,by rw [tkR_zero];exact RefS.nil k t,RRef.nil _ _,Below.refl _ _⟩
     case round =>
      obtain ⟨j,X,q2,c2,hj,rfl,rfl,rfl,hxj,HZ,HXS,HF,HBr⟩:=hrel
      have HBq:=Lib.hid (bl HB7.out HBr.out HB7.out.size)
      by_cases hlt:j < i
      ·obtain ⟨bb,oo,qx,mx,cx,xs,rfl,hcd,hsd,hxd⟩:=HO7.out.at j hlt
       have hcd7:=(HBr.out.cell (lt_of_cell hcd)).trans hcd
       have HTk:=Lib.hid (RTake19_any L t k D q2 X.length c2 X (tkR k t D (P.take j)).2 qx mx cx xs w7 wr HPo.out HBr.out HF.out hsd HXS.out.fit (by omega))
       have HSn:=Lib.hid (tkR_snoc (k:=k) (t:=t) (D:=D) hxd.out)
       obtain ⟨hx4,hz4⟩:=HXS.out.take (D:=D) (st:=(tkR k t D (P.take j)).2) xs
       have hxl4:=refX_len k t D X (tkR k t D (P.take j)).2 xs
       have HXD:=hxd
       have kdr:=(HBr.out.block _ (lt_of_block KD7.out)).trans KD7.out
       obtain ⟨z0,z1,z2,z3⟩:=cells_four kdr
       have hlt':(j:Int) < (i:Int):=by omega
       have HLT:=Lib.hid hlt
       clear hcd hsd hxd hlt kdr
       by_cases hc:readC k t D xs = 0
       ·have HZ2:Hid (∀ (j':Nat) (y:List UInt8),j' < j + 1→P[j']? = some y→readC k t D y = 0):=fun j' y hj' hy=>by
         rcases Nat.lt_or_ge j' j with g | g
         ·exact HZ.out j' y g hy
         ·obtain rfl:j' = j:=by omega
          have:=HXD.out;rw [hy] at this;cases this;exact hc
        have HST:Hid (refZ k t D X (tkR k t D (P.take j)).2 xs = (tkR k t D (P.take (j + 1))).2):=by show _ = _;rw [hz4,HSn.out];rfl
        have HX5:Hid (RefS k t (refX k t D X (tkR k t D (P.take j)).2 xs) (tkR k t D (P.take (j + 1))).1):=by
         show RefS _ _ _ _
         rw [HSn.out];exact hx4
        rw [hc] at HTk
        generalize refX k t D X (tkR k t D (P.take j)).2 xs = X5 at *
        generalize refZ k t D X (tkR k t D (P.take j)).2 xs = Z5 at *
        generalize (tkR k t D (P.take j)).2 = Zj at *
        clear hx4 hz4 hc HXD HSn HZ HXS
        go_wp2_with fail
        refine Calls.mono HTk.out ?_
        clear HTk
        rintro e w8 ⟨q5,n5,c5,rfl,hf5,hb⟩
        obtain rfl:X5.length = n5:=hf5.len
        have HF8:=Lib.hid hf5
        have HB8:=Lib.hid (bl HBr.out hb HBr.out.size)
        clear hf5 hb HF HBr HBq z0 z1 z2 z3 hcd7
        have hxl5:X5.length≤j + 1:=by omega
        go_wp2
        go_roundw
        case rel=>exact ⟨j + 1,X5,q5,c5,HLT.out,by go_num,rfl,by rw [HST.out],hxl5,HZ2.out,HX5.out,HF8.out,HB8.out⟩
        case measure=>simp [intOf];have:=HLT.out;omega
       ·have hie:impC k t D P = readC k t D xs:=impC_at HZ.out HXD.out hc
        obtain ⟨rfl,he1⟩:=HI8.out.bad (by rw [hie];exact hc)
        obtain ⟨rfl,he2⟩:=HJ8.out.bad (by rw [hie];exact hc)
        rw [hie] at he1 he2
        subst he1 he2
        have hz:(readC k t D xs != 0) = true:=bne_iff_ne.2 hc
        have hcc:(readC k t D xs == readC k t D xs) = true:=beq_self_eq_true _
        generalize readC k t D xs = code at *
        generalize refX k t D X (tkR k t D (P.take j)).2 xs = X5 at *
        generalize refZ k t D X (tkR k t D (P.take j)).2 xs = Z5 at *
        generalize (tkR k t D (P.take j)).2 = Zj at *
        clear hx4 hz4 hc HXD HSn HZ HXS hie HI8 HJ8
        go_wp2_with fail
        refine Calls.mono HTk.out ?_
        clear HTk
        rintro e w8 ⟨q5,n5,c5,rfl,hf5,hb⟩
        have HB8:=Lib.hid (bl HBq.out hb HBq.out.size)
        clear hf5 hb HF HBr HBq z0 z1 z2 z3 hcd7
        go_wp2
        go_ret
        exact ⟨rfl,HB8.out⟩
      ·obtain rfl:j = i:=by omega
       have hi0:impC k t D P = 0:=impC_all fun j' y hy=>HZ.out j' y (by have:=(List.getElem?_eq_some_iff.1 hy).1;omega) hy
       have hw:=tkR_whole (k:=k) (t:=t) (D:=D) hPl
       obtain ⟨rfl,b1,g1,e1,M1,v1,C1,rfl,-,T1⟩:=HI8.out.good hi0
       obtain ⟨rfl,b2,g2,e2,M2,v2,C2,rfl,-,T2⟩:=HJ8.out.good hi0
       rw [hw] at HXS
       rw [hw]
       rw [← hPl] at hw
       generalize (tkR k t D P).1 = K at *
       generalize (tkR k t D P).2 = st at *
       have HXL:Hid (X.length≤4096):=by show _≤_;omega
       have HKk:Hid (K.length≤k):=Red.le T1.red
       have HT1:Hid (∀ W,Below wr.heap.size wr W→Tkr W b1 g1 e1 L t k D P.length M1 v1 C1 K st):=fun W hb=>T1.keep (bl HBr.out hb HBr.out.size)
       have HT2:Hid (∀ W,Below wr.heap.size wr W→Tkr W b2 g2 e2 L t k D j M2 v2 C2 K st):=fun W hb=>T2.keep (bl HBr.out hb HBr.out.size)
       have HTx1:Hid (∀ W,Below wr.heap.size wr W→Calls Tryz.prog 18 #[.pointer (some ⟨g1,0,none⟩)] W fun e w'=>e = .returned (.string (strB (keepT L t k D K st)))∧Below W.heap.size W w'):=fun W hb=>KText19 (HT1.out W hb) HK12.out HT20.out (HX.out.keep (bl HBq.out hb HBq.out.size)) (HT.out.keep (bl HBq.out hb HBq.out.size))
       have HTx2:Hid (∀ W,Below wr.heap.size wr W→Calls Tryz.prog 18 #[.pointer (some ⟨g2,0,none⟩)] W fun e w'=>e = .returned (.string (strB (keepT L t k D K st)))∧Below W.heap.size W w'):=fun W hb=>KText19 (HT2.out W hb) HK12.out HT20.out (HX.out.keep (bl HBq.out hb HBq.out.size)) (HT.out.keep (bl HBq.out hb HBq.out.size))
       have hst:((st:Int) == (st:Int)) = true:=beq_self_eq_true _
       have hkl:((K.length:Int) == (K.length:Int)) = true:=beq_self_eq_true _
       obtain ⟨Z,hZ⟩:∃ Z,Z = strB (keepT L t k D K st):=⟨_,rfl⟩
       rw [← hZ] at HTx1 HTx2
       have hzz:(Z.toList == Z.toList) = true:=beq_self_eq_true _
       clear hZ T1 T2 hw hi0 hlt HZ HI8 HJ8 hj hxj
       go_wp2_with fail
       refine Calls.mono (TStatus_any b1 g1 e1 L t k D P.length M1 v1 C1 K st wr (HT1.out wr (Below.refl _ _))) ?_
       rintro e w8 ⟨rfl,rfl⟩
       go_wp2_with fail
       refine Calls.mono (TStatus_any b2 g2 e2 L t k D j M2 v2 C2 K st wr (HT2.out wr (Below.refl _ _))) ?_
       rintro e w8 ⟨rfl,rfl⟩
       go_wp2_with fail
       refine Calls.mono (TRank_any b1 g1 e1 L t k D P.length M1 v1 C1 K st wr (HT1.out wr (Below.refl _ _))) ?_
       rintro e w8 ⟨rfl,rfl⟩
       go_wp2_with fail
       refine Calls.mono (RRows24 HXS.out HK12.out HT20.out HXL.out HF.out HBr.out) ?_
       rintro e w8 ⟨q8,n8,c8,rfl,rfl,-,hb,-⟩
       have HB8:=Lib.hid hb
       clear hb
       go_wp2_with fail
       refine Calls.mono (HTx1.out w8 HB8.out) ?_
       rintro e w9 ⟨rfl,hb⟩
       have HB9:=Lib.hid (bl HB8.out hb HB8.out.size)
       clear hb HB8
       go_wp2_with fail
       refine Calls.mono (HTx2.out w9 HB9.out) ?_
       rintro e wa ⟨rfl,hb⟩
       have HBa:=Lib.hid (bl HB9.out hb HB9.out.size)
       clear hb HB9
       go_wp2
       go_ret
       exact ⟨rfl,bl HBq.out HBa.out HBq.out.size⟩
end Go.Proofs.YtccaiiigdfieoaaGreatDoor
namespace Go.Proofs.YtccaiiigdfieoaaGreatDoor
open Go.RowKit Go.By
theorem tab10_of {d32 d64 : DataW Unit} {rest : List (String × DataW Unit)} {W : World} (h : laidMet Tryz.prog (("math/bits.deBruijn32tab", d32) :: ("math/bits.deBruijn64tab", d64) :: ("internal/strconv.uint64pow10", Rows.laid_internal_strconv_uint64pow10) :: rest) W) : Tab10 W := by
 have hz:(Rows.laid_internal_strconv_uint64pow10:DataW Unit) = Lib.tabData .u64 Lib.pow10Tab:=rfl
 have h2:=laidMet.tail (laidMet.tail h)
 rw [hz] at h2
 exact Lib.tabIs_of_head (g:=2) (t:=323) (e:=81) (n:=20) (by kernel_rfl) (by kernel_rfl) (by kernel_rfl) (by kernel_rfl) (by kernel_rfl) (by kernel_rfl) h2
end Go.Proofs.YtccaiiigdfieoaaGreatDoor
namespace Go.By
open Go.RowKit
theorem handed_shaped_and {H:Type} {enc:TypeId × Value→H} {a:Assume} {C:Checked} {os:Os} {f:FuncId} {fn:Func} {s:ChangeSpec} {conds:List PathCond} {apart fresh handsOn again:Bool} {X:World→Array Value→Prop}
  (hX:∀ (w w':World) (args:Array Value),w.heap = w'.heap→X w args→X w' args)
  (own:ownKnob C.prog.godebug = none) (started:os.Started) (noInit:C.prog.inits.idxOf? f = none) (hfn:C.prog.funcs[f]? = some fn)
  (witness:∃ (w:World) (tape:Tape) (i:Input),w.os = os∧(w.forCall tape i).Shaped C.prog∧i.vars = []∧Input.okWide C.prog (w.forCall tape i) .any w.heap.size f i ∧
   ((s.pre enc C.prog fn conds apart (w.forCall tape i).memory i.args∧X (w.forCall tape i).memory i.args)∧sizedMet enc C.prog fn (OpenSpec.ofChange s) apart (w.forCall tape i).memory i.args)∧a.holds C.prog (lone (Frame.enter C.prog f i.args .normal) [] (w.forCall tape i)))
  (contract:∀ (W:World) (base:Nat) (args:Array Value) (ds gs:List (DataW H)) (before:List MemPlace),
   (∀ (j:Nat) t v,fn.params[j]? = some t→args[j]? = some v→Value.okWide C.prog W .any base t v) →
   DataW.Whole enc C.prog fn.params.toList s.vars apart W args.toList ds gs before →
   conds.all (PathCond.test C.prog ⟨fn.params.toList,ds,s.plain.varTypes C.prog,gs⟩) = true →
   (DataW.weightsEach C.prog (fn.params.toList ++ s.plain.varTypes C.prog) (ds ++ gs)).all (·≤reachBytes) = true→X W args→W.ShapedOpen C.prog →
   a.holds C.prog (lone (Frame.enter C.prog f args .normal) [] W) →
   Calls C.prog f args W fun e W'=>∃ v,e = .returned v∧s.post enc C.prog fn apart fresh handsOn again W args v W') :
  ReturnsInHanded a C os f .any (fun w args=>(s.pre enc C.prog fn conds apart w args∧X w args)∧sizedMet enc C.prog fn (OpenSpec.ofChange s) apart w args) (s.post enc C.prog fn apart fresh handsOn again) :=
 returnsInHanded_of_calls own started noInit witness (fun w tape i _ shape _ ok before holds=>by
  have value:=ok.2.2.2
  obtain ⟨fn2,h2,_,_,_,_,value⟩:=value
  cases hfn.symm.trans h2
  obtain ⟨⟨⟨ds,gs,places,whole,conds⟩,x⟩,sized⟩:=before
  exact (contract _ w.heap.size i.args ds gs places value (DataW.Whole.of_heap (w:=(w.forCall tape i).memory) (w':=w.forCall tape i) rfl whole) conds (sized.weights whole) (hX (w.forCall tape i).memory (w.forCall tape i) _ rfl x) shape holds).mono (fun e W' h=>by
   obtain ⟨v,e1,post⟩:=h
   cases e1
   exact ChangeSpec.post_blind post))
end Go.By
namespace Go.Proofs.YtccaiiigdfieoaaGreatDoor
open Go.RowKit Go.By
theorem maxI_of {W:World} (h:W.ShapedOpen Tryz.prog):MaxI W :=
 Go.Proofs.cell_of_shapedOpen_int (zero:=#[.int .i64 0]) (t:=3) h (of_decide_eq_true (by kernel_rfl)) (by kernel_rfl) rfl (by kernel_rfl) (by kernel_rfl) Tryz.underlying3
theorem row_errS (u : TypeId) (h : Tryz.prog.typeName? 3 u = some "*errors.errorString") : u = 350 :=
 typeName_ptr_named (nm := "errors.errorString") (by rw [show "*" ++ "errors.errorString" = "*errors.errorString" by decide]; kernel_rfl) (by kernel_rfl) (by decide) u (by rw [show "*" ++ "errors.errorString" = "*errors.errorString" by decide]; exact h)
theorem errI_of {a b c d : String × DataW Unit} {rest : List (String × DataW Unit)} {W : World} (h : laidMet Tryz.prog (a :: b :: c :: d :: ("strconv.ErrRange", Rows.laid_strconv_ErrRange) :: rest) W) : ErrI W := by
 have h2:=laidMet.tail (laidMet.tail (laidMet.tail (laidMet.tail h)))
 obtain ⟨p,s,hv,_⟩:=laid_sentinel (g:=6) (ti:=137) (tp:=350) (te:=352) (ts:=9) h2 (by kernel_rfl) (by kernel_rfl) Tryz.underlying137 row_errS Tryz.underlying350 Tryz.underlying352 rfl rfl Tryz.underlying9 (by kernel_rfl) (by kernel_rfl)
 exact ⟨_,World.var?_cell (by kernel_rfl) hv 0,.inr ⟨_,_,rfl⟩⟩
end Go.Proofs.YtccaiiigdfieoaaGreatDoor
namespace Go.Proofs.YtccaiiigdfieoaaGreatDoor
open Go.RowKit Go.By
theorem halves_of {rest : List (String × DataW Unit)} {W : World} (h : laidMet Tryz.prog (("wellspring/sum.halves", Rows.laid_wellspring_sum_halves) :: rest) W) : HalfT W := by
 obtain ⟨zs,hz,hzl,hzc⟩:∃ zs:List Int,(Rows.laid_wellspring_sum_halves:DataW Unit) = Lib.tabData .u32 zs∧zs.length = 16∧∀ i,i < 16→zs.getD i 0 = ((crcTab.getD i 0:Nat):Int):=⟨[0,498536548,997073096,651767980,1994146192,1802195444,1303535960,1342533948,3988292384,4027552580,3604390888,3412177804,2607071920,2262029012,2685067896,3183342108],rfl,rfl,by decide⟩
 rw [hz] at h
 have h3:=Lib.tabIs_of_head (g:=0) (t:=304) (e:=23) (n:=16) (by kernel_rfl) (by kernel_rfl) (by kernel_rfl) (by kernel_rfl) (by kernel_rfl) (by kernel_rfl) h
 intro i hi
 have:=h3.cell (g:=0) (by kernel_rfl) i (by omega)
 rw [hzc i hi] at this
 exact this
end Go.Proofs.YtccaiiigdfieoaaGreatDoor
namespace Go.Proofs.YtccaiiigdfieoaaGreatDoor
open Go.RowKit Go.By
theorem prs_of {d32 d64 : DataW Unit} {d : String × DataW Unit} {rest : List (String × DataW Unit)} {W : World} (h : laidMet Tryz.prog (("math/bits.deBruijn32tab", d32) :: ("math/bits.deBruijn64tab", d64) :: ("internal/strconv.uint64pow10", Rows.laid_internal_strconv_uint64pow10) :: d :: ("wellspring/sum.halves", Rows.laid_wellspring_sum_halves) :: ("strconv.ErrRange", Rows.laid_strconv_ErrRange) :: rest) W) : Tab10 W ∧ HalfT W ∧ ErrI W := ⟨tab10_of h, halves_of (laidMet.tail (laidMet.tail (laidMet.tail (laidMet.tail h)))), errI_of (laidMet.tail h)⟩
end Go.Proofs.YtccaiiigdfieoaaGreatDoor
namespace Go.Proofs.YtccaiiigdfieoaaGreatDoor
open Go.RowKit Go.By Go.Maps
set_option maxRecDepth 100000 in
set_option maxHeartbeats 1000000 in
theorem KeepParses_any (s:ByteArray) (w:World) (_ws:s.size≤maxLen) (hK:Tab10 w∧HalfT w∧ErrI w) (hM:MaxI w) :
  Calls Tryz.prog 7 #[.string s] w fun e w'=>e = .returned (.bool true)∧Below w.heap.size w w':=by
 obtain ⟨hX,hT,hE⟩:=hK
 by_cases h:s.size≤2000
 ·have e:=strB_of s
  rw [e]
  exact KeepParses_core s.data.toList w (by have:=strB_size s.data.toList;rw [← e] at this;omega) hX hT hE hM
 ·have h2:2000 < s.size:=by omega
  have HX:=Lib.hid hX
  have HT:=Lib.hid hT
  clear hX hT hE hM h
  go_enter Tryz.func7,Tryz.ntmps7
  go_wp2_with fail
  refine Calls.mono (awake24 w HX.out HT.out) ?_
  rintro e w1 ⟨rfl,hb⟩
  have HB:=Lib.hid hb
  clear hb
  go_wp2
  go_ret
  exact ⟨rfl,HB.out⟩
end Go.Proofs.YtccaiiigdfieoaaGreatDoor
namespace Go.By
open Go.RowKit
end Go.By
