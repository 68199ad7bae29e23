/- Chapter 19: the document's Take. Chapter 19: TakerTakes,of a plan that may be. Chapter 28: audit.same,of two takers that know the same. Plain: commands of a script,their lines,and what lines say. No program in sight. Plain: the ways in which a text is gone through,sign by sign. No program in sight. Chapter 24,the reference: value,Unhex. The chapter's example (plan). The library: ParseUint of base 10,of 31 and of 32 bits,of texts of digits alone. The reference's word and Number. The library's SplitN at a blank; strconv.ParseUint; the plan's number. The plan's number. Plain: what a plan's text says. The plan's Parse. The walk of the law PlanBack. Chapter 24,plain: the text of a taker,read. Chapter 26: the forms of words; find. Chapter 26: the closure of find; slices.IndexFunc of forms; find. Chapter 26: readBytes. Chapter 24: keep.read. Chapter 24,plain: packets of which each one is heard,or the first that is not. Chapter 24: keep.Import. The library's Split,Cut,CutSuffix at a sign. -/
import Derived.Test.YtccaiiigdfieoaaGreatDoorZi9
import Derived.Deep.DeepCutAuto
import Derived.Lib.AtoiAllMem
import Derived.Lib.ConvBytes
import Derived.Lib.Walk
import Derived.Laws.Strings3
import Derived.Laws.Closers25
import Derived.Laws.Closers25b
import Derived.OwnWalk
import Derived.Lib.Split
import Derived.Lib.SplitLaws
import Derived.OpenShut
import Derived.Outline
import Derived.Lib.Strings
import Derived.Lib.CountLaws
namespace Go.By
open Go.RowKit Go.Proofs.YtccaiiigdfieoaaGreatDoor
def ShVq (m:UInt8) (B:Nat) (p:Option Addr) (j c:Nat) (ys:List UInt8):Shp:=⟨fun v w=>VecQ m B w v p j c ys,fun _ _ _ h hb=>by
 rcases h with h | ⟨h,q,n,c',e,g⟩
 ·exact .inl h
 ·exact .inr ⟨h,q,n,c',e,g.keep hb⟩⟩
def ShEq (m:UInt8) (B:Nat) (p:Option Addr) (j c:Nat) (ys:List UInt8) (u:Value):Shp:=⟨fun v w=>∃ q n c',v = .agg #[.slice q n c',u]∧VecQ m B w (.slice q n c') p j c ys,fun _ _ _ ⟨q,n,c',e,h⟩ hb=>⟨q,n,c',e,by
 rcases h with h | ⟨h,q,n,c',e,g⟩
 ·exact .inl h
 ·exact .inr ⟨h,q,n,c',e,g.keep hb⟩⟩⟩
def ShNewR (T B:Nat) (cs:Array Value):Shp:=⟨fun v w=>∃ g,v = .pointer (some ⟨g,0,none⟩)∧B≤g∧w.heap[g]? = some (.cells cs T (0,0)),fun _ _ _ ⟨g,e,h1,h2⟩ hb=>⟨g,e,h1,(hb.block _ (lt_of_block h2)).trans h2⟩⟩
end Go.By
namespace Go.Proofs.YtccaiiigdfieoaaGreatDoor
open Go.RowKit Go.By Gf Go.Maps
theorem info_rrow3:(Tryz.prog.info? 101).map (fun i=>(i.zero,i.size,i.bytes)) = some (some (.agg #[.slice none 0 0,.slice none 0 0]),2,48):=by kernel_rfl
theorem info_rrow2:(Tryz.prog.info? 101).map (·.size) = some 2:=by kernel_rfl
def TkR19 (wI w:World) (X:List Rw) (st:Nat) (code:Int) (e:Ending) (w':World):Prop :=
 ∃ q n c,e = .returned (.tuple #[.slice q n c,.int .i64 (st:Nat),.int .i64 code])∧RRef wI w' q n c X∧Below w.heap.size w w'
set_option maxRecDepth 100000 in
set_option maxHeartbeats 2000000 in
theorem RTake19_no (L t k D:Nat) (q:Option Addr) (n c:Nat) (X:List Rw) (st:Nat) (p:Option Addr) (m d:Nat) (xs:List UInt8) (wI w:World) (hP:POK L t k D) (hB:Below wI.heap.size wI w) (hR:RRef wI w q n c X) (hs:Sl B8 wI p m d xs) (hx:¬ (readC k t D xs = 0∧st = 0)) :
  Calls Tryz.prog 28 #[PVal L t k D,.slice q n c,.int .i64 (st:Nat),.slice p m d] w (TkR19 wI w X st (readC k t D xs)):=by
 have HR:=Lib.hid hR
 have HRD:Hid (∀ W,Below w.heap.size w W→Calls Tryz.prog 83 #[PVal L t k D,.slice p m d] W fun e w'=>∃ a1 a2 a3 a4 b1 b2 b3 b4 b5 b6 b7,e = .returned (.tuple #[PkVal a1 a2 a3 a4 b1 b2 b3 b4 b5 b6 b7,.int .i64 (readC k t D xs)])∧Below W.heap.size W w'):=fun W hb=>by
  refine Calls.mono (RRead15_any L t k D p m d xs W hP (hs.keep (bl hB hb hB.size))) ?_
  rintro e w' ⟨hb,⟨h0,_,_,_,_,_,rfl,_⟩ | ⟨h0,rfl⟩⟩
  ·exact ⟨_,_,_,_,_,_,_,_,_,_,_,by rw [h0],hb⟩
  ·exact ⟨0,0,0,0,none,0,0,0,none,0,0,rfl,hb⟩
 have e0:(readC k t D xs != 0) = true∨((readC k t D xs != 0) = false∧((st:Int) != 0) = true):=by
  by_cases h:readC k t D xs = 0
  ·refine .inr ⟨by rw [h];rfl,bne_iff_ne.2 fun g=>hx ⟨h,by omega⟩⟩
  ·exact .inl (bne_iff_ne.2 h)
 generalize readC k t D xs = C at *
 clear hP hR hs hx
 rcases e0 with e0 | ⟨e0,e1⟩
 all_goals
  go_enter Tryz.func28,Tryz.ntmps28
  go_wp2_with fail
  have ba:Below w.heap.size w (w.alloc (.cells #[.int .i64 (L:Nat),.int .i64 (t:Nat),.int .i64 (k:Nat),.int .u32 (D:Nat)] 52 (0,0))):=al (Below.refl _ _) (Nat.le_refl _)
  refine Calls.mono (HRD.out _ ba) ?_
  rintro e w1 ⟨a1,a2,a3,a4,b1,b2,b3,b4,b5,b6,b7,rfl,hb⟩
  have HB:=Lib.hid (bl ba hb ba.size)
  clear hb ba HRD
  go_wp2
  go_ret3
  exact ⟨q,n,c,rfl,HR.out.keep (al HB.out HB.out.size),al HB.out HB.out.size⟩
set_option maxRecDepth 100000 in
set_option maxHeartbeats 4000000 in
theorem RTake19_yes (L t k D:Nat) (q:Option Addr) (n c:Nat) (X:List Rw) (p:Option Addr) (m d:Nat) (xs:List UInt8) (wI w:World) (hP:POK L t k D) (hB:Below wI.heap.size wI w) (hR:RRef wI w q n c X) (hs:Sl B8 wI p m d xs) (hf:∀ x,x ∈ X→Fit k t x) (hn:n≤4000) (hx:readC k t D xs = 0) :
  Calls Tryz.prog 28 #[PVal L t k D,.slice q n c,.int .i64 0,.slice p m d] w (TkR19 wI w (refX k t D X 0 xs) (refZ k t D X 0 xs) 0):=by
 obtain ⟨r0,hr0,hrz,hr1',hr2'⟩:=info_parts info_rrow3
 have HR:=Lib.hid hR
 have HBI:=Lib.hid hB
 have hm0:=(read_fits hx).1
 have hfx:=read_fit hx
 have hXl:=hR.len
 have HK:Hid (∀ (M:Nat) (p1:Option Addr) (j1 c1:Nat) (q2:Option Addr) (d2:Nat) (W:World),(pktM xs = 0→j1 = k)→Calls Tryz.prog 84 #[PVal L t k D,PkVal (pktM xs) D M (pktM xs) p1 j1 c1 (pktS k xs) q2 t d2] W fun e w'=>∃ v,e = .returned v∧VecQ (pktM xs) W.heap.size w' v p1 j1 c1 (vecS (pktM xs) (pktX k xs) (pktS k xs) k)∧Below W.heap.size W w'):=fun M p1 j1 c1 q2 d2 W hj=>RVector15_any L t k D D M (pktM xs) p1 j1 c1 (pktS k xs) q2 t d2 (pktX k xs) W hP hm0 hj
 have HRD:Hid (∀ W,Below w.heap.size w W→Calls Tryz.prog 83 #[PVal L t k D,.slice p m d] W fun e w'=>∃ q1 j1 c1 q2 d2,e = .returned (.tuple #[PkVal (pktM xs) D (pktN xs) (pktM xs) q1 j1 c1 (pktS k xs) q2 t d2,.int .i64 0])∧Sl B8 wI q1 j1 c1 (pktX k xs)∧(pktM xs = 0→j1 = k)∧Sl B8 wI q2 t d2 (pktY k t xs)∧Below W.heap.size W w'):=fun W hb=>by
  refine Calls.mono (RRead15_any L t k D p m d xs W hP (hs.keep (bl hB hb hB.size))) ?_
  rintro e w' ⟨hb,⟨h0,q1,j1,c1,q2,d2,rfl,g1,g2,g3⟩ | ⟨h0,-⟩⟩
  ·exact ⟨q1,j1,c1,q2,d2,rfl,g1 wI hs,g2,g3 wI hs,hb⟩
  ·exact absurd hx h0
 obtain ⟨x,hxe⟩:∃ x,x = eqX k t xs:=⟨_,rfl⟩
 have HXV:Hid (x.1 = vecS (pktM xs) (pktX k xs) (pktS k xs) k∧x.2 = pktY k t xs∧(pktM xs = 0→vecS (pktM xs) (pktX k xs) (pktS k xs) k = pktX k xs)):=⟨by rw [hxe];rfl,by rw [hxe];rfl,fun h=>by unfold vecS;rw [if_pos h]⟩
 have HJD:Hid (∀ W a b,RwS W a (n + 1) b (X ++ [x])→Calls Tryz.prog 85 #[.slice a (n + 1) b] W fun e w'=>e = .returned (.tuple #[.int .i64 (kD (X ++ [x])).length,.int .i64 (clashI (X ++ [x]) (X.length + 1))])∧Below W.heap.size W w'):=fun W a b h=>by
  have:=RJudge_any k t a (n + 1) b (X ++ [x]) W h hP.k2 hP.t2 (by omega) (fun y hy=>by
   rcases List.mem_append.1 hy with hy | hy
   ·exact hf y hy
   ·simp at hy;rw [hy,hxe];exact hfx)
  rw [hXl];exact this
 have HQ:Hid (refX k t D X 0 xs = (if clashI (X ++ [x]) (X.length + 1) < 0 then X ++ [x] else X)∧refZ k t D X 0 xs = (if clashI (X ++ [x]) (X.length + 1) < 0 then (if (kD (X ++ [x])).length = k then 1 else 0) else 2)):=by
  unfold refX refZ
  rw [← hxe]
  refine ⟨?_,?_⟩
  ·by_cases h:clashI (X ++ [x]) (X.length + 1) < 0
   ·rw [if_pos ⟨hx,rfl,h⟩,if_pos h]
   ·rw [if_neg (fun g=>h g.2.2),if_neg h]
  ·rw [if_pos ⟨hx,rfl⟩]
 generalize refX k t D X 0 xs = X' at *
 generalize refZ k t D X 0 xs = Z' at *
 generalize pktM xs = M at *
 generalize pktN xs = PN at *
 generalize pktS k xs = S at *
 generalize vecS M (pktX k xs) S k = VX at *
 generalize pktX k xs = PX at *
 generalize pktY k t xs = PY at *
 generalize (kD (X ++ [x])).length = rk at *
 generalize clashI (X ++ [x]) (X.length + 1) = CL at *
 clear hP hB hR hs hf hx hm0 hfx hxe hXl
 go_enter Tryz.func28,Tryz.ntmps28
 go_wp2_with fail
 have ba:Below w.heap.size w (w.alloc (.cells #[.int .i64 (L:Nat),.int .i64 (t:Nat),.int .i64 (k:Nat),.int .u32 (D:Nat)] 52 (0,0))):=al (Below.refl _ _) (Nat.le_refl _)
 have kp1:(w.alloc (.cells #[.int .i64 (L:Nat),.int .i64 (t:Nat),.int .i64 (k:Nat),.int .u32 (D:Nat)] 52 (0,0))).heap[w.heap.size]? = some (.cells #[.int .i64 (L:Nat),.int .i64 (t:Nat),.int .i64 (k:Nat),.int .u32 (D:Nat)] 52 (0,0)):=hnew rfl
 refine Calls.mono (HRD.out _ ba) ?_
 rintro e w1 ⟨q1,j1,c1,q2,d2,rfl,g1,g2,g3,hb⟩
 obtain ⟨gp,hgp⟩:∃ gp,gp = w.heap.size:=⟨_,rfl⟩
 have kp:=(hb.block _ (lt_of_block kp1)).trans kp1
 rw [← hgp] at kp ⊢
 have HB1:=Lib.hid (bl ba hb ba.size)
 have G1:=Lib.hid g1
 have G2:=Lib.hid g2
 have G3:=Lib.hid g3
 clear hb ba kp1 hgp HRD g1 g2 g3
 have ba:Below w1.heap.size w1 (w1.alloc (.cells #[B8 M,.int .u32 (D:Nat),.int .u32 (PN:Nat),B8 M,.slice q1 j1 c1,.int .u64 (S:Nat),.slice q2 t d2] 153 (0,0))):=al (Below.refl _ _) (Nat.le_refl _)
 have kk:(w1.alloc (.cells #[B8 M,.int .u32 (D:Nat),.int .u32 (PN:Nat),B8 M,.slice q1 j1 c1,.int .u64 (S:Nat),.slice q2 t d2] 153 (0,0))).heap[w1.heap.size]? = some (.cells #[B8 M,.int .u32 (D:Nat),.int .u32 (PN:Nat),B8 M,.slice q1 j1 c1,.int .u64 (S:Nat),.slice q2 t d2] 153 (0,0)):=hnew rfl
 have kp2:=(ba.block _ (lt_of_block kp)).trans kp
 have HB2:=Lib.hid (bl HB1.out ba HB1.out.size)
 go_upto_region 4 with (fail)
 obtain ⟨gk,hgk⟩:∃ gk,gk = w1.heap.size:=⟨_,rfl⟩
 rw [← hgk] at kk ⊢
 generalize w1.alloc (.cells #[B8 M,.int .u32 (D:Nat),.int .u32 (PN:Nat),B8 M,.slice q1 j1 c1,.int .u64 (S:Nat),.slice q2 t d2] 153 (0,0)) = w2 at *
 clear hgk kp ba HB1
 obtain ⟨z0,z1,z2,z3⟩:=cells_four kp2
 obtain ⟨f0,f1,f2,f3,f4,f5,f6⟩:=cells_seven kk
 refine wp_region_tail (fun ix=>([.val (.agg #[.int .i64 (L:Nat),.int .i64 (t:Nat),.int .i64 (k:Nat),.int .u32 (D:Nat)]),.val (.agg #[B8 M,.int .u32 (D:Nat),.int .u32 (PN:Nat),B8 M,.slice q1 j1 c1,.int .u64 (S:Nat),.slice q2 t d2]),(ShVq M w2.heap.size q1 j1 c1 VX),.val (.pointer (some ⟨gk,6,none⟩)),.val (.slice q2 t d2),(ShEq M w2.heap.size q1 j1 c1 VX (.slice q2 t d2)),(ShNewR 101 w2.heap.size #[.slice none 0 0,.slice none 0 0]),.any][ix]?).getD (.any)) 59 7 rfl (by kernel_rfl) (by decide +kernel) (by decide +kernel) (by decide +kernel) (by decide +kernel) ?_ ?_
 ·refine ⟨?_,?_,?_,?_,?_,?_,?_,trivial⟩
  ·intro a W hb0 hs hp hi;have hb:=undrew hb0;clear hb0
   have tt:sl a 4 = .pointer (some ⟨gp,0,none⟩):=hi 4 (by decide)
   have dd0:=(hb.cell (p:=⟨gp,0,none⟩) (lt_of_cell z0)).trans z0
   have dd1:=(hb.cell (p:=⟨gp,1,none⟩) (lt_of_cell z1)).trans z1
   have dd2:=(hb.cell (p:=⟨gp,2,none⟩) (lt_of_cell z2)).trans z2
   have dd3:=(hb.cell (p:=⟨gp,3,none⟩) (lt_of_cell z3)).trans z3
   refine ite_y rfl (wp_val (.agg #[.int .i64 (L:Nat),.int .i64 (t:Nat),.int .i64 (k:Nat),.int .u32 (D:Nat)]) ?_ ?_)
   ·simp only [execOp,eval_tmp,tt];simp [go_sem,dd0,dd1,dd2,dd3]
   ·exact ⟨_,rfl,Below.refl _ _,rfl⟩
  ·intro a W hb0 hs hp hi;have hb:=undrew hb0;clear hb0
   have tt:sl a 11 = .pointer (some ⟨gk,0,none⟩):=hi 11 (by decide)
   have dd0:=(hb.cell (p:=⟨gk,0,none⟩) (lt_of_cell f0)).trans f0
   have dd1:=(hb.cell (p:=⟨gk,1,none⟩) (lt_of_cell f1)).trans f1
   have dd2:=(hb.cell (p:=⟨gk,2,none⟩) (lt_of_cell f2)).trans f2
   have dd3:=(hb.cell (p:=⟨gk,3,none⟩) (lt_of_cell f3)).trans f3
   have dd4:=(hb.cell (p:=⟨gk,4,none⟩) (lt_of_cell f4)).trans f4
   have dd5:=(hb.cell (p:=⟨gk,5,none⟩) (lt_of_cell f5)).trans f5
   have dd6:=(hb.cell (p:=⟨gk,6,none⟩) (lt_of_cell f6)).trans f6
   refine ite_y rfl (wp_val (.agg #[B8 M,.int .u32 (D:Nat),.int .u32 (PN:Nat),B8 M,.slice q1 j1 c1,.int .u64 (S:Nat),.slice q2 t d2]) ?_ ?_)
   ·simp only [execOp,eval_tmp,tt];simp [go_sem,dd0,dd1,dd2,dd3,dd4,dd5,dd6]
   ·exact ⟨_,rfl,Below.refl _ _,rfl⟩
  ·intro a W hb0 hs hp hi;have hb:=undrew hb0;clear hb0
   have t32:sl a 32 = .agg #[.int .i64 (L:Nat),.int .i64 (t:Nat),.int .i64 (k:Nat),.int .u32 (D:Nat)]:=hp 0 (by decide)
   have t33:sl a 33 = .agg #[B8 M,.int .u32 (D:Nat),.int .u32 (PN:Nat),B8 M,.slice q1 j1 c1,.int .u64 (S:Nat),.slice q2 t d2]:=hp 1 (by decide)
   refine ite_y rfl (wp_enter 84 #[.agg #[.int .i64 (L:Nat),.int .i64 (t:Nat),.int .i64 (k:Nat),.int .u32 (D:Nat)],.agg #[B8 M,.int .u32 (D:Nat),.int .u32 (PN:Nat),B8 M,.slice q1 j1 c1,.int .u64 (S:Nat),.slice q2 t d2]] ?_ (HK.out PN q1 j1 c1 q2 d2 W G2.out) ?_)
   ·simp only [execOp,resolve,List.map_toArray,List.map,eval_tmp,eval_func,eval_const,t32,t33];simp [go_sem]
   ·rintro e W' ⟨v5,rfl,hv,hw⟩
    refine ⟨_,rfl,_,rfl,hw,?_⟩
    rcases hv with hv | ⟨h,qf,nf,cf,e,g⟩
    ·exact .inl hv
    ·exact .inr ⟨h,qf,nf,cf,e,g.mono hb.size⟩
  ·intro a W hb0 hs hp hi;have hb:=undrew hb0;clear hb0
   have t11:sl a 11 = .pointer (some ⟨gk,0,none⟩):=hi 11 (by decide)
   refine ite_y rfl (wp_val (.pointer (some ⟨gk,6,none⟩)) ?_ ?_)
   ·simp only [execOp,eval_tmp,eval_const,t11];simp [go_sem]
   ·exact ⟨_,rfl,Below.refl _ _,rfl⟩
  ·intro a W hb0 hs hp hi;have hb:=undrew hb0;clear hb0
   have tt:sl a 35 = .pointer (some ⟨gk,6,none⟩):=hp 3 (by decide)
   have dd:=(hb.cell (p:=⟨gk,6,none⟩) (lt_of_cell f6)).trans f6
   refine ite_y rfl (wp_val (.slice q2 t d2) ?_ ?_)
   ·simp only [execOp,eval_tmp,tt];simp [go_sem,dd]
   ·exact ⟨_,rfl,Below.refl _ _,rfl⟩
  ·intro a W hb0 hs hp hi;have hb:=undrew hb0;clear hb0
   have t34:VecQ M w2.heap.size W (sl a 34) q1 j1 c1 VX:=hp 2 (by decide)
   have t36:sl a 36 = .slice q2 t d2:=hp 4 (by decide)
   obtain ⟨qf,nf,cf,t34e⟩:∃ qf nf cf,sl a 34 = .slice qf nf cf:=by
    rcases t34 with ⟨_,e⟩ | ⟨_,qf,nf,cf,e,_⟩
    ·exact ⟨_,_,_,e⟩
    ·exact ⟨_,_,_,e⟩
   rw [t34e] at t34
   have v34:a.tmps[34]?.getD undef = sl a 34:=by simp [sl]
   rw [t34e] at v34
   have v36:a.tmps[36]?.getD undef = sl a 36:=by simp [sl]
   rw [t36] at v36
   refine ite_y rfl (wp_val (.agg #[.slice qf nf cf,.slice q2 t d2]) ?_ ?_)
   ·simp only [execOp,eval_tmp,t34e,t36];simp [go_sem,v34,v36,Tryz.underlying101]
   ·exact ⟨_,rfl,Below.refl _ _,qf,nf,cf,rfl,t34⟩
  ·intro a W hb0 hs hp hi;have hb:=undrew hb0;clear hb0
   refine ite_y rfl (wp_val' (w':=W.alloc (.cells #[.slice none 0 0,.slice none 0 0] 101)) (.pointer (some ⟨W.heap.size,0,none⟩)) ?_ ?_)
   ·simp only [execOp];simp [go_sem]
   ·exact ⟨_,rfl,al (Below.refl _ _) (Nat.le_refl _),_,rfl,hb.size,hnew rfl⟩
 intro a w3 hb hs hd hI ht
 have ha:=act_is [32,33,34,35,36,37,13] hs hd ht (by decide)
 have y13:=hI 6 (by decide)
 obtain ⟨g13,t13,hg13,hh13⟩:=y13
 have y37:=hI 5 (by decide)
 obtain ⟨qv,nv,cv,t37,hvq⟩:=y37
 simp only [List.foldl,t13,t37] at ha
 generalize sl a 32 = u32 at ha
 generalize sl a 33 = u33 at ha
 generalize sl a 34 = u34 at ha
 generalize sl a 35 = u35 at ha
 generalize sl a 36 = u36 at ha
 simp only [Act.put,List.setIfInBounds_toArray,List.set_cons_zero,List.set_cons_succ] at ha
 rw [ha];clear ha hI ht hs hd
 simp only [List.drop_succ_cons,List.drop_zero]
 have kp3:=(hb.block _ (lt_of_block kp2)).trans kp2
 have HB3:=Lib.hid (bl HB2.out hb HB2.out.size)
 have HG3:Hid (w.heap.size≤g13):=Nat.le_trans HB2.out.size hg13
 have HGP:Hid (gp < g13):=by have:=lt_of_block kp2;show gp < g13;omega
 have HVQ:Hid (OldB wI w3 (.slice qv nv cv) x.1):=by
  obtain ⟨x1,x2,x3⟩:=HXV.out
  rcases hvq with ⟨h0,e⟩ | ⟨h0,qf,nf,cf,e,hfr⟩
  ·exact ⟨_,_,_,e,.inl (by rw [x1,x3 h0];exact G1.out)⟩
  ·exact ⟨_,_,_,e,.inr (by rw [x1];exact hfr.mono (Nat.le_trans HBI.out.size HB2.out.size))⟩
 clear hb z0 z1 z2 z3 f0 f1 f2 f3 f4 f5 f6 kk kp2 hvq HB2 HK
 have kb:=hh13
 go_upto_region 6 with (refine wpList_store_row (o:=⟨none,.store 101 (.tmp 13) (.tmp 37),_,_,_,_⟩) rfl 101 (.tmp 13) (.tmp 37) rfl g13 #[.slice qv nv cv,.slice q2 t d2] rfl rfl _ _ kb info_rrow2 rfl (by simp [Value.oneCell']) ?_)
 have k4:(w3.setRow g13 #[.slice qv nv cv,.slice q2 t d2]).heap[g13]? = some (.cells #[.slice qv nv cv,.slice q2 t d2] 101 (0,0)):=hrs kb
 have kp4:(w3.setRow g13 #[.slice qv nv cv,.slice q2 t d2]).heap[gp]? = _:=hro kp3 (Nat.ne_of_lt HGP.out)
 have HB4:=Lib.hid (below_row (cs:=#[.slice qv nv cv,.slice q2 t d2]) HB3.out HG3.out)
 have HVQ4:Hid (OldB wI (w3.setRow g13 #[.slice qv nv cv,.slice q2 t d2]) (.slice qv nv cv) x.1):=HVQ.out.same fun b cs fr hb=>by
  have hne:b≠g13:=fun e=>by rw [e,kb] at hb;injection hb with hb;injection hb with _ hb _;exact absurd hb (by decide)
  exact (hro hb hne).trans hb.symm
 generalize w3.setRow g13 #[.slice qv nv cv,.slice q2 t d2] = w4 at *
 have HR4:=Lib.hid (HR.out.keep HB4.out)
 obtain ⟨vs,hv,hvl,hvr⟩:=HR4.out.vals
 have HV:=Lib.hid hv
 have HVL:=Lib.hid hvl
 have HVR:=Lib.hid hvr
 clear kb hh13 kp3 HB3 HVQ hv hvl hvr
 go_wp2_with (at_builtin;refine wpList_append_two w4 rfl (.tmp 38) (.tmp 39) 53 rfl w4.heap.size 101 r0 _ 48 Tryz.underlying53 hr0 hrz hr1' hr2' rfl (.slice none 0 0) 0 [] rfl (World.ownsRow_nil _ _ _ _) q n c vs rfl HV.out (by unfold maxLen;omega) (by omega) (Nat.le_refl _) ?_)
 intro v5 w5 ho5 hg5
 obtain ⟨qa,ca,rfl⟩:=owns_shape ho5
 try simp only [Nat.zero_add,List.nil_append] at ho5
 have BA:Hid (Below w4.heap.size w4 w5):=(Below.refl _ _).grown hg5 (Nat.le_refl _) (by simp [Value.ownBlock])
 have OA:=Lib.hid ho5
 have KP4:=Lib.hid kp4
 have X5:Hid (w5.heap[g13]? = some (.cells #[.slice qv nv cv,.slice q2 t d2] 101 (0,0))):=(BA.out.block _ (lt_of_block k4)).trans k4
 obtain ⟨x0,x1⟩:=cells2 X5.out
 have OA2:Hid (∀ o,(w5.alloc o).ownsRow w4.heap.size 101 2 (.slice qa n ca) n (fl2 vs)):=fun o=>owns_keep OA.out (al (Below.refl _ _) (Nat.le_refl _))
 have sA:=BA.out.size
 clear ho5 hg5 k4 kp4 HV
 try rw [Nat.zero_add]
 go_wp2_with (at_builtin;refine wpList_append_own _ rfl (.tmp 41) (.tmp 43) 53 rfl w4.heap.size 101 r0 _ 2 48 Tryz.underlying53 hr0 hrz hr1' hr2' rfl (by omega) _ n (fl2 vs) rfl (OA2.out _) ⟨w5.heap.size,0,none⟩ 1 1 [.slice qv nv cv,.slice q2 t d2] rfl rfl ?_ ?_ ?_ ?_ ?_ ?_)
 ·intro j' y hj'
  rw [Addr.add_lit,Nat.zero_add,cell_of_row _ _ j' _ _ _ (hnew rfl)]
  match j' with
  | 0=>simpa using hj'
  | 1=>simpa using hj'
  | j' + 2=>simp at hj'
 ·intro y hy;simp at hy;rcases hy with rfl | rfl <;> rfl
 ·unfold maxLen;omega
 ·omega
 ·simp;omega
 intro v6 w6 ho6 hg6 _
 obtain ⟨qb,cb,rfl⟩:=owns_shape ho6
 have BB:Hid (Below w4.heap.size w4 w6):=(al BA.out sA).grown hg6 (by simp;omega) (fun kk hk=>(OA.out.lt kk hk).1)
 have HB6:=Lib.hid (bl HB4.out BB.out HB4.out.size)
 have KP6:=Lib.hid ((BB.out.block _ (lt_of_block KP4.out)).trans KP4.out)
 have RR:Hid (RRef wI w6 qb (n + 1) cb (X ++ [x])):=by
  refine ⟨vs ++ [(.slice qv nv cv,.slice q2 t d2)],?_,by simp [HVL.out],by simp [HR4.out.len],fun j u hj=>?_⟩
  ·rw [fl2_append];exact owns_mono ho6 (Nat.le_trans HBI.out.size HB4.out.size)
  ·rcases Nat.lt_or_ge j vs.length with g | g
   ·rw [List.getElem?_append_left g] at hj
    obtain ⟨k',hk',a1,a2⟩:=HVR.out j u hj
    exact ⟨k',by rw [List.getElem?_append_left (by have:=HR4.out.len;have:=HVL.out;omega)];exact hk',a1.keep BB.out,a2.keep BB.out⟩
   ·have hj0:j = vs.length:=by have:=(List.getElem?_eq_some_iff.1 hj).1;simp at this;omega
    subst hj0
    simp at hj
    subst hj
    refine ⟨x,by rw [List.getElem?_append_right (by have:=HR4.out.len;have:=HVL.out;omega),show vs.length - X.length = 0 by have:=HR4.out.len;have:=HVL.out;omega];rfl,HVQ4.out.keep BB.out,⟨q2,t,d2,rfl,.inl ?_⟩⟩
    rw [HXV.out.2.1];exact G3.out
 have JD:=Lib.hid (HJD.out w6 qb cb (RR.out.rwS (bl HBI.out HB6.out HBI.out.size)))
 clear ho6 hg6 x0 x1 OA2 OA X5 KP4 sA HJD BB BA HVQ4 HVR
 go_wp2_with fail
 refine Calls.mono JD.out ?_
 rintro e w7 ⟨rfl,hb⟩
 have HB7:=Lib.hid (bl HB6.out hb HB6.out.size)
 have R7:=Lib.hid (RR.out.keep hb)
 have R0:=Lib.hid (HR.out.keep HB7.out)
 have kp7:=(hb.block _ (lt_of_block KP6.out)).trans KP6.out
 obtain ⟨z0,z1,z2,z3⟩:=cells_four kp7
 obtain ⟨hq1,hq2⟩:=HQ.out
 clear hb JD RR HB6 HB4 KP6 kp7 HR HR4
 by_cases hcl:CL < 0
 ·have hc:¬ (0:Int)≤CL:=by omega
  rw [if_pos hcl] at hq1 hq2
  have HQ1:=Lib.hid hq1
  by_cases hrk:rk = k
  ·have hz:((rk:Int) == (k:Int)) = true:=by rw [hrk];simp
   rw [if_pos hrk] at hq2
   have HQ2:=Lib.hid hq2
   clear hq1 hq2 hcl hrk HQ
   go_wp2
   go_ret3
   exact ⟨qb,_,cb,by rw [HQ2.out];rfl,by rw [HQ1.out];exact R7.out,HB7.out⟩
  ·have hz:((rk:Int) == (k:Int)) = false:=beq_eq_false_iff_ne.2 (by omega)
   rw [if_neg hrk] at hq2
   have HQ2:=Lib.hid hq2
   clear hq1 hq2 hcl hrk HQ
   go_wp2
   go_ret3
   exact ⟨qb,_,cb,by rw [HQ2.out];rfl,by rw [HQ1.out];exact R7.out,HB7.out⟩
 ·have hc:(0:Int)≤CL:=by omega
  rw [if_neg hcl] at hq1 hq2
  have HQ1:=Lib.hid hq1
  have HQ2:=Lib.hid hq2
  clear hq1 hq2 hcl HQ
  go_wp2
  go_ret3
  exact ⟨q,_,c,by rw [HQ2.out];rfl,by rw [HQ1.out];exact R0.out,HB7.out⟩
theorem RTake19_any (L t k D:Nat) (q:Option Addr) (n c:Nat) (X:List Rw) (st:Nat) (p:Option Addr) (m d:Nat) (xs:List UInt8) (wI w:World) (hP:POK L t k D) (hB:Below wI.heap.size wI w) (hR:RRef wI w q n c X) (hs:Sl B8 wI p m d xs) (hf:∀ x,x ∈ X→Fit k t x) (hn:n≤4000) :
  Calls Tryz.prog 28 #[PVal L t k D,.slice q n c,.int .i64 (st:Nat),.slice p m d] w (TkR19 wI w (refX k t D X st xs) (refZ k t D X st xs) (readC k t D xs)):=by
 by_cases h:readC k t D xs = 0∧st = 0
 ·obtain ⟨h1,rfl⟩:=h
  rw [h1]
  exact RTake19_yes L t k D q n c X p m d xs wI w hP hB hR hs hf hn h1
 ·have e1:refX k t D X st xs = X:=by unfold refX;rw [if_neg (fun g=>h ⟨g.1,g.2.1⟩)]
  have e2:refZ k t D X st xs = st:=by unfold refZ;rw [if_neg h]
  rw [e1,e2]
  exact RTake19_no L t k D q n c X st p m d xs wI w hP hB hR hs h
end Go.Proofs.YtccaiiigdfieoaaGreatDoor
namespace Go.By
open Go.RowKit Go.Maps Go.Proofs.YtccaiiigdfieoaaGreatDoor
end Go.By
namespace Go.Proofs.YtccaiiigdfieoaaGreatDoor
open Go.RowKit Go.By Go.Maps
end Go.Proofs.YtccaiiigdfieoaaGreatDoor
namespace Go.By
open Go.RowKit Go.Proofs.YtccaiiigdfieoaaGreatDoor
end Go.By
namespace Go.Proofs.YtccaiiigdfieoaaGreatDoor
open Go.RowKit Go.By Go.Maps
end Go.Proofs.YtccaiiigdfieoaaGreatDoor
namespace Go.Proofs.YtccaiiigdfieoaaGreatDoor
open Go.By Go.Lib
theorem decDigits_decV:∀ (n:Nat) {w:List UInt8},w.length≤n→numG w = true→decDigits (decV 0 w) = w
 | 0,w,hn,h=>by
  have:w = []:=List.length_eq_zero_iff.1 (by omega)
  subst this;cases h
 | n + 1,w,hn,h=>by
  have hne:w≠[]:=fun e=>by subst e;cases h
  obtain ⟨v,d,rfl⟩:∃ v d,w = v ++ [d]:=⟨_,_,(List.dropLast_concat_getLast hne).symm⟩
  have hd:=numG_dig h
  have hdd:=isDig_le (hd d (by simp))
  rw [decV_append,decV_cons,decV_nil]
  by_cases hv:v = []
  ·subst hv
   rw [decV_nil,decDigits_small (by omega)]
   show [_] = [d]
   congr 1
   apply UInt8.toNat_inj.1
   rw [UInt8.toNat_ofNat',Nat.mod_eq_of_lt (by omega)];omega
  ·obtain ⟨x,l,rfl⟩:∃ x l,v = x :: l:=by
    cases v with
    | nil=>exact absurd rfl hv
    | cons x l=>exact ⟨x,l,rfl⟩
   have hx0:x≠48:=fun e=>by
    subst e
    unfold numG at h
    simp at h
   have hx:=isDig_le (hd x (by simp))
   have hx1:49≤x.toNat:=by
    rcases Nat.lt_or_ge 48 x.toNat with g | g
    ·exact g
    ·exact absurd (UInt8.toNat_inj.1 (show x.toNat = (48:UInt8).toNat by show x.toNat = 48;omega)) hx0
   have hg:numG (x :: l) = true:=by
    unfold numG
    have ha:(x :: l).all isDig = true:=List.all_eq_true.2 fun b hb=>hd b (List.mem_append_left _ hb)
    rw [ha]
    have:¬ ((x :: l).head? = some 48):=by simp [hx0]
    simp [hx0]
   have h1:1≤decV 0 (x :: l):=by
    rw [decV_cons]
    exact Nat.le_trans (by omega) (decV_le l _)
   have hlen:(x :: l).length≤n:=by simp at hn ⊢;omega
   rw [decDigits_big (by omega),show (10 * decV 0 (x :: l) + (d.toNat - 48)) / 10 = decV 0 (x :: l) by omega,show (10 * decV 0 (x :: l) + (d.toNat - 48)) % 10 = d.toNat - 48 by omega,decDigits_decV n hlen hg]
   congr 1
   congr 1
   apply UInt8.toNat_inj.1
   rw [UInt8.toNat_ofNat',Nat.mod_eq_of_lt (by omega)];omega
theorem numB_some {M x:Nat} {w:List UInt8} (h:numB M w = some x):numG w = true∧x = decV 0 w∧x≤M∧decDigits x = w:=by
 unfold numB at h
 split at h
 ·rename_i hc
  injection h with h
  subst h
  exact ⟨hc.1,rfl,hc.2,decDigits_decV _ (Nat.le_refl _) hc.1⟩
 ·cases h
theorem hexL_plain (l:List UInt8):∀ b ∈ hexL l,b≠32∧b≠10:=fun b hb=>by
 unfold hexL at hb
 obtain ⟨x,_,hb⟩:=List.mem_flatMap.1 hb
 have hx:=x.toNat_lt
 have key:∀ y,y < 16→dgt y≠32∧dgt y≠10:=by decide
 simp at hb
 rcases hb with rfl | rfl
 ·exact key _ (by omega)
 ·exact key _ (by omega)
theorem dec_plain (u:Nat):∀ b ∈ decDigits u,b≠32∧b≠10:=fun b hb=>by
 have:=isDig_le ((decDigits_facts u u (Nat.le_refl _)).2.1 b hb)
 exact ⟨fun e=>by subst e;exact absurd this.1 (by decide),fun e=>by subst e;exact absurd this.1 (by decide)⟩
end Go.Proofs.YtccaiiigdfieoaaGreatDoor
namespace Go.Proofs.YtccaiiigdfieoaaGreatDoor
open Go.By Go.Lib
theorem drop_one {s:List UInt8} {i:Nat} {c:UInt8} (h:s[i]? = some c):s.drop i = c :: s.drop (i + 1):=by
 obtain ⟨h1,e1⟩:=List.getElem?_eq_some_iff.1 h
 rw [List.drop_eq_getElem_cons h1,e1]
def splA (c:UInt8) (s:List UInt8):List (List UInt8):=spl c s.length s
theorem spl_more {c:UInt8} {k:Nat} {s:List UInt8} (h:s.length≤k):spl c k s = splA c s:=by
 rw [spl_min,Nat.min_eq_right h];rfl
theorem splA_free {c:UInt8} {s:List UInt8} (h:∀ b ∈ s,b≠c):splA c s = [s]:=by
 have:=cutW_all h
 exact spl_none (by rw [this])
theorem splA_cut {c:UInt8} {a:List UInt8} (h:∀ b ∈ a,b≠c) (r:List UInt8):splA c (a ++ c :: r) = a :: splA c r:=by
 have e:=cutW_app h r
 unfold splA
 rw [List.length_append,List.length_cons,show a.length + (r.length + 1) = (a.length + r.length) + 1 by omega,spl_some (r:=r) (by rw [e]),e,spl_more (by omega)];rfl
theorem splA_ne (c:UInt8) (s:List UInt8):splA c s≠[]:=fun e=>by
 have:=(spl_len c s.length s).1
 rw [show spl c s.length s = [] from e] at this
 simp at this
def PcAt (c:UInt8) (s:List UInt8) (i:Nat) (front:List (List UInt8)) (cur:List UInt8):Prop:=(∀ b ∈ cur,b≠c)∧cur.length≤i∧front.length≤i∧splA c s = front ++ splA c (cur ++ s.drop i)
theorem PcAt.zero (c:UInt8) (s:List UInt8):PcAt c s 0 [] []:=⟨by simp,Nat.le_refl _,Nat.le_refl _,rfl⟩
theorem PcAt.sign {c d:UInt8} {s cur:List UInt8} {i:Nat} {front:List (List UInt8)} (h:PcAt c s i front cur) (hd:s[i]? = some d) (hn:d≠c):PcAt c s (i + 1) front (cur ++ [d]):=by
 obtain ⟨h1,h2,h4,h3⟩:=h
 refine ⟨fun b hb=>?_,by simp;omega,by omega,?_⟩
 ·rcases List.mem_append.1 hb with hb | hb
  ·exact h1 b hb
  ·rw [List.mem_singleton.1 hb];exact hn
 ·rw [h3,drop_one hd];simp
theorem PcAt.cut {c:UInt8} {s cur:List UInt8} {i:Nat} {front:List (List UInt8)} (h:PcAt c s i front cur) (hd:s[i]? = some c):PcAt c s (i + 1) (front ++ [cur]) []:=by
 obtain ⟨h1,h2,h4,h3⟩:=h
 refine ⟨by simp,by simp,by simp;omega,?_⟩
 rw [h3,drop_one hd,splA_cut h1];simp
theorem PcAt.done {c:UInt8} {s cur:List UInt8} {i:Nat} {front:List (List UInt8)} (h:PcAt c s i front cur) (hi:s.length≤i):splA c s = front ++ [cur]:=by
 obtain ⟨h1,_,_,h3⟩:=h
 rw [h3,List.drop_eq_nil_of_le hi,List.append_nil,splA_free h1]
end Go.Proofs.YtccaiiigdfieoaaGreatDoor
namespace Go.By
open Go.RowKit
theorem one_cellI {w:World} {v:Value} {T g:Nat} (hg:g = w.heap.size):∀ (j:Nat) (u:Value),[v][j]? = some u→(w.alloc (.cells #[v] T)).cell? ((⟨g,0,none⟩:Addr).add j) = some u:=by
 intro j u hj
 rw [Addr.add_lit,Nat.zero_add,cell_of_row _ _ j _ _ _ (hnew hg)]
 match j with
 | 0=>simpa using hj
 | j + 1=>simp at hj
end Go.By
namespace Go.Proofs.YtccaiiigdfieoaaGreatDoor
open Go.RowKit Go.By
theorem valD_none {c:UInt8} (h:∀ j,j < 16→dgt j≠c):valD c = 16:=by
 have:=valD_le c
 rcases Nat.lt_or_ge (valD c) 16 with g | g
 ·exact absurd (dgt_valD g) (h _ g)
 ·omega
theorem beq8 (a b:UInt8):((a.toNat:Int) == (b.toNat:Int)) = decide (a = b):=by
 by_cases h:a = b
 ·rw [decide_eq_true h,h];simp
 ·rw [decide_eq_false h];exact beq_eq_false_iff_ne.2 fun e=>h (UInt8.toNat_inj.1 (by omega))
set_option maxHeartbeats 1000000 in
theorem value_any (c:UInt8) (w:World):Calls Tryz.prog 101 #[B8 c] w fun e w'=>e = .returned (.int .u8 (valD c:Nat))∧w = w':=by
 go_enter Tryz.func101,Tryz.ntmps101
 go_wp2
 go_loop [3] (fun v=>∃ k:Nat,k≤16∧v = .int .u8 k∧Hid (∀ j,j < k→dgt j≠c)) (fun v=>16 - (intOf v).toNat)
 case atStart=>exact ⟨0,by omega,rfl,fun j hj=>by omega⟩
 case round =>
  obtain ⟨k,hk,rfl,hr⟩:=hrel
  by_cases hlt:k < 16
  ·have hlt':(k:Int) < 16:=by omega
   have hb:=beq8 (dgt k) c
   by_cases h:dgt k = c
   ·rw [decide_eq_true h] at hb
    have HV:Hid (valD c = k):=by show _ = _;rw [← h,valD_dgt hlt]
    have HL:=Lib.hid hlt
    clear h hlt hr
    go_wp2_with fail
    refine Calls.mono (digit_any k HL.out _) ?_
    rintro e w' ⟨rfl,rfl⟩
    clear HL
    go_wp2
    go_ret
    exact ⟨by rw [HV.out];rfl,rfl⟩
   ·rw [decide_eq_false h] at hb
    have HR:Hid (∀ j,j < k + 1→dgt j≠c):=fun j hj=>by
     by_cases e:j = k
     ·rw [e];exact h
     ·exact hr.out j (by omega)
    have HL:=Lib.hid hlt
    clear h hr
    go_wp2_with fail
    refine Calls.mono (digit_any k HL.out _) ?_
    rintro e w' ⟨rfl,rfl⟩
    clear HL
    go_wp2
    go_round
    case rel=>exact ⟨k + 1,by omega,by go_num,HR.out⟩
    case measure=>simp [intOf];omega
  ·obtain rfl:k = 16:=by omega
   have HV:Hid (valD c = 16):=valD_none hr.out
   clear hr
   go_wp2
   go_ret
   exact ⟨by rw [HV.out];rfl,rfl⟩
def OptB (w:World) (r:Option (List UInt8)) (e:Ending) (w':World):Prop:=∃ q n c,e = .returned (.tuple #[.slice q n c,.bool r.isSome])∧Fresh 5 w.heap.size w' q n c (r.getD [])∧Below w.heap.size w w'
theorem OptB.no {w w':World} {r:Option (List UInt8)} (h:r = none) (hb:Below w.heap.size w w'):OptB w r (.returned (.tuple #[.slice none 0 0,.bool false])) w':=by subst h;exact ⟨none,0,0,rfl,Fresh.none _ _ _,hb⟩
theorem OptB.yes {w w':World} {r:Option (List UInt8)} {xs:List UInt8} {q:Option Addr} {n c:Nat} (h:r = some xs) (ho:w'.ownsRow w.heap.size 5 1 (.slice q n c) n (xs.map B8)) (hb:Below w.heap.size w w'):OptB w r (.returned (.tuple #[.slice q n c,.bool true])) w':=by subst h;exact ⟨q,n,c,rfl,Fresh.of_owns ho,hb⟩
def unhexO (s:List UInt8):Option (List UInt8):=if s = [] then none else unhexP s
theorem unhexO_odd {s:List UInt8} (h:s.length % 2 = 1):unhexO s = none:=by
 unfold unhexO
 split
 ·rfl
 ·exact unhexP_odd _ (Nat.le_refl _) h
set_option maxRecDepth 100000 in
set_option maxHeartbeats 2000000 in
theorem Unhex24_any (l:List UInt8) (w:World) (hl:l.length≤1000000) :
  Calls Tryz.prog 51 #[.string (strB l)] w (OptB w (unhexO l)):=by
 obtain ⟨i0,hi,hz0,hz1,hz2⟩:=info_parts info_u8
 obtain ⟨n,hn⟩:∃ n,n = l.length:=⟨_,rfl⟩
 have hsz:(strB l).size = n:=by rw [strB_size,hn]
 have hemp:=txt_emp l
 have hixk:Hid (∀ (k:Nat) (d:UInt8),l[k]? = some d→∀ w,(Instr.index 9 (.string (strB l)) (.int .i64 (k:Int))).run Tryz.prog w = .ok (B8 d) w):=fun k d hd w=>txt_idx _ Tryz.underlying9 hd _ _ rfl w
 obtain ⟨S,hS⟩:∃ S,S = strB l:=⟨_,rfl⟩
 rw [← hS] at hsz hixk hemp ⊢
 clear hS
 have hl':n≤1000000:=by omega
 have HV:Hid (∀ c w,Calls Tryz.prog 101 #[B8 c] w fun e w'=>e = .returned (.int .u8 (valD c:Nat))∧w' = w):=fun c w=>(value_any c w).mono fun e w' hh=>⟨hh.1,hh.2.symm⟩
 have htm:((n:Int)).tmod 2 = ((n % 2:Nat):Int):=by rw [Int.tmod_eq_emod_of_nonneg (by omega)];omega
 by_cases h0:l = []
 ·rw [decide_eq_true h0] at hemp
  have H0:Hid (unhexO l = none):=by show _ = _;unfold unhexO;rw [if_pos h0]
  clear h0 hn hixk hl
  go_enter Tryz.func51,Tryz.ntmps51
  go_wp2
  go_ret2
  exact OptB.no H0.out (Below.refl _ _)
 ·rw [decide_eq_false h0] at hemp
  have HU:Hid (unhexO l = unhexP l):=by show _ = _;unfold unhexO;rw [if_neg h0]
  by_cases h1:n % 2 = 1
  ·have H0:Hid (unhexO l = none):=unhexO_odd (by omega)
   rw [h1] at htm
   clear h0 hn hixk hl h1 HU
   go_enter Tryz.func51,Tryz.ntmps51
   go_wp2
   go_ret2
   exact OptB.no H0.out (Below.refl _ _)
  ·have h2:n % 2 = 0:=by omega
   rw [h2] at htm
   have HN:=Lib.hid hn
   have H2:=Lib.hid h2
   clear h0 hn hl h1 h2
   go_enter Tryz.func51,Tryz.ntmps51
   go_wp2
   clear htm
   go_loopw [4,5,6,7] (fun ov iv _ _ wr=>∃ (i m:Nat) (q:Option Addr) (c:Nat) (O:List UInt8),i≤n∧iv = .int .i64 i∧ov = .slice q m c∧m≤i∧Hid (i % 2 = 0)∧Hid (UnhexAt l i O)∧Hid (wr.ownsRow w.heap.size 5 1 (.slice q m c) m (O.map B8))∧Hid (Below w.heap.size w wr)) (fun _ iv _ _ _=>n - (intOf iv).toNat)
   case atStart=>exact ⟨0,0,none,0,[],by omega,rfl,rfl,by omega,rfl,UnhexAt.zero _,World.ownsRow_nil _ _ _ _,Below.refl _ _⟩
   case round =>
    obtain ⟨i,m,q,c,O,hi0,rfl,rfl,hm,HE,HAt,HO,HB⟩:=hrel
    by_cases hlt:i < n
    ·have hi1:i + 1 < n:=by have:=HE.out;have:=H2.out;omega
     obtain ⟨a,ha⟩:∃ a,l[i]? = some a:=⟨_,List.getElem?_eq_getElem (by have:=HN.out;omega)⟩
     obtain ⟨b,hb⟩:∃ b,l[i + 1]? = some b:=⟨_,List.getElem?_eq_getElem (by have:=HN.out;omega)⟩
     have hixa:=hixk.out i a ha
     have hixb:=hixk.out (i + 1) b hb
     have e1:((i + 1:Nat):Int) = (i:Int) + 1:=by omega
     rw [e1] at hixb
     have hw1:IntKind.i64.wrap ((i:Int) + 1) = (i:Int) + 1:=by rw [IntKind.wrap_i64];omega
     have HLT:=Lib.hid hlt
     have HI1:=Lib.hid hi1
     have hlti:(i:Int) < (n:Int):=by omega
     have hlti1:(i:Int) + 1 < (n:Int):=by omega
     have HA:=Lib.hid ha
     have HBb:=Lib.hid hb
     have va:=valD_le a
     have vb:=valD_le b
     clear ha hb hlt hi1 e1
     go_upto_region 7 with (fail)
     go_quiet ((go_at_call 101;exact Calls.quiet_of_same (HV.out _ _)))
     have BD:Hid (Below wr.heap.size wr (wr.drewN nq)):=below_drewN wr nq
     generalize wr.drewN nq = w1 at *
     have HB1:=Lib.hid (bl HB.out BD.out HB.out.size)
     have HO1:=Lib.hid (owns_keep HO.out BD.out)
     clear hixa hixb hw1 hlti hlti1 HB HO BD
     by_cases hv:valD a < 16∧valD b < 16
     ·obtain ⟨hva,hvb⟩:=hv
      have HAt2:=Lib.hid (HAt.out.next HA.out HBb.out hva hvb)
      obtain ⟨d,hd⟩:∃ d,d = UInt8.ofNat (16 * valD a + valD b):=⟨_,rfl⟩
      have hdn:16 * (valD a:Int) + (valD b:Int) = (d.toNat:Int):=by rw [hd,UInt8.toNat_ofNat',Nat.mod_eq_of_lt (by omega)];omega
      rw [← hd] at HAt2
      have ga:¬ (15:Int) < (valD a:Int):=by omega
      have gb:¬ (15:Int) < (valD b:Int):=by omega
      have hd256:=d.toNat_lt
      have hw8:IntKind.u8.wrap (16 * (valD a:Int)) = 16 * (valD a:Int):=by rw [IntKind.wrap_u8];omega
      have hw9:IntKind.u8.wrap (16 * (valD a:Int) + (valD b:Int)) = (d.toNat:Int):=by rw [IntKind.wrap_u8,hdn];omega
      have hOA:Hid (∀ o,(w1.alloc o).ownsRow w.heap.size 5 1 (.slice q m c) m (O.map B8)):=fun o=>owns_keep HO1.out (al (Below.refl _ _) (Nat.le_refl _))
      have hszw:=HB1.out.size
      clear hd hva hvb va vb HAt
      go_wp2_with (at_builtin;refine wpList_append_own _ rfl _ _ 22 rfl w.heap.size 5 i0 (.int .u8 0) 1 1 Tryz.underlying22 hi hz0 hz1 hz2 rfl (by omega) _ m (O.map B8) rfl (hOA.out _) ⟨w1.heap.size,0,none⟩ 1 1 [B8 d] rfl rfl (one_cellI rfl) ?c2 ?c3 ?c4 ?c5 ?_)
      case c2=>first | rfl | (intro y hy;simp at hy;subst hy;rfl)
      case c3=>unfold maxLen;omega
      case c4=>omega
      case c5=>first | omega | (simp;omega)
      intro v' w' ho' hg' _
      obtain ⟨q',c',rfl⟩:=owns_shape ho'
      have FIN:Hid (w'.ownsRow w.heap.size 5 1 (.slice q' (m + 1) c') (m + 1) ((O ++ [d]).map B8)∧Below w.heap.size w w'):=by
       refine ⟨?_,?_⟩
       ·rw [List.map_append];exact ho'
       ·exact (al HB1.out hszw).grown hg' (by simp;omega) (fun rr hrr=>(HO1.out.lt rr hrr).1)
      clear ho' hg' HO1 HB1 hOA hw8 hw9 ga gb hdn
      go_wp2
      go_roundw
      case rel=>exact ⟨i + 2,m + 1,q',c',O ++ [d],by have:=HI1.out;omega,by go_num,rfl,by omega,by have:=HE.out;show _ = _;omega,HAt2.out,FIN.out.1,FIN.out.2⟩
      case measure=>simp [intOf];have:=HI1.out;omega
     ·have HR:Hid (unhexO l = none):=HU.out.trans (HAt.out.bad HA.out HBb.out hv)
      have HG:(15:Int) < (valD a:Int)∨(¬ (15:Int) < (valD a:Int)∧(15:Int) < (valD b:Int)):=by omega
      clear hv HAt HO1
      rcases HG with ga | ⟨ga,gb⟩
      ·go_wp2
       go_ret2
       exact OptB.no HR.out HB1.out
      ·go_wp2
       go_ret2
       exact OptB.no HR.out HB1.out
    ·obtain rfl:i = n:=by omega
     have HR:Hid (unhexO l = some O):=HU.out.trans (HAt.out.done (by have:=HN.out;omega))
     clear hlt HAt
     go_wp2
     go_ret2
     exact OptB.yes HR.out HO.out HB.out
end Go.Proofs.YtccaiiigdfieoaaGreatDoor
namespace Go.Proofs.YtccaiiigdfieoaaGreatDoor
open Go.RowKit Go.By
end Go.Proofs.YtccaiiigdfieoaaGreatDoor
namespace Go.By
open Go.RowKit
theorem decV_take {l:List UInt8} {k:Nat} {c:UInt8} (h:l[k]? = some c):decV 0 (l.take (k + 1)) = 10 * decV 0 (l.take k) + (c.toNat - 48):=by
 rw [List.take_add_one,h,decV_append];rfl
theorem decV_take_le (l:List UInt8) (k:Nat):decV 0 (l.take k)≤decV 0 l:=by
 conv=>rhs;rw [← List.take_append_drop k l,decV_append]
 exact decV_le _ _
def puR (T:TypeId) (M:Nat) (l:List UInt8):Value:=if decV 0 l≤M then .tuple #[.int .u64 (decV 0 l:Nat),.nilIface] else .tuple #[.int .u64 (M:Nat),.iface T (.int .i64 1)]
end Go.By
namespace Go.Proofs.YtccaiiigdfieoaaGreatDoor
open Go.RowKit Go.By
set_option maxHeartbeats 8000000 in
set_option maxRecDepth 100000 in
theorem ParseUint_in32 (l:List UInt8) (hne:l≠[]) (hl:l.length≤1000000) (hx:∀ c ∈ l,isDig c = true) (w:World) :
  Calls Tryz.prog 227 #[.string (strB l),.int .i64 10,.int .i64 32] w fun e w'=>e = .returned (puR 317 4294967295 l)∧Below w.heap.size w w':=by
 have hemp:(strB l).toList.isEmpty = false:=by
  rw [← decide_eq_emptyBytes]
  exact decide_eq_false (fun h=>hne (by have:=congrArg (fun s:ByteArray=>s.data.toList) h;simpa [strB_data] using this))
 have hcv:=Lib.run_convert_string_bytes (P:=Tryz.prog) w 9 22 5 (strB l) (u:=.string) Tryz.underlying9 Tryz.underlying22 Tryz.underlying5
 have hB:∀ j,j < (strB l).size→(Lib.bytesWorld w 5 (strB l)).cell? ⟨w.heap.size,j,none⟩ = some (.int .u8 ((strB l).data.toList.getD j 0).toNat):=fun j hj=>Lib.bytesWorld_cell w 5 (strB l) j hj
 have HW:Hid (Below w.heap.size w (Lib.bytesWorld w 5 (strB l))):=⟨rfl,rfl,rfl,by rw [Lib.bytesWorld_size];omega,fun j hj=>Lib.bytesWorld_at_old w 5 (strB l) j hj⟩
 obtain ⟨W1,hW1⟩:∃ W1,W1 = Lib.bytesWorld w 5 (strB l):=⟨_,rfl⟩
 rw [← hW1] at hcv hB HW
 clear hW1
 rw [strB_data,strB_size] at hB
 obtain ⟨n,hn⟩:∃ n,l.length = n:=⟨_,rfl⟩
 have hsz:(strB l).size = n:=by rw [strB_size,hn]
 rw [hn] at hB hl
 have HN:=Lib.hid hn
 have HX:=Lib.hid hx
 obtain ⟨S,hS⟩:∃ S,S = strB l:=⟨_,rfl⟩
 rw [← hS] at hemp hcv hsz ⊢
 clear hS hn hx hne
 have hmv:IntKind.u64.wrap (IntKind.u64.wrap 4294967296 - 1) = 4294967295:=by
  rw [IntKind.wrap_u64,IntKind.wrap_u64]
  decide
 go_enter Tryz.func227,Tryz.ntmps227
 go_wp2
 go_loop [12,13,101] (fun vu vn vi=>∃ (k:Nat) (a:Int),vu = .bool false∧vn = .int .u64 a∧vi = .int .i64 k∧k≤n∧0≤a∧a≤4294967295∧Hid (a = (decV 0 (l.take k):Nat)))
  (fun _ _ vi=>n - (intOf vi).toNat)
 case atStart=>exact ⟨0,0,rfl,rfl,rfl,by omega,by omega,by omega,by show (0:Int) = ((decV 0 (l.take 0):Nat):Int);rw [List.take_zero];rfl⟩
 case round =>
  obtain ⟨k,a,rfl,rfl,rfl,hk,a0,a1,hh⟩:=hrel
  by_cases hkn:k < n
  ·have hc:=hB k hkn
   obtain ⟨c,hcl⟩:∃ c,l[k]? = some c:=⟨l[k]'(by have:=HN.out;omega),List.getElem?_eq_getElem _⟩
   rw [List.getD_eq_getElem?_getD,hcl] at hc
   simp only [Option.getD_some] at hc
   obtain ⟨d0,d1⟩:=isDig_le (HX.out c (List.mem_of_getElem? hcl))
   have icut:a < 1844674407370955162:=by omega
   have hstep:Hid (decV 0 (l.take (k + 1)) = 10 * decV 0 (l.take k) + (c.toNat - 48)):=decV_take hcl
   have hle:Hid (decV 0 (l.take (k + 1))≤decV 0 l):=decV_take_le l (k + 1)
   have hc256:c.toNat < 256:=c.toNat_lt
   have iov:a * 10 + ((c.toNat:Int) - 48) < 18446744073709551616:=by omega
   have ilo:a * 10≤a * 10 + ((c.toNat:Int) - 48):=by omega
   clear hB hcl
   by_cases hM:a * 10 + ((c.toNat:Int) - 48)≤4294967295
   ·go_wp2
    refine ⟨⟨k + 1,a * 10 + ((c.toNat:Int) - 48),rfl,rfl,by go_num,by omega,by omega,by omega,by have h1:=hstep.out;have h2:=hh.out;show _ = _;omega⟩,by simp [intOf];omega⟩
   ·have hM':4294967295 < a * 10 + ((c.toNat:Int) - 48):=by omega
    have HE:Hid (puR 317 4294967295 l = .tuple #[.int .u64 (4294967295:Nat),.iface 317 (.int .i64 1)]):=by
     show _ = _
     unfold puR
     rw [if_neg (by have h1:=hstep.out;have h2:=hh.out;have h3:=hle.out;omega)]
    clear hM hstep hh hle
    go_wp2
    go_ret2
    exact ⟨by rw [HE.out];rfl,HW.out⟩
  ·obtain rfl:k = n:=by omega
   have HE:Hid (puR 317 4294967295 l = .tuple #[.int .u64 a,.nilIface]):=by
    have:=hh.out
    rw [List.take_of_length_le (by have:=HN.out;omega)] at this
    show _ = _
    unfold puR
    rw [if_pos (by omega),← this]
   clear hB hh hkn
   go_wp2
   go_ret2
   exact ⟨by rw [HE.out];rfl,HW.out⟩
set_option maxHeartbeats 8000000 in
set_option maxRecDepth 100000 in
theorem ParseUint_in31 (l:List UInt8) (hne:l≠[]) (hl:l.length≤1000000) (hx:∀ c ∈ l,isDig c = true) (w:World) :
  Calls Tryz.prog 227 #[.string (strB l),.int .i64 10,.int .i64 31] w fun e w'=>e = .returned (puR 317 2147483647 l)∧Below w.heap.size w w':=by
 have hemp:(strB l).toList.isEmpty = false:=by
  rw [← decide_eq_emptyBytes]
  exact decide_eq_false (fun h=>hne (by have:=congrArg (fun s:ByteArray=>s.data.toList) h;simpa [strB_data] using this))
 have hcv:=Lib.run_convert_string_bytes (P:=Tryz.prog) w 9 22 5 (strB l) (u:=.string) Tryz.underlying9 Tryz.underlying22 Tryz.underlying5
 have hB:∀ j,j < (strB l).size→(Lib.bytesWorld w 5 (strB l)).cell? ⟨w.heap.size,j,none⟩ = some (.int .u8 ((strB l).data.toList.getD j 0).toNat):=fun j hj=>Lib.bytesWorld_cell w 5 (strB l) j hj
 have HW:Hid (Below w.heap.size w (Lib.bytesWorld w 5 (strB l))):=⟨rfl,rfl,rfl,by rw [Lib.bytesWorld_size];omega,fun j hj=>Lib.bytesWorld_at_old w 5 (strB l) j hj⟩
 obtain ⟨W1,hW1⟩:∃ W1,W1 = Lib.bytesWorld w 5 (strB l):=⟨_,rfl⟩
 rw [← hW1] at hcv hB HW
 clear hW1
 rw [strB_data,strB_size] at hB
 obtain ⟨n,hn⟩:∃ n,l.length = n:=⟨_,rfl⟩
 have hsz:(strB l).size = n:=by rw [strB_size,hn]
 rw [hn] at hB hl
 have HN:=Lib.hid hn
 have HX:=Lib.hid hx
 obtain ⟨S,hS⟩:∃ S,S = strB l:=⟨_,rfl⟩
 rw [← hS] at hemp hcv hsz ⊢
 clear hS hn hx hne
 have hmv:IntKind.u64.wrap (IntKind.u64.wrap 2147483648 - 1) = 2147483647:=by
  rw [IntKind.wrap_u64,IntKind.wrap_u64]
  decide
 go_enter Tryz.func227,Tryz.ntmps227
 go_wp2
 go_loop [12,13,101] (fun vu vn vi=>∃ (k:Nat) (a:Int),vu = .bool false∧vn = .int .u64 a∧vi = .int .i64 k∧k≤n∧0≤a∧a≤2147483647∧Hid (a = (decV 0 (l.take k):Nat)))
  (fun _ _ vi=>n - (intOf vi).toNat)
 case atStart=>exact ⟨0,0,rfl,rfl,rfl,by omega,by omega,by omega,by show (0:Int) = ((decV 0 (l.take 0):Nat):Int);rw [List.take_zero];rfl⟩
 case round =>
  obtain ⟨k,a,rfl,rfl,rfl,hk,a0,a1,hh⟩:=hrel
  by_cases hkn:k < n
  ·have hc:=hB k hkn
   obtain ⟨c,hcl⟩:∃ c,l[k]? = some c:=⟨l[k]'(by have:=HN.out;omega),List.getElem?_eq_getElem _⟩
   rw [List.getD_eq_getElem?_getD,hcl] at hc
   simp only [Option.getD_some] at hc
   obtain ⟨d0,d1⟩:=isDig_le (HX.out c (List.mem_of_getElem? hcl))
   have icut:a < 1844674407370955162:=by omega
   have hstep:Hid (decV 0 (l.take (k + 1)) = 10 * decV 0 (l.take k) + (c.toNat - 48)):=decV_take hcl
   have hle:Hid (decV 0 (l.take (k + 1))≤decV 0 l):=decV_take_le l (k + 1)
   have hc256:c.toNat < 256:=c.toNat_lt
   have iov:a * 10 + ((c.toNat:Int) - 48) < 18446744073709551616:=by omega
   have ilo:a * 10≤a * 10 + ((c.toNat:Int) - 48):=by omega
   clear hB hcl
   by_cases hM:a * 10 + ((c.toNat:Int) - 48)≤2147483647
   ·go_wp2
    refine ⟨⟨k + 1,a * 10 + ((c.toNat:Int) - 48),rfl,rfl,by go_num,by omega,by omega,by omega,by have h1:=hstep.out;have h2:=hh.out;show _ = _;omega⟩,by simp [intOf];omega⟩
   ·have hM':2147483647 < a * 10 + ((c.toNat:Int) - 48):=by omega
    have HE:Hid (puR 317 2147483647 l = .tuple #[.int .u64 (2147483647:Nat),.iface 317 (.int .i64 1)]):=by
     show _ = _
     unfold puR
     rw [if_neg (by have h1:=hstep.out;have h2:=hh.out;have h3:=hle.out;omega)]
    clear hM hstep hh hle
    go_wp2
    go_ret2
    exact ⟨by rw [HE.out];rfl,HW.out⟩
  ·obtain rfl:k = n:=by omega
   have HE:Hid (puR 317 2147483647 l = .tuple #[.int .u64 a,.nilIface]):=by
    have:=hh.out
    rw [List.take_of_length_le (by have:=HN.out;omega)] at this
    show _ = _
    unfold puR
    rw [if_pos (by omega),← this]
   clear hB hh hkn
   go_wp2
   go_ret2
   exact ⟨by rw [HE.out];rfl,HW.out⟩
end Go.Proofs.YtccaiiigdfieoaaGreatDoor
namespace Go.By
open Go.RowKit
theorem cutW_free {c:UInt8}:∀ {l:List UInt8},(∀ (j:Nat) (d:UInt8),l[j]? = some d→d≠c)→cutW c l = (l,none)
 | l,h=>cutW_all (fun b hb=>by
  obtain ⟨j,hj,e⟩:=List.getElem_of_mem hb
  exact h j b (by rw [List.getElem?_eq_getElem hj,e]))
theorem cutW_split {c:UInt8} {l:List UInt8} {k:Nat} (h:l[k]? = some c) (hf:∀ (j:Nat) (d:UInt8),j < k→l[j]? = some d→d≠c):cutW c l = (l.take k,some (l.drop (k + 1))):=by
 obtain ⟨hk,e⟩:=List.getElem?_eq_some_iff.1 h
 have e2:l = l.take k ++ c :: l.drop (k + 1):=by
  conv=>lhs;rw [← List.take_append_drop k l,List.drop_eq_getElem_cons hk,e]
 conv=>lhs;rw [e2]
 exact cutW_app (fun b hb=>by
  obtain ⟨j,hj,e⟩:=List.getElem_of_mem hb
  rw [List.getElem_take] at e
  have hj':j < k:=by rw [List.length_take] at hj;omega
  exact hf j b hj' (by rw [List.getElem?_eq_getElem (by omega),e])) _
theorem decV_snoc {l:List UInt8} {k:Nat} {c:UInt8} (h:l[k]? = some c):decV 0 (l.take (k + 1)) = 10 * decV 0 (l.take k) + (c.toNat - 48):=by
 rw [List.take_add_one,h,decV_append];rfl
theorem not_dig {l:List UInt8} {k:Nat} {c:UInt8} (h:l[k]? = some c) (hc:isDig c = false):numG l = false:=by
 have:l.all isDig = false:=by
  rw [List.all_eq_false]
  exact ⟨c,List.mem_of_getElem? h,by rw [hc];decide⟩
 unfold numG;rw [this];simp
theorem all_dig {l:List UInt8} {n:Nat} (hn:l.length = n) (h:∀ (j:Nat) (d:UInt8),j < n→l[j]? = some d→isDig d = true):l.all isDig = true:=List.all_eq_true.2 (fun b hb=>by
 obtain ⟨j,hj,e⟩:=List.getElem_of_mem hb
 exact h j b (by omega) (by rw [List.getElem?_eq_getElem hj,e]))
theorem numB_none {M:Nat} {l:List UInt8} (h:numG l = false):numB M l = none:=by unfold numB;rw [if_neg (by rw [h];simp)]
def NumRes (K:IntKind) (M:Nat) (l:List UInt8) (v:Value):Prop:=∃ x:Nat,v = .tuple #[.int K (x:Int),.bool (numB M l).isSome]∧∀ y,numB M l = some y→x = y
theorem NumRes.no {K:IntKind} {M:Nat} {l:List UInt8} (h:numB M l = none) (x:Nat):NumRes K M l (.tuple #[.int K (x:Int),.bool false]):=⟨x,by rw [h];rfl,fun y hy=>by rw [h] at hy;cases hy⟩
theorem NumRes.yes {K:IntKind} {M:Nat} {l:List UInt8} {x:Nat} (h:numB M l = some x):NumRes K M l (.tuple #[.int K (x:Int),.bool true]):=⟨x,by rw [h];rfl,fun y hy=>by rw [h] at hy;exact Option.some.inj hy⟩
theorem head_cases {l:List UInt8} {c:UInt8} (h:l[0]? = some c):(c = 48∧1 < l.length∧numG l = false)∨((c≠48∨l.length≤1)∧numG l = l.all isDig):=by
 have hne:l≠[]:=fun e=>by subst e;cases h
 have hh:l.head? = some c:=by rw [← h];cases l <;> rfl
 unfold numG
 rw [hh,decide_eq_true hne]
 by_cases h1:c = 48
 ·by_cases h2:1 < l.length
  ·exact .inl ⟨h1,h2,by rw [h1];simp [h2]⟩
  ·exact .inr ⟨.inr (by omega),by simp [h2]⟩
 ·exact .inr ⟨.inl h1,by simp [h1]⟩
end Go.By
namespace Go.Proofs.YtccaiiigdfieoaaGreatDoor
open Go.RowKit Go.By
set_option maxRecDepth 100000 in
set_option maxHeartbeats 2000000 in
theorem Word_any (l:List UInt8) (w:World) (hl:l.length≤1000000) :
  Calls Tryz.prog 102 #[.string (strB l)] w fun e w'=>e = .returned (.tuple #[.string (strB (cutW 32 l).1),.string (strB ((cutW 32 l).2.getD [])),.bool (cutW 32 l).2.isSome])∧Below w.heap.size w w':=by
 obtain ⟨n,hn⟩:∃ n,n = l.length:=⟨_,rfl⟩
 have hsz:(strB l).size = n:=by rw [strB_size,hn]
 have hixk:Hid (∀ (k:Nat) (d:UInt8),l[k]? = some d→∀ w,(Instr.index 9 (.string (strB l)) (.int .i64 (k:Int))).run Tryz.prog w = .ok (B8 d) w):=fun k d hd w=>txt_idx _ Tryz.underlying9 hd _ _ rfl w
 have hsl:Hid (∀ (i j:Nat),(strB l).extract i j = strB ((l.take j).drop i)):=fun i j=>txt_ext l i j
 have HN:=Lib.hid hn
 obtain ⟨S,hS⟩:∃ S,S = strB l:=⟨_,rfl⟩
 have HS:=Lib.hid hS
 rw [← hS] at hsz hixk hsl ⊢
 rw [← hn] at hl
 clear hS hn
 go_enter Tryz.func102,Tryz.ntmps102
 go_wp2
 go_loop [5] (fun i=>∃ k:Nat,k≤n∧i = .int .i64 k∧Hid (∀ (j:Nat) (d:UInt8),j < k→l[j]? = some d→d≠32)) (fun i=>n - (intOf i).toNat)
 case atStart=>exact ⟨0,Nat.zero_le _,rfl,fun j d hj=>by omega⟩
 case round =>
  obtain ⟨k,hk,rfl,hr⟩:=hrel
  by_cases hlt:k < n
  ·obtain ⟨d,hd⟩:∃ d,l[k]? = some d:=⟨l[k]'(by have:=HN.out;omega),List.getElem?_eq_getElem _⟩
   have hix:=hixk.out k d hd
   have HD:=Lib.hid hd
   have hlt':(k:Int) < (n:Int):=by omega
   clear hd
   by_cases h32:d = 32
   ·have h8:B8 d = .int .u8 32:=by rw [h32];rfl
    rw [h8] at hix
    have HE:Hid (cutW 32 l = (l.take k,some (l.drop (k + 1)))):=cutW_split (by rw [HD.out,h32]) hr.out
    have hk1:(k:Int) + 1≤(n:Int):=by omega
    have hx1:S.extract 0 k = strB (l.take k):=by rw [hsl.out];rfl
    have hx2:S.extract (k + 1) n = strB (l.drop (k + 1)):=by
     rw [hsl.out,HN.out,List.take_length]
    clear h32 h8 hr HD hlt
    go_wp2_with (first | simp only [hix] | fail)
    go_quiet (fail)
    go_wp2
    go_ret3
    exact ⟨by rw [HE.out];simp [hx1,hx2],bdn (Below.refl _ _)⟩
   ·have hv:((d.toNat:Int) == 32) = false:=by
     rw [beq_eq_false_iff_ne];intro e;exact h32 (UInt8.toNat_inj.1 (by show d.toNat = 32;omega))
    have HQ:=Lib.hid h32
    clear h32 hlt
    go_wp2_with (simp only [hix])
    go_round
    case rel=>exact ⟨k + 1,by omega,by go_num,fun j d' hj hd'=>by
     rcases Nat.lt_or_ge j k with h | h
     ·exact hr.out j d' h hd'
     ·obtain rfl:j = k:=by omega
      have:=HD.out
      rw [hd'] at this;cases this;exact HQ.out⟩
    case measure=>simp [intOf];omega
  ·obtain rfl:k = n:=by omega
   have HE:Hid (cutW 32 l = (l,none)):=cutW_free (fun j d hd=>by
    have hj:j < l.length:=(List.getElem?_eq_some_iff.1 hd).1
    exact hr.out j d (by have:=HN.out;omega) hd)
   clear hr hlt
   go_wp2
   go_ret3
   exact ⟨by rw [HE.out,HS.out];rfl,Below.refl _ _⟩
set_option maxRecDepth 100000 in
set_option maxHeartbeats 4000000 in
theorem RNumber_any (l:List UInt8) (M:Nat) (z:Int) (hz:z = (M:Int) + 1) (hM:M < 4294967296) (w:World) (hl:l.length≤1000000) :
  Calls Tryz.prog 103 #[.string (strB l),.int .i64 z] w fun e w'=>∃ v,e = .returned v∧NumRes .i64 M l v∧Below w.heap.size w w':=by
 subst hz
 obtain ⟨n,hn⟩:∃ n,n = l.length:=⟨_,rfl⟩
 have hsz:(strB l).size = n:=by rw [strB_size,hn]
 by_cases hne:l = []
 ·subst hne
  have hemp:(strB []).toList.isEmpty = true:=by rw [txt_emp];rfl
  have H0:Hid (numB M [] = none):=rfl
  obtain ⟨S,hS⟩:∃ S,S = strB []:=⟨_,rfl⟩
  rw [← hS] at hsz hemp ⊢
  clear hS
  go_enter Tryz.func103,Tryz.ntmps103
  go_wp2
  go_ret2
  exact ⟨_,rfl,NumRes.no H0.out 0,Below.refl _ _⟩
 have hemp:(strB l).toList.isEmpty = false:=by rw [txt_emp];simpa using hne
 have hixk:Hid (∀ (k:Nat) (d:UInt8),l[k]? = some d→∀ w,(Instr.index 9 (.string (strB l)) (.int .i64 (k:Int))).run Tryz.prog w = .ok (B8 d) w):=fun k d hd w=>txt_idx _ Tryz.underlying9 hd _ _ rfl w
 have hn0:0 < n:=by rw [hn];exact List.length_pos_iff.2 hne
 obtain ⟨c0,hc0⟩:∃ c,l[0]? = some c:=⟨l[0]'(by omega),List.getElem?_eq_getElem _⟩
 have hix0:∀ w,(Instr.index 9 (.string (strB l)) (.int .i64 0)).run Tryz.prog w = .ok (B8 c0) w:=hixk.out 0 c0 hc0
 have HN:=Lib.hid hn
 have hcs:=head_cases hc0
 obtain ⟨S,hS⟩:∃ S,S = strB l:=⟨_,rfl⟩
 rw [← hS] at hsz hixk hemp hix0 ⊢
 rw [← hn] at hl hcs
 clear hS hn hc0 hne
 rcases hcs with ⟨e1,e2,e3⟩ | ⟨e2,e3⟩
 ·have h8:B8 c0 = .int .u8 48:=by rw [e1];rfl
  rw [h8] at hix0
  have H0:Hid (numB M l = none):=numB_none e3
  have h1n:(1:Int) < (n:Int):=by omega
  have h1m:1 < n:=e2
  clear e1 e2 e3 h8
  go_enter Tryz.func103,Tryz.ntmps103
  go_wp2_with (simp only [hix0])
  go_ret2
  exact ⟨_,rfl,NumRes.no H0.out 0,Below.refl _ _⟩
 ·have HG:=Lib.hid e3
  have hh:(1:Int) < (n:Int)∧((c0.toNat:Int) == 48) = false∨¬ (1:Int) < (n:Int):=by
   rcases e2 with h | h
   ·by_cases h1:(1:Int) < (n:Int)
    ·exact .inl ⟨h1,by rw [beq_eq_false_iff_ne];intro e;exact h (UInt8.toNat_inj.1 (by show c0.toNat = 48;omega))⟩
    ·exact .inr h1
   ·exact .inr (by omega)
  clear e2 e3
  have hhx:(∃ v:Int,(∀ w,(Instr.index 9 (.string S) (.int .i64 0)).run Tryz.prog w = .ok (.int .u8 v) w)∧(1:Int) < (n:Int)∧(v == 48) = false)∨¬ (1:Int) < (n:Int):=by
   rcases hh with ⟨a,b⟩ | a
   ·exact .inl ⟨_,hix0,a,b⟩
   ·exact .inr a
  clear hh hix0
  rcases hhx with ⟨v0,hix0,h1n,hv0⟩ | h1n
  all_goals
   go_enter Tryz.func103,Tryz.ntmps103
   go_wp2_with (first | simp only [hix0] | fail)
   try clear hix0 hv0
   clear h1n
   go_loop [6,7] (fun nv i=>∃ (k a:Nat),k≤n∧i = .int .i64 k∧nv = .int .i64 (a:Int)∧a≤4294967296∧Hid (a = min (decV 0 (l.take k)) 4294967296∧∀ (j:Nat) (d:UInt8),j < k→l[j]? = some d→isDig d = true)) (fun _ i=>n - (intOf i).toNat)
   case atStart=>exact ⟨0,0,Nat.zero_le _,rfl,rfl,by omega,by rw [List.take_zero];rfl,fun j d hj=>by omega⟩
   case round =>
    obtain ⟨k,a,hk,rfl,rfl,ha,hr⟩:=hrel
    by_cases hlt:k < n
    ·obtain ⟨d,hd⟩:∃ d,l[k]? = some d:=⟨l[k]'(by have:=HN.out;omega),List.getElem?_eq_getElem _⟩
     have hix:=hixk.out k d hd
     have HD:=Lib.hid hd
     have hlt':(k:Int) < (n:Int):=by omega
     have hd256:d.toNat < 256:=d.toNat_lt
     clear hd hlt
     by_cases hlo:d.toNat < 48
     ·have H0:Hid (numB M l = none):=numB_none (not_dig HD.out (by unfold isDig;simp;omega))
      have hlo':(d.toNat:Int) < 48:=by omega
      clear hr HD hlo
      go_wp2_with (simp only [hix])
      go_ret2
      exact ⟨_,rfl,NumRes.no H0.out 0,Below.refl _ _⟩
     ·by_cases hhi:57 < d.toNat
      ·have H0:Hid (numB M l = none):=numB_none (not_dig HD.out (by unfold isDig;simp;omega))
       have hlo':¬ (d.toNat:Int) < 48:=by omega
       have hhi':(57:Int) < (d.toNat:Int):=by omega
       clear hr HD hlo hhi
       go_wp2_with (simp only [hix])
       go_ret2
       exact ⟨_,rfl,NumRes.no H0.out 0,Below.refl _ _⟩
      ·have hlo':¬ (d.toNat:Int) < 48:=by omega
       have hlo2:(48:Int)≤(d.toNat:Int):=by omega
       have hhi':¬ (57:Int) < (d.toNat:Int):=by omega
       have HQ:Hid (isDig d = true):=by show _ = _;unfold isDig;simp;omega
       obtain ⟨a2,ha2⟩:∃ a2,a2 = min (10 * a + (d.toNat - 48)) 4294967296:=⟨_,rfl⟩
       have hmin:min (10 * (a:Int) + ((d.toNat:Int) - 48)) 4294967296 = (a2:Int):=by omega
       have HS2:Hid (a2 = min (decV 0 (l.take (k + 1))) 4294967296):=by
        show _ = _
        rw [ha2,decV_snoc HD.out,hr.out.1];omega
       have ha2':a2≤4294967296:=by omega
       clear ha2 hlo hhi
       go_wp2_with (first | simp only [hix] | simp only [hmin])
       go_round
       case rel=>exact ⟨k + 1,a2,by omega,by go_num,by simp [hmin],ha2',HS2.out,fun j d' hj hd'=>by
        rcases Nat.lt_or_ge j k with h | h
        ·exact hr.out.2 j d' h hd'
        ·obtain rfl:j = k:=by omega
         have:=HD.out
         rw [hd'] at this;cases this;exact HQ.out⟩
       case measure=>simp [intOf];omega
    ·obtain rfl:k = n:=by omega
     have HA:Hid (a = min (decV 0 l) 4294967296):=by
      have:=hr.out.1
      rw [List.take_of_length_le (by have:=HN.out;omega)] at this
      exact this
     have HD:Hid (numG l = true):=HG.out.trans (all_dig HN.out.symm hr.out.2)
     clear hr hlt
     by_cases hb:decV 0 l≤M
     ·have H1:Hid (numB M l = some a):=by
       show _ = _
       unfold numB;rw [if_pos ⟨HD.out,hb⟩,HA.out];congr 1;omega
      have hlt:(a:Int) < (M:Int) + 1:=by have:=HA.out;omega
      clear hb HA
      go_wp2
      go_ret2
      refine ⟨_,rfl,?_,Below.refl _ _⟩
      have e:=NumRes.yes (K:=.i64) H1.out
      simpa [hlt] using e
     ·have H1:Hid (numB M l = none):=by
       show _ = _
       unfold numB;rw [if_neg (fun h=>hb h.2)]
      have hlt:¬ (a:Int) < (M:Int) + 1:=by have:=HA.out;omega
      clear hb HA
      go_wp2
      go_ret2
      refine ⟨_,rfl,?_,Below.refl _ _⟩
      have e:=NumRes.no (K:=.i64) H1.out a
      simpa [hlt] using e
end Go.Proofs.YtccaiiigdfieoaaGreatDoor
namespace Go.By
open Go.RowKit
def StrRow (w:World) (b:Nat) (L:List (List UInt8)):Prop:=∀ (i:Nat) (x:List UInt8),L[i]? = some x→w.cell? ⟨b,i,none⟩ = some (.string (strB x))
theorem StrRow.keep {w w':World} {b:Nat} {L:List (List UInt8)} (h:StrRow w b L) (hb:Below w.heap.size w w'):StrRow w' b L:=fun i x hx=>(hb.cell (p:=⟨b,i,none⟩) (lt_of_cell (h i x hx))).trans (h i x hx)
theorem cellsOf_at {done:List ByteArray} {N i:Nat} {x:ByteArray} (h:done[i]? = some x):(Lib.cellsOf done N)[i]? = some (.string x):=by
 have hi:=(List.getElem?_eq_some_iff.1 h).1
 unfold Lib.cellsOf
 rw [List.getElem?_toArray,List.getElem?_append_left (by simpa using hi),List.getElem?_map,h];rfl
theorem splitB_spl (l:List UInt8) (k:Nat):Lib.splitB ⟨#[32]⟩ 0 k (strB l) = (spl 32 k l).map strB:=by
 have h:=Lib.splitB_data ⟨#[32]⟩ 0 k (strB l)
 rw [strB_data] at h
 have h2:Lib.splitK [32] 0 k l = spl 32 k l:=splitK_spl 32 k l
 have h3:((⟨#[32]⟩:ByteArray).data.toList) = [32]:=rfl
 rw [h3,h2] at h
 have h4:=congrArg (List.map strB) h
 rw [List.map_map] at h4
 rw [← h4]
 conv=>lhs;rw [← List.map_id (Lib.splitB ⟨#[32]⟩ 0 k (strB l))]
 apply List.map_congr_left
 intro x _
 exact strB_of x
end Go.By
namespace Go.Proofs.YtccaiiigdfieoaaGreatDoor
open Go.RowKit Go.By
def MaxI (w:World):Prop:=∃ m,w.cell? ⟨1,0,none⟩ = some (.int .i64 m)
theorem MaxI.keep {w w':World} (h:MaxI w) (hb:Below w.heap.size w w'):MaxI w':=by
 obtain ⟨m,hm⟩:=h
 exact ⟨m,(hb.cell (p:=⟨1,0,none⟩) (lt_of_cell hm)).trans hm⟩
def ErrI (w:World):Prop:=∃ ev,w.cell? ⟨6,0,none⟩ = some ev∧(ev = .nilIface∨∃ te pe,ev = .iface te pe)
theorem ErrI.keep {w w':World} (h:ErrI w) (hb:Below w.heap.size w w'):ErrI w':=by
 obtain ⟨m,hm,h2⟩:=h
 exact ⟨m,(hb.cell (p:=⟨6,0,none⟩) (lt_of_cell hm)).trans hm,h2⟩
theorem SplitN_any (l:List UInt8) (w:World) (hl:l.length≤1000000) (hM:MaxI w) :
  Calls Tryz.prog 124 #[.string (strB l),.string ⟨#[32]⟩,.int .i64 6] w fun e w'=>∃ b c,e = .returned (.slice (some ⟨b,0,none⟩) (spl 32 5 l).length c)∧(spl 32 5 l).length≤c∧StrRow w' b (spl 32 5 l)∧Below w.heap.size w w':=by
 obtain ⟨m,hm⟩:=hM
 refine (Tryz.strings_SplitN (strB l) ⟨#[32]⟩ 6 m w (by rw [strB_size];omega) hm (by decide) (by decide) (by decide)).mono ?_
 rintro e w' ⟨rfl,rfl⟩
 have hk:min 6 ((strB l).size + 1) - 1 = min 5 l.length:=by rw [strB_size];omega
 have hs:Lib.splitB ⟨#[32]⟩ 0 (min 6 ((strB l).size + 1) - 1) (strB l) = (spl 32 5 l).map strB:=by
  rw [hk,splitB_spl,← spl_min]
 have hle:(spl 32 5 l).length≤min 6 ((strB l).size + 1):=by
  rw [spl_min]
  have:=(spl_len 32 (min 5 l.length) l).2
  rw [strB_size];omega
 rw [hs]
 refine ⟨_,_,by rw [List.length_map],hle,fun i x hx=>?_,al (Below.refl _ _) (Nat.le_refl _)⟩
 rw [cell_of_row _ _ _ _ _ _ (hnew rfl)]
 exact cellsOf_at (by rw [List.getElem?_map,hx];rfl)
def PuRes (M:Nat) (l:List UInt8) (v:Value):Prop:=(decV 0 l≤M∧v = .tuple #[.int .u64 (decV 0 l:Nat),.nilIface])∨(¬ decV 0 l≤M∧∃ t p,v = .tuple #[.int .u64 (M:Nat),.iface t p])
set_option maxHeartbeats 1000000 in
theorem ParseUint_of (l:List UInt8) (bs:Int) (M:Nat) (w:World) (hl:l.length≤1000000) (hE:ErrI w)
  (hin:Calls Tryz.prog 227 #[.string (strB l),.int .i64 10,.int .i64 bs] w fun e w'=>e = .returned (puR 317 M l)∧Below w.heap.size w w') :
  Calls Tryz.prog 190 #[.string (strB l),.int .i64 10,.int .i64 bs] w fun e w'=>∃ v,e = .returned v∧PuRes M l v∧Below w.heap.size w w':=by
 have HF:=Lib.hid hin
 have HL:Hid ((strB l).size≤281474976710656):=by show _≤_;rw [strB_size];omega
 have HE:=Lib.hid hE
 clear hin hE hl
 obtain ⟨S,hS⟩:∃ S,S = strB l:=⟨_,rfl⟩
 rw [← hS] at HF HL ⊢
 clear hS
 by_cases h:decV 0 l≤M
 ·have HR:Hid (PuRes M l (.tuple #[.int .u64 (decV 0 l:Nat),.nilIface])):=.inl ⟨h,rfl⟩
  have e:puR 317 M l = .tuple #[.int .u64 (decV 0 l:Nat),.nilIface]:=if_pos h
  rw [e] at HF
  clear e h
  go_enter Tryz.func190,Tryz.ntmps190
  go_wp2_with fail
  refine Calls.mono HF.out ?_
  rintro e w' ⟨rfl,hb⟩
  have HB:=Lib.hid hb;clear hb
  go_wp2
  go_ret2
  exact ⟨_,rfl,HR.out,HB.out⟩
 ·have HR:Hid (∀ t p,PuRes M l (.tuple #[.int .u64 (M:Nat),.iface t p])):=fun t p=>.inr ⟨h,t,p,rfl⟩
  have e:puR 317 M l = .tuple #[.int .u64 (M:Nat),.iface 317 (.int .i64 1)]:=if_neg h
  rw [e] at HF
  clear e h
  go_enter Tryz.func190,Tryz.ntmps190
  go_wp2_with fail
  refine Calls.mono HF.out ?_
  rintro e w' ⟨rfl,hb⟩
  obtain ⟨ev,hv,hev⟩:=HE.out.keep hb
  have HB:=Lib.hid hb;clear hb
  have HV:=Lib.hid hv;have HEV:=Lib.hid hev;clear hv hev
  go_wp2_with fail
  refine Calls.mono (Tryz.strconv_toError_range _ S 10 bs ev w' HL.out HV.out HEV.out) ?_
  rintro e w2 ⟨N,rfl,h1,h2,h3⟩
  have HB2:Hid (Below w.heap.size w w2):=bl HB.out h3 HB.out.size
  clear h1 h2 h3
  go_wp2
  go_ret2
  exact ⟨_,rfl,HR.out _ _,HB2.out⟩
end Go.Proofs.YtccaiiigdfieoaaGreatDoor
namespace Go.Proofs.YtccaiiigdfieoaaGreatDoor
open Go.RowKit Go.By
theorem ParseUint_bits (l:List UInt8) (bs:Int) (M:Nat) (hb:(bs = 32∧M = 4294967295)∨(bs = 31∧M = 2147483647)) (hne:l≠[]) (hl:l.length≤1000000) (hx:∀ c ∈ l,isDig c = true) (w:World) (hE:ErrI w) :
  Calls Tryz.prog 190 #[.string (strB l),.int .i64 10,.int .i64 bs] w fun e w'=>∃ v,e = .returned v∧PuRes M l v∧Below w.heap.size w w':=by
 rcases hb with ⟨rfl,rfl⟩ | ⟨rfl,rfl⟩
 ·exact ParseUint_of l 32 4294967295 w hl hE (ParseUint_in32 l hne hl hx w)
 ·exact ParseUint_of l 31 2147483647 w hl hE (ParseUint_in31 l hne hl hx w)
set_option maxRecDepth 100000 in
set_option maxHeartbeats 4000000 in
theorem number_any (l:List UInt8) (bs:Int) (M:Nat) (hb:(bs = 32∧M = 4294967295)∨(bs = 31∧M = 2147483647)) (w:World) (hl:l.length≤1000000) (hE:ErrI w) :
  Calls Tryz.prog 125 #[.string (strB l),.int .i64 bs] w fun e w'=>∃ v,e = .returned v∧NumRes .u64 M l v∧Below w.heap.size w w':=by
 obtain ⟨n,hn⟩:∃ n,n = l.length:=⟨_,rfl⟩
 have hsz:(strB l).size = n:=by rw [strB_size,hn]
 by_cases hne:l = []
 ·subst hne
  have hemp:(strB []).toList.isEmpty = true:=by rw [txt_emp];rfl
  have H0:Hid (numB M [] = none):=rfl
  obtain ⟨S,hS⟩:∃ S,S = strB []:=⟨_,rfl⟩
  rw [← hS] at hsz hemp ⊢
  clear hS hb hE
  go_enter Tryz.func125,Tryz.ntmps125
  go_wp2
  go_ret2
  exact ⟨_,rfl,NumRes.no H0.out 0,Below.refl _ _⟩
 have hemp:(strB l).toList.isEmpty = false:=by rw [txt_emp];simpa using hne
 have hixk:Hid (∀ (k:Nat) (d:UInt8),l[k]? = some d→∀ w,(Instr.index 9 (.string (strB l)) (.int .i64 (k:Int))).run Tryz.prog w = .ok (B8 d) w):=fun k d hd w=>txt_idx _ Tryz.underlying9 hd _ _ rfl w
 have hn0:0 < n:=by rw [hn];exact List.length_pos_iff.2 hne
 obtain ⟨c0,hc0⟩:∃ c,l[0]? = some c:=⟨l[0]'(by omega),List.getElem?_eq_getElem _⟩
 have hix0:∀ w,(Instr.index 9 (.string (strB l)) (.int .i64 0)).run Tryz.prog w = .ok (B8 c0) w:=hixk.out 0 c0 hc0
 have HN:=Lib.hid hn
 have hcs:=head_cases hc0
 have HPU:Hid (numG l = true→Calls Tryz.prog 190 #[.string (strB l),.int .i64 10,.int .i64 bs] w fun e w'=>∃ v,e = .returned v∧PuRes M l v∧Below w.heap.size w w'):=fun hg=>ParseUint_bits l bs M hb hne hl (numG_dig hg) w hE
 obtain ⟨S,hS⟩:∃ S,S = strB l:=⟨_,rfl⟩
 rw [← hS] at hsz hixk hemp hix0 HPU ⊢
 rw [← hn] at hl hcs
 clear hS hn hc0 hne hb hE
 rcases hcs with ⟨e1,e2,e3⟩ | ⟨e2,e3⟩
 ·have h8:B8 c0 = .int .u8 48:=by rw [e1];rfl
  rw [h8] at hix0
  have H0:Hid (numB M l = none):=numB_none e3
  have h1n:(1:Int) < (n:Int):=by omega
  clear e1 e2 e3 h8
  go_enter Tryz.func125,Tryz.ntmps125
  go_wp2_with (simp only [hix0])
  go_ret2
  exact ⟨_,rfl,NumRes.no H0.out 0,Below.refl _ _⟩
 ·have HG:=Lib.hid e3
  have hhx:(∃ v:Int,(∀ w,(Instr.index 9 (.string S) (.int .i64 0)).run Tryz.prog w = .ok (.int .u8 v) w)∧(v == 48) = false)∨((∀ w,(Instr.index 9 (.string S) (.int .i64 0)).run Tryz.prog w = .ok (.int .u8 48) w)∧¬ (1:Int) < (n:Int)):=by
   by_cases hc:c0 = 48
   ·rcases e2 with h | h
    ·exact absurd hc h
    ·refine .inr ⟨?_,by omega⟩
     have h8:B8 c0 = .int .u8 48:=by rw [hc];rfl
     rw [h8] at hix0;exact hix0
   ·exact .inl ⟨_,hix0,by rw [beq_eq_false_iff_ne];intro e;exact hc (UInt8.toNat_inj.1 (by show c0.toNat = 48;omega))⟩
  clear e2 e3 hix0
  rcases hhx with ⟨v0,hix0,hv0⟩ | ⟨hix0,hv0⟩
  all_goals
   go_enter Tryz.func125,Tryz.ntmps125
   go_wp2_with (simp only [hix0])
   clear hix0 hv0
   go_loop [23] (fun i=>∃ (k:Nat),k≤n∧i = .int .i64 k∧Hid (∀ (j:Nat) (d:UInt8),j < k→l[j]? = some d→isDig d = true)) (fun i=>n - (intOf i).toNat)
   case atStart=>exact ⟨0,Nat.zero_le _,rfl,fun j d hj=>by omega⟩
   case round =>
    obtain ⟨k,hk,rfl,hr⟩:=hrel
    by_cases hlt:k < n
    ·obtain ⟨d,hd⟩:∃ d,l[k]? = some d:=⟨l[k]'(by have:=HN.out;omega),List.getElem?_eq_getElem _⟩
     have hix:=hixk.out k d hd
     have HD:=Lib.hid hd
     have hlt':(k:Int) < (n:Int):=by omega
     have hd256:d.toNat < 256:=d.toNat_lt
     clear hd hlt
     by_cases hlo:d.toNat < 48
     ·have H0:Hid (numB M l = none):=numB_none (not_dig HD.out (by unfold isDig;simp;omega))
      have hlo':(d.toNat:Int) < 48:=by omega
      clear hr HD hlo
      go_wp2_with (simp only [hix])
      go_ret2
      exact ⟨_,rfl,NumRes.no H0.out 0,Below.refl _ _⟩
     ·by_cases hhi:57 < d.toNat
      ·have H0:Hid (numB M l = none):=numB_none (not_dig HD.out (by unfold isDig;simp;omega))
       have hlo':¬ (d.toNat:Int) < 48:=by omega
       have hhi':(57:Int) < (d.toNat:Int):=by omega
       clear hr HD hlo hhi
       go_wp2_with (simp only [hix])
       go_ret2
       exact ⟨_,rfl,NumRes.no H0.out 0,Below.refl _ _⟩
      ·have hlo':¬ (d.toNat:Int) < 48:=by omega
       have hhi':¬ (57:Int) < (d.toNat:Int):=by omega
       have HQ:Hid (isDig d = true):=by show _ = _;unfold isDig;simp;omega
       clear hlo hhi
       go_wp2_with (simp only [hix])
       go_round
       case rel=>exact ⟨k + 1,by omega,by go_num,fun j d' hj hd'=>by
        rcases Nat.lt_or_ge j k with h | h
        ·exact hr.out j d' h hd'
        ·obtain rfl:j = k:=by omega
         have:=HD.out
         rw [hd'] at this;cases this;exact HQ.out⟩
       case measure=>simp [intOf];omega
    ·obtain rfl:k = n:=by omega
     have HD:Hid (numG l = true):=HG.out.trans (all_dig HN.out.symm hr.out)
     clear hr hlt
     go_wp2_with fail
     refine Calls.mono (HPU.out HD.out) ?_
     rintro e w' ⟨v,rfl,hv,hb⟩
     have HB:=Lib.hid hb;clear hb
     rcases hv with ⟨h1,rfl⟩ | ⟨h1,t,p,rfl⟩
     ·have H1:Hid (numB M l = some (decV 0 l)):=by
       show _ = _
       unfold numB;rw [if_pos ⟨HD.out,h1⟩]
      clear h1
      generalize decV 0 l = x at *
      go_wp2
      go_quiet (fail)
      go_wp2
      go_ret2
      exact ⟨_,rfl,NumRes.yes H1.out,bdn HB.out⟩
     ·have H1:Hid (numB M l = none):=by
       show _ = _
       unfold numB;rw [if_neg (fun h=>h1 h.2)]
      clear h1
      go_wp2
      go_quiet (fail)
      go_wp2
      go_ret2
      exact ⟨_,rfl,NumRes.no H1.out M,bdn HB.out⟩
end Go.Proofs.YtccaiiigdfieoaaGreatDoor
namespace Go.By
open Go.Lib
def objW:List UInt8:=[111,98,106,101,99,116]
def numsO:List (List UInt8)→List Nat→Option (List Nat)
 | [],[]=>some []
 | a :: zs,M :: Ms=>(numB M a).bind fun x=>(numsO zs Ms).map (x :: ·)
 | _,_=>none
def bndN (k:Nat):Nat:=if k = 0 then 4294967295 else 2147483647
def bndS:List Nat:=[4294967295,2147483647,2147483647,2147483647]
def parseO (l:List UInt8):Option (List Nat):=match spl 32 5 l with
 | o :: ws=>if o = objW then numsO ws bndS else none
 | []=>none
theorem numsO_len:∀ {ws:List (List UInt8)} {Ms xs:List Nat},numsO ws Ms = some xs→ws.length = Ms.length∧xs.length = Ms.length
 | [],[],xs,h=>by cases h;exact ⟨rfl,rfl⟩
 | a :: zs,M :: Ms,xs,h=>by
  unfold numsO at h
  obtain ⟨x,hx,h2⟩:=Option.bind_eq_some_iff.1 h
  obtain ⟨ys,hy,rfl⟩:=Option.map_eq_some_iff.1 h2
  have:=numsO_len hy
  exact ⟨by simp [this.1],by simp [this.2]⟩
 | [],_ :: _,_,h=>by cases h
 | _ :: _,[],_,h=>by cases h
theorem numsO_app:∀ {W:List (List UInt8)} {A X:List Nat} (V:List (List UInt8)) (B:List Nat),numsO W A = some X→numsO (W ++ V) (A ++ B) = (numsO V B).map (X ++ ·)
 | [],[],X,V,B,h=>by cases h;simp
 | a :: zs,M :: Ms,X,V,B,h=>by
  unfold numsO at h
  obtain ⟨x,hx,h2⟩:=Option.bind_eq_some_iff.1 h
  obtain ⟨ys,hy,rfl⟩:=Option.map_eq_some_iff.1 h2
  show (numB M a).bind (fun x=>(numsO (zs ++ V) (Ms ++ B)).map (x :: ·)) = _
  rw [hx,numsO_app V B hy]
  show Option.map _ (Option.map _ _) = _
  rw [Option.map_map];rfl
 | [],_ :: _,_,_,_,h=>by cases h
 | _ :: _,[],_,_,_,h=>by cases h
theorem bnd_take {k:Nat} (h:k < 4):bndS = bndS.take k ++ bndN k :: bndS.drop (k + 1):=by
 have:k = 0∨k = 1∨k = 2∨k = 3:=by omega
 rcases this with rfl | rfl | rfl | rfl <;> rfl
theorem bnd_take1 {k:Nat} (h:k < 4):bndS.take (k + 1) = bndS.take k ++ [bndN k]:=by
 have:k = 0∨k = 1∨k = 2∨k = 3:=by omega
 rcases this with rfl | rfl | rfl | rfl <;> rfl
def SoFar (l:List UInt8) (k:Nat) (X:List Nat) (V:List (List UInt8)):Prop:=k≤4∧X.length = k∧∃ W,spl 32 5 l = objW :: (W ++ V)∧W.length = k∧numsO W (bndS.take k) = some X
theorem SoFar.zero {l:List UInt8} {V:List (List UInt8)} (h:spl 32 5 l = objW :: V):SoFar l 0 [] V:=⟨by omega,rfl,[],h,rfl,rfl⟩
theorem SoFar.next {l:List UInt8} {k:Nat} {X:List Nat} {V:List (List UInt8)} {a:List UInt8} {x:Nat} (h:SoFar l k X (a :: V)) (hk:k < 4) (hx:numB (bndN k) a = some x):SoFar l (k + 1) (X ++ [x]) V:=by
 obtain ⟨_,h1,W,h2,h3,h4⟩:=h
 refine ⟨hk,by simp [h1],W ++ [a],by rw [h2];simp,by simp [h3],?_⟩
 rw [bnd_take1 hk,numsO_app [a] [bndN k] h4]
 show ((numB (bndN k) a).bind fun y=>(numsO [] []).map (y :: ·)).map (X ++ ·) = _
 rw [hx];rfl
theorem SoFar.bad {l:List UInt8} {k:Nat} {X:List Nat} {V:List (List UInt8)} {a:List UInt8} (h:SoFar l k X (a :: V)) (hk:k < 4) (hx:numB (bndN k) a = none):parseO l = none:=by
 obtain ⟨_,h1,W,h2,h3,h4⟩:=h
 unfold parseO
 rw [h2]
 show (if objW = objW then numsO (W ++ a :: V) bndS else none) = none
 rw [if_pos rfl,bnd_take hk,numsO_app (a :: V) _ h4]
 show ((numB (bndN k) a).bind _).map _ = _
 rw [hx];rfl
theorem SoFar.short {l:List UInt8} {k:Nat} {X:List Nat} {V:List (List UInt8)} (h:SoFar l k X V) (hl:k + V.length≠4):parseO l = none:=by
 obtain ⟨_,h1,W,h2,h3,h4⟩:=h
 unfold parseO
 rw [h2]
 show (if objW = objW then numsO (W ++ V) bndS else none) = none
 rw [if_pos rfl]
 cases e:numsO (W ++ V) bndS with
 | none=>rfl
 | some ys =>
  have:=(numsO_len e).1
  rw [List.length_append,h3] at this
  exact absurd this hl
theorem SoFar.done {l:List UInt8} {X:List Nat} (h:SoFar l 4 X []):parseO l = some X:=by
 obtain ⟨_,h1,W,h2,h3,h4⟩:=h
 unfold parseO
 rw [h2]
 show (if objW = objW then numsO (W ++ []) bndS else none) = _
 rw [if_pos rfl,List.append_nil];exact h4
theorem SoFar.four {l:List UInt8} {X:List Nat} {V:List (List UInt8)} (h:SoFar l 4 X V):∃ d L S N,X = [d,L,S,N]∧d≤4294967295∧L≤2147483647∧S≤2147483647∧N≤2147483647:=by
 obtain ⟨_,h1,W,h2,h3,h4⟩:=h
 match W,h3 with
 | [a,b,c,e],_ =>
  have hb:∀ {M:Nat} {w:List UInt8} {x:Nat},numB M w = some x→x≤M:=fun {M w x} h=>by
   unfold numB at h
   split at h
   ·rename_i hh;cases h;exact hh.2
   ·cases h
  have h5:numsO [a,b,c,e] [4294967295,2147483647,2147483647,2147483647] = some X:=h4
  simp only [numsO,Option.bind_eq_some_iff,Option.map_eq_some_iff] at h5
  obtain ⟨x0,e0,y1,⟨x1,e1,y2,⟨x2,e2,y3,⟨x3,e3,y4,h6,rfl⟩,rfl⟩,rfl⟩,rfl⟩:=h5
  cases h6
  exact ⟨x0,x1,x2,x3,rfl,hb e0,hb e1,hb e2,hb e3⟩
theorem parse_obj {l:List UInt8} {o:List UInt8} {V:List (List UInt8)} (h:spl 32 5 l = o :: V) (ho:o≠objW):parseO l = none:=by
 unfold parseO;rw [h]
 show (if o = objW then numsO V bndS else none) = none
 rw [if_neg ho]
def restS (m:Bool) (k:Nat) (r:List UInt8):List (List UInt8):=if m then spl 32 k r else []
theorem spl_cut (k:Nat) (l:List UInt8):spl 32 (k + 1) l = (cutW 32 l).1 :: restS (cutW 32 l).2.isSome k ((cutW 32 l).2.getD []):=by
 cases h:(cutW 32 l).2 with
 | none=>rw [spl_none h,(cutW_none h).1];rfl
 | some r=>rw [spl_some h];rfl
theorem cut_len {l:List UInt8}:((cutW 32 l).2.getD []).length≤l.length∧(cutW 32 l).1.length≤l.length:=by
 cases h:(cutW 32 l).2 with
 | none=>exact ⟨by simp,by rw [(cutW_none h).1];omega⟩
 | some r =>
  obtain ⟨i,_,e2,e3,e4⟩:=cutW_some h
  exact ⟨by have:=cutW_len h;simp;omega,by rw [← e2,List.length_take];omega⟩
theorem spl_short:∀ (k:Nat) (l x:List UInt8),x ∈ spl 32 k l→x.length≤l.length
 | 0,l,x,h=>by rw [List.mem_singleton.1 h];omega
 | k + 1,l,x,h=>by
  rw [spl_cut] at h
  rcases List.mem_cons.1 h with h | h
  ·rw [h];exact cut_len.2
  ·unfold restS at h
   split at h
   ·exact Nat.le_trans (spl_short k _ x h) cut_len.1
   ·cases h
end Go.By
namespace Go.By
open Go.RowKit
def padS4 (X:List Nat):Array Value:=(X.map (fun x:Nat=>Value.int .u64 (x:Int)) ++ List.replicate (4 - X.length) (Value.int .u64 0)).toArray
theorem padS4_set {X:List Nat} {k x:Nat} (h:X.length = k) (hk:k < 4):(padS4 X).setIfInBounds k (.int .u64 (x:Int)) = padS4 (X ++ [x]):=by
 subst h
 unfold padS4
 rw [List.setIfInBounds_toArray]
 congr 1
 have e:4 - X.length = (4 - (X ++ [x]).length) + 1:=by simp;omega
 rw [e,List.replicate_succ,List.map_append,List.append_assoc]
 have hl:X.length = (X.map (fun x:Nat=>Value.int .u64 (x:Int))).length:=by simp
 conv=>lhs;rw [hl]
 rw [List.set_append_right _ _ (Nat.le_refl _),Nat.sub_self];rfl
theorem padS4_at {X:List Nat} {k:Nat} (h:X.length = k) (hk:k < 4):(padS4 X)[k]? = some (.int .u64 0):=by
 subst h
 unfold padS4
 rw [List.getElem?_toArray,List.getElem?_append_right (by simp),List.length_map,Nat.sub_self,List.getElem?_replicate,if_pos (by omega)]
def bsN (k:Nat):Int:=if k = 0 then 32 else 31
theorem bs_bnd (k:Nat):(bsN k = 32∧bndN k = 4294967295)∨(bsN k = 31∧bndN k = 2147483647):=by
 by_cases h:k = 0
 ·left;exact ⟨if_pos h,if_pos h⟩
 ·right;exact ⟨if_neg h,if_neg h⟩
end Go.By
namespace Go.Proofs.YtccaiiigdfieoaaGreatDoor
open Go.RowKit Go.By
def parseV (l:List UInt8):Value:=match parseO l with
 | some [d,L,S,N]=>if checkS L S N = 0 then .tuple #[.agg #[.int .i64 L,.int .i64 S,.int .i64 N,.int .u32 d],.int .i64 0] else .tuple #[.agg #[.int .i64 0,.int .i64 0,.int .i64 0,.int .u32 0],.int .i64 (checkS L S N)]
 | _=>.tuple #[.agg #[.int .i64 0,.int .i64 0,.int .i64 0,.int .u32 0],.int .i64 14]
theorem parseV_none {l:List UInt8} (h:parseO l = none):parseV l = .tuple #[.agg #[.int .i64 0,.int .i64 0,.int .i64 0,.int .u32 0],.int .i64 14]:=by unfold parseV;rw [h]
theorem parseV_bad {l:List UInt8} {d L S N:Nat} (h:parseO l = some [d,L,S,N]) (hc:checkS L S N≠0):parseV l = .tuple #[.agg #[.int .i64 0,.int .i64 0,.int .i64 0,.int .u32 0],.int .i64 (checkS L S N)]:=by unfold parseV;rw [h];exact if_neg hc
theorem parseV_good {l:List UInt8} {d L S N:Nat} (h:parseO l = some [d,L,S,N]) (hc:checkS L S N = 0):parseV l = .tuple #[.agg #[.int .i64 L,.int .i64 S,.int .i64 N,.int .u32 d],.int .i64 0]:=by unfold parseV;rw [h];exact if_pos hc
set_option maxRecDepth 100000 in
set_option maxHeartbeats 8000000 in
theorem PParse_any (l:List UInt8) (w:World) (hl:l.length≤1000000) (hM:MaxI w) (hE:ErrI w) :
  Calls Tryz.prog 69 #[.string (strB l)] w fun e w'=>e = .returned (parseV l)∧Below w.heap.size w w':=by
 have hi:=info_plan
 have HBA:Hid (∀ (W:World) o,Below W.heap.size W (W.alloc o)):=fun W o=>al (Below.refl _ _) (Nat.le_refl _)
 have hix:Hid (∀ k:Nat,k < 4→∀ w,(Instr.index 205 (.agg #[.int .i64 32,.int .i64 31,.int .i64 31,.int .i64 31]) (.int .i64 (k:Int))).run Tryz.prog w = .ok (.int .i64 (bsN k)) w):=fun k hk w=>by
  have:k = 0∨k = 1∨k = 2∨k = 3:=by omega
  rcases this with rfl | rfl | rfl | rfl <;> simp [Instr.index,run_underlying Tryz.underlying205,asIntOf,go_sem,bsN]
 have HSP:Hid (∀ W,MaxI W→Calls Tryz.prog 124 #[.string (strB l),.string ⟨#[32]⟩,.int .i64 6] W fun e w'=>∃ b c,e = .returned (.slice (some ⟨b,0,none⟩) (spl 32 5 l).length c)∧(spl 32 5 l).length≤c∧StrRow w' b (spl 32 5 l)∧Below W.heap.size W w'):=fun W h=>SplitN_any l W hl h
 have HSH:Hid (∀ x ∈ spl 32 5 l,x.length≤1000000):=fun x hx=>Nat.le_trans (spl_short 5 l x hx) hl
 have HM:=Lib.hid hM;have HE:=Lib.hid hE
 have HXB:Hid (∀ o,(w.alloc o).heap[w.heap.size]? = some o):=fun o=>hnew rfl
 obtain ⟨S0,hS0⟩:∃ S0,S0 = strB l:=⟨_,rfl⟩
 rw [← hS0] at HSP ⊢
 clear hS0 hl hM hE
 go_enter Tryz.func69,Tryz.ntmps69
 go_wp2_with fail
 refine Calls.mono (HSP.out _ (HM.out.keep (HBA.out _ _))) ?_
 rintro e w1 ⟨b,c,rfl,hc,hs,hb⟩
 have XB:Hid (PC4 w.heap.size 27 0 0 0 0 w1):=PC4.keep (HXB.out _) hb
 have B1:Hid (Below w.heap.size w w1):=bl (HBA.out _ _) hb (by simp)
 have E1:=Lib.hid (HE.out.keep B1.out)
 have SR:=Lib.hid hs
 obtain ⟨b2,hb2⟩:∃ b2,b2 = w.heap.size:=⟨_,rfl⟩
 have HB2:=Lib.hid hb2
 rw [← hb2] at XB ⊢
 clear hs hb HSP hb2 HXB
 have hn1:=(spl_len 32 5 l).1
 obtain ⟨o,ws,hw⟩:∃ o ws,spl 32 5 l = o :: ws:=by
  cases h:spl 32 5 l with
  | nil=>rw [h] at hn1;simp at hn1
  | cons o ws=>exact ⟨o,ws,rfl⟩
 have HW:=Lib.hid hw
 rw [hw] at SR HSH hc hn1 ⊢
 rw [List.length_cons] at hc hn1 ⊢
 have hfin0:∀ W,PC4 b2 27 0 0 0 0 W→PC4 b2 27 0 0 0 0 ((((W.setCell ⟨b2,0,none⟩ (.int .i64 0)).setCell ⟨b2,1,none⟩ (.int .i64 0)).setCell ⟨b2,2,none⟩ (.int .i64 0)).setCell ⟨b2,3,none⟩ (.int .u32 0)):=fun W h=>hss (hss (hss (hss h)))
 have hset:∀ W x y z u,Below w.heap.size w W→Below w.heap.size w ((((W.setCell ⟨b2,0,none⟩ x).setCell ⟨b2,1,none⟩ y).setCell ⟨b2,2,none⟩ z).setCell ⟨b2,3,none⟩ u):=fun W x y z u h=>by
  have e:w.heap.size≤b2:=Nat.le_of_eq HB2.out.symm
  exact (((h.setCell e _).setCell e _).setCell e _).setCell e _
 have HF0:=Lib.hid hfin0;have HST:=Lib.hid hset
 clear hfin0 hset hw
 have hne0:(ws.length + 1 = 5)∨((((ws.length + 1:Nat):Int) != 5) = true∧parseO l = none):=by
  by_cases h:ws.length + 1 = 5
  ·exact .inl h
  ·refine .inr ⟨by simp;omega,?_⟩
   by_cases ho:o = objW
   ·subst ho;exact SoFar.short (SoFar.zero HW.out) (by omega)
   ·exact parse_obj HW.out ho
 obtain ⟨n,hn⟩:∃ n,n = ws.length + 1:=⟨_,rfl⟩
 rw [← hn] at hne0 hc hn1 ⊢
 have HN:=Lib.hid hn
 clear hn
 rcases hne0 with h5 | ⟨hne,hp⟩
 ·subst h5
  obtain ⟨c0,c1,c2,c3⟩:=XB.out.cells
  have f0:=XB.out.froz 0
  have f1:=XB.out.froz 1
  have f2:=XB.out.froz 2
  have f3:=XB.out.froz 3
  by_cases ho:o = objW
  ·have d0:w1.cell? ⟨b,0,none⟩ = some (.string ⟨#[111,98,106,101,99,116]⟩):=by
    have:=SR.out 0 o rfl
    rw [ho] at this;exact this
   have SF0:Hid (SoFar l 0 [] ws):=SoFar.zero (by rw [HW.out,ho])
   clear ho hn1 c0 c1 c2 c3 f0 f1 f2 f3
   go_wp2
   go_loopw [27] (fun i wr=>∃ (k:Nat) (X:List Nat),i = .int .i64 k∧k≤4∧Hid (SoFar l k X (ws.drop k))∧Hid (wr.heap[w1.heap.size + 1]? = some (.cells (padS4 X) 206 (0,0)))∧Hid (PC4 b2 27 0 0 0 0 wr)∧Hid (StrRow wr b (o :: ws))∧Hid (Below w.heap.size w wr)) (fun i _=>4 - (intOf i).toNat)
   case atStart =>
    have q1:Below w1.heap.size w1 ((w1.alloc (.cells #[.int .i64 32,.int .i64 31,.int .i64 31,.int .i64 31] 205)).alloc (.cells (padS4 []) 206)):=al (HBA.out _ _) (by simp)
    exact ⟨0,[],rfl,by omega,SF0.out,hnew (by simp),XB.out.keep q1,SR.out.keep q1,bl B1.out q1 B1.out.size⟩
   case round =>
    obtain ⟨k,X,rfl,hk,hS,hX,hP,hR,hBw⟩:=hrel
    by_cases hlt:k < 4
    ·obtain ⟨x,hx⟩:∃ x,ws[k]? = some x:=⟨ws[k]'(by have:=HN.out;omega),List.getElem?_eq_getElem _⟩
     have hw1:wr.cell? ⟨b,k + 1,none⟩ = some (.string (strB x)):=hR.out (k + 1) x (by simpa using hx)
     have hk5:(k:Int) + 1 < 5:=by omega
     have hix0:=hix.out k hlt
     have hdr:ws.drop k = x :: ws.drop (k + 1):=by
      obtain ⟨hh,e⟩:=List.getElem?_eq_some_iff.1 hx
      rw [List.drop_eq_getElem_cons hh,e]
     have HNU:Hid (∀ W,ErrI W→Calls Tryz.prog 125 #[.string (strB x),.int .i64 (bsN k)] W fun e w'=>∃ v,e = .returned v∧NumRes .u64 (bndN k) x v∧Below W.heap.size W w'):=fun W h=>number_any x (bsN k) (bndN k) (bs_bnd k) W (HSH.out x (by right;exact List.mem_of_getElem? hx)) h
     have S1:=hS.out
     rw [hdr] at S1
     have HS1:=Lib.hid S1
     have HLT:=Lib.hid hlt
     obtain ⟨sx,hsx⟩:∃ sx,sx = strB x:=⟨_,rfl⟩
     obtain ⟨bs,hbs⟩:∃ bs,bs = bsN k:=⟨_,rfl⟩
     rw [← hsx] at hw1 HNU
     rw [← hbs] at hix0 HNU
     have hlt':(k:Int) < 4:=by omega
     clear hx hdr S1 hS hsx hbs hlt
     go_wp2_with (first | simp only [hix0] | fail)
     refine Calls.mono (HNU.out _ (HE.out.keep hBw.out)) ?_
     rintro e w3 ⟨v,rfl,⟨y,rfl,hy⟩,hb⟩
     have P3:=Lib.hid (hP.out.keep hb)
     have R3:=Lib.hid (hR.out.keep hb)
     have X3:Hid (w3.heap[w1.heap.size + 1]? = some (.cells (padS4 X) 206 (0,0))):=(hb.block _ (lt_blkq hX.out)).trans hX.out
     have B3:Hid (Below w.heap.size w w3):=bl hBw.out hb hBw.out.size
     clear hb hP hR hX hBw hw1 hk5 hix0 HNU
     cases hnb:numB (bndN k) x with
     | none =>
      have HP0:Hid (parseV l = .tuple #[.agg #[.int .i64 0,.int .i64 0,.int .i64 0,.int .u32 0],.int .i64 14]):=parseV_none (HS1.out.bad HLT.out hnb)
      obtain ⟨c0,c1,c2,c3⟩:=P3.out.cells
      have f0:=P3.out.froz 0
      have f1:=P3.out.froz 1
      have f2:=P3.out.froz 2
      have f3:=P3.out.froz 3
      clear hy hnb
      go_wp2
      refine bodyPost_ret (results_ct rfl _ _ _ 27 #[.int .i64 0,.int .i64 0,.int .i64 0,.int .u32 0] (0,0) _ (.int .i64 14) rfl (HF0.out _ P3.out) rfl Tryz.underlying27 rfl hi) rfl ⟨by rw [HP0.out],HST.out _ _ _ _ _ B3.out⟩
     | some y0 =>
      obtain rfl:y = y0:=hy y0 hnb
      have HS4:Hid (SoFar l (k + 1) (X ++ [y]) (ws.drop (k + 1))):=HS1.out.next HLT.out hnb
      have hXl:X.length = k:=HS1.out.2.1
      have g0:w3.cell? ⟨w1.heap.size + 1,k,none⟩ = some (.int .u64 0):=by
       rw [cell_of_row _ _ _ _ _ _ X3.out];exact padS4_at hXl HLT.out
      have g1:w3.frozen? ⟨w1.heap.size + 1,k,none⟩ = false:=frozen_of_row _ _ k _ _ X3.out
      have X4:Hid ((w3.setCell ⟨w1.heap.size + 1,k,none⟩ (.int .u64 (y:Int))).heap[w1.heap.size + 1]? = some (.cells (padS4 (X ++ [y])) 206 (0,0))):=by
       have:=hss (i:=k) (v:=.int .u64 (y:Int)) X3.out
       rw [padS4_set hXl HLT.out] at this;exact this
      have hwb:Hid (b2 < w1.heap.size + 1):=Nat.lt_succ_of_lt XB.out.lt
      have hsb:Hid (∀ i x,(o :: ws)[i]? = some x→b < w1.heap.size):=fun i x hx=>lt_of_cell (SR.out i x hx)
      have Y:Hid (PC4 b2 27 0 0 0 0 (w3.setCell ⟨w1.heap.size + 1,k,none⟩ (.int .u64 (y:Int)))∧StrRow (w3.setCell ⟨w1.heap.size + 1,k,none⟩ (.int .u64 (y:Int))) b (o :: ws)∧Below w.heap.size w (w3.setCell ⟨w1.heap.size + 1,k,none⟩ (.int .u64 (y:Int)))):=by
       refine ⟨hsc P3.out (by have:=hwb.out;show b2≠w1.heap.size + 1;omega),fun i x hx=>?_,B3.out.setCell (by have:=B1.out.size;show w.heap.size≤w1.heap.size + 1;omega) _⟩
       rw [World.cell?_setCell_other _ _ _ _ (by intro e;have e2:=congrArg Addr.block e;have:=hsb.out i x hx;simp at e2;omega)]
       exact R3.out i x hx
      clear hy hnb hXl
      go_wp2
      go_roundw
      case rel=>exact ⟨k + 1,X ++ [y],by go_num,by omega,HS4.out,X4.out,Y.out.1,Y.out.2.1,Y.out.2.2⟩
      case measure=>simp [intOf];omega
    ·have hk4:k = 4:=by omega
     subst hk4
     have hdr:ws.drop 4 = []:=List.drop_of_length_le (by have:=HN.out;omega)
     obtain ⟨d,L,S,N,rfl,hd,hL,hSS,hN⟩:=hS.out.four
     have HPO:Hid (parseO l = some [d,L,S,N]):=by
      have:=hS.out
      rw [hdr] at this
      exact this.done
     clear hdr hS
     have g0:wr.cell? ⟨w1.heap.size + 1,0,none⟩ = some (.int .u64 (d:Int)):=by rw [cell_of_row _ _ _ _ _ _ hX.out];rfl
     have g1:wr.cell? ⟨w1.heap.size + 1,1,none⟩ = some (.int .u64 (L:Int)):=by rw [cell_of_row _ _ _ _ _ _ hX.out];rfl
     have g2:wr.cell? ⟨w1.heap.size + 1,2,none⟩ = some (.int .u64 (S:Int)):=by rw [cell_of_row _ _ _ _ _ _ hX.out];rfl
     have g3:wr.cell? ⟨w1.heap.size + 1,3,none⟩ = some (.int .u64 (N:Int)):=by rw [cell_of_row _ _ _ _ _ _ hX.out];rfl
     have HC:Hid (∀ W,Calls Tryz.prog 79 #[.agg #[.int .i64 L,.int .i64 S,.int .i64 N,.int .u32 d]] W fun e w'=>e = .returned (.int .i64 (checkS L S N))∧Below W.heap.size W w'):=fun W=>Check_any L S N d W (by omega)
     clear hlt
     go_wp2_with fail
     refine use_wq (fun W=>PC4 wr.heap.size 27 L S N d W∧PC4 b2 27 0 0 0 0 W∧Below w.heap.size w W) ⟨hnew rfl,hal hP.out,al hBw.out hBw.out.size⟩ ?_
     rintro W2 ⟨z1,z2,z3⟩
     refine Calls.mono (HC.out _) ?_
     rintro e w3 ⟨rfl,hb⟩
     have P1:=Lib.hid (z1.keep hb)
     have P2:=Lib.hid (z2.keep hb)
     have B3:Hid (Below w.heap.size w w3):=bl z3 hb z3.size
     obtain ⟨bw,hbw⟩:∃ bw,bw = wr.heap.size:=⟨_,rfl⟩
     rw [← hbw] at P1 ⊢
     clear z1 z2 z3 hb g0 g1 g2 g3 hX hP hR hBw hbw
     obtain ⟨c0,c1,c2,c3⟩:=P2.out.cells
     have f0:=P2.out.froz 0
     have f1:=P2.out.froz 1
     have f2:=P2.out.froz 2
     have f3:=P2.out.froz 3
     by_cases hz:checkS L S N = 0
     ·have HP0:=Lib.hid (parseV_good HPO.out hz)
      obtain ⟨d0,d1,d2,d3⟩:=P1.out.cells
      have HQ:Hid (PC4 b2 27 L S N d ((((w3.setCell ⟨b2,0,none⟩ (.int .i64 L)).setCell ⟨b2,1,none⟩ (.int .i64 S)).setCell ⟨b2,2,none⟩ (.int .i64 N)).setCell ⟨b2,3,none⟩ (.int .u32 d))):=hss (hss (hss (hss P2.out)))
      rw [hz]
      clear hz
      go_wp2
      refine bodyPost_ret (results_ct rfl _ _ _ 27 #[.int .i64 L,.int .i64 S,.int .i64 N,.int .u32 d] (0,0) _ (.int .i64 0) rfl HQ.out rfl Tryz.underlying27 rfl hi) rfl ⟨by rw [HP0.out],HST.out _ _ _ _ _ B3.out⟩
     ·have HP0:=Lib.hid (parseV_bad HPO.out hz)
      have hzb:(checkS L S N != 0) = true:=by simpa using hz
      clear hz
      generalize checkS L S N = f at *
      go_wp2
      refine bodyPost_ret (results_ct rfl _ _ _ 27 #[.int .i64 0,.int .i64 0,.int .i64 0,.int .u32 0] (0,0) _ (.int .i64 f) rfl (HF0.out _ P2.out) rfl Tryz.underlying27 rfl hi) rfl ⟨by rw [HP0.out],HST.out _ _ _ _ _ B3.out⟩
  ·have HP0:Hid (parseV l = .tuple #[.agg #[.int .i64 0,.int .i64 0,.int .i64 0,.int .u32 0],.int .i64 14]):=parseV_none (parse_obj HW.out ho)
   have d0:w1.cell? ⟨b,0,none⟩ = some (.string (strB o)):=SR.out 0 o rfl
   have hne:((strB o).toList == [111,98,106,101,99,116]) = false:=by
    rw [ByteArray.toList_eq,strB_data]
    exact beq_eq_false_iff_ne.2 ho
   generalize strB o = so at *
   clear ho hn1
   go_wp2
   refine bodyPost_ret (results_ct rfl _ _ _ 27 #[.int .i64 0,.int .i64 0,.int .i64 0,.int .u32 0] (0,0) _ (.int .i64 14) rfl (HF0.out _ XB.out) rfl Tryz.underlying27 rfl hi) rfl ⟨by rw [HP0.out],HST.out _ _ _ _ _ B1.out⟩
 ·have HP0:Hid (parseV l = .tuple #[.agg #[.int .i64 0,.int .i64 0,.int .i64 0,.int .u32 0],.int .i64 14]):=parseV_none hp
  obtain ⟨c0,c1,c2,c3⟩:=XB.out.cells
  have f0:=XB.out.froz 0
  have f1:=XB.out.froz 1
  have f2:=XB.out.froz 2
  have f3:=XB.out.froz 3
  clear hp hn1
  go_wp2
  refine bodyPost_ret (results_ct rfl _ _ _ 27 #[.int .i64 0,.int .i64 0,.int .i64 0,.int .u32 0] (0,0) _ (.int .i64 14) rfl (HF0.out _ XB.out) rfl Tryz.underlying27 rfl hi) rfl ⟨by rw [HP0.out],HST.out _ _ _ _ _ B1.out⟩
end Go.Proofs.YtccaiiigdfieoaaGreatDoor
namespace Go.By
open Go.RowKit
theorem objW_no:∀ b ∈ objW,b≠(32:UInt8):=by decide
theorem parse_text {d l s n:Nat} (hd:d≤4294967295) (hl:l≤2147483647) (hs:s≤2147483647) (hn:n≤2147483647):parseO (textW d l s n) = some [d,l,s,n]:=by
 have e:spl 32 5 (textW d l s n) = [objW,Lib.decDigits d,Lib.decDigits l,Lib.decDigits s,Lib.decDigits n]:=by
  rw [textW_eq]
  show spl 32 5 (objW ++ 32 :: (Lib.decDigits d ++ 32 :: (Lib.decDigits l ++ 32 :: (Lib.decDigits s ++ 32 :: Lib.decDigits n)))) = _
  rw [spl_cut,cutW_app objW_no]
  show objW :: spl 32 4 (Lib.decDigits d ++ 32 :: (Lib.decDigits l ++ 32 :: (Lib.decDigits s ++ 32 :: Lib.decDigits n))) = _
  rw [spl_cut,cutW_app (dec_no_blank d)]
  show objW :: Lib.decDigits d :: spl 32 3 (Lib.decDigits l ++ 32 :: (Lib.decDigits s ++ 32 :: Lib.decDigits n)) = _
  rw [spl_cut,cutW_app (dec_no_blank l)]
  show objW :: Lib.decDigits d :: Lib.decDigits l :: spl 32 2 (Lib.decDigits s ++ 32 :: Lib.decDigits n) = _
  rw [spl_cut,cutW_app (dec_no_blank s)]
  show objW :: Lib.decDigits d :: Lib.decDigits l :: Lib.decDigits s :: spl 32 1 (Lib.decDigits n) = _
  rw [spl_cut,cutW_all (dec_no_blank n)]
  rfl
 unfold parseO
 rw [e]
 show (if objW = objW then numsO [Lib.decDigits d,Lib.decDigits l,Lib.decDigits s,Lib.decDigits n] [4294967295,2147483647,2147483647,2147483647] else none) = _
 rw [if_pos rfl]
 simp [numsO,numB_dec hd,numB_dec hl,numB_dec hs,numB_dec hn]
end Go.By
namespace Go.Proofs.YtccaiiigdfieoaaGreatDoor
open Go.RowKit Go.By
end Go.Proofs.YtccaiiigdfieoaaGreatDoor
namespace Go.Proofs.YtccaiiigdfieoaaGreatDoor
open Go.By Go.Lib Go.RowKit
def linesP (s:List UInt8):Option (List (List UInt8)):=if s.getLast? = some 10 then some (splA 10 s.dropLast) else none
theorem list_lastP (l:List UInt8):l = []∨∃ l0 z,l = l0 ++ [z]:=by
 by_cases h:l = []
 ·exact .inl h
 ·exact .inr ⟨l.dropLast,l.getLast h,(List.dropLast_concat_getLast h).symm⟩
theorem linesP_not {l0:List UInt8} {z:UInt8} (h:z≠10):linesP (l0 ++ [z]) = none:=by
 unfold linesP
 rw [List.getLast?_concat,if_neg (fun e=>h (Option.some.inj e))]
theorem linesP_ten (l0:List UInt8):linesP (l0 ++ [10]) = some (splA 10 l0):=by
 unfold linesP
 rw [List.getLast?_concat,List.dropLast_concat,if_pos rfl]
theorem linesP_one {a:List UInt8} (ha:∀ b ∈ a,b≠(10:UInt8)):linesP (a ++ [10]) = some [a]:=by
 unfold linesP
 rw [List.getLast?_concat,List.dropLast_concat,if_pos rfl,splA_free ha]
theorem linesP_cons {a s:List UInt8} (ha:∀ b ∈ a,b≠(10:UInt8)) (hs:s≠[]):linesP (a ++ 10 :: s) = (linesP s).map (a :: ·):=by
 obtain ⟨s0,z,rfl⟩:∃ s0 z,s = s0 ++ [z]:=⟨s.dropLast,s.getLast hs,(List.dropLast_concat_getLast hs).symm⟩
 have e:a ++ 10 :: (s0 ++ [z]) = (a ++ 10 :: s0) ++ [z]:=by simp
 rw [e]
 unfold linesP
 rw [List.getLast?_concat,List.getLast?_concat,List.dropLast_concat,List.dropLast_concat]
 by_cases h:some z = some 10
 ·rw [if_pos h,if_pos h,splA_cut ha];rfl
 ·rw [if_neg h,if_neg h];rfl
theorem linesP_W:∀ {L:List (List UInt8)} {a:List UInt8},(∀ b ∈ a,b≠(10:UInt8))→(∀ x ∈ L,∀ b ∈ x,b≠(10:UInt8))→linesP (a ++ [10] ++ L.flatMap (fun x=>x ++ [10])) = some (a :: L)
 | [],a,ha,_=>by simpa using linesP_one ha
 | x :: L,a,ha,hL=>by
  have ih:=linesP_W (L:=L) (a:=x) (hL x (by simp)) (fun y hy=>hL y (by simp [hy]))
  have e:a ++ [10] ++ (x :: L).flatMap (fun x=>x ++ [10]) = a ++ 10 :: (x ++ [10] ++ L.flatMap (fun x=>x ++ [10])):=by simp
  rw [e,linesP_cons ha (by simp),ih];rfl
def pktsP:List (List UInt8)→Option (List (List UInt8))
 | []=>some []
 | a :: l=>(unhexO a).bind fun x=>(pktsP l).map (x :: ·)
theorem hexL_some {x:List UInt8} (h:x≠[]):hexL x≠[]:=fun e=>by
 cases x with
 | nil=>exact h rfl
 | cons a l=>rw [hexL_cons] at e;cases e
theorem unhexO_hexL {x:List UInt8} (h:x≠[]):unhexO (hexL x) = some x:=by
 unfold unhexO
 rw [if_neg (hexL_some h),unhexP_hexL]
theorem pktsP_hex:∀ {L:List (List UInt8)},(∀ x ∈ L,x≠[])→pktsP (L.map hexL) = some L
 | [],_=>rfl
 | x :: L,h=>by
  show (unhexO (hexL x)).bind _ = _
  rw [unhexO_hexL (h x (by simp)),pktsP_hex (fun y hy=>h y (by simp [hy]))];rfl
theorem textW_plain (d l s n:Nat):∀ b ∈ textW d l s n,b≠(10:UInt8):=fun b hb=>by
 rw [textW_eq] at hb
 have hd:∀ u,b ∈ decDigits u→b≠(10:UInt8):=fun u h=>(dec_plain u b h).2
 simp only [List.mem_append,List.mem_cons,List.not_mem_nil,or_false] at hb
 rcases hb with (rfl | rfl | rfl | rfl | rfl | rfl) | rfl | hb | rfl | hb | rfl | hb | rfl | hb
 all_goals first | decide | exact hd _ hb
theorem expL_ne {D:Nat} {R:List Rw}:∀ x ∈ expL D R,x≠[]:=fun x hx e=>by
 obtain ⟨i,hi⟩:=List.mem_iff_getElem?.1 hx
 have hl:i < R.length:=by have:=(List.getElem?_eq_some_iff.1 hi).1;rwa [expL_len] at this
 rw [expL_at (List.getElem?_eq_getElem hl)] at hi
 have h2:=congrArg List.length (Option.some.inj hi)
 rw [pktB_len0,e] at h2
 simp at h2
theorem keep_lines (L t k D:Nat) (K:List Rw) (st:Nat):linesP (keepT L t k D K st) = some (textW D L t k :: (expL D (expR k t K st)).map hexL):=by
 unfold keepT hexT
 have:=linesP_W (L:=(expL D (expR k t K st)).map hexL) (a:=textW D L t k) (textW_plain _ _ _ _) (fun x hx b hb=>by
  obtain ⟨y,_,rfl⟩:=List.mem_map.1 hx
  exact (hexL_plain y b hb).2)
 rw [List.flatMap_map] at this
 exact this
theorem keep_pkts {D:Nat} {R:List Rw}:pktsP ((expL D R).map hexL) = some (expL D R):=pktsP_hex expL_ne
theorem keep_plan {L t k D:Nat} (h:POK L t k D):parseV (textW D L t k) = .tuple #[PVal L t k D,.int .i64 0]:=by
 have hs:=checkS_zero h.chk
 have h2:=h.d
 exact parseV_good (parse_text (by omega) (by omega) (by omega) (by omega)) h.chk
end Go.Proofs.YtccaiiigdfieoaaGreatDoor
namespace Go.Proofs.YtccaiiigdfieoaaGreatDoor
open Go.RowKit Go.By
end Go.Proofs.YtccaiiigdfieoaaGreatDoor
namespace Go.By
open Go.RowKit
end Go.By
namespace Go.Proofs.YtccaiiigdfieoaaGreatDoor
open Go.RowKit Go.By
end Go.Proofs.YtccaiiigdfieoaaGreatDoor
namespace Go.Proofs.YtccaiiigdfieoaaGreatDoor
open Go.RowKit Go.By
def digitsC:ByteArray:=⟨#[48,49,50,51,52,53,54,55,56,57,97,98,99,100,101,102]⟩
def idxD (c:UInt8):Int:=if valD c < 16 then (valD c:Int) else -1
theorem idxD_eq (c:UInt8):Lib.indexByte digitsC.data.toList c = idxD c:=by
 have h:∀ n:Fin 256,Lib.indexByte digitsC.data.toList (UInt8.ofNat n) = idxD (UInt8.ofNat n):=by decide +kernel
 have:=h ⟨c.toNat,c.toNat_lt⟩
 simpa using this
theorem IndexD_any (c:UInt8) (w:World):Calls Tryz.prog 123 #[.string ⟨#[48,49,50,51,52,53,54,55,56,57,97,98,99,100,101,102]⟩,B8 c] w fun e w'=>e = .returned (.int .i64 (idxD c))∧w' = w:=by
 have:=Tryz.strings_IndexByte digitsC (c.toNat:Int) w
 rw [show ((c.toNat:Int)).toNat.toUInt8 = c by simp,idxD_eq] at this
 exact this
theorem hex_or {x y:Nat} (hx:x < 16) (hy:y < 16):bits BinOp.or IntKind.i64 ((x:Int) * 16) (y:Int) % 256 = ((16 * x + y:Nat):Int):=by
 have h:∀ a b:Fin 16,bits BinOp.or IntKind.i64 ((a.1:Int) * 16) (b.1:Int) % 256 = ((16 * a.1 + b.1:Nat):Int):=by decide +kernel
 exact h ⟨x,hx⟩ ⟨y,hy⟩
end Go.Proofs.YtccaiiigdfieoaaGreatDoor
namespace Go.Proofs.YtccaiiigdfieoaaGreatDoor
open Go.RowKit Go.By
set_option maxRecDepth 100000 in
set_option maxHeartbeats 2000000 in
theorem keepRead_any (l:List UInt8) (w:World) (hl:l.length≤1000000) :
  Calls Tryz.prog 68 #[.string (strB l)] w (OptB w (unhexO l)):=by
 obtain ⟨i0,hi,hz0,hz1,hz2⟩:=info_parts info_u8
 obtain ⟨n,hn⟩:∃ n,n = l.length:=⟨_,rfl⟩
 have hsz:(strB l).size = n:=by rw [strB_size,hn]
 have hemp:=txt_emp l
 have hixk:Hid (∀ (k:Nat) (d:UInt8),l[k]? = some d→∀ w,(Instr.index 9 (.string (strB l)) (.int .i64 (k:Int))).run Tryz.prog w = .ok (B8 d) w):=fun k d hd w=>txt_idx _ Tryz.underlying9 hd _ _ rfl w
 obtain ⟨S,hS⟩:∃ S,S = strB l:=⟨_,rfl⟩
 rw [← hS] at hsz hixk hemp ⊢
 clear hS
 have hl':n≤1000000:=by omega
 have HV:Hid (∀ c w,Calls Tryz.prog 123 #[.string ⟨#[48,49,50,51,52,53,54,55,56,57,97,98,99,100,101,102]⟩,B8 c] w fun e w'=>e = .returned (.int .i64 (idxD c))∧w' = w):=fun c w=>IndexD_any c w
 have htm:((n:Int)).tmod 2 = ((n % 2:Nat):Int):=by rw [Int.tmod_eq_emod_of_nonneg (by omega)];omega
 by_cases h0:l = []
 ·rw [decide_eq_true h0] at hemp
  have H0:Hid (unhexO l = none):=by show _ = _;unfold unhexO;rw [if_pos h0]
  clear h0 hn hixk hl htm
  go_enter Tryz.func68,Tryz.ntmps68
  go_wp2
  go_ret2
  exact OptB.no H0.out (Below.refl _ _)
 ·rw [decide_eq_false h0] at hemp
  have HU:Hid (unhexO l = unhexP l):=by show _ = _;unfold unhexO;rw [if_neg h0]
  by_cases h1:n % 2 = 1
  ·have H0:Hid (unhexO l = none):=HU.out.trans (unhexP_odd _ (Nat.le_refl _) (by omega))
   rw [h1] at htm
   clear h0 hn hixk hl h1 HU
   go_enter Tryz.func68,Tryz.ntmps68
   go_wp2
   go_ret2
   exact OptB.no H0.out (Below.refl _ _)
  ·have h2:n % 2 = 0:=by omega
   rw [h2] at htm
   have HN:=Lib.hid hn
   have H2:=Lib.hid h2
   clear h0 hn hl h1 h2
   go_enter Tryz.func68,Tryz.ntmps68
   go_wp2
   clear htm
   go_loopw [4,5,6,7] (fun ov iv _ _ wr=>∃ (i m:Nat) (q:Option Addr) (c:Nat) (O:List UInt8),i≤n∧iv = .int .i64 i∧ov = .slice q m c∧m≤i∧Hid (i % 2 = 0)∧Hid (UnhexAt l i O)∧Hid (wr.ownsRow w.heap.size 5 1 (.slice q m c) m (O.map B8))∧Hid (Below w.heap.size w wr)) (fun _ iv _ _ _=>n - (intOf iv).toNat)
   case atStart=>exact ⟨0,0,none,0,[],by omega,rfl,rfl,by omega,rfl,UnhexAt.zero _,World.ownsRow_nil _ _ _ _,Below.refl _ _⟩
   case round =>
    obtain ⟨i,m,q,c,O,hi0,rfl,rfl,hm,HE,HAt,HO,HB⟩:=hrel
    by_cases hlt:i < n
    ·have hi1:i + 1 < n:=by have:=HE.out;have:=H2.out;omega
     obtain ⟨a,ha⟩:∃ a,l[i]? = some a:=⟨_,List.getElem?_eq_getElem (by have:=HN.out;omega)⟩
     obtain ⟨b,hb⟩:∃ b,l[i + 1]? = some b:=⟨_,List.getElem?_eq_getElem (by have:=HN.out;omega)⟩
     have hixa:=hixk.out i a ha
     have hixb:=hixk.out (i + 1) b hb
     have e1:((i + 1:Nat):Int) = (i:Int) + 1:=by omega
     rw [e1] at hixb
     have hw1:IntKind.i64.wrap ((i:Int) + 1) = (i:Int) + 1:=by rw [IntKind.wrap_i64];omega
     have HLT:=Lib.hid hlt
     have HI1:=Lib.hid hi1
     have hlti:(i:Int) < (n:Int):=by omega
     have hlti1:(i:Int) + 1 < (n:Int):=by omega
     have HA:=Lib.hid ha
     have HBb:=Lib.hid hb
     clear ha hb hlt hi1 e1
     go_upto_region 9 with (fail)
     go_quiet ((go_at_call 123;exact Calls.quiet_of_same (HV.out _ _)))
     have BD:Hid (Below wr.heap.size wr (wr.drewN nq)):=below_drewN wr nq
     generalize wr.drewN nq = w1 at *
     have HB1:=Lib.hid (bl HB.out BD.out HB.out.size)
     have HO1:=Lib.hid (owns_keep HO.out BD.out)
     clear hixa hixb hw1 hlti hlti1 HB HO BD
     by_cases hv:valD a < 16∧valD b < 16
     ·obtain ⟨hva,hvb⟩:=hv
      have HAt2:=Lib.hid (HAt.out.next HA.out HBb.out hva hvb)
      obtain ⟨d,hd⟩:∃ d,d = UInt8.ofNat (16 * valD a + valD b):=⟨_,rfl⟩
      rw [← hd] at HAt2
      rw [show idxD a = (valD a:Int) from if_pos hva,show idxD b = (valD b:Int) from if_pos hvb]
      have hor:bits BinOp.or IntKind.i64 ((valD a:Int) * 16) (valD b:Int) % 256 = (d.toNat:Int):=by rw [hex_or hva hvb,hd,UInt8.toNat_ofNat',Nat.mod_eq_of_lt (by omega)]
      have ga:¬ (valD a:Int) < 0:=by omega
      have gb:¬ (valD b:Int) < 0:=by omega
      have hOA:Hid (∀ o,(w1.alloc o).ownsRow w.heap.size 5 1 (.slice q m c) m (O.map B8)):=fun o=>owns_keep HO1.out (al (Below.refl _ _) (Nat.le_refl _))
      have hszw:=HB1.out.size
      clear hd HAt
      go_wp2_with (at_builtin;refine wpList_append_own _ rfl _ _ 22 rfl w.heap.size 5 i0 (.int .u8 0) 1 1 Tryz.underlying22 hi hz0 hz1 hz2 rfl (by omega) _ m (O.map B8) rfl (hOA.out _) ⟨w1.heap.size,0,none⟩ 1 1 [B8 d] rfl rfl (one_cellI rfl) ?c2 ?c3 ?c4 ?c5 ?_)
      case c2=>first | rfl | (intro y hy;simp at hy;subst hy;rfl)
      case c3=>unfold maxLen;omega
      case c4=>omega
      case c5=>first | omega | (simp;omega)
      intro v' w' ho' hg' _
      obtain ⟨q',c',rfl⟩:=owns_shape ho'
      have FIN:Hid (w'.ownsRow w.heap.size 5 1 (.slice q' (m + 1) c') (m + 1) ((O ++ [d]).map B8)∧Below w.heap.size w w'):=by
       refine ⟨?_,?_⟩
       ·rw [List.map_append];exact ho'
       ·exact (al HB1.out hszw).grown hg' (by simp;omega) (fun rr hrr=>(HO1.out.lt rr hrr).1)
      clear ho' hg' HO1 HB1 hOA hor ga gb
      go_wp2
      go_roundw
      case rel=>exact ⟨i + 2,m + 1,q',c',O ++ [d],by have:=HI1.out;omega,by go_num,rfl,by omega,by have:=HE.out;show _ = _;omega,HAt2.out,FIN.out.1,FIN.out.2⟩
      case measure=>simp [intOf];have:=HI1.out;omega
     ·have HR:Hid (unhexO l = none):=HU.out.trans (HAt.out.bad HA.out HBb.out hv)
      have HG:(idxD a < 0)∨(¬ idxD a < 0∧idxD b < 0):=by
       unfold idxD
       by_cases g:valD a < 16
       ·right;rw [if_pos g,if_neg (fun g2=>hv ⟨g,g2⟩)];omega
       ·left;rw [if_neg g];omega
      clear hv HAt HO1
      rcases HG with ga | ⟨ga,gb⟩
      ·go_wp2
       go_ret2
       exact OptB.no HR.out HB1.out
      ·go_wp2
       go_ret2
       exact OptB.no HR.out HB1.out
    ·obtain rfl:i = n:=by omega
     have HR:Hid (unhexO l = some O):=HU.out.trans (HAt.out.done (by have:=HN.out;omega))
     clear hlt HAt
     go_wp2
     go_ret2
     exact OptB.yes HR.out HO.out HB.out
end Go.Proofs.YtccaiiigdfieoaaGreatDoor
namespace Go.Proofs.YtccaiiigdfieoaaGreatDoor
open Go.By Go.RowKit
def impC (k t D:Nat):List (List UInt8)→Int
 | []=>0
 | x :: l=>if readC k t D x = 0 then impC k t D l else readC k t D x
theorem impC_all {k t D:Nat}:∀ {xss:List (List UInt8)},(∀ (j:Nat) x,xss[j]? = some x→readC k t D x = 0)→impC k t D xss = 0
 | [],_=>rfl
 | x :: l,h=>by
  show (if readC k t D x = 0 then impC k t D l else readC k t D x) = 0
  rw [if_pos (h 0 x rfl)]
  exact impC_all fun j y hy=>h (j + 1) y (by simpa using hy)
theorem impC_at {k t D:Nat}:∀ {xss:List (List UInt8)} {i:Nat} {x:List UInt8},(∀ j y,j < i→xss[j]? = some y→readC k t D y = 0)→xss[i]? = some x→readC k t D x≠0→impC k t D xss = readC k t D x
 | [],i,x,_,hx,_=>by simp at hx
 | y :: l,0,x,_,hx,hn=>by
  obtain rfl:y = x:=by simpa using hx
  show (if readC k t D y = 0 then impC k t D l else readC k t D y) = _
  rw [if_neg hn]
 | y :: l,i + 1,x,h,hx,hn=>by
  show (if readC k t D y = 0 then impC k t D l else readC k t D y) = _
  rw [if_pos (h 0 y (by omega) rfl)]
  exact impC_at (i:=i) (fun j z hj hz=>h (j + 1) z (by omega) (by simpa using hz)) (by simpa using hx) hn
theorem impC_exp {k t D:Nat} {R:List Rw} (hR:∀ r,r ∈ R→Fit k t r) (hD:D < 4294967296) (hl:R.length≤1000000):impC k t D (expL D R) = 0 :=
 impC_all fun _ _ h=>expL_ok hR hD hl h
theorem tkR_zero (k t D:Nat) (xss:List (List UInt8)):tkR k t D (xss.take 0) = ([],0):=by simp [tkR]
theorem tkR_whole {k t D n:Nat} {xss:List (List UInt8)} (h:xss.length = n):tkR k t D (xss.take n) = tkR k t D xss:=by rw [List.take_of_length_le (by omega)]
end Go.Proofs.YtccaiiigdfieoaaGreatDoor
namespace Go.Proofs.YtccaiiigdfieoaaGreatDoor
open Go.RowKit Go.By Go.Maps
def ImpR (w:World) (L t k D n:Nat) (xss:List (List UInt8)) (e:Ending) (w':World):Prop :=
 (impC k t D xss = 0∧∃ base gt be M v C,e = .returned (.tuple #[.pointer (some ⟨gt,0,none⟩),.int .i64 0])∧w.heap.size≤base∧Tkr w' base gt be L t k D n M v C (tkR k t D xss).1 (tkR k t D xss).2∧Below w.heap.size w w')∨(impC k t D xss≠0∧e = .returned (.tuple #[.pointer none,.int .i64 (impC k t D xss)])∧Below w.heap.size w w')
set_option maxRecDepth 1000000 in
set_option maxHeartbeats 4000000 in
theorem KImport_any (L t k D:Nat) (p:Option Addr) (n c:Nat) (xss:List (List UInt8)) (w:World) (hP:POK L t k D) (hT:HalfT w) (h:Sl2 w p n c xss) (hn:n≤100000) (hl:∀ x ∈ xss,x.length≤1000000) :
  Calls Tryz.prog 53 #[PVal L t k D,.slice p n c] w (ImpR w L t k D n xss):=by
 have HT:=Lib.hid hT
 have HNew:=Lib.hid (fun w=>TNew_ok L t k D w hP)
 have H1:=Lib.hid h
 have HL:=Lib.hid hl
 have HLN:Hid (xss.length = n):=h.len
 clear hT hP h hl
 go_enter Tryz.func53,Tryz.ntmps53
 go_wp2_with fail
 refine Calls.mono (HNew.out _) ?_
 rintro e w2 ⟨gt,be,v0,rfl,hr,hb⟩
 obtain ⟨hb1,-,-⟩:=one_of hb
 have HB2:=Lib.hid hb1
 have HBase:Hid (w.heap.size≤(w.alloc (.cells #[.int .i64 (L:Nat),.int .i64 (t:Nat),.int .i64 (k:Nat),.int .u32 (D:Nat)] 27 (0,0))).heap.size):=by show _≤_;simp
 obtain ⟨base,hbase⟩:∃ base,base = (w.alloc (.cells #[.int .i64 (L:Nat),.int .i64 (t:Nat),.int .i64 (k:Nat),.int .u32 (D:Nat)] 27 (0,0))).heap.size:=⟨_,rfl⟩
 rw [← hbase] at hr HBase
 have HR2:=Lib.hid hr
 clear hb hb1 hr hbase HNew
 go_wp2
 go_loopw [21] (fun iv wr=>∃ (i:Nat) (M v:Value) (C:DataW Unit),i≤n∧iv = .int .i64 (i:Nat)∧Hid (∀ (j:Nat) (y:List UInt8),j < i→xss[j]? = some y→readC k t D y = 0)∧Hid (Tkr wr base gt be L t k D i M v C (tkR k t D (xss.take i)).1 (tkR k t D (xss.take i)).2)∧Hid (Below w.heap.size w wr)) (fun iv _=>n - (intOf iv).toNat)
 case atStart=>exact ⟨0,_,_,_,Nat.zero_le _,rfl,fun j y hj=>by omega,by rw [tkR_zero];exact HR2.out,HB2.out⟩
 case round =>
  obtain ⟨i,M,v,C,hi,rfl,HZ,HR,HB⟩:=hrel
  clear HR2 HB2
  by_cases hlt:i < n
  ·obtain ⟨bb,oo,qx,mx,cx,xs,rfl,hcd,hsd,hxd⟩:=(H1.out.keep HB.out).at i hlt
   have hmb:Room mx:=by have h1:=hsd.len;have h2:=HL.out xs (List.mem_of_getElem? hxd.out);unfold Room;omega
   have hlt':(i:Int) < (n:Int):=by omega
   have HLT:=Lib.hid hlt
   have HX:=hxd
   have HTk:=Lib.hid (TTake_any base gt be L t k D i M v C _ _ qx mx cx xs wr HR.out (HT.out.keep HB.out) (by omega) hsd hmb)
   have HSn:=Lib.hid (tkR_snoc (k:=k) (t:=t) (D:=D) hxd.out)
   clear hsd hxd hlt hmb
   by_cases hc:readC k t D xs = 0
   ·have hz:(readC k t D xs != 0) = false:=by rw [hc];rfl
    have HZ2:Hid (∀ (j:Nat) (y:List UInt8),j < i + 1→xss[j]? = some y→readC k t D y = 0):=fun j y hj hy=>by
     rcases Nat.lt_or_ge j i with g | g
     ·exact HZ.out j y g hy
     ·obtain rfl:j = i:=by omega
      have:=HX.out;rw [hy] at this;cases this;exact hc
    generalize readC k t D xs = code at *
    clear hc HZ HX
    go_wp2_with fail
    refine Calls.mono HTk.out ?_
    rintro e w3 ⟨rfl,M3,v3,hk3,hch,-⟩
    have HB3:=Lib.hid (HB.out.trans (hch.below HR.out HBase.out HB.out.size))
    have HR3:Hid (Tkr w3 base gt be L t k D (i + 1) M3 v3 (bump C code) (tkR k t D (xss.take (i + 1))).1 (tkR k t D (xss.take (i + 1))).2):=by
     show Tkr _ _ _ _ _ _ _ _ _ _ _ _ _ _
     rw [HSn.out];exact hk3
    clear hk3 hch HTk HSn HR HB
    go_wp2
    go_roundw
    case rel=>exact ⟨i + 1,M3,v3,_,HLT.out,by go_num,HZ2.out,HR3.out,HB3.out⟩
    case measure=>simp [intOf];have:=HLT.out;omega
   ·have hz:(readC k t D xs != 0) = true:=bne_iff_ne.2 hc
    have HI:Hid (impC k t D xss = readC k t D xs):=impC_at HZ.out HX.out hc
    have HC:=Lib.hid hc
    generalize readC k t D xs = code at *
    clear hc HZ HX HSn
    go_wp2_with fail
    refine Calls.mono HTk.out ?_
    rintro e w3 ⟨rfl,M3,v3,hk3,hch,-⟩
    have HB3:=Lib.hid (HB.out.trans (hch.below HR.out HBase.out HB.out.size))
    clear hk3 hch HTk HR HB
    go_wp2
    go_ret2
    exact .inr ⟨by rw [HI.out];exact HC.out,by rw [HI.out];rfl,HB3.out⟩
  ·obtain rfl:i = n:=by omega
   have HI:Hid (impC k t D xss = 0):=impC_all fun j y hy=>HZ.out j y (by have:=(List.getElem?_eq_some_iff.1 hy).1;have:=HLN.out;omega) hy
   have HRF:Hid (Tkr wr base gt be L t k D i M v C (tkR k t D xss).1 (tkR k t D xss).2):=by have:=HR.out;rwa [tkR_whole HLN.out] at this
   clear hlt HZ HR
   go_wp2
   go_ret2
   exact .inl ⟨HI.out,base,gt,be,M,v,C,rfl,HBase.out,HRF.out,HB.out⟩
end Go.Proofs.YtccaiiigdfieoaaGreatDoor
namespace Go.By
open Go.RowKit Go.Proofs.YtccaiiigdfieoaaGreatDoor
theorem spl_count (c:UInt8):∀ (m:Nat) (s:List UInt8),s.length≤m→spl c (Lib.count s [c]) s = splA c s
 | m,s,hm=>by
  cases h:(cutW c s).2 with
  | none =>
   have e:=(cutW_none h).2
   rw [Lib.count_miss e]
   show [s] = splA c s
   exact (spl_none h).symm
  | some r =>
   obtain ⟨i,e1,e2,e3,e4⟩:=cutW_some h
   have hl:=cutW_len h
   cases m with
   | zero=>omega
   | succ m =>
    rw [Lib.count_hit (by simp) e1,show ([c]:List UInt8).length = 1 from rfl,e3,Nat.add_comm,spl_some h,spl_count c m r (by omega)]
    unfold splA
    obtain ⟨k,hk⟩:∃ k,s.length = k + 1:=⟨s.length - 1,by omega⟩
    rw [hk,spl_some h,spl_more (k:=k) (by omega)];rfl
theorem splitB_splC (c:UInt8) (l:List UInt8) (k:Nat):Lib.splitB ⟨#[c]⟩ 0 k (strB l) = (spl c k l).map strB:=by
 have h:=Lib.splitB_data ⟨#[c]⟩ 0 k (strB l)
 rw [strB_data] at h
 have h2:Lib.splitK [c] 0 k l = spl c k l:=splitK_spl c k l
 have h3:((⟨#[c]⟩:ByteArray).data.toList) = [c]:=rfl
 rw [h3,h2] at h
 have h4:=congrArg (List.map strB) h
 rw [List.map_map] at h4
 rw [← h4]
 conv=>lhs;rw [← List.map_id (Lib.splitB ⟨#[c]⟩ 0 k (strB l))]
 apply List.map_congr_left
 intro x _
 exact strB_of x
theorem spl_shortC (c:UInt8):∀ (k:Nat) (l x:List UInt8),x ∈ spl c k l→x.length≤l.length
 | 0,l,x,h=>by
  have:x = l:=by simpa [spl] using h
  rw [this];exact Nat.le_refl _
 | k + 1,l,x,h=>by
  cases hc:(cutW c l).2 with
  | none =>
   rw [spl_none hc] at h
   rw [List.mem_singleton.1 h];exact Nat.le_refl _
  | some r =>
   rw [spl_some hc] at h
   obtain ⟨i,_,e2,e3,e4⟩:=cutW_some hc
   rcases List.mem_cons.1 h with rfl | h
   ·rw [← e2,List.length_take];omega
   ·have:=spl_shortC c k r x h
    have:=cutW_len hc
    omega
theorem splA_len (c:UInt8) (s:List UInt8):(splA c s).length≤s.length + 1:=(spl_len c s.length s).2
end Go.By
namespace Go.Proofs.YtccaiiigdfieoaaGreatDoor
open Go.RowKit Go.By
theorem Split_any (c:UInt8) (l:List UInt8) (w:World) (hl:l.length≤1000000) (hM:MaxI w) :
  Calls Tryz.prog 67 #[.string (strB l),.string ⟨#[c]⟩] w fun e w'=>e = .returned (.slice (some ⟨w.heap.size,0,none⟩) (splA c l).length (splA c l).length)∧StrRow w' w.heap.size (splA c l)∧Below w.heap.size w w':=by
 obtain ⟨m,hm⟩:=hM
 have hc:Lib.countB (strB l) ⟨#[c]⟩ = Lib.count l [c]:=by show Lib.count _ _ = _;rw [strB_data]
 have hs:Lib.splitB ⟨#[c]⟩ 0 (Lib.countB (strB l) ⟨#[c]⟩) (strB l) = (splA c l).map strB:=by
  rw [splitB_splC,hc,spl_count c _ l (Nat.le_refl _)]
 have hn:Lib.countB (strB l) ⟨#[c]⟩ + 1 = (splA c l).length:=by
  have:=Lib.splitB_all ⟨#[c]⟩ (Nat.le_refl 1) 0 _ (strB l) rfl
  rw [hs,List.length_map] at this
  exact this.symm
 refine (Tryz.strings_Split (strB l) ⟨#[c]⟩ m w (by rw [strB_size];omega) hm (Nat.le_refl 1)).mono ?_
 rintro e w' ⟨rfl,rfl⟩
 rw [hs,hn]
 refine ⟨rfl,fun i x hx=>?_,al (Below.refl _ _) (Nat.le_refl _)⟩
 rw [cell_of_row _ _ _ _ _ _ (hnew rfl),List.getElem?_toArray,List.getElem?_map,List.getElem?_map,hx];rfl
end Go.Proofs.YtccaiiigdfieoaaGreatDoor
