/- Chapter 4: sum.Start,With,Sum,Of,Get. Chapter 4: sum.Of,Get. Small laws for packets: parts of slices,literal slices of slices,results that read. Chapter 28: the rules of rows: rising,alone,Rows. Chapter 28: audit.Rows and the document's Rows,of any plan and rows. Texts as lists of bytes; builders. Plain: words between blanks,decimal numbers. No program in sight. Plain: bytes as digits of base 16,and back. No program in sight. Chapter 24,the reference: a digit. Bytes made,and copied into a block known whole. Chapter 5: bytes out of a seed: New,Next,Bytes,Row; a seed as eight bytes. Chapter 5: mix.New,Row; a seed as eight bytes,and of eight bytes. The contracts of slices.Grow and Concat at bytes; of the whole of the symbols (G0 holds them). Chapter 13: head.Check,Bytes. Chapter 14: row.Width,fits,Vector,Write. Chapter 14: row.Explicit,Seeded,Read. Chapter 15: packet.Length,fits (of what fits). Chapter 15: packet.Write (of what fits). -/
import Derived.Test.YtccaiiigdfieoaaGreatDoorZk3
import Derived.Lib.AppendZeros
import Derived.BigFrame
import Derived.Lib.Strings
import Derived.Lib.UnsafeStr
import Derived.Lib.AppendStr
import Derived.Lib.Builder
import Derived.Lib.SplitLaws
import Derived.Lib.ItoaNum
import Derived.Lib.Join
import Derived.WalkLawsBesides
namespace Go.By
open Go.RowKit
theorem bits_and32 {a b:Nat} (ha:a < 2 ^ 32) (hb:b < 2 ^ 32):bits .and .u32 (a:Int) (b:Int) = ((a &&& b:Nat):Int) :=
 (bits_nat .u32 32 (by decide) (fun n h1 h2=>by rw [IntKind.wrap_u32];omega) a b ha hb).1
theorem bits_or32 {a b:Nat} (ha:a < 2 ^ 32) (hb:b < 2 ^ 32):bits .or .u32 (a:Int) (b:Int) = ((a ||| b:Nat):Int) :=
 (bits_nat .u32 32 (by decide) (fun n h1 h2=>by rw [IntKind.wrap_u32];omega) a b ha hb).2
theorem bits_xor32 {a b:Nat} (ha:a < 2 ^ 32) (hb:b < 2 ^ 32):bits .xor .u32 (a:Int) (b:Int) = ((a ^^^ b:Nat):Int) :=
 bits_xor_nat .u32 32 (by decide) (fun n h1 h2=>by rw [IntKind.wrap_u32];omega) a b ha hb
theorem or_add {a b k:Nat} (hb:b < 2 ^ k) (ha:a % 2 ^ k = 0):a ||| b = a + b:=by
 obtain ⟨q,rfl⟩:∃ q,a = 2 ^ k * q:=⟨a / 2 ^ k,by have:=Nat.div_add_mod a (2 ^ k);rw [ha] at this;omega⟩
 exact (Nat.two_pow_add_eq_or_of_lt hb q).symm
theorem not32 {r:Nat} (h:r < 4294967296):4294967295 ^^^ r = 4294967295 - r:=by
 apply Nat.eq_of_testBit_eq
 intro i
 rw [Nat.testBit_xor]
 have e1:=Nat.testBit_two_pow_sub_one 32 i
 have e2:=Nat.testBit_two_pow_sub_succ (n:=32) (x:=r) h i
 rw [show 2 ^ 32 - (r + 1) = 4294967295 - r by omega] at e2
 rw [show 2 ^ 32 - 1 = 4294967295 by rfl] at e1
 rw [e1,e2]
 by_cases hi:i < 32
 ·simp [hi]
 ·have:r.testBit i = false:=Nat.testBit_lt_two_pow (Nat.lt_of_lt_of_le h (by rw [show (4294967296:Nat) = 2 ^ 32 by rfl];exact Nat.pow_le_pow_right (by decide) (by omega)))
  simp [hi,this]
end Go.By
namespace Go.Proofs.YtccaiiigdfieoaaGreatDoor
open Go.RowKit Go.By
def HalfT (w:World):Prop:=∀ i,i < 16→w.cell? ⟨0,i,none⟩ = some (.int .u32 (crcTab.getD i 0:Nat))
theorem HalfT.keep {w w':World} (h:HalfT w) (hb:Below w.heap.size w w'):HalfT w':=fun i hi=>(hb.cell (p:=⟨0,i,none⟩) (lt_of_cell (h i hi))).trans (h i hi)
theorem HalfT.pos {w:World} (h:HalfT w):0 < w.heap.size:=lt_of_cell (h 0 (by decide))
theorem info_run:(Tryz.prog.info? 274).map (·.size) = some 1:=by kernel_rfl
theorem SStart_any (w:World):Calls Tryz.prog 198 #[] w fun e w'=>e = .returned (.agg #[.int .u32 (4294967295:Nat)])∧Below w.heap.size w w':=by
 have hinfo:=info_run
 go_enter Tryz.func198,Tryz.ntmps198
 go_wp2
 exact bodyPost_ret (results_cell_row rfl _ _ _ 274 #[.int .u32 (4294967295:Nat)] (0,0) _ rfl (hnew rfl) Tryz.underlying274 rfl hinfo) rfl ⟨rfl,((Below.refl _ _).alloc (Nat.le_refl _) _)⟩
theorem SSum_any (r:Nat) (h:r < 4294967296) (w:World):Calls Tryz.prog 200 #[.agg #[.int .u32 (r:Nat)]] w fun e w'=>e = .returned (.int .u32 (4294967295 - r:Nat))∧Below w.heap.size w w':=by
 have e0:bits BinOp.xor IntKind.u32 IntKind.u32.max (r:Int) = ((4294967295 - r:Nat):Int):=by
  rw [show IntKind.u32.max = ((4294967295:Nat):Int) by decide,bits_xor32 (by omega) (by omega)]
  congr 1
  exact not32 h
 go_enter Tryz.func200,Tryz.ntmps200
 go_wp2
 go_ret
 exact ⟨rfl,(Below.refl _ _).alloc (Nat.le_refl _) _⟩
structure RS (T:TypeId) (w0:World) (r:Nat) (wr:World):Prop where
 b:wr.heap[w0.heap.size]? = some (.cells #[.int .u32 (r:Nat)] T (0,0))
 c:wr.heap[w0.heap.size + 1]? = some (.cells #[.int .u32 0] T (0,0))
 below:Below w0.heap.size w0 wr
theorem RS.set {T:TypeId} {w0 wr:World} {r:Nat} (h:RS T w0 r wr) (r':Nat):RS T w0 r' (wr.setCell ⟨w0.heap.size,0,none⟩ (.int .u32 (r':Nat))) :=
 ⟨hss h.b,hsc h.c (by show w0.heap.size + 1≠w0.heap.size;omega),h.below.setCell (Nat.le_refl _) _⟩
theorem RS.cells {T:TypeId} {w0 wr:World} {r:Nat} (h:RS T w0 r wr):wr.cell? ⟨w0.heap.size,0,none⟩ = some (.int .u32 (r:Nat))∧wr.frozen? ⟨w0.heap.size,0,none⟩ = false∧wr.cell? ⟨w0.heap.size + 1,0,none⟩ = some (.int .u32 0)∧wr.frozen? ⟨w0.heap.size + 1,0,none⟩ = false :=
 ⟨cell_of_row _ _ 0 _ _ _ h.b,frozen_of_row _ _ 0 _ _ h.b,cell_of_row _ _ 0 _ _ _ h.c,frozen_of_row _ _ 0 _ _ h.c⟩
theorem RS.keep {T:TypeId} {w0 w1 w2:World} {r:Nat} (h:RS T w0 r w1) (hb:Below w1.heap.size w1 w2):RS T w0 r w2 :=
 ⟨(hb.block _ (lt_of_block h.b)).trans h.b,(hb.block _ (lt_of_block h.c)).trans h.c,bl h.below hb h.below.size⟩
set_option maxRecDepth 100000 in
set_option maxHeartbeats 4000000 in
theorem SWith_any (r:Nat) (hr:r < 4294967296) (p:Option Addr) (n c:Nat) (xss:List (List UInt8)) (w:World) (h:Sl2 w p n c xss) (hT:HalfT w) :
  Calls Tryz.prog 199 #[.agg #[.int .u32 (r:Nat)],.slice p n c] w fun e w'=>e = .returned (.agg #[.int .u32 (crcRun r xss.flatten:Nat)])∧Below w.heap.size w w':=by
 have hn:=h.bound
 obtain ⟨F,hF⟩:∃ F:Nat→Nat,F = fun k=>crcRun r (xss.take k).flatten:=⟨_,rfl⟩
 have HF:Hid (∀ k xs,xss[k]? = some xs→F (k + 1) = crcRun (F k) xs):=fun k xs hx=>by
  subst hF
  obtain ⟨hk,hx⟩:=List.getElem?_eq_some_iff.1 hx
  show crcRun r (xss.take (k + 1)).flatten = crcRun (crcRun r (xss.take k).flatten) xs
  rw [← crcRun_append,List.take_succ_eq_append_getElem hk,hx,List.flatten_append];simp
 have HL:Hid (∀ k,F k < 4294967296):=fun k=>by subst hF;exact crcRun_lt hr
 have HN:Hid (F n = crcRun r xss.flatten):=by subst hF;show crcRun r (xss.take n).flatten = _;rw [List.take_of_length_le (by rw [h.len];omega)]
 have H0:F 0 = r:=by subst hF;rfl
 have H:=Lib.hid h
 have HT:=Lib.hid hT
 have HP:Hid (0 < w.heap.size):=hT.pos
 clear h hF hT hr
 rw [← HN.out]
 go_enter Tryz.func199,Tryz.ntmps199
 go_wp2
 go_loopw [11] (fun i wr=>∃ k:Nat,k≤n∧i = .int .i64 k∧Hid (RS 274 w (F k) wr)) (fun i _=>n - (intOf i).toNat)
 case atStart =>
  refine ⟨0,Nat.zero_le _,rfl,?_⟩
  rw [H0]
  refine ⟨hal (hnew rfl),hnew (by simp),al (al (Below.refl _ _) (Nat.le_refl _)) (by simp)⟩
 case round =>
  obtain ⟨k,hk,rfl,hS⟩:=hrel
  by_cases hlt:k < n
  ·obtain ⟨b,o,q,m,c',xs,rfl,hc,hs,hx⟩:=H.out.at k hlt
   have hcw:=(hS.out.below.cell (p:=⟨b,o + k,none⟩) (lt_of_cell hc)).trans hc
   have hm:=hs.bound
   have HS:=Lib.hid hs
   have E0:F (k + 1) = crcRun (F k) xs:=HF.out k xs hx.out
   have EL:=HL.out k
   obtain ⟨G,hG⟩:∃ G:Nat→Nat,G = fun j=>crcRun (F k) (xs.take j):=⟨_,rfl⟩
   have G0:Hid (G 0 = F k):=by subst hG;rfl
   have GN:Hid (G m = F (k + 1)):=by subst hG;rw [E0];show crcRun _ (xs.take m) = _;rw [List.take_of_length_le (by rw [hs.len];omega)]
   have GS:Hid (∀ j x,xs[j]? = some x→G (j + 1) = crcHalf (crcHalf (G j ^^^ x.toNat))):=fun j x hj=>by
    subst hG
    obtain ⟨hj1,hj2⟩:=List.getElem?_eq_some_iff.1 hj
    show crcRun (F k) (xs.take (j + 1)) = crcByte (crcRun (F k) (xs.take j)) x
    rw [List.take_succ_eq_append_getElem hj1,hj2,crcRun_append];rfl
   have GL:Hid (∀ j,G j < 4294967296):=fun j=>by subst hG;exact crcRun_lt EL
   clear hs hG E0 EL
   go_wp2
   go_loopw [17] (fun i wr=>∃ j:Nat,j≤m∧i = .int .i64 j∧Hid (RS 274 w (G j) wr)) (fun i _=>m - (intOf i).toNat)
   case atStart=>exact ⟨0,Nat.zero_le _,rfl,by rw [G0.out];exact hS⟩
   case round =>
    obtain ⟨j,hj,rfl,hS2⟩:=hrel
    by_cases hjm:j < m
    ·obtain ⟨bb,oo,x,rfl,hcx,hxx⟩:=HS.out.at j hjm
     have hcx2:=(hS2.out.below.cell (p:=⟨bb,oo + j,none⟩) (lt_of_cell hcx)).trans hcx
     have hx8:=x.toNat_lt
     have g1:=GL.out j
     have hxor:=bits_xor32 (a:=G j) (b:=x.toNat) (by omega) (by omega)
     have hlt2:G j ^^^ x.toNat < 4294967296:=Nat.xor_lt_two_pow (n:=32) (by omega) (by omega)
     obtain ⟨cb,zb,cr,zr⟩:=hS2.out.cells
     have hsz:=hS2.out.below.size
     have HS3:=Lib.hid (hS2.out.set (G j ^^^ x.toNat))
     have GS2:=Lib.hid (GS.out j x hxx.out)
     generalize hV:G j ^^^ x.toNat = V at *
     clear hV
     go_wp2
     clear hxor
     go_loopw [27] (fun i wr=>∃ l v:Nat,l≤2∧i = .int .i64 l∧v < 4294967296∧Hid (l = 0∧v = V∨l = 1∧v = crcHalf V∨l = 2∧v = crcHalf (crcHalf V))∧Hid (RS 274 w v wr)) (fun i _=>2 - (intOf i).toNat)
     case atStart=>exact ⟨0,V,by omega,rfl,hlt2,Or.inl ⟨rfl,rfl⟩,HS3⟩
     case round =>
      obtain ⟨l,v,hl,rfl,hv,hor,hS4⟩:=hrel
      clear cb zb cr zr
      obtain ⟨cb,zb,cr,zr⟩:=hS4.out.cells
      by_cases hl2:l < 2
      ·have hst:=hS4.out.below.size
       have hTc:=(HT.out.keep (hS4.out.below)) (v % 16) (Nat.mod_lt _ (by omega))
       have hand:bits .and .u32 (v:Int) (15:Int) = ((v % 16:Nat):Int):=by
        rw [show (15:Int) = ((15:Nat):Int) by rfl,bits_and32 hv (by decide),show (15:Nat) = 2 ^ 4 - 1 by rfl,Nat.and_two_pow_sub_one_eq_mod]
       have htl:crcTab.getD (v % 16) 0 < 2 ^ 32:=crcTab_lt ⟨v % 16,Nat.mod_lt _ (by omega)⟩
       have hxo:bits .xor .u32 ((v:Int) / 16) (crcTab.getD (v % 16) 0:Nat) = ((crcHalf v:Nat):Int):=by
        have:=bits_xor32 (a:=v / 16) (b:=crcTab.getD (v % 16) 0) (by omega) htl
        rw [show ((v / 16:Nat):Int) = (v:Int) / 16 by omega] at this
        exact this
       have hvl:=crcHalf_lt hv
       have hm16:¬ (16:Int)≤((v % 16:Nat):Int):=by omega
       generalize hM:v % 16 = M at *
       generalize hU:crcTab.getD M 0 = U at *
       generalize hX:crcHalf v = X at *
       have hXe:=Lib.hid hX
       clear hX hM hU
       go_wp2_with fail
       refine wp_region_last (fun ix=>([.val (.pointer (some ⟨w.heap.size,0,none⟩)),.val (.int .u32 (v:Nat)),.val (.int .u32 ((v:Int) / 16)),.val (.pointer (some ⟨w.heap.size,0,none⟩)),.val (.int .u32 (v:Nat)),.val (.int .u32 (M:Nat)),.val (.pointer (some ⟨0,M,none⟩)),.val (.int .u32 (U:Nat)),.val (.int .u32 (X:Nat)),.val (.pointer (some ⟨w.heap.size,0,none⟩)),.any][ix]?).getD (.any)) 43 10 rfl (by kernel_rfl) (by decide) (by decide) (by decide) (by decide) ?_ ?_
       ·refine ⟨?_,?_,?_,?_,?_,?_,?_,?_,?_,?_,trivial⟩
        ·intro a W hb0 hs hp hi;have hb:=undrew hb0;clear hb0
         have t2:sl a 2 = .pointer (some ⟨w.heap.size,0,none⟩):=hi 2 (by decide)
         refine ite_y rfl (wp_val (.pointer (some ⟨w.heap.size,0,none⟩)) ?_ ?_)
         ·simp only [execOp,eval_tmp,eval_const,t2];simp [go_sem]
         ·exact ⟨_,rfl,Below.refl _ _,rfl⟩
        ·intro a W hb0 hs hp hi;have hb:=undrew hb0;clear hb0
         have tt:sl a 29 = .pointer (some ⟨w.heap.size,0,none⟩):=hp 0 (by decide)
         have dd:=(hb.cell (p:=⟨w.heap.size,0,none⟩) (lt_of_cell cb)).trans cb
         refine ite_y rfl (wp_val (.int .u32 (v:Nat)) ?_ ?_)
         ·simp only [execOp,eval_tmp,tt];simp [go_sem,dd]
         ·exact ⟨_,rfl,Below.refl _ _,rfl⟩
        ·intro a W hb0 hs hp hi;have hb:=undrew hb0;clear hb0
         have t30:sl a 30 = .int .u32 (v:Nat):=hp 1 (by decide)
         refine ite_y rfl (wp_val (.int .u32 ((v:Int) / 16)) ?_ ?_)
         ·simp only [execOp,eval_tmp,eval_const,t30];simp [go_sem]
         ·exact ⟨_,rfl,Below.refl _ _,rfl⟩
        ·intro a W hb0 hs hp hi;have hb:=undrew hb0;clear hb0
         have t2:sl a 2 = .pointer (some ⟨w.heap.size,0,none⟩):=hi 2 (by decide)
         refine ite_y rfl (wp_val (.pointer (some ⟨w.heap.size,0,none⟩)) ?_ ?_)
         ·simp only [execOp,eval_tmp,eval_const,t2];simp [go_sem]
         ·exact ⟨_,rfl,Below.refl _ _,rfl⟩
        ·intro a W hb0 hs hp hi;have hb:=undrew hb0;clear hb0
         have tt:sl a 32 = .pointer (some ⟨w.heap.size,0,none⟩):=hp 3 (by decide)
         have dd:=(hb.cell (p:=⟨w.heap.size,0,none⟩) (lt_of_cell cb)).trans cb
         refine ite_y rfl (wp_val (.int .u32 (v:Nat)) ?_ ?_)
         ·simp only [execOp,eval_tmp,tt];simp [go_sem,dd]
         ·exact ⟨_,rfl,Below.refl _ _,rfl⟩
        ·intro a W hb0 hs hp hi;have hb:=undrew hb0;clear hb0
         have t33:sl a 33 = .int .u32 (v:Nat):=hp 4 (by decide)
         refine ite_y rfl (wp_val (.int .u32 (M:Nat)) ?_ ?_)
         ·simp only [execOp,eval_tmp,eval_const,t33];simp [go_sem,hand]
         ·exact ⟨_,rfl,Below.refl _ _,rfl⟩
        ·intro a W hb0 hs hp hi;have hb:=undrew hb0;clear hb0
         have tt:sl a 34 = .int .u32 (M:Nat):=hp 5 (by decide)
         refine ite_y rfl (wp_val (.pointer (some ⟨0,M,none⟩)) ?_ ?_)
         ·simp only [execOp,eval_tmp,BigFrame.eval_global,tt];simp [go_sem,hm16]
         ·exact ⟨_,rfl,Below.refl _ _,rfl⟩
        ·intro a W hb0 hs hp hi;have hb:=undrew hb0;clear hb0
         have tt:sl a 35 = .pointer (some ⟨0,M,none⟩):=hp 6 (by decide)
         have dd:=(hb.cell (p:=⟨0,M,none⟩) (lt_of_cell hTc)).trans hTc
         refine ite_y rfl (wp_val (.int .u32 (U:Nat)) ?_ ?_)
         ·simp only [execOp,eval_tmp,tt];simp [go_sem,dd]
         ·exact ⟨_,rfl,Below.refl _ _,rfl⟩
        ·intro a W hb0 hs hp hi;have hb:=undrew hb0;clear hb0
         have t31:sl a 31 = .int .u32 ((v:Int) / 16):=hp 2 (by decide)
         have t36:sl a 36 = .int .u32 (U:Nat):=hp 7 (by decide)
         refine ite_y rfl (wp_val (.int .u32 (X:Nat)) ?_ ?_)
         ·simp only [execOp,eval_tmp,eval_const,t31,t36];simp [go_sem,hxo]
         ·exact ⟨_,rfl,Below.refl _ _,rfl⟩
        ·intro a W hb0 hs hp hi;have hb:=undrew hb0;clear hb0
         have t2:sl a 2 = .pointer (some ⟨w.heap.size,0,none⟩):=hi 2 (by decide)
         refine ite_y rfl (wp_val (.pointer (some ⟨w.heap.size,0,none⟩)) ?_ ?_)
         ·simp only [execOp,eval_tmp,eval_const,t2];simp [go_sem]
         ·exact ⟨_,rfl,Below.refl _ _,rfl⟩
       intro a w9 o ho hb hs hd hI ht
       have ha:=act_is [29,30,31,32,33,34,35,36,37,38] hs hd ht (by decide)
       simp at ho;subst ho
       have t37:sl a 37 = .int .u32 (X:Nat):=hI 8 (by decide)
       have t38:sl a 38 = .pointer (some ⟨w.heap.size,0,none⟩):=hI 9 (by decide)
       have c9:=(hb.cell (p:=⟨w.heap.size,0,none⟩) (lt_of_cell cb)).trans cb
       have z9:w9.frozen? ⟨w.heap.size,0,none⟩ = false:=frozen_of_row _ _ 0 _ _ ((hb.block _ (lt_of_block hS4.out.b)).trans hS4.out.b)
       have HS5:Hid (RS 274 w X (w9.setCell ⟨w.heap.size,0,none⟩ (.int .u32 (X:Nat)))):=(hS4.out.keep hb).set X
       refine wp_skip_none rfl (w':=w9.setCell ⟨w.heap.size,0,none⟩ (.int .u32 (X:Nat))) ?_ ?_
       ·simp only [execOp,eval_tmp,t37,t38];simp [go_sem,c9,z9]
       simp only [List.foldl,t37,t38] at ha
       generalize sl a 29 = u29 at ha
       generalize sl a 30 = u30 at ha
       generalize sl a 31 = u31 at ha
       generalize sl a 32 = u32 at ha
       generalize sl a 33 = u33 at ha
       generalize sl a 34 = u34 at ha
       generalize sl a 35 = u35 at ha
       generalize sl a 36 = u36 at ha
       simp only [Act.put,List.setIfInBounds_toArray,List.set_cons_zero,List.set_cons_succ] at ha
       rw [ha];clear ha hI ht hs hd t37 t38 c9 z9 hb
       go_wp2
       go_roundw
       case rel=>exact ⟨l + 1,X,by omega,by go_num,hvl,by
        rcases hor.out with ⟨rfl,rfl⟩ | ⟨rfl,rfl⟩ | ⟨rfl,rfl⟩
        ·exact Or.inr (Or.inl ⟨rfl,hXe.out.symm⟩)
        ·exact Or.inr (Or.inr ⟨rfl,hXe.out.symm⟩)
        ·omega,HS5⟩
       case measure=>simp [intOf];omega
      ·have hl2':l = 2:=by omega
       subst hl2'
       have HV:v = G (j + 1):=by
        rcases hor.out with ⟨h1,_⟩ | ⟨h1,_⟩ | ⟨_,h1⟩
        ·omega
        ·omega
        ·rw [GS2.out,h1]
       clear hor
       go_wp2
       go_roundw
       case rel=>exact ⟨j + 1,by omega,by go_num,by rw [← HV];exact hS4⟩
       case measure=>simp [intOf];omega
    ·have hjm':j = m:=by omega
     subst hjm'
     go_wp2
     go_roundw
     case rel=>exact ⟨k + 1,by omega,by go_num,by rw [← GN.out];exact hS2⟩
     case measure=>simp [intOf];omega
  ·have hkn:k = n:=by omega
   subst hkn
   obtain ⟨cb,zb,cr,zr⟩:=hS.out.cells
   have hinfo:=info_run
   go_wp2
   exact bodyPost_ret (results_cell_row rfl _ _ _ 274 #[.int .u32 (F k:Nat)] (0,0) _ rfl (hss hS.out.c) Tryz.underlying274 rfl hinfo) rfl ⟨rfl,hS.out.below.setCell (Nat.le_succ _) _⟩
end Go.Proofs.YtccaiiigdfieoaaGreatDoor
namespace Go.Proofs.YtccaiiigdfieoaaGreatDoor
open Go.RowKit Go.By
set_option maxHeartbeats 1000000 in
theorem SOf_any (p:Option Addr) (n c:Nat) (xss:List (List UInt8)) (w:World) (h:Sl2 w p n c xss) (hT:HalfT w) :
  Calls Tryz.prog 139 #[.slice p n c] w fun e w'=>e = .returned (.int .u32 (crcS xss.flatten:Nat))∧Below w.heap.size w w':=by
 have H:=Lib.hid h
 have HT:=Lib.hid hT
 have HL:Hid (crcRun 4294967295 xss.flatten < 4294967296):=crcRun_lt (by decide)
 clear h hT
 go_enter Tryz.func139,Tryz.ntmps139
 go_wp2_with fail
 refine Calls.mono (SStart_any w) ?_
 rintro e w1 ⟨rfl,hb1⟩
 go_wp2_with fail
 refine Calls.mono (SWith_any 4294967295 (by decide) p n c xss w1 (H.out.keep hb1) (HT.out.keep hb1)) ?_
 rintro e w2 ⟨rfl,hb2⟩
 have HB:=Lib.hid (bl hb1 hb2 hb1.size)
 clear hb1 hb2
 go_wp2_with fail
 refine Calls.mono (SSum_any _ HL.out w2) ?_
 rintro e w3 ⟨rfl,hb3⟩
 have HB3:=Lib.hid (bl HB.out hb3 HB.out.size)
 clear hb3
 go_wp2
 go_ret
 exact ⟨rfl,HB3.out⟩
set_option maxRecDepth 100000 in
set_option maxHeartbeats 2000000 in
theorem SGet_any (p:Option Addr) (n c:Nat) (xs:List UInt8) (w:World) (h:Sl B8 w p n c xs) :
  Calls Tryz.prog 174 #[.slice p n c] w fun e w'=>e = .returned (.tuple #[.int .u32 (get4 xs:Nat),.int .i64 (if n = 4 then 0 else 4)])∧Below w.heap.size w w':=by
 have hn:=h.bound
 by_cases h4:n = 4
 ·subst h4
  obtain ⟨b,o,x0,rfl,k0,y0⟩:=h.at 0 (by omega)
  obtain ⟨_,_,x1,e1,k1,y1⟩:=h.at 1 (by omega)
  obtain ⟨_,_,x2,e2,k2,y2⟩:=h.at 2 (by omega)
  obtain ⟨_,_,x3,e3,k3,y3⟩:=h.at 3 (by omega)
  cases e1;cases e2;cases e3
  rw [Nat.add_zero] at k0
  have hl:=h.len
  have hxs:xs = [x0,x1,x2,x3]:=by
   match xs,hl,y0.out,y1.out,y2.out,y3.out with
   | [a,b,c,d],_,h0,h1,h2,h3=>simp at h0 h1 h2 h3;rw [h0,h1,h2,h3]
  subst hxs
  clear h hl y0 y1 y2 y3 hn
  rw [if_pos rfl]
  have l0:=x0.toNat_lt;have l1:=x1.toNat_lt;have l2:=x2.toNat_lt;have l3:=x3.toNat_lt
  have hG:Hid (get4 [x0,x1,x2,x3] = x0.toNat + 256 * x1.toNat + 65536 * x2.toNat + 16777216 * x3.toNat):=rfl
  have s1:IntKind.u32.wrap ((x1.toNat:Int) * 256) = ((256 * x1.toNat:Nat):Int):=by rw [IntKind.wrap_u32];omega
  have s2:IntKind.u32.wrap ((x2.toNat:Int) * 65536) = ((65536 * x2.toNat:Nat):Int):=by rw [IntKind.wrap_u32];omega
  have s3:IntKind.u32.wrap ((x3.toNat:Int) * 16777216) = ((16777216 * x3.toNat:Nat):Int):=by rw [IntKind.wrap_u32];omega
  have o1:bits .or .u32 (x0.toNat:Int) ((256 * x1.toNat:Nat):Int) = ((x0.toNat + 256 * x1.toNat:Nat):Int):=by
   rw [bits_or32 (by omega) (by omega),Nat.or_comm,or_add (k:=8) (by omega) (by omega),Nat.add_comm]
  have o2:bits .or .u32 ((x0.toNat + 256 * x1.toNat:Nat):Int) ((65536 * x2.toNat:Nat):Int) = ((x0.toNat + 256 * x1.toNat + 65536 * x2.toNat:Nat):Int):=by
   rw [bits_or32 (by omega) (by omega),Nat.or_comm,or_add (k:=16) (by omega) (by omega),Nat.add_comm]
  have o3:bits .or .u32 ((x0.toNat + 256 * x1.toNat + 65536 * x2.toNat:Nat):Int) ((16777216 * x3.toNat:Nat):Int) = ((x0.toNat + 256 * x1.toNat + 65536 * x2.toNat + 16777216 * x3.toNat:Nat):Int):=by
   rw [bits_or32 (by omega) (by omega),Nat.or_comm,or_add (k:=24) (by omega) (by omega),Nat.add_comm]
  rw [hG.out]
  generalize hA1:256 * x1.toNat = a1 at *
  generalize hA2:65536 * x2.toNat = a2 at *
  generalize hA3:16777216 * x3.toNat = a3 at *
  generalize hB1:x0.toNat + a1 = b1 at *
  generalize hB2:b1 + a2 = b2 at *
  generalize hB3:b2 + a3 = b3 at *
  clear hA1 hA2 hA3 hB1 hB2 hB3 hG
  go_enter Tryz.func174,Tryz.ntmps174
  go_wp2_with fail
  refine wp_region_shapes (fun ix=>([.val (.slice (some ⟨b,o,none⟩) 4 c),.val (.pointer (some ⟨b,o,none⟩)),.val (B8 x0),.val (.int .u32 (x0.toNat:Nat)),.val (.slice (some ⟨b,o,none⟩) 4 c),.val (.pointer (some ⟨b,o + 1,none⟩)),.val (B8 x1),.val (.int .u32 (x1.toNat:Nat)),.val (.int .u32 (a1:Nat)),.val (.int .u32 (b1:Nat)),.val (.slice (some ⟨b,o,none⟩) 4 c),.val (.pointer (some ⟨b,o + 2,none⟩)),.val (B8 x2),.val (.int .u32 (x2.toNat:Nat)),.val (.int .u32 (a2:Nat)),.val (.int .u32 (b2:Nat)),.val (.slice (some ⟨b,o,none⟩) 4 c),.val (.pointer (some ⟨b,o + 3,none⟩)),.val (B8 x3),.val (.int .u32 (x3.toNat:Nat)),.val (.int .u32 (a3:Nat)),.val (.int .u32 (b3:Nat)),.val (.int .u32 (b3:Nat)),.val (.int .i64 0)][ix]?).getD (.any)) 29 rfl (by kernel_rfl) (by decide) (by decide) (by decide) ?_ ?_
  ·refine ⟨?_,?_,?_,?_,?_,?_,?_,?_,?_,?_,?_,?_,?_,?_,?_,?_,?_,?_,?_,?_,?_,?_,?_,?_,trivial⟩
   ·intro a W hb0 hs hp hi;have hb:=undrew hb0;clear hb0
    have t0:sl a 0 = .slice (some ⟨b,o,none⟩) 4 c:=hi 0 (by decide)
    exact ite_y rfl (wp_val (sl a 0) rfl ⟨_,rfl,Below.refl _ _,t0⟩)
   ·intro a W hb0 hs hp hi;have hb:=undrew hb0;clear hb0
    have ti0:sl a 7 = .slice (some ⟨b,o,none⟩) 4 c:=hp 0 (by decide)
    refine ite_y rfl (wp_val (.pointer (some ⟨b,o,none⟩)) ?_ ?_)
    ·simp only [execOp,eval_tmp,eval_const,ti0];simp [go_sem]
    ·exact ⟨_,rfl,Below.refl _ _,rfl⟩
   ·intro a W hb0 hs hp hi;have hb:=undrew hb0;clear hb0
    have tt:sl a 8 = .pointer (some ⟨b,o,none⟩):=hp 1 (by decide)
    have dd:=(hb.cell (p:=⟨b,o,none⟩) (lt_of_cell k0)).trans k0
    refine ite_y rfl (wp_val (B8 x0) ?_ ?_)
    ·simp only [execOp,eval_tmp,tt];simp [go_sem,dd]
    ·exact ⟨_,rfl,Below.refl _ _,rfl⟩
   ·intro a W hb0 hs hp hi;have hb:=undrew hb0;clear hb0
    have tt:sl a 9 = B8 x0:=hp 2 (by decide)
    refine ite_y rfl (wp_val (.int .u32 (x0.toNat:Nat)) ?_ ?_)
    ·simp only [execOp,eval_tmp,tt];simp [go_sem,Tryz.underlying5,Tryz.underlying23,show IntKind.u32.wrap (x0.toNat:Int) = x0.toNat by rw [IntKind.wrap_u32];omega]
    ·exact ⟨_,rfl,Below.refl _ _,rfl⟩
   ·intro a W hb0 hs hp hi;have hb:=undrew hb0;clear hb0
    have t0:sl a 0 = .slice (some ⟨b,o,none⟩) 4 c:=hi 0 (by decide)
    exact ite_y rfl (wp_val (sl a 0) rfl ⟨_,rfl,Below.refl _ _,t0⟩)
   ·intro a W hb0 hs hp hi;have hb:=undrew hb0;clear hb0
    have ti0:sl a 11 = .slice (some ⟨b,o,none⟩) 4 c:=hp 4 (by decide)
    refine ite_y rfl (wp_val (.pointer (some ⟨b,o + 1,none⟩)) ?_ ?_)
    ·simp only [execOp,eval_tmp,eval_const,ti0];simp [go_sem]
    ·exact ⟨_,rfl,Below.refl _ _,rfl⟩
   ·intro a W hb0 hs hp hi;have hb:=undrew hb0;clear hb0
    have tt:sl a 12 = .pointer (some ⟨b,o + 1,none⟩):=hp 5 (by decide)
    have dd:=(hb.cell (p:=⟨b,o + 1,none⟩) (lt_of_cell k1)).trans k1
    refine ite_y rfl (wp_val (B8 x1) ?_ ?_)
    ·simp only [execOp,eval_tmp,tt];simp [go_sem,dd]
    ·exact ⟨_,rfl,Below.refl _ _,rfl⟩
   ·intro a W hb0 hs hp hi;have hb:=undrew hb0;clear hb0
    have tt:sl a 13 = B8 x1:=hp 6 (by decide)
    refine ite_y rfl (wp_val (.int .u32 (x1.toNat:Nat)) ?_ ?_)
    ·simp only [execOp,eval_tmp,tt];simp [go_sem,Tryz.underlying5,Tryz.underlying23,show IntKind.u32.wrap (x1.toNat:Int) = x1.toNat by rw [IntKind.wrap_u32];omega]
    ·exact ⟨_,rfl,Below.refl _ _,rfl⟩
   ·intro a W hb0 hs hp hi;have hb:=undrew hb0;clear hb0
    have t14:sl a 14 = .int .u32 (x1.toNat:Nat):=hp 7 (by decide)
    refine ite_y rfl (wp_val (.int .u32 (a1:Nat)) ?_ ?_)
    ·simp only [execOp,eval_tmp,eval_const,t14];simp [go_sem,s1]
    ·exact ⟨_,rfl,Below.refl _ _,rfl⟩
   ·intro a W hb0 hs hp hi;have hb:=undrew hb0;clear hb0
    have t10:sl a 10 = .int .u32 (x0.toNat:Nat):=hp 3 (by decide)
    have t15:sl a 15 = .int .u32 (a1:Nat):=hp 8 (by decide)
    refine ite_y rfl (wp_val (.int .u32 (b1:Nat)) ?_ ?_)
    ·simp only [execOp,eval_tmp,eval_const,t10,t15];simp [go_sem,o1]
    ·exact ⟨_,rfl,Below.refl _ _,rfl⟩
   ·intro a W hb0 hs hp hi;have hb:=undrew hb0;clear hb0
    have t0:sl a 0 = .slice (some ⟨b,o,none⟩) 4 c:=hi 0 (by decide)
    exact ite_y rfl (wp_val (sl a 0) rfl ⟨_,rfl,Below.refl _ _,t0⟩)
   ·intro a W hb0 hs hp hi;have hb:=undrew hb0;clear hb0
    have ti0:sl a 17 = .slice (some ⟨b,o,none⟩) 4 c:=hp 10 (by decide)
    refine ite_y rfl (wp_val (.pointer (some ⟨b,o + 2,none⟩)) ?_ ?_)
    ·simp only [execOp,eval_tmp,eval_const,ti0];simp [go_sem]
    ·exact ⟨_,rfl,Below.refl _ _,rfl⟩
   ·intro a W hb0 hs hp hi;have hb:=undrew hb0;clear hb0
    have tt:sl a 18 = .pointer (some ⟨b,o + 2,none⟩):=hp 11 (by decide)
    have dd:=(hb.cell (p:=⟨b,o + 2,none⟩) (lt_of_cell k2)).trans k2
    refine ite_y rfl (wp_val (B8 x2) ?_ ?_)
    ·simp only [execOp,eval_tmp,tt];simp [go_sem,dd]
    ·exact ⟨_,rfl,Below.refl _ _,rfl⟩
   ·intro a W hb0 hs hp hi;have hb:=undrew hb0;clear hb0
    have tt:sl a 19 = B8 x2:=hp 12 (by decide)
    refine ite_y rfl (wp_val (.int .u32 (x2.toNat:Nat)) ?_ ?_)
    ·simp only [execOp,eval_tmp,tt];simp [go_sem,Tryz.underlying5,Tryz.underlying23,show IntKind.u32.wrap (x2.toNat:Int) = x2.toNat by rw [IntKind.wrap_u32];omega]
    ·exact ⟨_,rfl,Below.refl _ _,rfl⟩
   ·intro a W hb0 hs hp hi;have hb:=undrew hb0;clear hb0
    have t20:sl a 20 = .int .u32 (x2.toNat:Nat):=hp 13 (by decide)
    refine ite_y rfl (wp_val (.int .u32 (a2:Nat)) ?_ ?_)
    ·simp only [execOp,eval_tmp,eval_const,t20];simp [go_sem,s2]
    ·exact ⟨_,rfl,Below.refl _ _,rfl⟩
   ·intro a W hb0 hs hp hi;have hb:=undrew hb0;clear hb0
    have t16:sl a 16 = .int .u32 (b1:Nat):=hp 9 (by decide)
    have t21:sl a 21 = .int .u32 (a2:Nat):=hp 14 (by decide)
    refine ite_y rfl (wp_val (.int .u32 (b2:Nat)) ?_ ?_)
    ·simp only [execOp,eval_tmp,eval_const,t16,t21];simp [go_sem,o2]
    ·exact ⟨_,rfl,Below.refl _ _,rfl⟩
   ·intro a W hb0 hs hp hi;have hb:=undrew hb0;clear hb0
    have t0:sl a 0 = .slice (some ⟨b,o,none⟩) 4 c:=hi 0 (by decide)
    exact ite_y rfl (wp_val (sl a 0) rfl ⟨_,rfl,Below.refl _ _,t0⟩)
   ·intro a W hb0 hs hp hi;have hb:=undrew hb0;clear hb0
    have ti0:sl a 23 = .slice (some ⟨b,o,none⟩) 4 c:=hp 16 (by decide)
    refine ite_y rfl (wp_val (.pointer (some ⟨b,o + 3,none⟩)) ?_ ?_)
    ·simp only [execOp,eval_tmp,eval_const,ti0];simp [go_sem]
    ·exact ⟨_,rfl,Below.refl _ _,rfl⟩
   ·intro a W hb0 hs hp hi;have hb:=undrew hb0;clear hb0
    have tt:sl a 24 = .pointer (some ⟨b,o + 3,none⟩):=hp 17 (by decide)
    have dd:=(hb.cell (p:=⟨b,o + 3,none⟩) (lt_of_cell k3)).trans k3
    refine ite_y rfl (wp_val (B8 x3) ?_ ?_)
    ·simp only [execOp,eval_tmp,tt];simp [go_sem,dd]
    ·exact ⟨_,rfl,Below.refl _ _,rfl⟩
   ·intro a W hb0 hs hp hi;have hb:=undrew hb0;clear hb0
    have tt:sl a 25 = B8 x3:=hp 18 (by decide)
    refine ite_y rfl (wp_val (.int .u32 (x3.toNat:Nat)) ?_ ?_)
    ·simp only [execOp,eval_tmp,tt];simp [go_sem,Tryz.underlying5,Tryz.underlying23,show IntKind.u32.wrap (x3.toNat:Int) = x3.toNat by rw [IntKind.wrap_u32];omega]
    ·exact ⟨_,rfl,Below.refl _ _,rfl⟩
   ·intro a W hb0 hs hp hi;have hb:=undrew hb0;clear hb0
    have t26:sl a 26 = .int .u32 (x3.toNat:Nat):=hp 19 (by decide)
    refine ite_y rfl (wp_val (.int .u32 (a3:Nat)) ?_ ?_)
    ·simp only [execOp,eval_tmp,eval_const,t26];simp [go_sem,s3]
    ·exact ⟨_,rfl,Below.refl _ _,rfl⟩
   ·intro a W hb0 hs hp hi;have hb:=undrew hb0;clear hb0
    have t22:sl a 22 = .int .u32 (b2:Nat):=hp 15 (by decide)
    have t27:sl a 27 = .int .u32 (a3:Nat):=hp 20 (by decide)
    refine ite_y rfl (wp_val (.int .u32 (b3:Nat)) ?_ ?_)
    ·simp only [execOp,eval_tmp,eval_const,t22,t27];simp [go_sem,o3]
    ·exact ⟨_,rfl,Below.refl _ _,rfl⟩
   ·intro a W hb0 hs hp hi;have hb:=undrew hb0;clear hb0
    have t28:sl a 28 = .int .u32 (b3:Nat):=hp 21 (by decide)
    exact ite_y rfl (wp_val (sl a 28) rfl ⟨_,rfl,Below.refl _ _,t28⟩)
   ·intro a W hb0 hs hp hi;have hb:=undrew hb0;clear hb0
    exact ite_y rfl (wp_val (.int .i64 0) rfl ⟨_,rfl,Below.refl _ _,rfl⟩)
  intro a w9 hb hs hd hI ht
  have ha:=act_is [7,8,9,10,11,12,13,14,15,16,17,18,19,20,21,22,23,24,25,26,27,28,2,3] hs hd ht (by decide)
  have t2:sl a 2 = .int .u32 (b3:Nat):=hI 22 (by decide)
  have t3:sl a 3 = .int .i64 0:=hI 23 (by decide)
  simp only [List.foldl,t2,t3] at ha
  generalize sl a 7 = u7 at ha
  generalize sl a 8 = u8 at ha
  generalize sl a 9 = u9 at ha
  generalize sl a 10 = u10 at ha
  generalize sl a 11 = u11 at ha
  generalize sl a 12 = u12 at ha
  generalize sl a 13 = u13 at ha
  generalize sl a 14 = u14 at ha
  generalize sl a 15 = u15 at ha
  generalize sl a 16 = u16 at ha
  generalize sl a 17 = u17 at ha
  generalize sl a 18 = u18 at ha
  generalize sl a 19 = u19 at ha
  generalize sl a 20 = u20 at ha
  generalize sl a 21 = u21 at ha
  generalize sl a 22 = u22 at ha
  generalize sl a 23 = u23 at ha
  generalize sl a 24 = u24 at ha
  generalize sl a 25 = u25 at ha
  generalize sl a 26 = u26 at ha
  generalize sl a 27 = u27 at ha
  generalize sl a 28 = u28 at ha
  simp only [Act.put,List.setIfInBounds_toArray,List.set_cons_zero,List.set_cons_succ] at ha
  rw [ha]
  clear ha hI ht
  go_wp2
  go_ret2
  exact ⟨rfl,hb⟩
 ·have hG:get4 xs = 0:=by
   have hl:=h.len
   unfold get4;split
   ·simp at hl;omega
   ·rfl
  rw [hG,if_neg h4]
  have h4':¬ ((n:Int) = 4):=by omega
  clear hG h
  go_enter Tryz.func174,Tryz.ntmps174
  go_wp2
  go_ret2
  exact ⟨rfl,Below.refl _ _⟩
end Go.Proofs.YtccaiiigdfieoaaGreatDoor
namespace Go.By
open Go.RowKit
theorem sl2_three {W:World} {g T:Nat} {fr:Nat × Nat} {p1 p2 p3:Option Addr} {n1 n2 n3 c1 c2 c3:Nat} {xs ys zs:List UInt8} (hW:W.heap[g]? = some (.cells #[.slice p1 n1 c1,.slice p2 n2 c2,.slice p3 n3 c3] T fr)) (h1:Sl B8 W p1 n1 c1 xs) (h2:Sl B8 W p2 n2 c2 ys) (h3:Sl B8 W p3 n3 c3 zs) :
  Sl2 W (some ⟨g,0,none⟩) 3 3 [xs,ys,zs]:=by
 refine sl2_block [xs,ys,zs] 3 hW rfl rfl (by simp [maxLen]) ?_
 intro i u hi
 match i,hi with
 | 0,hi=>simp at hi;subst hi;exact ⟨p1,n1,c1,rfl,h1⟩
 | 1,hi=>simp at hi;subst hi;exact ⟨p2,n2,c2,rfl,h2⟩
 | 2,hi=>simp at hi;subst hi;exact ⟨p3,n3,c3,rfl,h3⟩
theorem sl2_four {W:World} {g T:Nat} {fr:Nat × Nat} {p1 p2 p3 p4:Option Addr} {n1 n2 n3 n4 c1 c2 c3 c4:Nat} {xs ys zs us:List UInt8} (hW:W.heap[g]? = some (.cells #[.slice p1 n1 c1,.slice p2 n2 c2,.slice p3 n3 c3,.slice p4 n4 c4] T fr)) (h1:Sl B8 W p1 n1 c1 xs) (h2:Sl B8 W p2 n2 c2 ys) (h3:Sl B8 W p3 n3 c3 zs) (h4:Sl B8 W p4 n4 c4 us) :
  Sl2 W (some ⟨g,0,none⟩) 4 4 [xs,ys,zs,us]:=by
 refine sl2_block [xs,ys,zs,us] 4 hW rfl rfl (by simp [maxLen]) ?_
 intro i u hi
 match i,hi with
 | 0,hi=>simp at hi;subst hi;exact ⟨p1,n1,c1,rfl,h1⟩
 | 1,hi=>simp at hi;subst hi;exact ⟨p2,n2,c2,rfl,h2⟩
 | 2,hi=>simp at hi;subst hi;exact ⟨p3,n3,c3,rfl,h3⟩
 | 3,hi=>simp at hi;subst hi;exact ⟨p4,n4,c4,rfl,h4⟩
theorem sl2_one {W:World} {g T:Nat} {fr:Nat × Nat} {p1:Option Addr} {n1 c1:Nat} {xs:List UInt8} (hW:W.heap[g]? = some (.cells #[.slice p1 n1 c1] T fr)) (h1:Sl B8 W p1 n1 c1 xs) :
  Sl2 W (some ⟨g,0,none⟩) 1 1 [xs]:=by
 refine sl2_block [xs] 1 hW rfl rfl (by simp [maxLen]) ?_
 intro i u hi
 match i,hi with
 | 0,hi=>simp at hi;subst hi;exact ⟨p1,n1,c1,rfl,h1⟩
theorem cells_three {w:World} {b T:Nat} {u v x:Value} (h:w.heap[b]? = some (.cells #[u,v,x] T (0,0))):w.cell? ⟨b,0,none⟩ = some u∧w.cell? ⟨b,1,none⟩ = some v∧w.cell? ⟨b,2,none⟩ = some x :=
 ⟨cell_of_row _ _ 0 _ _ _ h,cell_of_row _ _ 1 _ _ _ h,cell_of_row _ _ 2 _ _ _ h⟩
theorem cells_four {w:World} {b T:Nat} {u v x y:Value} (h:w.heap[b]? = some (.cells #[u,v,x,y] T (0,0))):w.cell? ⟨b,0,none⟩ = some u∧w.cell? ⟨b,1,none⟩ = some v∧w.cell? ⟨b,2,none⟩ = some x∧w.cell? ⟨b,3,none⟩ = some y :=
 ⟨cell_of_row _ _ 0 _ _ _ h,cell_of_row _ _ 1 _ _ _ h,cell_of_row _ _ 2 _ _ _ h,cell_of_row _ _ 3 _ _ _ h⟩
theorem cells_five {w:World} {b T:Nat} {u v x y z:Value} (h:w.heap[b]? = some (.cells #[u,v,x,y,z] T (0,0))):w.cell? ⟨b,0,none⟩ = some u∧w.cell? ⟨b,1,none⟩ = some v∧w.cell? ⟨b,2,none⟩ = some x∧w.cell? ⟨b,3,none⟩ = some y∧w.cell? ⟨b,4,none⟩ = some z :=
 ⟨cell_of_row _ _ 0 _ _ _ h,cell_of_row _ _ 1 _ _ _ h,cell_of_row _ _ 2 _ _ _ h,cell_of_row _ _ 3 _ _ _ h,cell_of_row _ _ 4 _ _ _ h⟩
theorem below_row {B g:Nat} {a w:World} {cs:Array Value} (h:Below B a w) (hg:B≤g):Below B a (w.setRow g cs):=by
 refine ⟨h.os,h.tape,h.output,?_,fun i hi=>?_⟩
 ·have:=h.size;simpa [World.setRow] using this
 ·rw [← h.block i hi]
  simp only [World.setRow,Array.getElem?_modify]
  rw [if_neg (by omega)]
theorem cell_setRow {w:World} {b o g:Nat} {v:Value} {cs:Array Value} (h:w.cell? ⟨b,o,none⟩ = some v) (hne:b≠g):(w.setRow g cs).cell? ⟨b,o,none⟩ = some v:=by
 refine (World.cell?_of_block (a:=⟨b,o,none⟩) ?_).trans h
 simp only [World.setRow,Array.getElem?_modify]
 rw [if_neg (by omega)]
theorem sl_setRow {α:Type} {enc:α→Value} {w:World} {p:Option Addr} {n c g:Nat} {xs:List α} {cs:Array Value} (h:Sl enc w p n c xs) (hne:∀ a,p = some a→a.block≠g):Sl enc (w.setRow g cs) p n c xs :=
 ⟨h.len,h.le,h.max,h.nil,fun i hi=>by
  obtain ⟨b,o,e,hc⟩:=h.rs i hi
  exact ⟨b,o,e,cell_setRow hc (hne _ e)⟩⟩
def NewP (B:Nat) (q:Option Addr):Prop:=∀ a,q = some a→B≤a.block
structure Fresh (T:TypeId) (B:Nat) (w:World) (q:Option Addr) (n c:Nat) (xs:List UInt8):Prop where
 sl:Sl B8 w q n c xs
 new:NewP B q
 ty:∀ a,q = some a→∃ cs fr,w.heap[a.block]? = some (.cells cs T fr)
theorem Fresh.of_owns {T:TypeId} {B:Nat} {w:World} {q:Option Addr} {n c:Nat} {xs:List UInt8} (h:w.ownsRow B T 1 (.slice q n c) n (xs.map B8)):Fresh T B w q n c xs:=by
 refine ⟨Sl.of_owns h,fun a ha=>(owns_new h a ha).1,fun a ha=>?_⟩
 rcases h.2 with ⟨h2,_⟩ | ⟨g,cap,cur,hv,_,hh,_⟩
 ·subst ha;cases h2
 ·subst ha;cases hv;exact ⟨_,_,hh⟩
theorem Fresh.none (T:TypeId) (B:Nat) (w:World):Fresh T B w none 0 0 []:=⟨Sl.nil0 _ _,fun a ha=>(by cases ha),fun a ha=>(by cases ha)⟩
theorem Fresh.keep {T:TypeId} {B:Nat} {w w':World} {q:Option Addr} {n c:Nat} {xs:List UInt8} (h:Fresh T B w q n c xs) (hb:Below w.heap.size w w'):Fresh T B w' q n c xs :=
 ⟨h.sl.keep hb,h.new,fun a ha=>by obtain ⟨cs,fr,e⟩:=h.ty a ha;exact ⟨cs,fr,(hb.block _ (lt_of_block e)).trans e⟩⟩
theorem Fresh.mono {T:TypeId} {B B':Nat} {w:World} {q:Option Addr} {n c:Nat} {xs:List UInt8} (h:Fresh T B w q n c xs) (hB:B'≤B):Fresh T B' w q n c xs:=⟨h.sl,fun a ha=>Nat.le_trans hB (h.new a ha),h.ty⟩
theorem Fresh.row {T T':TypeId} {B g:Nat} {w:World} {q:Option Addr} {n c:Nat} {xs:List UInt8} {cs old:Array Value} {fr:Nat × Nat} (h:Fresh T B w q n c xs) (hg:w.heap[g]? = some (.cells old T' fr)) (hne:T'≠T):Fresh T B (w.setRow g cs) q n c xs:=by
 have hd:∀ a,q = some a→a.block≠g:=fun a ha e=>by
  obtain ⟨c2,f2,e2⟩:=h.ty a ha
  rw [e,hg] at e2
  injection e2 with e2
  injection e2 with _ e3 _
  exact hne e3
 exact ⟨sl_setRow h.sl hd,h.new,fun a ha=>by obtain ⟨c2,f2,e2⟩:=h.ty a ha;exact ⟨c2,f2,hro e2 (hd a ha)⟩⟩
theorem one_of {w w1:World} {A:Obj} (hb:Below (w.alloc A).heap.size (w.alloc A) w1):Below w.heap.size w w1∧w1.heap[w.heap.size]? = some A∧w.heap.size + 1≤w1.heap.size :=
 ⟨(al (Below.refl _ _) (Nat.le_refl _)).trans (hb.mono (by simp)),(hb.block _ (by simp)).trans (hnew rfl),by have:=hb.size;simpa using this⟩
theorem two_of {w w1:World} {A B:Obj} (hb:Below ((w.alloc A).alloc B).heap.size ((w.alloc A).alloc B) w1):Below w.heap.size w w1∧w1.heap[w.heap.size]? = some A∧w1.heap[w.heap.size + 1]? = some B∧w.heap.size + 2≤w1.heap.size :=
 ⟨(al (al (Below.refl _ _) (Nat.le_refl _)) (by simp)).trans (hb.mono (by simp;omega)),(hb.block _ (by simp;omega)).trans (hal (hnew rfl)),(hb.block _ (by simp)).trans (hnew (by simp)),by have:=hb.size;simp at this;omega⟩
theorem Sl.part {α:Type} {enc:α→Value} {w:World} {b o n c k m:Nat} {xs:List α} (h:Sl enc w (some ⟨b,o,none⟩) n c xs) (hk:k + m≤n):Sl enc w (some ⟨b,o + k,none⟩) m (c - k) ((xs.drop k).take m):=by
 have h1:=h.len;have h2:=h.le;have h3:=h.max
 refine ⟨by simp;omega,by omega,by omega,fun hp=>(by cases hp),?_⟩
 intro i hi
 simp at hi
 obtain ⟨b',o',e,hc⟩:=h.rs (k + i) (by omega)
 cases e
 refine ⟨_,_,rfl,?_⟩
 rw [Nat.add_assoc,hc]
 simp
theorem Sl.tail {α:Type} {enc:α→Value} {w:World} {b o n c:Nat} {xs:List α} (k:Nat) (h:Sl enc w (some ⟨b,o,none⟩) n c xs) (hk:k≤n):Sl enc w (if c = k then some ⟨b,o,none⟩ else some ⟨b,o + k,none⟩) (n - k) (c - k) (xs.drop k):=by
 have h1:=h.len;have h2:=h.le;have h3:=h.max
 refine ⟨by simp;omega,by omega,by omega,fun hp=>(by split at hp <;> cases hp),?_⟩
 intro i hi
 simp at hi
 rw [if_neg (by omega)]
 obtain ⟨b',o',e,hc⟩:=h.rs (k + i) (by omega)
 cases e
 refine ⟨_,_,rfl,?_⟩
 rw [Nat.add_assoc,hc]
 simp
theorem Sl.read {α:Type} {enc:α→Value} {w:World} {p:Option Addr} {n c:Nat} {xs ys:List α} (h:Sl enc w p n c xs) (e:xs = ys):Sl enc w p n c ys:=e ▸ h
theorem Sl.has {α:Type} {enc:α→Value} {w:World} {p:Option Addr} {n c:Nat} {xs:List α} (h:Sl enc w p n c xs) (hn:0 < n):∃ b o,p = some ⟨b,o,none⟩∧b < w.heap.size:=h.rs.lt (by rw [h.len];exact hn)
def SRet (w:World) (ys:List UInt8) (code:Int) (e:Ending) (w':World):Prop :=
 ∃ q n c,e = .returned (.tuple #[.slice q n c,.int .i64 code])∧Sl B8 w' q n c ys∧Below w.heap.size w w'
def SRet1 (w:World) (ys:List UInt8) (e:Ending) (w':World):Prop :=
 ∃ q n c,e = .returned (.slice q n c)∧Sl B8 w' q n c ys∧Below w.heap.size w w'
def SRetF (T:TypeId) (w:World) (ys:List UInt8) (code:Int) (e:Ending) (w':World):Prop :=
 ∃ q n c,e = .returned (.tuple #[.slice q n c,.int .i64 code])∧Fresh T w.heap.size w' q n c ys∧Below w.heap.size w w'
theorem SRetF.ret {T:TypeId} {w w':World} {ys:List UInt8} {code:Int} {e:Ending} (h:SRetF T w ys code e w'):SRet w ys code e w':=by
 obtain ⟨q,n,c,e,hf,hb⟩:=h
 exact ⟨q,n,c,e,hf.sl,hb⟩
theorem SRetF.nil (T:TypeId) (w w':World) (code:Int) (hb:Below w.heap.size w w'):SRetF T w [] code (.returned (.tuple #[.slice none 0 0,.int .i64 code])) w':=⟨none,0,0,rfl,Fresh.none _ _ _,hb⟩
theorem Fresh.block {T B g n:Nat} {w:World} {fr:Nat × Nat} {xs:List UInt8} (h:w.heap[g]? = some (.cells (xs.map B8).toArray T fr)) (hl:xs.length = n) (hn:n≤maxLen) (hg:B≤g):Fresh T B w (some ⟨g,0,Option.none⟩) n n xs :=
 ⟨sl_block xs n h rfl hl hn,fun a ha=>by cases ha;exact hg,fun a ha=>by cases ha;exact ⟨_,_,h⟩⟩
theorem Fresh.read {T B n c:Nat} {w:World} {q:Option Addr} {xs ys:List UInt8} (h:Fresh T B w q n c xs) (e:xs = ys):Fresh T B w q n c ys:=e ▸ h
def FrT (T B:Nat) (ys:List UInt8) (v:Value) (w:World):Prop:=∃ q n c,v = .slice q n c∧Fresh T B w q n c ys
def ShF (T B:Nat) (ys:List UInt8):Shp:=⟨FrT T B ys,fun _ _ _ ⟨q,n,c,e,h⟩ hb=>⟨q,n,c,e,h.keep hb⟩⟩
def SRTF (T B:Nat) (ys:List UInt8) (code:Int) (v:Value) (w:World):Prop:=∃ q n c,v = .tuple #[.slice q n c,.int .i64 code]∧Fresh T B w q n c ys
def ShSRF (T B:Nat) (ys:List UInt8) (code:Int):Shp:=⟨SRTF T B ys code,fun _ _ _ ⟨q,n,c,e,h⟩ hb=>⟨q,n,c,e,h.keep hb⟩⟩
theorem SRet.nil (w w':World) (code:Int) (hb:Below w.heap.size w w'):SRet w [] code (.returned (.tuple #[.slice none 0 0,.int .i64 code])) w':=⟨none,0,0,rfl,Sl.nil0 _ _,hb⟩
theorem SRet1.of {T:TypeId} {w w':World} {ys:List UInt8} {e:Ending} (h:RetB1 T w ys e w'):SRet1 w ys e w':=by
 obtain ⟨q,m,c,_,e,ho,hb⟩:=h
 exact ⟨q,m,c,e,Sl.of_owns ho,hb⟩
theorem SRet.of {T:TypeId} {w w':World} {ys:List UInt8} {code:Int} {e:Ending} (h:RetB T w ys code e w'):SRet w ys code e w':=by
 obtain ⟨q,m,c,_,e,ho,hb⟩:=h
 exact ⟨q,m,c,e,Sl.of_owns ho,hb⟩
theorem res_ctt {P:Program} {fn:Func} {p u u2:Tmp} {ty:TypeId} (h:fn.results = #[.cell p ty,.tmp u,.tmp u2]) (tmps:Array Value) (w:World) (g:Nat) (t:TypeId) (cs:Array Value) (fr:Nat × Nat) (d:TypeDesc) (v v2:Value)
  (hp:tmps.getD p undef = .pointer (some ⟨g,0,none⟩)) (hg:w.heap[g]? = some (.cells cs t fr)) (hv:tmps.getD u undef = v) (hv2:tmps.getD u2 undef = v2)
  (hu:P.underlying ty = some d) (hd:(match d with | .struct _ | .array _ _=>true | _=>false) = true) (hi:(P.info? ty).map (·.size) = some cs.size) :
  (results fn tmps).run P w = .ok (.tuple #[.agg cs,v,v2]) w:=by
 have hp':tmps[p]?.getD undef = .pointer (some ⟨g,0,none⟩):=by simpa using hp
 have hv':tmps[u]?.getD undef = v:=by simpa using hv
 have hv2':tmps[u2]?.getD undef = v2:=by simpa using hv2
 simp [results,h,hp',hv',hv2',asAddr,run_loadVar_row w g t ty cs fr d hg hu hd hi]
theorem res_ct {P:Program} {fn:Func} {p u:Tmp} {ty:TypeId} (h:fn.results = #[.cell p ty,.tmp u]) (tmps:Array Value) (w:World) (g:Nat) (t:TypeId) (cs:Array Value) (fr:Nat × Nat) (d:TypeDesc) (v:Value)
  (hp:tmps.getD p undef = .pointer (some ⟨g,0,none⟩)) (hg:w.heap[g]? = some (.cells cs t fr)) (hv:tmps.getD u undef = v)
  (hu:P.underlying ty = some d) (hd:(match d with | .struct _ | .array _ _=>true | _=>false) = true) (hi:(P.info? ty).map (·.size) = some cs.size) :
  (results fn tmps).run P w = .ok (.tuple #[.agg cs,v]) w:=by
 have hp':tmps[p]?.getD undef = .pointer (some ⟨g,0,none⟩):=by simpa using hp
 have hv':tmps[u]?.getD undef = v:=by simpa using hv
 simp [results,h,hp',hv',asAddr,run_loadVar_row w g t ty cs fr d hg hu hd hi]
end Go.By
namespace Go.By
open Go.RowKit Go.Proofs.YtccaiiigdfieoaaGreatDoor
end Go.By
namespace Go.Proofs.YtccaiiigdfieoaaGreatDoor
open Go.RowKit Go.By
end Go.Proofs.YtccaiiigdfieoaaGreatDoor
namespace Go.By
open Go.RowKit Go.Proofs.YtccaiiigdfieoaaGreatDoor
end Go.By
namespace Go.Proofs.YtccaiiigdfieoaaGreatDoor
open Go.RowKit Go.By
end Go.Proofs.YtccaiiigdfieoaaGreatDoor
namespace Go.By
open Go.RowKit
def strB (l:List UInt8):ByteArray:=⟨l.toArray⟩
theorem strB_size (l:List UInt8):(strB l).size = l.length:=by simp [strB,ByteArray.size]
theorem strB_data (l:List UInt8):(strB l).data.toList = l:=by simp [strB]
theorem strB_cells (l:List UInt8):Lib.strCells (strB l) = Lib.byteCells l:=by rw [Lib.strCells_eq,strB_data]
theorem strB_of (s:ByteArray):s = strB s.data.toList:=by cases s;simp [strB]
theorem BuilderAt.keep {T e:TypeId} {B b:Nat} {p:Value} {bs:List Value} {w w':World} (h:Lib.BuilderAt T e B b p bs w) (hb:Below w.heap.size w w'):Lib.BuilderAt T e B b p bs w':=by
 obtain ⟨h1,v,h2,h3,h4⟩:=h
 obtain ⟨q,c,rfl⟩:=owns_shape h3
 exact ⟨h1,_,(hb.block _ (lt_of_block h2)).trans h2,owns_keep h3 hb,h4⟩
theorem bytes_append (a b:List UInt8):Lib.byteCells a ++ Lib.byteCells b = Lib.byteCells (a ++ b):=by simp [Lib.byteCells]
theorem txt_idx {P:Program} (t:TypeId) (ht:P.underlying t = some .string) {l:List UInt8} {k:Nat} {c:UInt8} (h:l[k]? = some c) (K:IntKind) (z:Int) (hz:z = (k:Int)) (w:World) :
  (Instr.index t (.string (strB l)) (.int K z)).run P w = .ok (B8 c) w:=by
 subst hz
 have hk:k < l.length:=(List.getElem?_eq_some_iff.1 h).1
 rw [run_index_string w t (strB l) _ _ ht,dif_pos ⟨by omega,by rw [strB_size];omega⟩]
 have e:((k:Int)).toNat = k:=by omega
 simp only [e]
 have hsz:k < (strB l).size:=by rw [strB_size];exact hk
 have h2:(strB l)[k]'hsz = c:=by
  have h3:(strB l).data[k]? = some ((strB l)[k]'hsz):=Array.getElem?_eq_getElem hsz
  have h4:(strB l).data[k]? = some c:=by rw [← Array.getElem?_toList,strB_data];exact h
  rw [h3] at h4;exact Option.some.inj h4
 rw [h2]
theorem txt_emp (l:List UInt8):(strB l).toList.isEmpty = decide (l = []):=by
 rw [← decide_eq_emptyBytes]
 by_cases h:l = []
 ·subst h;rfl
 ·have:¬ strB l = ByteArray.empty:=fun e=>h (by have:=congrArg (fun s:ByteArray=>s.data.toList) e;simpa [strB_data] using this)
  rw [decide_eq_false h];exact decide_eq_false this
end Go.By
namespace Go.By
open Go.Lib
def cutW (c:UInt8):List UInt8→List UInt8 × Option (List UInt8)
 | []=>([],none)
 | b :: l=>if b = c then ([],some l) else (b :: (cutW c l).1,(cutW c l).2)
def spl (c:UInt8):Nat→List UInt8→List (List UInt8)
 | 0,s=>[s]
 | k + 1,s=>match (cutW c s).2 with
  | none=>[s]
  | some r=>(cutW c s).1 :: spl c k r
theorem cutW_none {c:UInt8}:∀ {s:List UInt8},(cutW c s).2 = none→(cutW c s).1 = s∧index s [c] = -1
 | [],_=>⟨rfl,by simp [index]⟩
 | b :: l,h=>by
  unfold cutW at h ⊢
  by_cases hb:b = c
  ·rw [if_pos hb] at h;simp at h
  ·rw [if_neg hb] at h ⊢
   obtain ⟨e1,e2⟩:=cutW_none h
   refine ⟨by rw [e1],?_⟩
   have hp:([c]:List UInt8).isPrefixOf (b :: l) = false:=by simp [List.isPrefixOf,Ne.symm hb]
   rw [index,hp,e2];simp
theorem cutW_some {c:UInt8}:∀ {s r:List UInt8},(cutW c s).2 = some r→∃ i:Nat,index s [c] = (i:Int)∧s.take i = (cutW c s).1∧s.drop (i + 1) = r∧i < s.length
 | [],_,h=>by simp [cutW] at h
 | b :: l,r,h=>by
  unfold cutW at h ⊢
  by_cases hb:b = c
  ·rw [if_pos hb] at h ⊢
   subst hb
   exact ⟨0,by rw [index];simp [List.isPrefixOf],rfl,by simpa using h,by simp⟩
  ·rw [if_neg hb] at h ⊢
   obtain ⟨i,e1,e2,e3,e4⟩:=cutW_some h
   have hp:([c]:List UInt8).isPrefixOf (b :: l) = false:=by simp [List.isPrefixOf,Ne.symm hb]
   have hi:¬ ((i:Int) == -1) = true:=fun e=>by have:=beq_iff_eq.1 e;omega
   refine ⟨i + 1,?_,by rw [List.take_succ_cons,e2],by rw [List.drop_succ_cons,e3],by simp;omega⟩
   rw [index,hp,e1]
   rw [if_neg (by simp),if_neg hi];rfl
theorem splitK_spl (c:UInt8):∀ (k:Nat) (s:List UInt8),splitK [c] 0 k s = spl c k s
 | 0,_=>rfl
 | k + 1,s=>by
  unfold splitK spl
  cases h:(cutW c s).2 with
  | none =>
   have e:=(cutW_none h).2
   rw [if_pos (by rw [e];rfl)]
  | some r =>
   obtain ⟨i,e1,e2,e3,_⟩:=cutW_some h
   have hi:¬ ((i:Int) == -1) = true:=fun e=>by have:=beq_iff_eq.1 e;omega
   rw [e1,if_neg hi]
   show s.take (i + 0) :: splitK [c] 0 k (s.drop (i + 1)) = _
   rw [Nat.add_zero,e2,e3,splitK_spl c k r]
theorem cutW_len {c:UInt8} {s r:List UInt8} (h:(cutW c s).2 = some r):r.length + 1≤s.length:=by
 obtain ⟨i,_,_,e3,e4⟩:=cutW_some h
 rw [← e3,List.length_drop];omega
theorem spl_min (c:UInt8):∀ (k:Nat) (s:List UInt8),spl c k s = spl c (min k s.length) s
 | 0,s=>by rw [Nat.zero_min]
 | k + 1,s=>by
  by_cases h0:s.length = 0
  ·have:s = []:=List.length_eq_zero_iff.1 h0
   subst this;simp [spl,cutW]
  ·obtain ⟨m,hm⟩:∃ m,s.length = m + 1:=⟨s.length - 1,by omega⟩
   rw [hm,Nat.add_min_add_right]
   unfold spl
   cases h:(cutW c s).2 with
   | none=>rfl
   | some r =>
    have hr:=cutW_len h
    simp only
    congr 1
    rw [spl_min c k r,spl_min c (min k m) r]
    congr 1
    omega
theorem spl_len (c:UInt8):∀ (k:Nat) (s:List UInt8),1≤(spl c k s).length∧(spl c k s).length≤k + 1
 | 0,_=>by simp [spl]
 | k + 1,s=>by
  unfold spl
  cases h:(cutW c s).2 with
  | none=>simp
  | some r=>have:=spl_len c k r;simp;omega
theorem spl_none {c:UInt8} {k:Nat} {s:List UInt8} (h:(cutW c s).2 = none):spl c k s = [s]:=by
 cases k with
 | zero=>rfl
 | succ k=>unfold spl;rw [h]
theorem spl_some {c:UInt8} {k:Nat} {s r:List UInt8} (h:(cutW c s).2 = some r):spl c (k + 1) s = (cutW c s).1 :: spl c k r:=by
 conv=>lhs;unfold spl
 rw [h]
theorem cutW_app {c:UInt8}:∀ {w:List UInt8},(∀ b ∈ w,b≠c)→∀ r,cutW c (w ++ c :: r) = (w,some r)
 | [],_,r=>by simp [cutW]
 | b :: w,h,r=>by
  rw [List.cons_append];unfold cutW
  rw [if_neg (h b (by simp)),cutW_app (fun x hx=>h x (by simp [hx])) r]
theorem cutW_all {c:UInt8}:∀ {w:List UInt8},(∀ b ∈ w,b≠c)→cutW c w = (w,none)
 | [],_=>rfl
 | b :: w,h=>by
  unfold cutW
  rw [if_neg (h b (by simp)),cutW_all (fun x hx=>h x (by simp [hx]))]
def isDig (b:UInt8):Bool:=decide (48≤b.toNat) && decide (b.toNat≤57)
def decV (acc:Nat) (l:List UInt8):Nat:=l.foldl (fun a b=>10 * a + (b.toNat - 48)) acc
theorem decV_cons (a:Nat) (b:UInt8) (l:List UInt8):decV a (b :: l) = decV (10 * a + (b.toNat - 48)) l:=List.foldl_cons ..
theorem decV_nil (a:Nat):decV a [] = a:=List.foldl_nil
def numG (w:List UInt8):Bool:=decide (w≠[]) && !(decide (1 < w.length) && decide (w.head? = some 48)) && w.all isDig
def numB (M:Nat) (w:List UInt8):Option Nat:=if numG w = true∧decV 0 w≤M then some (decV 0 w) else none
theorem decV_append (l m:List UInt8) (a:Nat):decV a (l ++ m) = decV (decV a l) m:=List.foldl_append ..
theorem decV_le:∀ (l:List UInt8) (a:Nat),a≤decV a l
 | [],_=>Nat.le_refl _
 | c :: l,a=>by rw [decV_cons];exact Nat.le_trans (by omega) (decV_le l _)
theorem dig_ofNat {i:Nat} (h:i < 10):isDig (UInt8.ofNat (48 + i)) = true∧(UInt8.ofNat (48 + i)).toNat = 48 + i:=by
 have e:(UInt8.ofNat (48 + i)).toNat = 48 + i:=by simp;omega
 refine ⟨?_,e⟩
 unfold isDig;rw [e];simp;omega
theorem decDigits_small {u:Nat} (h:u < 10):decDigits u = [UInt8.ofNat (48 + u)]:=by rw [decDigits,dif_pos h]
theorem decDigits_big {u:Nat} (h:¬ u < 10):decDigits u = decDigits (u / 10) ++ [UInt8.ofNat (48 + u % 10)]:=by rw [decDigits,dif_neg h]
theorem decDigits_facts:∀ (n u:Nat),u≤n→decDigits u≠[]∧(∀ b ∈ decDigits u,isDig b = true)∧decV 0 (decDigits u) = u∧(1≤u→(decDigits u).head?≠some 48)
 | n,u,hn=>by
  by_cases h:u < 10
  ·rw [decDigits_small h]
   obtain ⟨h1,h2⟩:=dig_ofNat h
   refine ⟨by simp,by simpa using h1,by rw [decV_cons,decV_nil,h2];omega,fun hu=>?_⟩
   intro e
   have e2:UInt8.ofNat (48 + u) = 48:=Option.some.inj e
   have:=congrArg UInt8.toNat e2
   rw [h2] at this
   have h48:(48:UInt8).toNat = 48:=rfl
   omega
  ·cases n with
   | zero=>omega
   | succ n =>
    obtain ⟨g1,g2,g3,g4⟩:=decDigits_facts n (u / 10) (by omega)
    obtain ⟨h1,h2⟩:=dig_ofNat (show u % 10 < 10 by omega)
    rw [decDigits_big h]
    refine ⟨by simp,?_,?_,fun _=>?_⟩
    ·intro b hb
     rcases List.mem_append.1 hb with hb | hb
     ·exact g2 b hb
     ·rw [List.mem_singleton.1 hb];exact h1
    ·rw [decV_append,g3,decV_cons,decV_nil,h2];omega
    ·cases hd:decDigits (u / 10) with
     | nil=>exact absurd hd g1
     | cons x y =>
      have:=g4 (by omega)
      rw [hd] at this
      simpa using this
theorem numG_dec (u:Nat):numG (decDigits u) = true:=by
 obtain ⟨g1,g2,g3,g4⟩:=decDigits_facts u u (Nat.le_refl _)
 unfold numG
 have h1:decide (decDigits u≠[]) = true:=by simpa using g1
 have h3:(decDigits u).all isDig = true:=List.all_eq_true.2 g2
 rw [h1,h3]
 by_cases hu:1≤u
 ·have h2:decide ((decDigits u).head? = some 48) = false:=by simpa using g4 hu
  rw [h2];simp
 ·have:u = 0:=by omega
  subst this
  rw [decDigits_small (by omega)];simp
theorem numB_dec {u M:Nat} (h:u≤M):numB M (decDigits u) = some u:=by
 have g:=(decDigits_facts u u (Nat.le_refl _)).2.2.1
 unfold numB
 rw [if_pos ⟨numG_dec u,by rw [g];exact h⟩,g]
theorem dec_no_blank (u:Nat):∀ b ∈ decDigits u,b≠32:=by
 intro b hb e
 have:=(decDigits_facts u u (Nat.le_refl _)).2.1 b hb
 subst e
 revert this;decide
theorem numG_dig {w:List UInt8} (h:numG w = true):∀ b ∈ w,isDig b = true:=by
 unfold numG at h
 simp only [Bool.and_eq_true] at h
 exact List.all_eq_true.1 h.2
theorem isDig_le {b:UInt8} (h:isDig b = true):48≤b.toNat∧b.toNat≤57:=by
 unfold isDig at h;simpa using h
end Go.By
namespace Go.Proofs.YtccaiiigdfieoaaGreatDoor
def dgt (x:Nat):UInt8:=if x < 10 then UInt8.ofNat (48 + x) else UInt8.ofNat (87 + x)
def hexL (l:List UInt8):List UInt8:=l.flatMap fun b=>[dgt (b.toNat / 16),dgt (b.toNat % 16)]
theorem dgt_toNat {x:Nat} (h:x < 16):(dgt x).toNat = if x < 10 then 48 + x else 87 + x:=by
 unfold dgt
 split
 ·rw [UInt8.toNat_ofNat',Nat.mod_eq_of_lt (by omega)]
 ·rw [UInt8.toNat_ofNat',Nat.mod_eq_of_lt (by omega)]
theorem hexL_cons (x:UInt8) (l:List UInt8):hexL (x :: l) = dgt (x.toNat / 16) :: dgt (x.toNat % 16) :: hexL l:=rfl
def valD (c:UInt8):Nat:=if 48≤c.toNat∧c.toNat≤57 then c.toNat - 48 else if 97≤c.toNat∧c.toNat≤102 then c.toNat - 87 else 16
theorem valD_dgt {x:Nat} (h:x < 16):valD (dgt x) = x:=by
 unfold valD
 rw [dgt_toNat h]
 by_cases h1:x < 10
 ·rw [if_pos h1,if_pos (by omega)];omega
 ·rw [if_neg h1,if_neg (by omega),if_pos (by omega)];omega
theorem dgt_valD {c:UInt8} (h:valD c < 16):dgt (valD c) = c:=by
 apply UInt8.toNat_inj.1
 rw [dgt_toNat h]
 unfold valD at h ⊢
 by_cases h1:48≤c.toNat∧c.toNat≤57
 ·rw [if_pos h1] at h ⊢;rw [if_pos (by omega)];omega
 ·rw [if_neg h1] at h ⊢
  by_cases h2:97≤c.toNat∧c.toNat≤102
  ·rw [if_pos h2] at h ⊢;rw [if_neg (by omega)];omega
  ·rw [if_neg h2] at h;omega
def unhexP:List UInt8→Option (List UInt8)
 | []=>some []
 | [_]=>none
 | a :: b :: l=>if valD a < 16∧valD b < 16 then (unhexP l).map (UInt8.ofNat (16 * valD a + valD b) :: ·) else none
theorem unhexP_two (a b:UInt8) (l:List UInt8):unhexP (a :: b :: l) = if valD a < 16∧valD b < 16 then (unhexP l).map (UInt8.ofNat (16 * valD a + valD b) :: ·) else none:=rfl
theorem unhexP_hexL:∀ l:List UInt8,unhexP (hexL l) = some l
 | []=>rfl
 | x :: l=>by
  have hx:=x.toNat_lt
  rw [hexL_cons,unhexP_two,valD_dgt (by omega),valD_dgt (by omega),if_pos ⟨by omega,by omega⟩,unhexP_hexL l]
  show some (_ :: l) = some (x :: l)
  congr 2
  apply UInt8.toNat_inj.1
  rw [UInt8.toNat_ofNat',Nat.mod_eq_of_lt (by omega)];omega
theorem hexL_unhexP:∀ (n:Nat) {s l:List UInt8},s.length≤n→unhexP s = some l→hexL l = s
 | _,[],l,_,h=>by cases h;rfl
 | _,[_],_,_,h=>by cases h
 | 0,a :: b :: s,l,hn,_=>by simp at hn
 | n + 1,a :: b :: s,l,hn,h=>by
  rw [unhexP_two] at h
  by_cases hab:valD a < 16∧valD b < 16
  ·rw [if_pos hab] at h
   obtain ⟨m,hm,rfl⟩:=Option.map_eq_some_iff.1 h
   rw [hexL_cons,hexL_unhexP n (by simp at hn;omega) hm,UInt8.toNat_ofNat',Nat.mod_eq_of_lt (by omega),show (16 * valD a + valD b) / 16 = valD a by omega,show (16 * valD a + valD b) % 16 = valD b by omega,dgt_valD hab.1,dgt_valD hab.2]
  ·rw [if_neg hab] at h;cases h
theorem unhexP_odd:∀ (n:Nat) {s:List UInt8},s.length≤n→s.length % 2 = 1→unhexP s = none
 | _,[],_,h=>by simp at h
 | _,[_],_,_=>rfl
 | 0,a :: b :: s,hn,_=>by simp at hn
 | n + 1,a :: b :: s,hn,h=>by
  rw [unhexP_two,unhexP_odd n (s:=s) (by simp at hn;omega) (by simp at h;omega)]
  split <;> rfl
theorem unhexP_len:∀ (n:Nat) {s l:List UInt8},s.length≤n→unhexP s = some l→s.length = 2 * l.length:=fun n s l hn h=>by
 have:=hexL_unhexP n hn h
 rw [← this]
 clear this h hn
 induction l with
 | nil=>rfl
 | cons x l ih=>rw [hexL_cons,List.length_cons,List.length_cons,ih,List.length_cons];omega
def UnhexAt (s:List UInt8) (i:Nat) (out:List UInt8):Prop:=unhexP s = (unhexP (s.drop i)).map (out ++ ·)
theorem UnhexAt.zero (s:List UInt8):UnhexAt s 0 []:=by
 show unhexP s = (unhexP s).map _
 cases unhexP s <;> rfl
theorem drop_two {s:List UInt8} {i:Nat} {a b:UInt8} (ha:s[i]? = some a) (hb:s[i + 1]? = some b):s.drop i = a :: b :: s.drop (i + 2):=by
 obtain ⟨h1,e1⟩:=List.getElem?_eq_some_iff.1 ha
 obtain ⟨h2,e2⟩:=List.getElem?_eq_some_iff.1 hb
 rw [List.drop_eq_getElem_cons h1,List.drop_eq_getElem_cons h2,e1,e2]
theorem UnhexAt.next {s out:List UInt8} {i:Nat} {a b:UInt8} (h:UnhexAt s i out) (ha:s[i]? = some a) (hb:s[i + 1]? = some b) (h1:valD a < 16) (h2:valD b < 16):UnhexAt s (i + 2) (out ++ [UInt8.ofNat (16 * valD a + valD b)]):=by
 unfold UnhexAt at h ⊢
 rw [h,drop_two ha hb,unhexP_two,if_pos ⟨h1,h2⟩,Option.map_map]
 congr 1
 funext x
 simp
theorem UnhexAt.bad {s out:List UInt8} {i:Nat} {a b:UInt8} (h:UnhexAt s i out) (ha:s[i]? = some a) (hb:s[i + 1]? = some b) (h1:¬ (valD a < 16∧valD b < 16)):unhexP s = none:=by
 unfold UnhexAt at h
 rw [h,drop_two ha hb,unhexP_two,if_neg h1];rfl
theorem UnhexAt.done {s out:List UInt8} {i:Nat} (h:UnhexAt s i out) (hi:s.length≤i):unhexP s = some out:=by
 unfold UnhexAt at h
 rw [h,List.drop_eq_nil_of_le hi]
 show some (out ++ []) = _
 rw [List.append_nil]
end Go.Proofs.YtccaiiigdfieoaaGreatDoor
namespace Go.Proofs.YtccaiiigdfieoaaGreatDoor
open Go.RowKit Go.By
end Go.Proofs.YtccaiiigdfieoaaGreatDoor
namespace Go.By
open Go.RowKit
theorem heap_of_ownsC {w:World} {base E g n:Nat} {L:List Value} (h:w.ownsRow base E 1 (.slice (some ⟨g,0,none⟩) n n) n L):w.heap[g]? = some (.cells L.toArray E (0,0)):=by
 rcases h.2 with ⟨h1,_⟩ | ⟨g',cap,cur,hv,_,hh,_,_,hs,ht⟩
 ·cases h1
 ·cases hv
  rw [hh]
  have:cur = L.toArray:=by
   rw [← ht,List.take_of_length_le (by simp [hs])]
  rw [this]
theorem grownBy_setRowC (w:World) (g:Nat) (cs:Array Value):w.grownBy (w.setRow g cs) (some g) :=
 ⟨rfl,rfl,rfl,by simp [World.setRow],fun b _ hne=>by
  simp only [World.setRow,Array.getElem?_modify]
  rw [if_neg (fun e=>hne (by rw [e]))]⟩
theorem wp_make_bytesC {P:Program} (w:World) {o:Oper} {a:Act} {K:Act→World→Prop} {Q:Exit→Act→World→Prop} (hg:o.guard = none) (l c:Operand) (t:TypeId) (hop:o.op = Op.makeSlice t l c)
  (e:TypeId) (i:TypeInfo) (h1:P.underlying t = some (.slice e)) (h2:P.info? e = some i) (h3:i.zero = some (.int .u8 0)) (h4:i.size = 1) (h5:i.bytes = 1) (n:Nat) (hl:a.eval l = .int .i64 n) (hc:a.eval c = .int .i64 n) (hn:n≤65536)
  (hK:∀ w' g,g = w.heap.size→w'.heap[g]? = some (.cells ((List.replicate n (0:UInt8)).map B8).toArray e (0,0))→Below w.heap.size w w'→K (a.put o.dst (.slice (some ⟨g,0,none⟩) n n)) w'):o.wp P a w K Q:=by
 have _:=hg
 obtain ⟨w',hrun,r1,r2⟩:=run_make_full (P:=P) w w.heap.size t e i (.int .u8 0) 1 h1 h2 h3 h4 .i64 .i64 n (by rw [h5];omega) (by unfold maxLen;omega) (Nat.le_refl _)
 unfold Oper.wp
 simp [execOp,hop,hl,hc,hrun,Result.andThen]
 refine hK w' _ rfl ?_ ((Below.refl _ _).grown r2 (Nat.le_refl _) (by simp))
 have e1:(madeCells #[Value.int .u8 0] n).toList = List.replicate n (B8 0):=toList_madeCells_one _ _
 have r3:w'.ownsRow w.heap.size e 1 (.slice (some ⟨w.heap.size,0,none⟩) n n) n (List.replicate n (B8 0)):=by rw [← e1];have r4:=r1;simp only [Nat.mul_one] at r4;exact r4
 rw [List.map_replicate]
 exact heap_of_ownsC r3
def fillC (bs src:List UInt8):List UInt8:=src.take bs.length ++ bs.drop src.length
theorem fillS_lenC (bs src:List UInt8):(fillC bs src).length = bs.length:=by unfold fillC;rw [List.length_append,List.length_take,List.length_drop];omega
theorem wpList_copy_bytesC {P:Program} (w:World) {ops:Array Oper} {rest:List Oper} {o:Oper} {a:Act} {Q:Exit→Act→World→Prop} (hgd:o.guard = none) (d s:Operand) (dT sT:TypeId)
  (ho:o.op = .call { callee:=.builtin .copy,args:=#[d,s],argTypes:=#[dT,sT] }) (elem:TypeId) (hu:P.underlying dT = some (.slice elem)) (hsz:(P.info? elem).map (·.size) = some 1)
  (g n:Nat) (sp:Option Addr) (m c:Nat) (hd:a.eval d = .slice (some ⟨g,0,none⟩) n n) (hs:a.eval s = .slice sp m c) (bs src:List UInt8) (T:TypeId) (hg:w.heap[g]? = some (.cells (bs.map B8).toArray T (0,0))) (hl:bs.length = n) (hS:Sl B8 w sp m c src)
  (h:∀ w' z,w'.heap[g]? = some (.cells ((fillC bs src).map B8).toArray T (0,0))→w.grownBy w' (some g)→wpList P ops Q rest (a.put o.dst (goInt z)) w'):wpList P ops Q (o :: rest) a w:=by
 have hm:=hS.len
 by_cases h0:Nat.min m n = 0
 ·refine wpList_copy_nothing hgd d s dT sT ho elem hu hsz _ sp n n m c hd hs h0 ?_
  refine h w 0 ?_ (World.grownBy.refl _ _)
  have e:fillC bs src = bs:=by
   unfold fillC
   rcases Nat.eq_zero_or_pos m with h1 | h1
   ·have:src = []:=List.length_eq_zero_iff.1 (by omega)
    subst this;simp
   ·have h2:n = 0:=by have h3:min m n = 0:=h0;omega
    have:bs = []:=List.length_eq_zero_iff.1 (by omega)
    subst this;simp
  rw [e];exact hg
 ·have h1:0 < m∧0 < n:=by have h3:¬ min m n = 0:=h0;omega
  obtain ⟨b,o',rfl,-⟩:=hS.rs 0 (by omega)
  refine wpList_copy_own hgd d s dT sT ho elem hu hsz g 0 n n ⟨b,o',none⟩ m c hd hs _ T hg ((src.take n).map B8) ?_ ?_ ?_ ?_ ?_
  ·rw [List.length_map,List.length_take,hm,Nat.min_comm]
  ·intro j v hj
   rw [List.getElem?_map,List.getElem?_take] at hj
   have hjl:j < n∧j < src.length:=by
    split at hj
    ·rename_i hjn
     refine ⟨hjn,?_⟩
     rcases Nat.lt_or_ge j src.length with g | g
     ·exact g
     ·rw [List.getElem?_eq_none g] at hj;cases hj
    ·cases hj
   obtain ⟨b2,o2,e,hc⟩:=hS.rs j hjl.2
   cases e
   rw [if_pos hjl.1,List.getElem?_eq_getElem hjl.2] at hj
   rw [Addr.add_lit,hc];exact hj
  ·rw [List.length_map,List.length_take];simp;omega
  ·intro v hv
   obtain ⟨y,_,rfl⟩:=List.mem_map.1 hv
   rfl
  ·refine h _ _ ?_ (grownBy_setRowC w g _)
   rw [hrs hg]
   congr 3
   unfold fillC
   rw [hl,List.map_append,List.map_drop]
   simp only [List.take_zero,List.nil_append,Nat.zero_add,List.toList_toArray,List.length_map,List.length_take]
   congr 1
   rcases Nat.lt_or_ge n src.length with g | g
   ·rw [Nat.min_eq_left (by omega),List.drop_eq_nil_of_le (by simp [hl]),List.drop_eq_nil_of_le (by simp [hl];omega)]
   ·rw [Nat.min_eq_right g]
end Go.By
namespace Go.By
open Go.RowKit
def mixS (s:Nat):Nat:=(s + 11400714819323198485) % 18446744073709551616
def mixX (z k:Nat):Nat:=z ^^^ (z / 2 ^ k)
def mixZ (s:Nat):Nat:=mixX (mixX (mixX s 30 * 13787848793156543929 % 18446744073709551616) 27 * 10723151780598845931 % 18446744073709551616) 31
def mixIt (s:Nat):Nat→Nat
 | 0=>s
 | q + 1=>mixS (mixIt s q)
def mixAt (s i:Nat):UInt8:=UInt8.ofNat (mixZ (mixIt s (i / 8 + 1)) / 256 ^ (i % 8))
def mixRow (s n:Nat):List UInt8:=(List.range n).map (mixAt s)
theorem mixRow_len (s n:Nat):(mixRow s n).length = n:=by simp [mixRow]
theorem mixX_lt {z k:Nat} (h:z < 18446744073709551616):mixX z k < 18446744073709551616:=by
 unfold mixX
 exact Nat.xor_lt_two_pow (n:=64) h (Nat.lt_of_le_of_lt (Nat.div_le_self _ _) h)
theorem mixS_lt (s:Nat):mixS s < 18446744073709551616:=Nat.mod_lt _ (by decide)
theorem bits_xor64 {a b:Nat} (ha:a < 18446744073709551616) (hb:b < 18446744073709551616):bits .xor .u64 (a:Int) (b:Int) = ((a ^^^ b:Nat):Int) :=
 bits_xor_nat .u64 64 (by decide) (fun n h1 h2=>by rw [IntKind.wrap_u64];omega) a b ha hb
theorem mixX_bits {z k:Nat} (hz:z < 18446744073709551616):bits .xor .u64 (z:Int) ((z:Int) / ((2 ^ k:Nat):Int)) = (mixX z k:Int):=by
 rw [← Int.natCast_ediv,bits_xor64 hz (Nat.lt_of_le_of_lt (Nat.div_le_self _ _) hz)]
 rfl
theorem wpList_make_bytesC {P:Program} (w:World) {ops:Array Oper} {rest:List Oper} {o:Oper} {a:Act} {Q:Exit→Act→World→Prop} (hg:o.guard = none) (l c:Operand) (t:TypeId) (hop:o.op = Op.makeSlice t l c)
  (e:TypeId) (i:TypeInfo) (h1:P.underlying t = some (.slice e)) (h2:P.info? e = some i) (h3:i.zero = some (.int .u8 0)) (h4:i.size = 1) (h5:i.bytes = 1) (n:Nat) (hl:a.eval l = .int .i64 n) (hc:a.eval c = .int .i64 n) (hn:n≤65536)
  (hK:∀ w',w'.heap[w.heap.size]? = some (.cells ((List.replicate n (0:UInt8)).map B8).toArray e (0,0))→Below w.heap.size w w'→wpList P ops Q rest (a.put o.dst (.slice (some ⟨w.heap.size,0,none⟩) n n)) w'):wpList P ops Q (o :: rest) a w :=
 wpList_plain hg fun _ hK'=>wp_make_bytesC w hg l c t hop e i h1 h2 h3 h4 h5 n hl hc hn (fun w' g e1 e2 e3=>by subst e1;exact hK' _ _ (hK w' e2 e3))
theorem set_toArray {xs:List UInt8} {j:Nat} {v:UInt8} {w:World} {g:Nat} {T:TypeId} (h:w.heap[g]? = some (.cells (xs.map B8).toArray T (0,0))):(w.setCell ⟨g,j,none⟩ (B8 v)).heap[g]? = some (.cells ((xs.set j v).map B8).toArray T (0,0)):=by
 rw [hss h]
 simp [List.map_set]
theorem mixAt_val2 (s q i:Nat) (hi:i < 8):(((mixZ (mixIt s (q + 1)):Nat):Int) / (2 ^ (8 * i):Int)) % 256 = ((mixAt s (8 * q + i)).toNat:Int):=by
 have e1:(8 * q + i) / 8 = q:=by omega
 have e2:(8 * q + i) % 8 = i:=by omega
 unfold mixAt
 rw [e1,e2,UInt8.toNat_ofNat',show (2:Int) ^ (8 * i) = ((256 ^ i:Nat):Int) by rw [Int.natCast_pow,Int.pow_mul];rfl]
 omega
end Go.By
namespace Go.Proofs.YtccaiiigdfieoaaGreatDoor
open Go.RowKit Go.By
set_option maxRecDepth 100000 in
set_option maxHeartbeats 1000000 in
theorem MNext_any (g s:Nat) (w:World) (h:w.heap[g]? = some (.cells #[.int .u64 (s:Nat)] 308 (0,0))) :
  Calls Tryz.prog 236 #[.pointer (some ⟨g,0,none⟩)] w fun e w'=>e = .returned (.int .u64 (mixZ (mixS s):Nat))∧w' = w.setCell ⟨g,0,none⟩ (.int .u64 (mixS s:Nat)):=by
 have c0:=cell_of_row _ _ 0 _ _ _ h
 have z0:=frozen_of_row _ _ 0 _ _ h
 have w1:IntKind.u64.wrap ((s:Int) + 11400714819323198485) = (mixS s:Int):=by rw [IntKind.wrap_u64];unfold mixS;omega
 have hl:=mixS_lt s
 obtain ⟨S,hS⟩:∃ S,S = mixS s:=⟨_,rfl⟩
 unfold mixZ
 rw [← hS] at w1 hl ⊢
 have x1:=mixX_bits (k:=30) hl
 have l1:=mixX_lt (k:=30) hl
 obtain ⟨Y,hY⟩:∃ Y,Y = mixX S 30:=⟨_,rfl⟩
 rw [← hY] at x1 l1 ⊢
 have m1:IntKind.u64.wrap ((Y:Int) * 13787848793156543929) = ((Y * 13787848793156543929 % 18446744073709551616:Nat):Int):=by rw [IntKind.wrap_u64];omega
 obtain ⟨Z,hZ⟩:∃ Z,Z = Y * 13787848793156543929 % 18446744073709551616:=⟨_,rfl⟩
 have lz:Z < 18446744073709551616:=by rw [hZ];exact Nat.mod_lt _ (by decide)
 rw [← hZ] at m1 ⊢
 have x2:=mixX_bits (k:=27) lz
 have l2:=mixX_lt (k:=27) lz
 obtain ⟨Y2,hY2⟩:∃ Y,Y = mixX Z 27:=⟨_,rfl⟩
 rw [← hY2] at x2 l2 ⊢
 have m2:IntKind.u64.wrap ((Y2:Int) * 10723151780598845931) = ((Y2 * 10723151780598845931 % 18446744073709551616:Nat):Int):=by rw [IntKind.wrap_u64];omega
 obtain ⟨Z2,hZ2⟩:∃ Z,Z = Y2 * 10723151780598845931 % 18446744073709551616:=⟨_,rfl⟩
 have lz2:Z2 < 18446744073709551616:=by rw [hZ2];exact Nat.mod_lt _ (by decide)
 rw [← hZ2] at m2 ⊢
 have x3:=mixX_bits (k:=31) lz2
 obtain ⟨Y3,hY3⟩:∃ Y,Y = mixX Z2 31:=⟨_,rfl⟩
 rw [← hY3] at x3 ⊢
 simp only [Nat.reducePow,Int.cast_ofNat_Int] at x1 x2 x3
 clear hS hY hZ hY2 hZ2 hY3 hl l1 lz l2 lz2 h
 go_enter Tryz.func236,Tryz.ntmps236
 go_wp2
 go_ret
 exact ⟨rfl,rfl⟩
set_option maxRecDepth 100000 in
set_option maxHeartbeats 2000000 in
theorem MBytes_any (g s n:Nat) (w:World) (h:w.heap[g]? = some (.cells #[.int .u64 (s:Nat)] 308 (0,0))) (hn:n≤65536) :
  Calls Tryz.prog 210 #[.pointer (some ⟨g,0,none⟩),.int .i64 (n:Nat)] w fun e w'=>∃ G,e = .returned (.tuple #[.slice (some ⟨G,0,none⟩) n n,.int .i64 0])∧w.heap.size≤G∧w'.heap[G]? = some (.cells ((mixRow s n).map B8).toArray 5 (0,0))∧∀ B,B≤g→Below B w w':=by
 obtain ⟨i0,hi,hz0,hz1,hz2⟩:=info_parts info_u8
 have HN:=Lib.hid hn
 have hg:=lt_of_block h
 have H:=Lib.hid h
 clear h
 go_enter Tryz.func210,Tryz.ntmps210
 go_wp2_with (at_make;refine wpList_make_bytesC _ rfl _ _ 22 rfl 5 i0 Tryz.underlying22 hi hz0 hz1 hz2 n rfl rfl HN.out ?_)
 intro w1 h1 hb1
 obtain ⟨G,hG⟩:∃ G,G = w.heap.size:=⟨_,rfl⟩
 rw [← hG] at h1 ⊢
 have HG:Hid (g < G):=by rw [hG];exact hg
 have HS:Hid (w.heap.size≤G):=by rw [hG];exact Nat.le_refl _
 have B1:Hid (∀ B,B≤g→Below B w w1):=fun B hB=>hb1.mono (by omega)
 have H1:=Lib.hid h1
 have H2:=Lib.hid ((hb1.block _ hg).trans H.out)
 clear h1 hb1 hG hg H
 go_wp2
 go_loopw [7] (fun v wr=>∃ q:Nat,v = .int .i64 (8 * q:Nat)∧8 * q≤n + 7∧Hid (wr.heap[g]? = some (.cells #[.int .u64 (mixIt s q:Nat)] 308 (0,0)))∧Hid (wr.heap[G]? = some (.cells ((prog (mixRow s n) (List.replicate n (0:UInt8)) (min (8 * q) n)).map B8).toArray 5 (0,0)))∧Hid (∀ B,B≤g→Below B w wr)) (fun v _=>n + 8 - (intOf v).toNat)
 case atStart=>exact ⟨0,rfl,by omega,H2.out,by rw [Nat.mul_zero,Nat.zero_min,prog_zero];show w1.heap[G]? = _;simpa using H1.out,B1.out⟩
 case round =>
  obtain ⟨q,rfl,hq,R1,R2,R3⟩:=hrel
  by_cases hlt:8 * q < n
  ·go_wp2_with fail
   refine Calls.mono (MNext_any g _ _ R1.out) ?_
   rintro e w2 ⟨rfl,rfl⟩
   have e0:mixS (mixIt s q) = mixIt s (q + 1):=rfl
   rw [e0]
   have F1:=Lib.hid (hss (i:=0) (v:=.int .u64 (mixIt s (q + 1):Nat)) R1.out)
   have F2:=Lib.hid (hsc (a:=⟨g,0,none⟩) (v:=.int .u64 (mixIt s (q + 1):Nat)) R2.out (by have:=HG.out;simp;omega))
   have F3:Hid (∀ B,B≤g→Below B w (wr.setCell ⟨g,0,none⟩ (.int .u64 (mixIt s (q + 1):Nat)))):=fun B hB=>(R3.out B hB).setCell (by simpa using hB) _
   clear R1 R2 R3 e0
   generalize wr.setCell ⟨g,0,none⟩ (.int .u64 (mixIt s (q + 1):Nat)) = w2 at *
   obtain ⟨X,hX⟩:∃ X,X = mixZ (mixIt s (q + 1)):=⟨_,rfl⟩
   rw [← hX]
   have HX:=Lib.hid hX
   clear hX
   rw [show min (8 * q) n = 8 * q by omega] at F2
   by_cases h8:n < 8 * q + 8
   ·obtain ⟨m,hm⟩:∃ m,n = 8 * q + m:=⟨n - 8 * q,by omega⟩
    have eM:(n:Int) - 8 * (q:Int) = (m:Int):=by omega
    have HM:=Lib.hid hm
    have hm8:m < 8:=by omega
    clear hm
    go_wp2
    go_loopw [31] (fun v wr=>∃ i:Nat,v = .int .i64 (i:Nat)∧i≤m∧Hid (wr.heap[g]? = some (.cells #[.int .u64 (mixIt s (q + 1):Nat)] 308 (0,0)))∧Hid (wr.heap[G]? = some (.cells ((prog (mixRow s n) (List.replicate n (0:UInt8)) (8 * q + i)).map B8).toArray 5 (0,0)))∧Hid (∀ B,B≤g→Below B w wr)) (fun v _=>m - (intOf v).toNat)
    case atStart=>exact ⟨0,rfl,by omega,F1.out,by rw [Nat.add_zero];exact F2.out,F3.out⟩
    case round =>
     clear F1 F2 F3
     obtain ⟨i,rfl,hi,I1,I2,I3⟩:=hrel
     by_cases hl:i < m
     ·have hj:8 * q + i < n:=by have:=HM.out;omega
      have cG:wr.cell? ⟨G,8 * q + i,none⟩ = some (B8 0):=by
       rw [cell_of_row _ _ (8 * q + i) _ _ _ I2.out]
       have:=prog_at (mixRow s n) (List.replicate n (0:UInt8)) (8 * q + i) n (mixRow_len s n) (by simp) hj
       simp [this,hj]
      have zG:=frozen_of_row _ _ (8 * q + i) _ _ I2.out
      have hv:=mixAt_val2 s q i (by omega)
      rw [← HX.out] at hv
      have eI:(8 * (q:Int) + (i:Int)).toNat = 8 * q + i:=by omega
      have I4:=Lib.hid (set_toArray (v:=mixAt s (8 * q + i)) (j:=8 * q + i) I2.out)
      have I5:=Lib.hid (hsc (a:=⟨G,8 * q + i,none⟩) (v:=B8 (mixAt s (8 * q + i))) I1.out (by have:=HG.out;simp;omega))
      have I6:Hid (∀ B,B≤g→Below B w (wr.setCell ⟨G,8 * q + i,none⟩ (B8 (mixAt s (8 * q + i))))):=fun B hB=>(I3.out B hB).setCell (by have:=HG.out;simp;omega) _
      clear I1 I2 I3
      go_wp2
      go_roundw
      case rel =>
       refine ⟨i + 1,by go_num,by omega,I5.out,?_,I6.out⟩
       rw [prog_succ _ _ (8 * q + i) n (mixRow_len s n) (by simp) hj (mixAt s (8 * q + i)) (by simp [mixRow,hj])] at I4
       rw [← Nat.add_assoc]
       exact I4.out
      case measure=>simp [intOf];omega
     ·have hiM:i = m:=by omega
      subst hiM
      clear hl hi
      go_wp2
      go_roundw
      case rel =>
       exact ⟨q + 1,by go_num,by omega,I1.out,by rw [show min (8 * (q + 1)) n = 8 * q + i by have:=HM.out;omega];exact I2.out,I3.out⟩
      case measure=>simp [intOf];omega
   ·have HM:Hid (8 * q + 8≤n):=by show 8 * q + 8≤n;omega
    go_wp2
    go_loopw [31] (fun v wr=>∃ i:Nat,v = .int .i64 (i:Nat)∧i≤8∧Hid (wr.heap[g]? = some (.cells #[.int .u64 (mixIt s (q + 1):Nat)] 308 (0,0)))∧Hid (wr.heap[G]? = some (.cells ((prog (mixRow s n) (List.replicate n (0:UInt8)) (8 * q + i)).map B8).toArray 5 (0,0)))∧Hid (∀ B,B≤g→Below B w wr)) (fun v _=>8 - (intOf v).toNat)
    case atStart=>exact ⟨0,rfl,by omega,F1.out,by rw [Nat.add_zero];exact F2.out,F3.out⟩
    case round =>
     clear F1 F2 F3
     obtain ⟨i,rfl,hi,I1,I2,I3⟩:=hrel
     by_cases hl:i < 8
     ·have hj:8 * q + i < n:=by have:=HM.out;omega
      have cG:wr.cell? ⟨G,8 * q + i,none⟩ = some (B8 0):=by
       rw [cell_of_row _ _ (8 * q + i) _ _ _ I2.out]
       have:=prog_at (mixRow s n) (List.replicate n (0:UInt8)) (8 * q + i) n (mixRow_len s n) (by simp) hj
       simp [this,hj]
      have zG:=frozen_of_row _ _ (8 * q + i) _ _ I2.out
      have hv:=mixAt_val2 s q i (by omega)
      rw [← HX.out] at hv
      have eI:(8 * (q:Int) + (i:Int)).toNat = 8 * q + i:=by omega
      have I4:=Lib.hid (set_toArray (v:=mixAt s (8 * q + i)) (j:=8 * q + i) I2.out)
      have I5:=Lib.hid (hsc (a:=⟨G,8 * q + i,none⟩) (v:=B8 (mixAt s (8 * q + i))) I1.out (by have:=HG.out;simp;omega))
      have I6:Hid (∀ B,B≤g→Below B w (wr.setCell ⟨G,8 * q + i,none⟩ (B8 (mixAt s (8 * q + i))))):=fun B hB=>(I3.out B hB).setCell (by have:=HG.out;simp;omega) _
      clear I1 I2 I3
      go_wp2
      go_roundw
      case rel =>
       refine ⟨i + 1,by go_num,by omega,I5.out,?_,I6.out⟩
       rw [prog_succ _ _ (8 * q + i) n (mixRow_len s n) (by simp) hj (mixAt s (8 * q + i)) (by simp [mixRow,hj])] at I4
       rw [← Nat.add_assoc]
       exact I4.out
      case measure=>simp [intOf];omega
     ·have hiM:i = 8:=by omega
      subst hiM
      clear hl hi
      go_wp2
      go_roundw
      case rel =>
       exact ⟨q + 1,by go_num,by omega,I1.out,by rw [show min (8 * (q + 1)) n = 8 * q + 8 by have:=HM.out;omega];exact I2.out,I3.out⟩
      case measure=>simp [intOf];omega
  ·go_wp2
   go_ret2
   refine ⟨G,rfl,HS.out,?_,R3.out⟩
   have:=R2.out
   rw [show min (8 * q) n = n by omega,prog_full _ _ n (mixRow_len s n) (by simp)] at this
   exact this
end Go.Proofs.YtccaiiigdfieoaaGreatDoor
namespace Go.By
open Go.RowKit
def put8At (s i:Nat):UInt8:=UInt8.ofNat (s / 2 ^ (56 - 8 * i))
def put8 (s:Nat):List UInt8:=(List.range 8).map (put8At s)
theorem put8_len (s:Nat):(put8 s).length = 8:=by simp [put8]
def get8 (xs:List UInt8):Nat:=xs.foldl (fun a b=>a * 256 + b.toNat) 0
theorem get8_take {xs:List UInt8} {k:Nat} {x:UInt8} (h:xs[k]? = some x):get8 (xs.take (k + 1)) = get8 (xs.take k) * 256 + x.toNat:=by
 obtain ⟨hk,h⟩:=List.getElem?_eq_some_iff.1 h
 unfold get8
 rw [foldl_take_succ _ _ _ _ hk,h]
theorem get8_lt (xs:List UInt8) (k:Nat):get8 (xs.take k) < 256 ^ k:=by
 induction k with
 | zero=>simp [get8]
 | succ k ih =>
  rcases Nat.lt_or_ge k xs.length with h | h
  ·have e:=get8_take (List.getElem?_eq_getElem h)
   have:=xs[k].toNat_lt
   rw [e,Nat.pow_succ];omega
  ·rw [List.take_of_length_le (by omega)]
   rw [List.take_of_length_le (by omega)] at ih
   rw [Nat.pow_succ];omega
theorem bits_or64 {a b:Nat} (ha:a < 2 ^ 64) (hb:b < 2 ^ 64):bits .or .u64 (a:Int) (b:Int) = ((a ||| b:Nat):Int) :=
 (bits_nat .u64 64 (by decide) (fun n h1 h2=>by rw [IntKind.wrap_u64];omega) a b ha hb).2
theorem put8_val (s i:Nat) (hi:i < 8):((s:Int) / (2 ^ (56 - 8 * i):Int)) % 256 = ((put8At s i).toNat:Int):=by
 unfold put8At
 rw [UInt8.toNat_ofNat',show (2:Int) ^ (56 - 8 * i) = ((2 ^ (56 - 8 * i):Nat):Int) by rw [Int.natCast_pow];rfl]
 omega
end Go.By
namespace Go.Proofs.YtccaiiigdfieoaaGreatDoor
open Go.RowKit Go.By
set_option maxRecDepth 100000 in
set_option maxHeartbeats 1000000 in
theorem MRow_anyF (s n:Nat) (hn:n≤65536) (w:World) :
  Calls Tryz.prog 161 #[.int .u64 (s:Nat),.int .i64 (n:Nat)] w (SRetF 5 w (mixRow s n) 0):=by
 have HN:=Lib.hid hn
 have Hk:∀ w:World,Calls Tryz.prog 209 #[.int .u64 (s:Nat)] w fun e w'=>e = .returned (.pointer (some ⟨w.heap.size,0,none⟩))∧w' = w.alloc (.cells #[.int .u64 (s:Nat)] 308 (0,0)):=by
  intro w
  go_enter Tryz.func209,Tryz.ntmps209
  go_wp2
  go_ret
  exact ⟨rfl,rfl⟩
 have HK:=Lib.hid Hk
 clear Hk hn
 go_enter Tryz.func161,Tryz.ntmps161
 go_wp2_with fail
 refine Calls.mono (HK.out w) ?_
 rintro e w1 ⟨rfl,rfl⟩
 go_wp2_with fail
 refine Calls.mono (MBytes_any w.heap.size s n _ (hnew rfl) HN.out) ?_
 rintro e w2 ⟨G,rfl,hG,h2,hb⟩
 have HB:=Lib.hid ((al (Below.refl w.heap.size w) (Nat.le_refl _)).trans (hb _ (Nat.le_refl _)))
 have H2:=Lib.hid h2
 have HG:Hid (w.heap.size≤G):=by have:=hG;show _≤_;simp at this;omega
 clear hb hG h2
 go_wp2
 go_ret2
 exact ⟨_,_,_,rfl,Fresh.block H2.out (mixRow_len s n) (by have:=HN.out;unfold maxLen;omega) HG.out,HB.out⟩
set_option maxRecDepth 100000 in
set_option maxHeartbeats 2000000 in
theorem MPut_any (s:Nat) (w:World) :
  Calls Tryz.prog 196 #[.int .u64 (s:Nat)] w (SRet1 w (put8 s)):=by
 obtain ⟨i0,hi,hz0,hz1,hz2⟩:=info_parts info_u8
 go_enter Tryz.func196,Tryz.ntmps196
 go_wp2_with (at_make;refine wpList_make_bytesC _ rfl _ _ 22 rfl 5 i0 Tryz.underlying22 hi hz0 hz1 hz2 8 rfl rfl (by decide) ?_)
 intro w1 h1 hb1
 obtain ⟨G,hG⟩:∃ G,G = w.heap.size:=⟨_,rfl⟩
 rw [← hG] at h1 ⊢
 have HG:Hid (w.heap.size≤G):=by rw [hG];exact Nat.le_refl _
 have H1:Hid (w1.heap[G]? = some (.cells ((prog (put8 s) (List.replicate 8 (0:UInt8)) 0).map B8).toArray 5 (0,0))):=by rw [prog_zero];exact h1
 have B1:=Lib.hid hb1
 clear h1 hb1 hG
 go_wp2
 go_loopw [6] (fun v wr=>∃ i:Nat,v = .int .i64 (i:Nat)∧i≤8∧Hid (wr.heap[G]? = some (.cells ((prog (put8 s) (List.replicate 8 (0:UInt8)) i).map B8).toArray 5 (0,0)))∧Hid (Below w.heap.size w wr)) (fun v _=>8 - (intOf v).toNat)
 case atStart=>exact ⟨0,rfl,by omega,H1.out,B1.out⟩
 case round =>
  clear H1 B1
  obtain ⟨i,rfl,hi8,I1,I2⟩:=hrel
  by_cases hl:i < 8
  ·have cG:wr.cell? ⟨G,i,none⟩ = some (B8 0):=by
    rw [cell_of_row _ _ i _ _ _ I1.out]
    have:=prog_at (put8 s) (List.replicate 8 (0:UInt8)) i 8 (put8_len s) (by simp) hl
    rw [List.getElem?_replicate,if_pos hl] at this
    simp only [List.getElem?_toArray,List.getElem?_map,this,Option.map_some]
   have zG:=frozen_of_row _ _ i _ _ I1.out
   have hv:=put8_val s i hl
   have I4:=Lib.hid (set_toArray (v:=put8At s i) (j:=i) I1.out)
   have I6:=Lib.hid (I2.out.setCell (p:=⟨G,i,none⟩) HG.out (B8 (put8At s i)))
   clear I1 I2
   go_wp2
   go_roundw
   case rel =>
    refine ⟨i + 1,by go_num,by omega,?_,I6.out⟩
    rw [prog_succ _ _ i 8 (put8_len s) (by simp) hl (put8At s i) (by simp [put8,hl])] at I4
    exact I4.out
   case measure=>simp [intOf];omega
  ·have hiM:i = 8:=by omega
   subst hiM
   clear hl hi8
   rw [prog_full _ _ 8 (put8_len s) (by simp)] at I1
   go_wp2
   go_ret
   exact ⟨_,_,_,rfl,sl_block (put8 s) 8 I1.out rfl (put8_len s) (by decide),I2.out⟩
theorem get8_or {a x:Nat} (ha:a < 72057594037927936) (hx:x < 256):bits .or .u64 (((a * 256:Nat):Int)) (x:Int) = ((a * 256 + x:Nat):Int):=by
 rw [bits_or64 (by omega) (by omega),or_add (k:=8) (by omega) (by omega)]
set_option maxRecDepth 100000 in
set_option maxHeartbeats 2000000 in
theorem MSeed_any (p:Option Addr) (n c:Nat) (xs:List UInt8) (w:World) (h:Sl B8 w p n c xs) (hn:n = 8) :
  Calls Tryz.prog 218 #[.slice p n c] w fun e w'=>e = .returned (.tuple #[.int .u64 (get8 xs:Nat),.int .i64 0])∧Below w.heap.size w w':=by
 subst hn
 have HL:Hid (get8 (xs.take 8) = get8 xs):=by rw [List.take_of_length_le (by rw [h.len];omega)];rfl
 obtain ⟨T,hT⟩:∃ T:Nat→Nat,T = fun k=>get8 (xs.take k):=⟨_,rfl⟩
 have HT1:Hid (∀ k x,xs[k]? = some x→T (k + 1) = T k * 256 + x.toNat):=fun k x hx=>by rw [hT];exact get8_take hx
 have HT2:Hid (∀ k,k < 8→T k < 72057594037927936):=fun k hk=>by rw [hT];exact Nat.lt_of_lt_of_le (get8_lt xs k) (Nat.le_trans (Nat.pow_le_pow_right (by decide) (show k≤7 by omega)) (by decide))
 have HT0:Hid (T 0 = 0):=by rw [hT];rfl
 have HT8:Hid (T 8 = get8 xs):=by rw [hT];exact HL.out
 have H:=Lib.hid h
 clear hT h HL
 generalize get8 xs = V at *
 go_enter Tryz.func218,Tryz.ntmps218
 go_wp2
 go_loop [4,12] (fun v i=>∃ k:Nat,k≤8∧i = .int .i64 (k:Nat)∧v = .int .u64 (T k:Nat)) (fun _ i=>8 - (intOf i).toNat)
 case atStart=>exact ⟨0,by omega,rfl,by rw [HT0.out];rfl⟩
 case round =>
  obtain ⟨k,hk,rfl,rfl⟩:=hrel
  by_cases hl:k < 8
  ·obtain ⟨b,o,x,rfl,hc,hx⟩:=H.out.at k hl
   have t2:=HT2.out k hl
   have hx8:=x.toNat_lt
   have e1:IntKind.u64.wrap ((T k:Int) * 256) = ((T k * 256:Nat):Int):=by rw [IntKind.wrap_u64];omega
   have e3:IntKind.u64.wrap (x.toNat:Int) = (x.toNat:Int):=by rw [IntKind.wrap_u64];omega
   have e2:=get8_or t2 hx8
   rw [← HT1.out k x hx.out] at e2
   clear t2 hx hx8
   rw [Int.natCast_mul] at e2
   have HE:=Lib.hid e2
   clear e2
   go_wp2
   go_round
   case rel=>exact ⟨k + 1,by omega,by go_num,congrArg _ HE.out⟩
   case measure=>simp [intOf];omega
  ·have hk8:k = 8:=by omega
   subst hk8
   rw [HT8.out]
   clear hl hk
   go_wp2
   go_ret2
   exact ⟨rfl,Below.refl _ _⟩
end Go.Proofs.YtccaiiigdfieoaaGreatDoor
namespace Go.Proofs.YtccaiiigdfieoaaGreatDoor
end Go.Proofs.YtccaiiigdfieoaaGreatDoor
namespace Go.Proofs.YtccaiiigdfieoaaGreatDoor
open Go.RowKit Go.By
abbrev HVal (m:UInt8) (o n:Nat):Value:=.agg #[B8 m,.int .u32 (o:Nat),.int .u32 (n:Nat)]
def modeC (m:UInt8):Int:=if m = 0∨m = 1 then 0 else 8
theorem modeC_range (m:UInt8):modeC m = 0∨modeC m = 8:=by unfold modeC;split <;> simp
set_option maxHeartbeats 1000000 in
theorem HCheck_any (m:UInt8) (o n:Nat) (w:World) :
  Calls Tryz.prog 177 #[HVal m o n] w fun e w'=>e = .returned (.int .i64 (modeC m))∧Below w.heap.size w w':=by
 by_cases h0:m = 0
 ·subst h0
  go_enter Tryz.func177,Tryz.ntmps177
  go_wp2
  go_ret
  exact ⟨rfl,al (Below.refl _ _) (Nat.le_refl _)⟩
 by_cases h1:m = 1
 ·subst h1
  go_enter Tryz.func177,Tryz.ntmps177
  go_wp2
  go_ret
  exact ⟨rfl,al (Below.refl _ _) (Nat.le_refl _)⟩
 ·have e0:((m.toNat:Int) != 0) = true:=bne_iff_ne.2 fun e=>h0 (UInt8.toNat_inj.1 (by show m.toNat = 0;omega))
  have e1:((m.toNat:Int) != 1) = true:=bne_iff_ne.2 fun e=>h1 (UInt8.toNat_inj.1 (by show m.toNat = 1;omega))
  have hC:modeC m = 8:=by unfold modeC;rw [if_neg (by simp [h0,h1])]
  rw [hC]
  clear hC
  go_enter Tryz.func177,Tryz.ntmps177
  go_wp2
  go_ret
  exact ⟨rfl,al (Below.refl _ _) (Nat.le_refl _)⟩
def headB (m:UInt8) (o n:Nat):List UInt8:=[1,m] ++ put4 o ++ put4 n
set_option maxRecDepth 100000 in
set_option maxHeartbeats 2000000 in
theorem HBytes_any (m:UInt8) (o n:Nat) (ho:o < 4294967296) (hn:n < 4294967296) (w:World) :
  Calls Tryz.prog 135 #[HVal m o n] w (SRet w (if modeC m = 0 then headB m o n else []) (modeC m)):=by
 have HO:=Lib.hid ho
 have HN:=Lib.hid hn
 clear ho hn
 by_cases hc:modeC m = 0
 ·rw [hc,if_pos rfl]
  have HK:Hid (∀ w,Calls Tryz.prog 177 #[HVal m o n] w fun e w'=>e = .returned (.int .i64 0)∧Below w.heap.size w w'):=fun w=>by have:=HCheck_any m o n w;rw [hc] at this;exact this
  clear hc
  go_enter Tryz.func135,Tryz.ntmps135
  go_wp2_with fail
  refine Calls.mono (HK.out _) ?_
  rintro e w1 ⟨rfl,hb1⟩
  have HB1:=Lib.hid ((al (Below.refl w.heap.size w) (Nat.le_refl _)).trans (hb1.mono (by simp)))
  have hl:w.heap.size < w1.heap.size:=by have:=hb1.size;simp at this;omega
  have HC:w1.heap[w.heap.size]? = some (.cells #[B8 m,.int .u32 (o:Nat),.int .u32 (n:Nat)] 120 (0,0)):=(hb1.block _ (by simp)).trans (hnew rfl)
  obtain ⟨c0,c1,c2⟩:=cells_three HC
  clear hb1 HC
  go_wp2_with fail
  refine wp_region_shapes (fun ix=>([.val (.pointer (some ⟨w.heap.size,0,none⟩)),.val (B8 m),.bytes ([1,m]),.val (.pointer (some ⟨w.heap.size,1,none⟩)),.val (.int .u32 (o:Nat)),.bytes (put4 o),.val (.pointer (some ⟨w.heap.size,2,none⟩)),.val (.int .u32 (n:Nat)),.bytes (put4 n),.rows ([[1,m],put4 o,put4 n]),.bytes (headB m o n),.bytes (headB m o n),.val (.int .i64 0)][ix]?).getD (.any)) 21 rfl (by kernel_rfl) (by decide) (by decide) (by decide) ?_ ?_
  ·refine ⟨?_,?_,?_,?_,?_,?_,?_,?_,?_,?_,?_,?_,?_,trivial⟩
   ·intro a W hb0 hs hp hi;have hb:=undrew hb0;clear hb0
    have t1:sl a 1 = .pointer (some ⟨w.heap.size,0,none⟩):=hi 1 (by decide)
    refine ite_y rfl (wp_val (.pointer (some ⟨w.heap.size,0,none⟩)) ?_ ?_)
    ·simp only [execOp,eval_tmp,eval_const,t1];simp [go_sem]
    ·exact ⟨_,rfl,Below.refl _ _,rfl⟩
   ·intro a W hb0 hs hp hi;have hb:=undrew hb0;clear hb0
    have tt:sl a 10 = .pointer (some ⟨w.heap.size,0,none⟩):=hp 0 (by decide)
    have dd:=(hb.cell (p:=⟨w.heap.size,0,none⟩) (lt_of_cell c0)).trans c0
    refine ite_y rfl (wp_val (B8 m) ?_ ?_)
    ·simp only [execOp,eval_tmp,tt];simp [go_sem,dd]
    ·exact ⟨_,rfl,Below.refl _ _,rfl⟩
   ·intro a W hb0 hs hp hi;have hb:=undrew hb0;clear hb0
    have t11:sl a 11 = B8 m:=hp 1 (by decide)
    have v11:a.tmps[11]?.getD undef = sl a 11:=by simp [sl]
    rw [t11] at v11
    refine ite_y rfl (wp_val' (w':=W.alloc (.cells #[.int .u8 1,B8 m] 5)) (.slice (some ⟨W.heap.size,0,none⟩) 2 2) ?_ ?_)
    ·simp only [execOp,eval_tmp,eval_const,t11];simp [go_sem,v11]
    ·exact ⟨_,rfl,(al (Below.refl _ _) (Nat.le_refl _)),_,_,_,rfl,sl_block ([1,m]) 2 (hnew rfl) rfl rfl (by simp [maxLen])⟩
   ·intro a W hb0 hs hp hi;have hb:=undrew hb0;clear hb0
    have t1:sl a 1 = .pointer (some ⟨w.heap.size,0,none⟩):=hi 1 (by decide)
    refine ite_y rfl (wp_val (.pointer (some ⟨w.heap.size,1,none⟩)) ?_ ?_)
    ·simp only [execOp,eval_tmp,eval_const,t1];simp [go_sem]
    ·exact ⟨_,rfl,Below.refl _ _,rfl⟩
   ·intro a W hb0 hs hp hi;have hb:=undrew hb0;clear hb0
    have tt:sl a 13 = .pointer (some ⟨w.heap.size,1,none⟩):=hp 3 (by decide)
    have dd:=(hb.cell (p:=⟨w.heap.size,1,none⟩) (lt_of_cell c1)).trans c1
    refine ite_y rfl (wp_val (.int .u32 (o:Nat)) ?_ ?_)
    ·simp only [execOp,eval_tmp,tt];simp [go_sem,dd]
    ·exact ⟨_,rfl,Below.refl _ _,rfl⟩
   ·intro a W hb0 hs hp hi;have hb:=undrew hb0;clear hb0
    have t14:sl a 14 = .int .u32 (o:Nat):=hp 4 (by decide)
    refine ite_y rfl (wp_enter 138 #[.int .u32 (o:Nat)] ?_ (SPut_any o HO.out _) ?_)
    ·simp only [execOp,resolve,List.map_toArray,List.map,eval_tmp,eval_func,eval_const,t14];simp [go_sem]
    ·rintro e W' ⟨g5,rfl,hg5,h5,hw⟩;exact ⟨_,rfl,_,rfl,hw,_,_,_,rfl,sl_block (put4 o) 4 h5 rfl (put4_len o) (by simp [maxLen])⟩
   ·intro a W hb0 hs hp hi;have hb:=undrew hb0;clear hb0
    have t1:sl a 1 = .pointer (some ⟨w.heap.size,0,none⟩):=hi 1 (by decide)
    refine ite_y rfl (wp_val (.pointer (some ⟨w.heap.size,2,none⟩)) ?_ ?_)
    ·simp only [execOp,eval_tmp,eval_const,t1];simp [go_sem]
    ·exact ⟨_,rfl,Below.refl _ _,rfl⟩
   ·intro a W hb0 hs hp hi;have hb:=undrew hb0;clear hb0
    have tt:sl a 16 = .pointer (some ⟨w.heap.size,2,none⟩):=hp 6 (by decide)
    have dd:=(hb.cell (p:=⟨w.heap.size,2,none⟩) (lt_of_cell c2)).trans c2
    refine ite_y rfl (wp_val (.int .u32 (n:Nat)) ?_ ?_)
    ·simp only [execOp,eval_tmp,tt];simp [go_sem,dd]
    ·exact ⟨_,rfl,Below.refl _ _,rfl⟩
   ·intro a W hb0 hs hp hi;have hb:=undrew hb0;clear hb0
    have t17:sl a 17 = .int .u32 (n:Nat):=hp 7 (by decide)
    refine ite_y rfl (wp_enter 138 #[.int .u32 (n:Nat)] ?_ (SPut_any n HN.out _) ?_)
    ·simp only [execOp,resolve,List.map_toArray,List.map,eval_tmp,eval_func,eval_const,t17];simp [go_sem]
    ·rintro e W' ⟨g5,rfl,hg5,h5,hw⟩;exact ⟨_,rfl,_,rfl,hw,_,_,_,rfl,sl_block (put4 n) 4 h5 rfl (put4_len n) (by simp [maxLen])⟩
   ·intro a W hb0 hs hp hi;have hb:=undrew hb0;clear hb0
    have t12:BytesIs ([1,m]) (sl a 12) W:=hp 2 (by decide)
    obtain ⟨y12a,y12b,y12c,t12,z12a⟩:=t12
    have t15:BytesIs (put4 o) (sl a 15) W:=hp 5 (by decide)
    obtain ⟨y15a,y15b,y15c,t15,z15a⟩:=t15
    have t18:BytesIs (put4 n) (sl a 18) W:=hp 8 (by decide)
    obtain ⟨y18a,y18b,y18c,t18,z18a⟩:=t18
    have v12:a.tmps[12]?.getD undef = sl a 12:=by simp [sl]
    rw [t12] at v12
    have v15:a.tmps[15]?.getD undef = sl a 15:=by simp [sl]
    rw [t15] at v15
    have v18:a.tmps[18]?.getD undef = sl a 18:=by simp [sl]
    rw [t18] at v18
    refine ite_y rfl (wp_val' (w':=W.alloc (.cells #[.slice y12a y12b y12c,.slice y15a y15b y15c,.slice y18a y18b y18c] 22)) (.slice (some ⟨W.heap.size,0,none⟩) 3 3) ?_ ?_)
    ·simp only [execOp,eval_tmp,eval_const,t12,t15,t18];simp [go_sem,v12,v15,v18]
    ·exact ⟨_,rfl,(al (Below.refl _ _) (Nat.le_refl _)),_,_,_,rfl,sl2_three (hnew rfl) (z12a.keep (al (Below.refl _ _) (Nat.le_refl _))) (z15a.keep (al (Below.refl _ _) (Nat.le_refl _))) (z18a.keep (al (Below.refl _ _) (Nat.le_refl _)))⟩
   ·intro a W hb0 hs hp hi;have hb:=undrew hb0;clear hb0
    have t19:RowsIs ([[1,m],put4 o,put4 n]) (sl a 19) W:=hp 9 (by decide)
    obtain ⟨y19a,y19b,y19c,t19,z19a⟩:=t19
    refine ite_y rfl (wp_enter 137 #[.slice y19a y19b y19c] ?_ (Concat_any _ _ _ _ _ z19a (by simp [put4_len];unfold Room;omega)) ?_)
    ·simp only [execOp,resolve,List.map_toArray,List.map,eval_tmp,eval_func,eval_const,t19];simp [go_sem]
    ·rintro e W' ⟨q5,m5,g5,_,rfl,o5,hw⟩;exact ⟨_,rfl,_,rfl,hw,q5,m5,g5,rfl,(Sl.of_owns o5).read (by simp [headB])⟩
   ·intro a W hb0 hs hp hi;have hb:=undrew hb0;clear hb0
    exact ite_y rfl (wp_val (sl a 20) rfl ⟨_,rfl,Below.refl _ _,hp 10 (by decide)⟩)
   ·intro a W hb0 hs hp hi;have hb:=undrew hb0;clear hb0
    exact ite_y rfl (wp_val (.int .i64 0) rfl ⟨_,rfl,Below.refl _ _,rfl⟩)
  intro a w9 hb hs hd hI ht
  have ha:=act_is [10,11,12,13,14,15,16,17,18,19,20,2,3] hs hd ht (by decide)
  have t3:sl a 3 = .int .i64 0:=hI 12 (by decide)
  have y2:=hI 11 (by decide)
  obtain ⟨q9,n9,c9,t2,z2⟩:=y2
  simp only [List.foldl,t3,t2] at ha
  generalize sl a 10 = u10 at ha
  generalize sl a 11 = u11 at ha
  generalize sl a 12 = u12 at ha
  generalize sl a 13 = u13 at ha
  generalize sl a 14 = u14 at ha
  generalize sl a 15 = u15 at ha
  generalize sl a 16 = u16 at ha
  generalize sl a 17 = u17 at ha
  generalize sl a 18 = u18 at ha
  generalize sl a 19 = u19 at ha
  generalize sl a 20 = u20 at ha
  simp only [Act.put,List.setIfInBounds_toArray,List.set_cons_zero,List.set_cons_succ] at ha
  rw [ha]
  clear ha hI ht
  go_wp2
  go_ret2
  exact ⟨_,_,_,rfl,z2,stp HB1.out hb rfl (Nat.le_refl _)⟩
 ·have hc8:modeC m = 8:=(modeC_range m).resolve_left hc
  rw [hc8,if_neg (by decide)]
  have HK:Hid (∀ w,Calls Tryz.prog 177 #[HVal m o n] w fun e w'=>e = .returned (.int .i64 8)∧Below w.heap.size w w'):=fun w=>by have:=HCheck_any m o n w;rw [hc8] at this;exact this
  clear hc hc8
  go_enter Tryz.func135,Tryz.ntmps135
  go_wp2_with fail
  refine Calls.mono (HK.out _) ?_
  rintro e w1 ⟨rfl,hb1⟩
  have HB1:=Lib.hid ((al (Below.refl w.heap.size w) (Nat.le_refl _)).trans (hb1.mono (by simp)))
  clear hb1
  go_wp2
  go_ret2
  exact SRet.nil _ _ _ HB1.out
end Go.Proofs.YtccaiiigdfieoaaGreatDoor
namespace Go.Proofs.YtccaiiigdfieoaaGreatDoor
open Go.RowKit Go.By
abbrev SVal (m:UInt8) (p:Option Addr) (n c s:Nat):Value:=.agg #[B8 m,.slice p n c,.int .u64 (s:Nat)]
def widS (m:UInt8) (k:Nat):Nat:=if m = 0 then k else if m = 1 then 8 else 0
def srcC (m:UInt8) (n k:Nat):Int:=if m = 0 then (if n = k then 0 else 4) else modeC m
def srcB (m:UInt8) (xs:List UInt8) (s:Nat):List UInt8:=if m = 0 then xs else put8 s
def vecS (m:UInt8) (xs:List UInt8) (s k:Nat):List UInt8:=if m = 0 then xs else mixRow s k
theorem mode_ne {m:UInt8} (h0:m≠0):((m.toNat:Int) != 0) = true:=bne_iff_ne.2 fun e=>h0 (UInt8.toNat_inj.1 (by show m.toNat = 0;omega))
theorem mode_ne1 {m:UInt8} (h0:m≠1):((m.toNat:Int) != 1) = true:=bne_iff_ne.2 fun e=>h0 (UInt8.toNat_inj.1 (by show m.toNat = 1;omega))
theorem mode_eq {m:UInt8} (h0:m≠0):((m.toNat:Int) == 0) = false:=beq_eq_false_iff_ne.2 fun e=>h0 (UInt8.toNat_inj.1 (by show m.toNat = 0;omega))
set_option maxHeartbeats 1000000 in
theorem RWidth_any (m:UInt8) (k:Nat) (h1:1≤k) (h2:k≤4096) (w:World) :
  Calls Tryz.prog 208 #[B8 m,.int .i64 (k:Nat)] w fun e w'=>e = .returned (.tuple #[.int .i64 (widS m k:Nat),.int .i64 (modeC m)])∧Below w.heap.size w w':=by
 unfold widS
 by_cases h0:m = 0
 ·subst h0
  rw [if_pos rfl,show modeC 0 = 0 from rfl]
  go_enter Tryz.func208,Tryz.ntmps208
  go_wp2
  go_ret2
  exact ⟨rfl,Below.refl _ _⟩
 by_cases h1':m = 1
 ·subst h1'
  rw [if_neg (by decide),if_pos rfl,show modeC 1 = 0 from rfl]
  go_enter Tryz.func208,Tryz.ntmps208
  go_wp2
  go_ret2
  exact ⟨rfl,Below.refl _ _⟩
 ·rw [if_neg h0,if_neg h1']
  have e0:=mode_ne h0
  have e1:=mode_ne1 h1'
  have hC:modeC m = 8:=by unfold modeC;rw [if_neg (by simp [h0,h1'])]
  rw [hC]
  clear hC h0 h1'
  go_enter Tryz.func208,Tryz.ntmps208
  go_wp2
  go_ret2
  exact ⟨rfl,Below.refl _ _⟩
set_option maxHeartbeats 1000000 in
theorem SFits_any (m:UInt8) (p:Option Addr) (n c s k:Nat) (h1:1≤k) (h2:k≤4096) (w:World) :
  Calls Tryz.prog 160 #[SVal m p n c s,.int .i64 (k:Nat)] w fun e w'=>e = .returned (.int .i64 (srcC m n k))∧Below w.heap.size w w':=by
 have HW:Hid (∀ w,Calls Tryz.prog 208 #[B8 m,.int .i64 (k:Nat)] w fun e w'=>e = .returned (.tuple #[.int .i64 (widS m k:Nat),.int .i64 (modeC m)])∧Below w.heap.size w w'):=fun w=>RWidth_any m k h1 h2 w
 clear h1 h2
 generalize hV:widS m k = V at HW
 clear hV
 by_cases h0:m = 0
 ·subst h0
  rw [show modeC 0 = 0 from rfl] at HW
  by_cases hk:n = k
  ·have hC:srcC 0 n k = 0:=by unfold srcC;rw [if_pos rfl,if_pos hk]
   rw [hC]
   subst hk
   clear hC
   go_enter Tryz.func160,Tryz.ntmps160
   go_wp2_with fail
   refine Calls.mono (HW.out _) ?_
   rintro e w1 ⟨rfl,hb⟩
   obtain ⟨hb1,h1,_⟩:=one_of hb
   have HB:=Lib.hid hb1
   obtain ⟨c0,c1,c2⟩:=cells_three h1
   clear hb hb1
   go_wp2
   go_ret
   exact ⟨rfl,HB.out⟩
  ·have hC:srcC 0 n k = 4:=by unfold srcC;rw [if_pos rfl,if_neg hk]
   rw [hC]
   have e0:((n:Int) != (k:Int)) = true:=bne_iff_ne.2 (by omega)
   clear hC hk
   go_enter Tryz.func160,Tryz.ntmps160
   go_wp2_with fail
   refine Calls.mono (HW.out _) ?_
   rintro e w1 ⟨rfl,hb⟩
   obtain ⟨hb1,h1,_⟩:=one_of hb
   have HB:=Lib.hid hb1
   obtain ⟨c0,c1,c2⟩:=cells_three h1
   clear hb hb1
   go_wp2
   go_ret
   exact ⟨rfl,HB.out⟩
 ·have hC:srcC m n k = modeC m:=by unfold srcC;rw [if_neg h0]
  rw [hC]
  clear hC
  have e0:=mode_eq h0
  clear h0
  rcases modeC_range m with hm | hm
  ·rw [hm] at HW ⊢
   clear hm
   go_enter Tryz.func160,Tryz.ntmps160
   go_wp2_with fail
   refine Calls.mono (HW.out _) ?_
   rintro e w1 ⟨rfl,hb⟩
   obtain ⟨hb1,h1,_⟩:=one_of hb
   have HB:=Lib.hid hb1
   obtain ⟨c0,c1,c2⟩:=cells_three h1
   clear hb hb1
   go_wp2
   go_ret
   exact ⟨rfl,HB.out⟩
  ·rw [hm] at HW ⊢
   clear hm
   go_enter Tryz.func160,Tryz.ntmps160
   go_wp2_with fail
   refine Calls.mono (HW.out _) ?_
   rintro e w1 ⟨rfl,hb⟩
   obtain ⟨hb1,h1,_⟩:=one_of hb
   have HB:=Lib.hid hb1
   clear hb hb1
   go_wp2
   go_ret
   exact ⟨rfl,HB.out⟩
set_option maxRecDepth 100000 in
set_option maxHeartbeats 1000000 in
theorem SVector_anyF (m:UInt8) (p:Option Addr) (n c s k:Nat) (xs:List UInt8) (h1:1≤k) (h2:k≤4096) (w:World) (h:Sl B8 w p n c xs) (hr:Room n) :
  Calls Tryz.prog 97 #[SVal m p n c s,.int .i64 (k:Nat)] w (SRetF 5 w (if srcC m n k = 0 then vecS m xs s k else []) (srcC m n k)):=by
 have HW:Hid (∀ w,Calls Tryz.prog 160 #[SVal m p n c s,.int .i64 (k:Nat)] w fun e w'=>e = .returned (.int .i64 (srcC m n k))∧Below w.heap.size w w'):=fun w=>SFits_any m p n c s k h1 h2 w
 have HK:Hid (k≤65536):=by show k≤65536;omega
 have H:=Lib.hid h
 have HR:=Lib.hid hr
 clear h1 h2 h hr
 by_cases hc:srcC m n k = 0
 ·rw [hc] at HW ⊢
  rw [if_pos rfl]
  clear hc
  by_cases h0:m = 0
  ·subst h0
   unfold vecS
   rw [if_pos rfl]
   go_enter Tryz.func97,Tryz.ntmps97
   go_wp2_with fail
   refine Calls.mono (HW.out _) ?_
   rintro e w1 ⟨rfl,hb⟩
   obtain ⟨hb1,h1,_⟩:=one_of hb
   have HB:=Lib.hid hb1
   obtain ⟨c0,c1,c2⟩:=cells_three h1
   clear hb hb1
   go_wp2_with fail
   refine Calls.mono (CloneB_any _ _ _ _ _ (H.out.keep HB.out) HR.out) ?_
   rintro e w2 ⟨q,c',rfl,ho,hb⟩
   have HB2:=Lib.hid (bl HB.out hb HB.out.size)
   have HO:=Lib.hid ho
   clear hb ho
   go_wp2
   go_ret2
   exact ⟨_,_,_,rfl,(Fresh.of_owns HO.out).mono HB.out.size,HB2.out⟩
  ·unfold vecS
   rw [if_neg h0]
   have e0:=mode_eq h0
   clear h0
   go_enter Tryz.func97,Tryz.ntmps97
   go_wp2_with fail
   refine Calls.mono (HW.out _) ?_
   rintro e w1 ⟨rfl,hb⟩
   obtain ⟨hb1,h1,_⟩:=one_of hb
   have HB:=Lib.hid hb1
   obtain ⟨c0,c1,c2⟩:=cells_three h1
   clear hb hb1
   go_wp2_with fail
   refine Calls.mono (MRow_anyF s k HK.out _) ?_
   rintro e w2 ⟨q,n',c',rfl,ho,hb⟩
   have HB2:=Lib.hid (bl HB.out hb HB.out.size)
   have HO:=Lib.hid ho
   clear hb ho
   go_wp2
   go_ret2
   exact ⟨_,_,_,rfl,HO.out.mono HB.out.size,HB2.out⟩
 ·rw [if_neg hc]
  have e0:(srcC m n k != 0) = true:=bne_iff_ne.2 hc
  generalize srcC m n k = C at *
  clear hc
  go_enter Tryz.func97,Tryz.ntmps97
  go_wp2_with fail
  refine Calls.mono (HW.out _) ?_
  rintro e w1 ⟨rfl,hb⟩
  obtain ⟨hb1,h1,_⟩:=one_of hb
  have HB:=Lib.hid hb1
  clear hb hb1
  go_wp2
  go_ret2
  exact SRetF.nil _ _ _ _ HB.out
theorem SVector_any (m:UInt8) (p:Option Addr) (n c s k:Nat) (xs:List UInt8) (h1:1≤k) (h2:k≤4096) (w:World) (h:Sl B8 w p n c xs) (hr:Room n) :
  Calls Tryz.prog 97 #[SVal m p n c s,.int .i64 (k:Nat)] w (SRet w (if srcC m n k = 0 then vecS m xs s k else []) (srcC m n k)):=Calls.mono (SVector_anyF m p n c s k xs h1 h2 w h hr) fun _ _ h=>h.ret
set_option maxRecDepth 100000 in
set_option maxHeartbeats 1000000 in
theorem SWrite_any (m:UInt8) (p:Option Addr) (n c s k:Nat) (xs:List UInt8) (h1:1≤k) (h2:k≤4096) (w:World) (h:Sl B8 w p n c xs) (hr:Room n) :
  Calls Tryz.prog 136 #[SVal m p n c s,.int .i64 (k:Nat)] w (SRet w (if srcC m n k = 0 then srcB m xs s else []) (srcC m n k)):=by
 have HW:Hid (∀ w,Calls Tryz.prog 160 #[SVal m p n c s,.int .i64 (k:Nat)] w fun e w'=>e = .returned (.int .i64 (srcC m n k))∧Below w.heap.size w w'):=fun w=>SFits_any m p n c s k h1 h2 w
 have H:=Lib.hid h
 have HR:=Lib.hid hr
 clear h1 h2 h hr
 by_cases hc:srcC m n k = 0
 ·rw [hc] at HW ⊢
  rw [if_pos rfl]
  clear hc
  by_cases h0:m = 0
  ·subst h0
   unfold srcB
   rw [if_pos rfl]
   go_enter Tryz.func136,Tryz.ntmps136
   go_wp2_with fail
   refine Calls.mono (HW.out _) ?_
   rintro e w1 ⟨rfl,hb⟩
   obtain ⟨hb1,h1,_⟩:=one_of hb
   have HB:=Lib.hid hb1
   obtain ⟨c0,c1,c2⟩:=cells_three h1
   clear hb hb1
   go_wp2_with fail
   refine Calls.mono (CloneB_any _ _ _ _ _ (H.out.keep HB.out) HR.out) ?_
   rintro e w2 ⟨q,c',rfl,ho,hb⟩
   have HB2:=Lib.hid (bl HB.out hb HB.out.size)
   have HO:=Lib.hid ho
   clear hb ho
   go_wp2
   go_ret2
   exact ⟨_,_,_,rfl,Sl.of_owns HO.out,HB2.out⟩
  ·unfold srcB
   rw [if_neg h0]
   have e0:=mode_eq h0
   clear h0
   go_enter Tryz.func136,Tryz.ntmps136
   go_wp2_with fail
   refine Calls.mono (HW.out _) ?_
   rintro e w1 ⟨rfl,hb⟩
   obtain ⟨hb1,h1,_⟩:=one_of hb
   have HB:=Lib.hid hb1
   obtain ⟨c0,c1,c2⟩:=cells_three h1
   clear hb hb1
   go_wp2_with fail
   refine Calls.mono (MPut_any s _) ?_
   rintro e w2 ⟨q,n',c',rfl,ho,hb⟩
   have HB2:=Lib.hid (bl HB.out hb HB.out.size)
   have HO:=Lib.hid ho
   clear hb ho
   go_wp2
   go_ret2
   exact ⟨_,_,_,rfl,HO.out,HB2.out⟩
 ·rw [if_neg hc]
  have e0:(srcC m n k != 0) = true:=bne_iff_ne.2 hc
  generalize srcC m n k = C at *
  clear hc
  go_enter Tryz.func136,Tryz.ntmps136
  go_wp2_with fail
  refine Calls.mono (HW.out _) ?_
  rintro e w1 ⟨rfl,hb⟩
  obtain ⟨hb1,h1,_⟩:=one_of hb
  have HB:=Lib.hid hb1
  clear hb hb1
  go_wp2
  go_ret2
  exact SRet.nil _ _ _ HB.out
end Go.Proofs.YtccaiiigdfieoaaGreatDoor
namespace Go.Proofs.YtccaiiigdfieoaaGreatDoor
open Go.RowKit Go.By
theorem src_ne:83≠5:=by decide
theorem info_source:(Tryz.prog.info? 83).map (·.size) = some 3:=by kernel_rfl
set_option maxRecDepth 100000 in
set_option maxHeartbeats 1000000 in
theorem RExplicit_any (p:Option Addr) (n c:Nat) (xs:List UInt8) (w:World) (h:Sl B8 w p n c xs) (hr:Room n) :
  Calls Tryz.prog 81 #[.slice p n c] w fun e w'=>∃ q c',e = .returned (SVal 0 q n c' 0)∧Fresh 5 w.heap.size w' q n c' xs∧Below w.heap.size w w':=by
 have H:=Lib.hid h
 have HR:=Lib.hid hr
 clear h hr
 go_enter Tryz.func81,Tryz.ntmps81
 go_wp2_with fail
 refine Calls.mono (CloneB_any _ _ _ _ _ (H.out.keep (al (Below.refl _ _) (Nat.le_refl _))) HR.out) ?_
 rintro e w2 ⟨q,c',rfl,ho,hb⟩
 obtain ⟨hb1,h1,_⟩:=one_of hb
 have HB:=Lib.hid hb1
 have HO:=Lib.hid ho
 clear hb hb1 ho
 go_wp2_with (refine wpList_store_row (o:=⟨none,.store 83 (.tmp 2) (.tmp 5),_,_,_,_⟩) rfl 83 (.tmp 2) (.tmp 5) rfl w.heap.size #[.int .u8 0,.slice q n c',.int .u64 0] rfl rfl _ _ h1 info_source rfl (by simp [Value.oneCell']) ?_)
 refine bodyPost_ret (results_cell_row rfl _ _ _ 83 #[.int .u8 0,.slice q n c',.int .u64 0] (0,0) _ rfl (hrs h1) Tryz.underlying83 rfl info_source) rfl ?_
 exact ⟨q,c',rfl,((Fresh.of_owns HO.out).mono (by simp)).row h1 src_ne,below_row HB.out (Nat.le_refl _)⟩
set_option maxRecDepth 100000 in
set_option maxHeartbeats 1000000 in
theorem RSeeded_any (s:Nat) (w:World) :
  Calls Tryz.prog 219 #[.int .u64 (s:Nat)] w fun e w'=>e = .returned (SVal 1 none 0 0 s)∧Below w.heap.size w w':=by
 go_enter Tryz.func219,Tryz.ntmps219
 go_wp2
 refine bodyPost_ret (results_cell_row rfl _ _ _ 83 #[.int .u8 1,.slice none 0 0,.int .u64 (s:Nat)] (0,0) _ rfl ?_ Tryz.underlying83 rfl info_source) rfl ?_
 ·exact hnew rfl
 ·exact ⟨rfl,al (Below.refl _ _) (Nat.le_refl _)⟩
def rdX (m:UInt8) (xs:List UInt8):List UInt8:=if m = 0 then xs else []
def rdS (m:UInt8) (xs:List UInt8):Nat:=if m = 0 then 0 else get8 xs
set_option maxRecDepth 100000 in
set_option maxHeartbeats 1000000 in
theorem RRead_any (m:UInt8) (k:Nat) (p:Option Addr) (n c:Nat) (xs:List UInt8) (w:World) (hm:modeC m = 0) (h1:1≤k) (h2:k≤4096) (h:Sl B8 w p n c xs) (hn:n = widS m k) :
  Calls Tryz.prog 175 #[B8 m,.int .i64 (k:Nat),.slice p n c] w fun e w'=>∃ q n' c',e = .returned (.tuple #[SVal m q n' c' (rdS m xs),.int .i64 0])∧Fresh 5 w.heap.size w' q n' c' (rdX m xs)∧Below w.heap.size w w':=by
 have HW:Hid (∀ w,Calls Tryz.prog 208 #[B8 m,.int .i64 (k:Nat)] w fun e w'=>e = .returned (.tuple #[.int .i64 (widS m k:Nat),.int .i64 0])∧Below w.heap.size w w'):=fun w=>by have:=RWidth_any m k h1 h2 w;rw [hm] at this;exact this
 have HR:Hid (Room n):=by show n≤140737488355328;rw [hn];unfold widS;split <;> (try split) <;> omega
 have H:=Lib.hid h
 have hm01:m = 0∨m = 1:=by
  unfold modeC at hm
  split at hm
  ·assumption
  ·cases hm
 have hnm:=h.bound
 have hn8:m = 1→n = 8:=fun e=>by rw [hn,e];rfl
 rw [← hn] at HW
 clear h1 h2 h hn hm
 rcases hm01 with rfl | rfl
 ·clear hn8
  unfold rdX rdS
  rw [if_pos rfl,if_pos rfl]
  go_enter Tryz.func175,Tryz.ntmps175
  go_wp2_with fail
  refine Calls.mono (HW.out _) ?_
  rintro e w1 ⟨rfl,hb⟩
  obtain ⟨hb1,h1,hs⟩:=one_of hb
  have HB:=Lib.hid hb1
  clear hb hb1
  go_wp2_with fail
  refine Calls.mono (RExplicit_any _ _ _ _ _ (H.out.keep HB.out) HR.out) ?_
  rintro e w2 ⟨q,c',rfl,hsl,hb⟩
  have h1':=(hb.block _ (by omega)).trans h1
  have HB2:=Lib.hid (bl HB.out hb HB.out.size)
  have HS:=Lib.hid (hsl.mono HB.out.size)
  clear hb hsl h1
  go_wp2_with (refine wpList_store_row (o:=⟨none,.store 83 (.tmp 6) (.tmp 29),_,_,_,_⟩) rfl 83 (.tmp 6) (.tmp 29) rfl w.heap.size #[.int .u8 0,.slice q n c',.int .u64 0] rfl rfl _ _ h1' info_source rfl (by simp [Value.oneCell']) ?_)
  refine bodyPost_ret (res_ct rfl _ _ _ 83 #[.int .u8 0,.slice q n c',.int .u64 0] (0,0) _ (.int .i64 0) rfl (hrs h1') rfl Tryz.underlying83 rfl info_source) rfl ?_
  exact ⟨q,n,c',rfl,HS.out.row h1' src_ne,below_row HB2.out (Nat.le_refl _)⟩
 ·obtain rfl:n = 8:=hn8 rfl
  clear hn8
  unfold rdX rdS
  rw [if_neg (by decide),if_neg (by decide)]
  obtain ⟨S,hS⟩:∃ S,get8 xs = S:=⟨_,rfl⟩
  rw [hS]
  have HSS:=Lib.hid hS
  clear hS
  go_enter Tryz.func175,Tryz.ntmps175
  go_wp2_with fail
  refine Calls.mono (HW.out _) ?_
  rintro e w1 ⟨rfl,hb⟩
  obtain ⟨hb1,h1,hs⟩:=one_of hb
  have HB:=Lib.hid hb1
  clear hb hb1
  go_wp2_with fail
  refine Calls.mono (MSeed_any _ _ _ _ _ (H.out.keep HB.out) rfl) ?_
  rintro e w2 ⟨rfl,hb⟩
  have h1':=(hb.block _ (by omega)).trans h1
  have HB2:=Lib.hid (bl HB.out hb HB.out.size)
  have hs2:=hb.size
  clear hb h1
  rw [HSS.out]
  go_wp2_with fail
  refine Calls.mono (RSeeded_any S _) ?_
  rintro e w3 ⟨rfl,hb⟩
  have h1:=(hb.block _ (by omega)).trans h1'
  have HB3:=Lib.hid (bl HB2.out hb HB2.out.size)
  clear hb h1'
  go_wp2_with (refine wpList_store_row (o:=⟨none,.store 83 (.tmp 6) (.tmp 40),_,_,_,_⟩) rfl 83 (.tmp 6) (.tmp 40) rfl w.heap.size #[.int .u8 1,.slice none 0 0,.int .u64 (S:Nat)] rfl rfl _ _ h1 info_source rfl (by simp [Value.oneCell']) ?_)
  refine bodyPost_ret (res_ct rfl _ _ _ 83 #[.int .u8 1,.slice none 0 0,.int .u64 (S:Nat)] (0,0) _ (.int .i64 0) rfl (hrs h1) rfl Tryz.underlying83 rfl info_source) rfl ?_
  exact ⟨none,0,0,rfl,Fresh.none _ _ _,below_row HB3.out (Nat.le_refl _)⟩
end Go.Proofs.YtccaiiigdfieoaaGreatDoor
namespace Go.Proofs.YtccaiiigdfieoaaGreatDoor
open Go.RowKit Go.By
structure POK (L t k D:Nat):Prop where
 chk:checkS (L:Int) (t:Int) (k:Int) = 0
 l:(L:Int)≤9223372036854775807
 t1:1≤t
 t2:t≤65535
 k1:1≤k
 k2:k≤4096
 d:D < 4294967296
abbrev PVal (L t k D:Nat):Value:=.agg #[.int .i64 (L:Nat),.int .i64 (t:Nat),.int .i64 (k:Nat),.int .u32 (D:Nat)]
theorem PCheck_ok {L t k D:Nat} (h:POK L t k D) (w:World):Calls Tryz.prog 79 #[PVal L t k D] w fun e w'=>e = .returned (.int .i64 0)∧Below w.heap.size w w':=by
 have:=Check_any (L:Int) (t:Int) (k:Int) (D:Int) w h.l
 rw [h.chk] at this
 exact this
def lenP (m:UInt8) (k t:Nat):Nat:=10 + widS m k + t + 4
set_option maxRecDepth 100000 in
set_option maxHeartbeats 1000000 in
theorem PLength_ok (L t k D:Nat) (m:UInt8) (w:World) (hP:POK L t k D) (hm:modeC m = 0) :
  Calls Tryz.prog 173 #[PVal L t k D,B8 m] w fun e w'=>e = .returned (.tuple #[.int .i64 (lenP m k t:Nat),.int .i64 0])∧Below w.heap.size w w':=by
 have HK:Hid (∀ w,Calls Tryz.prog 79 #[PVal L t k D] w fun e w'=>e = .returned (.int .i64 0)∧Below w.heap.size w w'):=PCheck_ok hP
 have HW:Hid (∀ w,Calls Tryz.prog 208 #[B8 m,.int .i64 (k:Nat)] w fun e w'=>e = .returned (.tuple #[.int .i64 (widS m k:Nat),.int .i64 0])∧Below w.heap.size w w'):=fun w=>by have:=RWidth_any m k hP.k1 hP.k2 w;rw [hm] at this;exact this
 have hV:widS m k≤4096:=by have:=hP.k1;have:=hP.k2;unfold widS;split <;> (try split) <;> omega
 have ht:=hP.t2
 have HL:Hid (lenP m k t = 10 + widS m k + t + 4):=rfl
 generalize lenP m k t = N at *
 generalize widS m k = V at *
 clear hP hm
 go_enter Tryz.func173,Tryz.ntmps173
 go_wp2_with fail
 refine Calls.mono (HK.out _) ?_
 rintro e w1 ⟨rfl,hb⟩
 obtain ⟨hb1,h1,hs⟩:=one_of hb
 have HB:=Lib.hid hb1
 obtain ⟨c0,c1,c2,c3⟩:=cells_four h1
 clear hb hb1
 go_wp2_with fail
 refine Calls.mono (HW.out _) ?_
 rintro e w2 ⟨rfl,hb⟩
 have h2:=(hb.block _ (by omega)).trans h1
 have HB2:=Lib.hid (bl HB.out hb HB.out.size)
 clear hb h1 c0 c1 c2 c3
 obtain ⟨c0,c1,c2,c3⟩:=cells_four h2
 go_wp2
 go_ret2
 refine ⟨?_,HB2.out⟩
 rw [HL.out]
 congr 4
abbrev PkVal (m:UInt8) (o n:Nat) (sm:UInt8) (p:Option Addr) (j c s:Nat) (q:Option Addr) (t d:Nat):Value:=.agg #[B8 m,.int .u32 (o:Nat),.int .u32 (n:Nat),B8 sm,.slice p j c,.int .u64 (s:Nat),.slice q t d]
theorem cells_seven {w:World} {b T:Nat} {u v x y z r e:Value} (h:w.heap[b]? = some (.cells #[u,v,x,y,z,r,e] T (0,0))):w.cell? ⟨b,0,none⟩ = some u∧w.cell? ⟨b,1,none⟩ = some v∧w.cell? ⟨b,2,none⟩ = some x∧w.cell? ⟨b,3,none⟩ = some y∧w.cell? ⟨b,4,none⟩ = some z∧w.cell? ⟨b,5,none⟩ = some r∧w.cell? ⟨b,6,none⟩ = some e :=
 ⟨cell_of_row _ _ 0 _ _ _ h,cell_of_row _ _ 1 _ _ _ h,cell_of_row _ _ 2 _ _ _ h,cell_of_row _ _ 3 _ _ _ h,cell_of_row _ _ 4 _ _ _ h,cell_of_row _ _ 5 _ _ _ h,cell_of_row _ _ 6 _ _ _ h⟩
set_option maxRecDepth 100000 in
set_option maxHeartbeats 2000000 in
theorem PFits_ok (L t k D n:Nat) (m:UInt8) (p:Option Addr) (j c s:Nat) (q:Option Addr) (d:Nat) (w:World) (hP:POK L t k D) (hm:modeC m = 0) (hj:m = 0→j = k) :
  Calls Tryz.prog 112 #[PkVal m D n m p j c s q t d,PVal L t k D] w fun e w'=>e = .returned (.int .i64 0)∧Below w.heap.size w w':=by
 have HK:Hid (∀ w,Calls Tryz.prog 79 #[PVal L t k D] w fun e w'=>e = .returned (.int .i64 0)∧Below w.heap.size w w'):=PCheck_ok hP
 have HC:Hid (∀ w,Calls Tryz.prog 177 #[HVal m D n] w fun e w'=>e = .returned (.int .i64 0)∧Below w.heap.size w w'):=fun w=>by have:=HCheck_any m D n w;rw [hm] at this;exact this
 have ht:=hP.t2
 clear hP hm
 by_cases h0:m = 0
 ·subst h0
  obtain rfl:=hj rfl
  clear hj
  go_enter Tryz.func112,Tryz.ntmps112
  go_wp2_with fail
  refine Calls.mono (HK.out _) ?_
  rintro e w1 ⟨rfl,hb⟩
  obtain ⟨hb1,h1,h2,hs⟩:=two_of hb
  have HB:=Lib.hid hb1
  obtain ⟨c0,c1,c2,c3,c4,c5,c6⟩:=cells_seven h1
  clear hb hb1
  go_wp2_with fail
  refine Calls.mono (HC.out _) ?_
  rintro e w2 ⟨rfl,hb⟩
  have h1':=(hb.block _ (by omega)).trans h1
  have h2':=(hb.block _ (by omega)).trans h2
  have HB2:=Lib.hid (bl HB.out hb HB.out.size)
  clear hb h1 h2 c0 c1 c2 c3 c4 c5 c6
  obtain ⟨c0,c1,c2,c3,c4,c5,c6⟩:=cells_seven h1'
  obtain ⟨d0,d1,d2,d3⟩:=cells_four h2'
  go_wp2
  go_ret
  exact ⟨rfl,HB2.out⟩
 ·have e0:=mode_eq h0
  clear hj h0
  go_enter Tryz.func112,Tryz.ntmps112
  go_wp2_with fail
  refine Calls.mono (HK.out _) ?_
  rintro e w1 ⟨rfl,hb⟩
  obtain ⟨hb1,h1,h2,hs⟩:=two_of hb
  have HB:=Lib.hid hb1
  obtain ⟨c0,c1,c2,c3,c4,c5,c6⟩:=cells_seven h1
  clear hb hb1
  go_wp2_with fail
  refine Calls.mono (HC.out _) ?_
  rintro e w2 ⟨rfl,hb⟩
  have h1':=(hb.block _ (by omega)).trans h1
  have h2':=(hb.block _ (by omega)).trans h2
  have HB2:=Lib.hid (bl HB.out hb HB.out.size)
  clear hb h1 h2 c0 c1 c2 c3 c4 c5 c6
  obtain ⟨c0,c1,c2,c3,c4,c5,c6⟩:=cells_seven h1'
  obtain ⟨d0,d1,d2,d3⟩:=cells_four h2'
  go_wp2
  go_ret
  exact ⟨rfl,HB2.out⟩
end Go.Proofs.YtccaiiigdfieoaaGreatDoor
namespace Go.Proofs.YtccaiiigdfieoaaGreatDoor
open Go.RowKit Go.By
def bodyP (m:UInt8) (o n:Nat) (xs:List UInt8) (s:Nat) (ys:List UInt8):List UInt8:=headB m o n ++ srcB m xs s ++ ys
def pktB (m:UInt8) (o n:Nat) (xs:List UInt8) (s:Nat) (ys:List UInt8):List UInt8:=bodyP m o n xs s ys ++ put4 (crcS (bodyP m o n xs s ys))
set_option maxRecDepth 100000 in
set_option maxHeartbeats 4000000 in
theorem PWrite_okF (L t k D n:Nat) (m:UInt8) (p:Option Addr) (j c s:Nat) (q:Option Addr) (d:Nat) (xs ys:List UInt8) (w:World) (hP:POK L t k D) (hn:n < 4294967296) (hm:modeC m = 0) (hj:m = 0→j = k) (hr:Room j) (h1:Sl B8 w p j c xs) (h2:Sl B8 w q t d ys) (hT:HalfT w) :
  Calls Tryz.prog 82 #[PkVal m D n m p j c s q t d,PVal L t k D] w (SRetF 5 w (pktB m D n xs s ys) 0):=by
 have HF:Hid (∀ w,Calls Tryz.prog 112 #[PkVal m D n m p j c s q t d,PVal L t k D] w fun e w'=>e = .returned (.int .i64 0)∧Below w.heap.size w w'):=fun w=>PFits_ok L t k D n m p j c s q d w hP hm hj
 have HH:Hid (∀ w,Calls Tryz.prog 135 #[HVal m D n] w (SRet w (headB m D n) 0)):=fun w=>by have:=HBytes_any m D n hP.d hn w;rw [hm,if_pos rfl] at this;exact this
 have hsc:srcC m j k = 0:=by
  unfold srcC
  by_cases h0:m = 0
  ·rw [if_pos h0,if_pos (hj h0)]
  ·rw [if_neg h0,hm]
 have HS:Hid (∀ w,Sl B8 w p j c xs→Calls Tryz.prog 136 #[SVal m p j c s,.int .i64 (k:Nat)] w (SRet w (srcB m xs s) 0)):=fun w h=>by have:=SWrite_any m p j c s k xs hP.k1 hP.k2 w h hr;rw [hsc,if_pos rfl] at this;exact this
 have HT:=Lib.hid hT
 have H1:=Lib.hid h1
 have H2:=Lib.hid h2
 obtain ⟨B,hB⟩:∃ B,headB m D n = B:=⟨_,rfl⟩
 obtain ⟨S,hS⟩:∃ S,srcB m xs s = S:=⟨_,rfl⟩
 have hBl:B.length = 10:=by rw [← hB];simp [headB,put4_len]
 have hSl : S.length ≤ 140737488355328 := by rw [← hS]; unfold srcB; split; · rw [h1.len]; exact hr
                                             ·rw [put8_len];decide
 have hYl:=h2.len
 have ht2:=hP.t2
 have HRm:Hid (Room [B,S,ys,put4 (crcS [B,S,ys].flatten)].flatten.length):=by
  show _≤_
  simp [put4_len]
  have:=hr
  unfold srcB at hS
  by_cases h0:m = 0
  ·rw [if_pos h0] at hS
   have:=hj h0;have:=hP.k2;have:=h1.len;rw [hS] at this;omega
  ·rw [if_neg h0] at hS
   have:=put8_len s;rw [hS] at this;omega
 have hE:pktB m D n xs s ys = [B,S,ys,put4 (crcS [B,S,ys].flatten)].flatten:=by
  unfold pktB bodyP
  rw [hB,hS];simp
 rw [hE]
 rw [hB] at HH
 rw [hS] at HS
 have HL:Hid (crcS [B,S,ys].flatten < 4294967296):=crcS_lt _
 clear hB hS hBl hSl hYl ht2 hE hsc h1 h2 hT hr hj hm hP hn
 go_enter Tryz.func82,Tryz.ntmps82
 go_wp2_with fail
 refine Calls.mono (HF.out _) ?_
 rintro e w1 ⟨rfl,hb⟩
 obtain ⟨hb1,h1,h2,hs⟩:=two_of hb
 have HB:=Lib.hid hb1
 obtain ⟨c0,c1,c2,c3,c4,c5,c6⟩:=cells_seven h1
 clear hb hb1
 go_wp2_with fail
 refine Calls.mono (HH.out _) ?_
 rintro e w2 ⟨q1,n1,k1,rfl,hq,hb⟩
 have h1':=(hb.block _ (by omega)).trans h1
 have h2':=(hb.block _ (by omega)).trans h2
 have hs2:=hb.size
 have HB2:=Lib.hid (bl HB.out hb HB.out.size)
 have HQ:=Lib.hid hq
 clear hb hq h1 h2 c0 c1 c2 c3 c4 c5 c6
 obtain ⟨c0,c1,c2,c3,c4,c5,c6⟩:=cells_seven h1'
 obtain ⟨d0,d1,d2,d3⟩:=cells_four h2'
 go_wp2_with fail
 refine Calls.mono (HS.out _ (H1.out.keep HB2.out)) ?_
 rintro e w3 ⟨q2,n2,k2,rfl,hq,hb⟩
 have h1:=(hb.block _ (by omega)).trans h1'
 have HB3:=Lib.hid (bl HB2.out hb HB2.out.size)
 have HQ1:=Lib.hid (HQ.out.keep hb)
 have HQ2:=Lib.hid hq
 have H2':=Lib.hid (H2.out.keep HB3.out)
 have HT':=Lib.hid (HT.out.keep HB3.out)
 clear hb hq h1' h2' c0 c1 c2 c3 c4 c5 c6 d0 d1 d2 d3
 have c6:=(cells_seven h1).2.2.2.2.2.2
 clear h1
 go_wp2_with fail
 refine wp_region_shapes (fun ix=>([.val (.slice q1 n1 k1),.val (.slice q2 n2 k2),.val (.pointer (some ⟨w.heap.size,6,none⟩)),.val (.slice q t d),.val (.slice q1 n1 k1),.val (.slice q2 n2 k2),.val (.pointer (some ⟨w.heap.size,6,none⟩)),.val (.slice q t d),.rows ([B,S,ys]),.val (.int .u32 (crcS [B,S,ys].flatten:Nat)),.bytes (put4 (crcS [B,S,ys].flatten)),.rows ([B,S,ys,put4 (crcS [B,S,ys].flatten)]),(ShF 5 w.heap.size ([B,S,ys,put4 (crcS [B,S,ys].flatten)].flatten)),(ShF 5 w.heap.size ([B,S,ys,put4 (crcS [B,S,ys].flatten)].flatten)),.val (.int .i64 0)][ix]?).getD (.any)) 49 rfl (by kernel_rfl) (by decide +kernel) (by decide +kernel) (by decide +kernel) ?_ ?_
 ·refine ⟨?_,?_,?_,?_,?_,?_,?_,?_,?_,?_,?_,?_,?_,?_,?_,trivial⟩
  ·intro a W hb0 hs hp hi;have hb:=undrew hb0;clear hb0
   have t7:sl a 7 = .slice q1 n1 k1:=hi 7 (by decide)
   exact ite_y rfl (wp_val (sl a 7) rfl ⟨_,rfl,Below.refl _ _,t7⟩)
  ·intro a W hb0 hs hp hi;have hb:=undrew hb0;clear hb0
   have t9:sl a 9 = .slice q2 n2 k2:=hi 9 (by decide)
   exact ite_y rfl (wp_val (sl a 9) rfl ⟨_,rfl,Below.refl _ _,t9⟩)
  ·intro a W hb0 hs hp hi;have hb:=undrew hb0;clear hb0
   have t2:sl a 2 = .pointer (some ⟨w.heap.size,0,none⟩):=hi 2 (by decide)
   refine ite_y rfl (wp_val (.pointer (some ⟨w.heap.size,6,none⟩)) ?_ ?_)
   ·simp only [execOp,eval_tmp,eval_const,t2];simp [go_sem]
   ·exact ⟨_,rfl,Below.refl _ _,rfl⟩
  ·intro a W hb0 hs hp hi;have hb:=undrew hb0;clear hb0
   have tt:sl a 38 = .pointer (some ⟨w.heap.size,6,none⟩):=hp 2 (by decide)
   have dd:=(hb.cell (p:=⟨w.heap.size,6,none⟩) (lt_of_cell c6)).trans c6
   refine ite_y rfl (wp_val (.slice q t d) ?_ ?_)
   ·simp only [execOp,eval_tmp,tt];simp [go_sem,dd]
   ·exact ⟨_,rfl,Below.refl _ _,rfl⟩
  ·intro a W hb0 hs hp hi;have hb:=undrew hb0;clear hb0
   have t7:sl a 7 = .slice q1 n1 k1:=hi 7 (by decide)
   exact ite_y rfl (wp_val (sl a 7) rfl ⟨_,rfl,Below.refl _ _,t7⟩)
  ·intro a W hb0 hs hp hi;have hb:=undrew hb0;clear hb0
   have t9:sl a 9 = .slice q2 n2 k2:=hi 9 (by decide)
   exact ite_y rfl (wp_val (sl a 9) rfl ⟨_,rfl,Below.refl _ _,t9⟩)
  ·intro a W hb0 hs hp hi;have hb:=undrew hb0;clear hb0
   have t2:sl a 2 = .pointer (some ⟨w.heap.size,0,none⟩):=hi 2 (by decide)
   refine ite_y rfl (wp_val (.pointer (some ⟨w.heap.size,6,none⟩)) ?_ ?_)
   ·simp only [execOp,eval_tmp,eval_const,t2];simp [go_sem]
   ·exact ⟨_,rfl,Below.refl _ _,rfl⟩
  ·intro a W hb0 hs hp hi;have hb:=undrew hb0;clear hb0
   have tt:sl a 42 = .pointer (some ⟨w.heap.size,6,none⟩):=hp 6 (by decide)
   have dd:=(hb.cell (p:=⟨w.heap.size,6,none⟩) (lt_of_cell c6)).trans c6
   refine ite_y rfl (wp_val (.slice q t d) ?_ ?_)
   ·simp only [execOp,eval_tmp,tt];simp [go_sem,dd]
   ·exact ⟨_,rfl,Below.refl _ _,rfl⟩
  ·intro a W hb0 hs hp hi;have hb:=undrew hb0;clear hb0
   have t40:sl a 40 = .slice q1 n1 k1:=hp 4 (by decide)
   have t41:sl a 41 = .slice q2 n2 k2:=hp 5 (by decide)
   have t43:sl a 43 = .slice q t d:=hp 7 (by decide)
   have v40:a.tmps[40]?.getD undef = sl a 40:=by simp [sl]
   rw [t40] at v40
   have v41:a.tmps[41]?.getD undef = sl a 41:=by simp [sl]
   rw [t41] at v41
   have v43:a.tmps[43]?.getD undef = sl a 43:=by simp [sl]
   rw [t43] at v43
   refine ite_y rfl (wp_val' (w':=W.alloc (.cells #[.slice q1 n1 k1,.slice q2 n2 k2,.slice q t d] 22)) (.slice (some ⟨W.heap.size,0,none⟩) 3 3) ?_ ?_)
   ·simp only [execOp,eval_tmp,eval_const,t40,t41,t43];simp [go_sem,v40,v41,v43]
   ·exact ⟨_,rfl,(al (Below.refl _ _) (Nat.le_refl _)),_,_,_,rfl,sl2_three (hnew rfl) ((HQ1.out.keep hb).keep (al (Below.refl _ _) (Nat.le_refl _))) ((HQ2.out.keep hb).keep (al (Below.refl _ _) (Nat.le_refl _))) ((H2'.out.keep hb).keep (al (Below.refl _ _) (Nat.le_refl _)))⟩
  ·intro a W hb0 hs hp hi;have hb:=undrew hb0;clear hb0
   have t44:RowsIs ([B,S,ys]) (sl a 44) W:=hp 8 (by decide)
   obtain ⟨y44a,y44b,y44c,t44,z44a⟩:=t44
   refine ite_y rfl (wp_enter 139 #[.slice y44a y44b y44c] ?_ (SOf_any _ _ _ _ _ z44a (HT'.out.keep hb)) ?_)
   ·simp only [execOp,resolve,List.map_toArray,List.map,eval_tmp,eval_func,eval_const,t44];simp [go_sem]
   ·rintro e W' ⟨rfl,hw⟩;exact ⟨_,rfl,_,rfl,hw,rfl⟩
  ·intro a W hb0 hs hp hi;have hb:=undrew hb0;clear hb0
   have t45:sl a 45 = .int .u32 (crcS [B,S,ys].flatten:Nat):=hp 9 (by decide)
   refine ite_y rfl (wp_enter 138 #[.int .u32 (crcS [B,S,ys].flatten:Nat)] ?_ (SPut_any _ HL.out _) ?_)
   ·simp only [execOp,resolve,List.map_toArray,List.map,eval_tmp,eval_func,eval_const,t45];simp [go_sem]
   ·rintro e W' ⟨g5,rfl,hg5,h5,hw⟩;exact ⟨_,rfl,_,rfl,hw,_,_,_,rfl,sl_block (put4 _) 4 h5 rfl (put4_len _) (by simp [maxLen])⟩
  ·intro a W hb0 hs hp hi;have hb:=undrew hb0;clear hb0
   have t36:sl a 36 = .slice q1 n1 k1:=hp 0 (by decide)
   have t37:sl a 37 = .slice q2 n2 k2:=hp 1 (by decide)
   have t39:sl a 39 = .slice q t d:=hp 3 (by decide)
   have t46:BytesIs (put4 (crcS [B,S,ys].flatten)) (sl a 46) W:=hp 10 (by decide)
   obtain ⟨y46a,y46b,y46c,t46,z46a⟩:=t46
   have v36:a.tmps[36]?.getD undef = sl a 36:=by simp [sl]
   rw [t36] at v36
   have v37:a.tmps[37]?.getD undef = sl a 37:=by simp [sl]
   rw [t37] at v37
   have v39:a.tmps[39]?.getD undef = sl a 39:=by simp [sl]
   rw [t39] at v39
   have v46:a.tmps[46]?.getD undef = sl a 46:=by simp [sl]
   rw [t46] at v46
   refine ite_y rfl (wp_val' (w':=W.alloc (.cells #[.slice q1 n1 k1,.slice q2 n2 k2,.slice q t d,.slice y46a y46b y46c] 22)) (.slice (some ⟨W.heap.size,0,none⟩) 4 4) ?_ ?_)
   ·simp only [execOp,eval_tmp,eval_const,t36,t37,t39,t46];simp [go_sem,v36,v37,v39,v46]
   ·exact ⟨_,rfl,(al (Below.refl _ _) (Nat.le_refl _)),_,_,_,rfl,sl2_four (hnew rfl) ((HQ1.out.keep hb).keep (al (Below.refl _ _) (Nat.le_refl _))) ((HQ2.out.keep hb).keep (al (Below.refl _ _) (Nat.le_refl _))) ((H2'.out.keep hb).keep (al (Below.refl _ _) (Nat.le_refl _))) (z46a.keep (al (Below.refl _ _) (Nat.le_refl _)))⟩
  ·intro a W hb0 hs hp hi;have hb:=undrew hb0;clear hb0
   have t47:RowsIs ([B,S,ys,put4 (crcS [B,S,ys].flatten)]) (sl a 47) W:=hp 11 (by decide)
   obtain ⟨y47a,y47b,y47c,t47,z47a⟩:=t47
   refine ite_y rfl (wp_enter 137 #[.slice y47a y47b y47c] ?_ (Concat_any _ _ _ _ _ z47a HRm.out) ?_)
   ·simp only [execOp,resolve,List.map_toArray,List.map,eval_tmp,eval_func,eval_const,t47];simp [go_sem]
   ·rintro e W' ⟨q5,m5,g5,_,rfl,o5,hw⟩;exact ⟨_,rfl,_,rfl,hw,q5,m5,g5,rfl,(Fresh.of_owns o5).mono (Nat.le_trans HB3.out.size hb.size)⟩
  ·intro a W hb0 hs hp hi;have hb:=undrew hb0;clear hb0
   exact ite_y rfl (wp_val (sl a 48) rfl ⟨_,rfl,Below.refl _ _,hp 12 (by decide)⟩)
  ·intro a W hb0 hs hp hi;have hb:=undrew hb0;clear hb0
   exact ite_y rfl (wp_val (.int .i64 0) rfl ⟨_,rfl,Below.refl _ _,rfl⟩)
 intro a w9 hb hs hd hI ht
 have ha:=act_is [36,37,38,39,40,41,42,43,44,45,46,47,48,4,5] hs hd ht (by decide)
 have t5:sl a 5 = .int .i64 0:=hI 14 (by decide)
 have y4:(ShF 5 w.heap.size ([B,S,ys,put4 (crcS [B,S,ys].flatten)].flatten)).ok (sl a 4) w9:=hI 13 (by decide)
 obtain ⟨q9,n9,c9,t4,z4⟩:=y4
 simp only [List.foldl,t5,t4] at ha
 generalize sl a 36 = u36 at ha
 generalize sl a 37 = u37 at ha
 generalize sl a 38 = u38 at ha
 generalize sl a 39 = u39 at ha
 generalize sl a 40 = u40 at ha
 generalize sl a 41 = u41 at ha
 generalize sl a 42 = u42 at ha
 generalize sl a 43 = u43 at ha
 generalize sl a 44 = u44 at ha
 generalize sl a 45 = u45 at ha
 generalize sl a 46 = u46 at ha
 generalize sl a 47 = u47 at ha
 generalize sl a 48 = u48 at ha
 simp only [Act.put,List.setIfInBounds_toArray,List.set_cons_zero,List.set_cons_succ] at ha
 rw [ha]
 clear ha hI ht
 go_wp2
 go_ret2
 exact ⟨_,_,_,rfl,z4.read (by simp),bl HB3.out hb HB3.out.size⟩
end Go.Proofs.YtccaiiigdfieoaaGreatDoor
