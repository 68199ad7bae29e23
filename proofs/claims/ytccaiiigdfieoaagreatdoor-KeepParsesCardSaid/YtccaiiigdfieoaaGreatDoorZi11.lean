/- Chapter 24: keep.Export. Chapter 24: keep.Parse. Chapter 24: keep.Parse,walked. strings.Builder: WriteString,WriteByte,String. A builder in a block of its own; the digits of base 16. A used strings.Builder,WriteByte with its whole frame. Chapter 24,the reference: Hex. Chapter 24: keep.Text. Chapter 24: no taker. Chapter 24,the law: awake. The document's packets as written (of what fits,told by bytes): chapters 13,14,15. Chapter 15,the reference: Write: the bytes lie in new memory. A region that draws its order,op by op: one invariant of all slots and of the world,told by which operations have run. Chapter 24,the reference: Export. Chapter 24: KeepExports,of a plan that may be. Chapter 28: audit.Taker finds nothing. Texts in memory,one by one: what the references' loops over signs lean on. Chapter 24,the reference: Lines. The reference's Parse. Chapter 24: what Parse and Import come to,said by parts. -/
import Derived.Test.YtccaiiigdfieoaaGreatDoorZi10
import Derived.Shelf.Strings.Builder1
import Derived.Deep.DeepCutAuto
namespace Go.Proofs.YtccaiiigdfieoaaGreatDoor
open Go.RowKit Go.By
theorem info_vrow3:(Tryz.prog.info? 99).map (fun i=>(i.zero,i.size,i.bytes)) = some (some (.agg #[.slice none 0 0,.slice none 0 0]),2,48):=by kernel_rfl
theorem setRow_other_type {w:World} {b g T T':Nat} {cs cs' old:Array Value} {fr fr':Nat × Nat} (h:w.heap[b]? = some (.cells cs T fr)) (hg:w.heap[g]? = some (.cells old T' fr')) (hne:T≠T'):(w.setRow g cs').heap[b]? = w.heap[b]?:=by
 refine (hro h fun e=>?_).trans h.symm
 subst e
 rw [h] at hg
 injection hg with hg
 injection hg with _ e _
 exact hne e
theorem hdrF_mono {T2 T1 B B' n:Nat} {w:World} {v:Value} {xss:List (List UInt8)} (h:HdrF T2 T1 B w v n xss) (hB:B'≤B):HdrF T2 T1 B' w v n xss:=by
 obtain ⟨vs,o,l,r⟩:=h
 exact ⟨vs,owns_mono o hB,l,fun j u hj=>by obtain ⟨q,m,c,xs,e,hx,hf⟩:=r j u hj;exact ⟨q,m,c,xs,e,hx,hf.mono hB⟩⟩
theorem mk_bytesK (T:TypeId) (hT:Tryz.prog.underlying T = some (.slice 5)) (n:Nat) (hn:n≤1000000) (W:World):(Instr.makeSlice T (.int .i64 (n:Int)) (.int .i64 (n:Int))).run Tryz.prog W = .ok (.slice (some ⟨W.heap.size,0,none⟩) n n) (W.alloc (.cells ((List.replicate n (0:UInt8)).map B8).toArray 5)):=by
 obtain ⟨i0,hi0,hz0,hz1,hz2⟩:=info_parts info_u8
 have:=run_make (P:=Tryz.prog) W T 5 i0 _ hT hi0 hz0 .i64 .i64 (n:Int) (n:Int) (by omega) (Int.le_refl _) (by rw [hz2];omega) (by omega)
 rw [hz1] at this
 simp only [Int.toNat_natCast,Nat.mul_one] at this
 have h8:B8 0 = .int .u8 0:=rfl
 have e:madeCells #[Value.int .u8 0] n = ((List.replicate n (0:UInt8)).map B8).toArray:=by
  apply Array.toList_inj.1
  rw [toList_madeCells_one,List.map_replicate,h8]
 rw [this,← e]
 rfl
set_option maxRecDepth 1000000 in
set_option maxHeartbeats 8000000 in
theorem KExport_ok (base gt be L t k D N:Nat) (M v:Value) (C:DataW Unit) (K:List Rw) (st:Nat) (w:World) (h:Tkr w base gt be L t k D N M v C K st) (hT:HalfT w) :
  Calls Tryz.prog 27 #[.pointer (some ⟨gt,0,none⟩)] w fun e w'=>∃ q c,e = .returned (.slice q (expR k t K st).length c)∧HdrF 22 5 w.heap.size w' (.slice q (expR k t K st).length c) (expR k t K st).length (expL D (expR k t K st))∧Below w.heap.size w w':=by
 obtain ⟨r0,hr0,hrz,hr1',hr2'⟩:=info_parts info_vrow3
 have HGt:Hid (∀ W,Below w.heap.size w W→Calls Tryz.prog 71 #[.pointer (some ⟨gt,0,none⟩)] W fun e w'=>e = .returned (GVal L t k D M)∧Below W.heap.size W w'):=fun W hb=>TGate_any base gt be L t k D N M v C K st W (h.keep hb)
 have HRw:Hid (∀ W,Below w.heap.size w W→Calls Tryz.prog 21 #[.pointer (some ⟨gt,0,none⟩)] W fun e w'=>∃ v',e = .returned v'∧RwL 99 5 w' W.heap.size v' K.length K∧Below W.heap.size W w'):=fun W hb=>TRows_any base gt be L t k D N M v C K st W (h.keep hb)
 have HSt:Hid (∀ W,Below w.heap.size w W→Calls Tryz.prog 22 #[.pointer (some ⟨gt,0,none⟩)] W fun e w'=>e = .returned (.int .i64 (st:Nat))∧W = w'):=fun W hb=>TStatus_any base gt be L t k D N M v C K st W (h.keep hb)
 have HF:Hid (∀ r,r ∈ expR k t K st→Fit k t r):=expR_fit fun r hr=>(h.red.kept.rows r hr).1
 have HP:=Lib.hid h.ok
 have HT:=Lib.hid hT
 have ht1:=h.ok.t1
 have ht2:=h.ok.t2
 have hk1:=h.ok.k1
 have hk2:=h.ok.k2
 have hKl:K.length≤k:=Red.le h.red
 have hRl:(expR k t K st).length≤5000:=by have:=expR_len (k:=k) (t:=t) (st:=st) (K:=K);omega
 obtain ⟨R,hRe⟩:∃ R,R = expR k t K st:=⟨_,rfl⟩
 rw [← hRe] at HF hRl ⊢
 have HRE:=Lib.hid hRe
 clear h hT hRe
 go_enter Tryz.func27,Tryz.ntmps27
 go_wp2_with fail
 refine Calls.mono (HGt.out w (Below.refl _ _)) ?_
 rintro e w1 ⟨rfl,hb1⟩
 have HB1:=Lib.hid hb1
 clear hb1 HGt
 have hfg:=field_gate L t k D M w1
 go_wp2_with (first | simp only [hfg] | fail)
 have ba:Below w1.heap.size w1 (w1.alloc (.cells #[.int .i64 (L:Nat),.int .i64 (t:Nat),.int .i64 (k:Nat),.int .u32 (D:Nat)] 27 (0,0))):=al (Below.refl _ _) (Nat.le_refl _)
 have hp2:(w1.alloc (.cells #[.int .i64 (L:Nat),.int .i64 (t:Nat),.int .i64 (k:Nat),.int .u32 (D:Nat)] 27 (0,0))).heap[w1.heap.size]? = some (.cells #[.int .i64 (L:Nat),.int .i64 (t:Nat),.int .i64 (k:Nat),.int .u32 (D:Nat)] 27 (0,0)):=hnew rfl
 have HB2:=Lib.hid (bl HB1.out ba HB1.out.size)
 have HGP:Hid (w.heap.size≤w1.heap.size):=HB1.out.size
 obtain ⟨gp,hgp⟩:∃ g,g = w1.heap.size:=⟨_,rfl⟩
 rw [← hgp] at hp2 HGP ⊢
 clear hgp ba hfg HB1
 generalize w1.alloc (.cells #[.int .i64 (L:Nat),.int .i64 (t:Nat),.int .i64 (k:Nat),.int .u32 (D:Nat)] 27 (0,0)) = w2 at *
 refine Calls.mono (HRw.out w2 HB2.out) ?_
 rintro e w3 ⟨v',rfl,hr,hb⟩
 have HB3:=Lib.hid (bl HB2.out hb HB2.out.size)
 have HR3:=Lib.hid (hr.mono HB2.out.size)
 have hp3:=Lib.hid ((hb.block _ (lt_of_block hp2)).trans hp2)
 obtain ⟨qr,cr,rfl⟩:=hr.shape
 clear hr hb hp2 HB2 HRw
 go_wp2_with fail
 refine Calls.mono (HSt.out w3 HB3.out) ?_
 rintro e w4 ⟨rfl,rfl⟩
 clear HSt
 go_upto_if 21 with (fail)
 go_cut [4,5] (fun s4 _ wx=>∃ (q:Option Addr) (c n:Nat),s4 = .slice q n c∧n = R.length∧Hid (RwL 99 5 wx w.heap.size (.slice q n c) n R)∧Hid (Below w.heap.size w wx)∧Hid (wx.heap[gp]? = some (.cells #[.int .i64 (L:Nat),.int .i64 (t:Nat),.int .i64 (k:Nat),.int .u32 (D:Nat)] 27 (0,0))))
 case first =>
  as_aux_lemma =>
   by_cases h2:st = 2
   ·have HE:Hid (R = K ++ [clashRow k t]):=by show _ = _;rw [HRE.out,h2];rfl
    subst h2
    have hmk5:=mk_bytesK 22 Tryz.underlying22 t (by omega)
    obtain ⟨z5,hz5⟩:∃ z,z = ((List.replicate t (0:UInt8)).map B8).toArray:=⟨_,rfl⟩
    rw [← hz5] at hmk5
    have HZ5:=Lib.hid hz5
    clear hz5
    obtain ⟨d0,d1,d2,d3⟩:=cells_four hp3.out
    go_upto_region 7 with (fail)
    have ba:Below w3.heap.size w3 (w3.alloc (.cells z5 5)):=al (Below.refl _ _) (Nat.le_refl _)
    have k5:(w3.alloc (.cells z5 5)).heap[w3.heap.size]? = some (.cells ((List.replicate t (0:UInt8)).map B8).toArray 5 (0,0)):=by rw [hnew rfl,HZ5.out]
    have HB5:=Lib.hid (bl HB3.out ba HB3.out.size)
    have HR5:=Lib.hid (HR3.out.keep ba)
    have p5:=Lib.hid ((ba.block _ (lt_of_block hp3.out)).trans hp3.out)
    have HG5:Hid (w.heap.size≤w3.heap.size):=HB3.out.size
    obtain ⟨g5,hg5⟩:∃ g,g = w3.heap.size:=⟨_,rfl⟩
    rw [← hg5] at k5 HG5 ⊢
    have hgp5:gp≠g5:=by have:=lt_of_block hp3.out;omega
    have BA5:=Lib.hid ba
    have hg5':=Lib.hid hg5
    clear ba hg5 HZ5 d0 d1 d2 d3
    generalize w3.alloc (.cells z5 5) = w5 at *
    have hcell:w5.cell? ⟨g5,0,none⟩ = some (.int .u8 0):=by
     rw [cell_of_row _ _ 0 _ _ _ k5,List.getElem?_toArray,List.getElem?_map,List.getElem?_replicate,if_pos (by omega)]
     rfl
    have hfro:w5.frozen? ⟨g5,0,none⟩ = false:=frozen_of_row _ _ 0 _ _ k5
    have k6:(w5.setCell ⟨g5,0,none⟩ (.int .u8 1)).heap[g5]? = some (.cells (((List.replicate t (0:UInt8)).set 0 1).map B8).toArray 5 (0,0)):=by
     rw [heap_setCell_same _ _ _ _ _ _ k5,List.setIfInBounds_toArray,List.map_set]
     rfl
    have HB6:Hid (Below w.heap.size w (w5.setCell ⟨g5,0,none⟩ (.int .u8 1))):=Below.setCell HB5.out HG5.out _
    have p6:(w5.setCell ⟨g5,0,none⟩ (.int .u8 1)).heap[gp]? = some (.cells #[.int .i64 (L:Nat),.int .i64 (t:Nat),.int .i64 (k:Nat),.int .u32 (D:Nat)] 27 (0,0)):=(Below.heap_setCell _ _ _ _ hgp5).trans p5.out
    have HR6:Hid (RwL 99 5 (w5.setCell ⟨g5,0,none⟩ (.int .u8 1)) w.heap.size (.slice qr K.length cr) K.length K):=HR3.out.keep (Below.setCell BA5.out (Nat.le_of_eq hg5'.out.symm) _)
    go_upto_region 8 with (fail)
    clear hcell hfro k5 HB5 HR5 p5 hmk5
    generalize w5.setCell ⟨g5,0,none⟩ (.int .u8 1) = w6 at *
    have hmk9:=mk_bytesK 97 Tryz.underlying97 k (by omega)
    obtain ⟨z9,hz9⟩:∃ z,z = ((List.replicate k (0:UInt8)).map B8).toArray:=⟨_,rfl⟩
    rw [← hz9] at hmk9
    have HZ9:=Lib.hid hz9
    clear hz9
    obtain ⟨d0,d1,d2,d3⟩:=cells_four p6
    have K6:=Lib.hid k6
    have P6:=Lib.hid p6
    clear k6 p6
    go_wp2_with fail
    have ba:Below w6.heap.size w6 (w6.alloc (.cells z9 5)):=al (Below.refl _ _) (Nat.le_refl _)
    have k9:(w6.alloc (.cells z9 5)).heap[w6.heap.size]? = some (.cells ((List.replicate k (0:UInt8)).map B8).toArray 5 (0,0)):=by rw [hnew rfl,HZ9.out]
    have k5:=(ba.block _ (lt_of_block K6.out)).trans K6.out
    have HB7:=Lib.hid (bl HB6.out ba HB6.out.size)
    have HR7:=Lib.hid (HR6.out.keep ba)
    have P7:=Lib.hid ((ba.block _ (lt_of_block P6.out)).trans P6.out)
    clear d0 d1 d2 d3 ba HZ9 K6 P6 HB6 HR6 hmk9
    generalize w6.alloc (.cells z9 5) = w7 at *
    refine Calls.mono (Of_any _ _ _ _ _ _ (List.replicate k 0) ((List.replicate t 0).set 0 1) w7 (sl_block _ k k9 rfl (by simp) (by unfold maxLen;omega)) (sl_block _ t k5 rfl (by simp) (by unfold maxLen;omega)) (by unfold Room;omega) (by unfold Room;omega)) ?_
    rintro e w8 ⟨q1,m1,c1,q2,m2,c2,hm1,hm2,rfl,o1,o2,hb⟩
    have HB8:=Lib.hid (bl HB7.out hb HB7.out.size)
    have HR8:=Lib.hid (HR7.out.keep hb)
    have P8:=Lib.hid ((hb.block _ (lt_of_block P7.out)).trans P7.out)
    have BW1:Hid (Bw 5 w8 w.heap.size (.slice q1 m1 c1) (clashRow k t).1):=Bw.mk (owns_mono o1 HB7.out.size) hm1.out
    have BW2:Hid (Bw 5 w8 w.heap.size (.slice q2 m2 c2) (clashRow k t).2):=Bw.mk (owns_mono o2 HB7.out.size) hm2.out
    clear hb o1 o2 k9 k5 hm1 hm2 HB7 HR7 P7
    have ba:Below w8.heap.size w8 (w8.alloc (.cells #[.slice q1 m1 c1,.slice q2 m2 c2] 99 (0,0))):=al (Below.refl _ _) (Nat.le_refl _)
    obtain ⟨vs,va,vb,vo,vr⟩:=HR8.out.keep ba
    have B1:=Lib.hid (BW1.out.keep ba)
    have B2:=Lib.hid (BW2.out.keep ba)
    have VA:=Lib.hid va
    have VO:=Lib.hid vo
    have VR:=Lib.hid vr
    have hsz8:=HB8.out.size
    clear va vb vo vr ba BW1 BW2 HR8
    go_wp2_with (at_builtin;refine wpList_append_own _ rfl _ _ 44 rfl w.heap.size 99 r0 _ 2 48 Tryz.underlying44 hr0 hrz hr1' hr2' rfl (by omega) _ K.length (fl2 vs) rfl VO.out ⟨w8.heap.size,0,none⟩ 1 1 [.slice q1 m1 c1,.slice q2 m2 c2] rfl rfl ?c1 ?c2 ?c3 ?c4 ?c5 ?_)
    case c1 =>
     intro j' y hj'
     rw [Addr.add_lit,Nat.zero_add,cell_of_row _ _ j' _ _ _ (hnew (by simp))]
     match j' with
     | 0=>simpa using hj'
     | 1=>simpa using hj'
     | j' + 2=>simp at hj'
    case c2=>intro y hy;simp at hy;rcases hy with rfl | rfl <;> rfl
    case c3=>unfold maxLen;omega
    case c4=>omega
    case c5=>simp;omega
    intro v' w9 ho' hg' _
    obtain ⟨q',c',rfl⟩:=owns_shape ho'
    have HR9:Hid (RwL 99 5 w9 w.heap.size (.slice q' (K.length + 1) c') (K.length + 1) R):=by
     show RwL _ _ _ _ _ _ _
     rw [HE.out]
     exact RwL.push VA.out rfl VO.out VR.out (by decide) B1.out B2.out ho' hg'
    have HB9:Hid (Below w.heap.size w w9):=(al HB8.out hsz8).grown hg' (by simp;omega) (fun rr hrr=>(VO.out.lt rr hrr).1)
    have P9:Hid (w9.heap[gp]? = some (.cells #[.int .i64 (L:Nat),.int .i64 (t:Nat),.int .i64 (k:Nat),.int .u32 (D:Nat)] 27 (0,0))):=by
     have hl:=lt_of_block P8.out
     refine (hg'.block gp (by simp;omega) fun e=>?_).trans (hal P8.out)
     have hO:=VO.out
     rcases hO.2 with ⟨e1,_⟩ | ⟨g',cap,cur,e1,_,hh,_⟩
     ·rw [e1] at e;cases e
     ·rw [e1] at e
      cases e
      rw [hal P8.out] at hh
      injection hh with hh
      injection hh with _ hh _
      exact absurd hh (by decide)
    clear ho' hg' VA VO VR B1 B2 hsz8
    go_wp2
    go_meet
    case rel=>exact ⟨q',c',K.length + 1,rfl,by rw [HE.out];simp,HR9.out,HB9.out,P9.out⟩
   ·have hne:((st:Int) == 2) = false:=beq_eq_false_iff_ne.2 (by omega)
    have HE:Hid (R = K):=by show _ = _;rw [HRE.out];exact expR_not h2
    clear h2
    go_wp2
    go_meet
    case rel=>exact ⟨qr,cr,K.length,rfl,by rw [HE.out],by rw [HE.out];exact HR3.out,HB3.out,hp3.out⟩
 case rest =>
  obtain ⟨q,c,n,rfl,hn,HR,HB,HPl⟩:=hcut
  clear HB3 HR3 hp3
  have HN:=Lib.hid hn
  have hnl:n≤5000:=by omega
  clear hn hRl hKl
  go_wp2
  go_loopw [6,7,8,9,10,11,37] (fun ov _ _ _ _ _ iv wr=>∃ (i co:Nat) (qo:Option Addr),i≤n∧iv = .int .i64 (i:Nat)∧ov = .slice qo i co∧Hid (HdrF 22 5 wc.heap.size wr (.slice qo i co) i (expL D (R.take i)))∧Hid (Below wc.heap.size wc wr)) (fun _ _ _ _ _ _ iv _=>n - (intOf iv).toNat)
  case atStart=>exact ⟨0,0,none,Nat.zero_le _,rfl,rfl,HdrF.nil _ _ _ _,Below.refl _ _⟩
  case round =>
   obtain ⟨i,co,qo,hi,rfl,rfl,HO,HBr⟩:=hrel
   by_cases hlt:i < n
   ·obtain ⟨gr,x,q1,m1,c1,qd,td,cd,rfl,e0,e1,hx,s1,s2⟩:=(HR.out.keep HBr.out).at hlt
    have hfx:=HF.out x (List.mem_of_getElem? hx.out)
    obtain rfl:m1 = k:=by rw [← s1.len];exact hfx.1
    obtain rfl:td = t:=by rw [← s2.len];exact hfx.2
    have HVL:Hid (x.1.length = m1):=hfx.1
    have HX:=Lib.hid (expL_snoc (D:=D) hx.out)
    have hlt':(i:Int) < (n:Int):=by omega
    have HLT:=Lib.hid hlt
    have S1:=Lib.hid s1
    have S2:=Lib.hid s2
    have hi32:IntKind.u32.wrap (i:Int) = (i:Int):=by rw [IntKind.wrap_u32];omega
    have HRk:Hid (Room m1):=by show Room m1;unfold Room;omega
    have pr:=Lib.hid ((HBr.out.block _ (lt_of_block HPl.out)).trans HPl.out)
    clear hlt hx s1 s2 hfx
    go_upto_region 13 with (fail)
    have ba:Below wr.heap.size wr (wr.alloc (.cells #[.slice q1 m1 c1,.slice qd td cd] 99 (0,0))):=al (Below.refl _ _) (Nat.le_refl _)
    have k6:(wr.alloc (.cells #[.slice q1 m1 c1,.slice qd td cd] 99 (0,0))).heap[wr.heap.size]? = some (.cells #[.slice q1 m1 c1,.slice qd td cd] 99 (0,0)):=hnew rfl
    have p6:=(ba.block _ (lt_of_block pr.out)).trans pr.out
    have B6:=Lib.hid (bl HBr.out ba HBr.out.size)
    have ZV6:=Lib.hid (S1.out.keep ba)
    have ZD6:=Lib.hid (S2.out.keep ba)
    have HO6:=Lib.hid (HO.out.keep ba)
    have hs6:wr.heap.size < (wr.alloc (.cells #[.slice q1 m1 c1,.slice qd td cd] 99 (0,0))).heap.size:=by simp
    obtain ⟨g8,hg8⟩:∃ g,g = wr.heap.size:=⟨_,rfl⟩
    rw [← hg8] at k6 hs6 ⊢
    have HG8:Hid (wc.heap.size≤g8):=by rw [hg8];exact HBr.out.size
    clear ba pr S1 S2 HO e0 e1 hg8
    generalize wr.alloc (.cells #[.slice q1 m1 c1,.slice qd td cd] 99 (0,0)) = w6 at *
    obtain ⟨c0,c1'⟩:=cells2 k6
    obtain ⟨d0,d1,d2,d3⟩:=cells_four p6
    refine wp_region_tail (fun ix=>([.val (.pointer (some ⟨gp,3,none⟩)),.val (.int .u32 (D:Nat)),.val (.int .i64 (i:Nat)),.val (.int .u32 (i:Nat)),(.val (HVal 0 D i)),.val (.pointer (some ⟨g8,0,none⟩)),.val (.slice q1 m1 c1),(ShRdV 5 w6.heap.size 0 0 x.1),.val (.pointer (some ⟨g8,1,none⟩)),.val (.slice qd td cd),(ShPkS 5 w6.heap.size D i qd td cd x.1),(ShNew 122 w6.heap.size #[.int .u8 0,.int .u32 0,.int .u32 0,.int .u8 0,.slice none 0 0,.int .u64 0,.slice none 0 0]),.any][ix]?).getD (.any)) 67 12 rfl (by kernel_rfl) (by decide +kernel) (by decide +kernel) (by decide +kernel) (by decide +kernel) ?_ ?_
    ·refine ⟨?_,?_,?_,?_,?_,?_,?_,?_,?_,?_,?_,?_,trivial⟩
     ·intro a W hb0 hs hp hi;have hb:=undrew hb0;clear hb0
      have t3:sl a 3 = .pointer (some ⟨gp,0,none⟩):=hi 3 (by decide)
      refine ite_y rfl (wp_val (.pointer (some ⟨gp,3,none⟩)) ?_ ?_)
      ·simp only [execOp,eval_tmp,eval_const,t3];simp [go_sem]
      ·exact ⟨_,rfl,Below.refl _ _,rfl⟩
     ·intro a W hb0 hs hp hi;have hb:=undrew hb0;clear hb0
      have tt:sl a 42 = .pointer (some ⟨gp,3,none⟩):=hp 0 (by decide)
      have dd:=(hb.cell (p:=⟨gp,3,none⟩) (lt_of_cell d3)).trans d3
      refine ite_y rfl (wp_val (.int .u32 (D:Nat)) ?_ ?_)
      ·simp only [execOp,eval_tmp,tt];simp [go_sem,dd]
      ·exact ⟨_,rfl,Below.refl _ _,rfl⟩
     ·intro a W hb0 hs hp hi;have hb:=undrew hb0;clear hb0
      have t7:sl a 7 = .int .i64 (i:Nat):=hi 7 (by decide)
      exact ite_y rfl (wp_val (sl a 7) rfl ⟨_,rfl,Below.refl _ _,t7⟩)
     ·intro a W hb0 hs hp hi;have hb:=undrew hb0;clear hb0
      have tt:sl a 44 = .int .i64 (i:Nat):=hp 2 (by decide)
      refine ite_y rfl (wp_val (.int .u32 (i:Nat)) ?_ ?_)
      ·simp only [execOp,eval_tmp,tt];simp [go_sem,Tryz.underlying3,Tryz.underlying23,hi32]
      ·exact ⟨_,rfl,Below.refl _ _,rfl⟩
     ·intro a W hb0 hs hp hi;have hb:=undrew hb0;clear hb0
      have t43:sl a 43 = .int .u32 (D:Nat):=hp 1 (by decide)
      have t45:sl a 45 = .int .u32 (i:Nat):=hp 3 (by decide)
      have v43:a.tmps[43]?.getD undef = sl a 43:=by simp [sl]
      rw [t43] at v43
      have v45:a.tmps[45]?.getD undef = sl a 45:=by simp [sl]
      rw [t45] at v45
      refine ite_y rfl (wp_val (HVal 0 D i) ?_ ?_)
      ·simp only [execOp,eval_tmp,eval_const,t43,t45];simp [go_sem,v43,v45,Tryz.underlying120]
      ·exact ⟨_,rfl,Below.refl _ _,rfl⟩
     ·intro a W hb0 hs hp hi;have hb:=undrew hb0;clear hb0
      have t8:sl a 8 = .pointer (some ⟨g8,0,none⟩):=hi 8 (by decide)
      refine ite_y rfl (wp_val (.pointer (some ⟨g8,0,none⟩)) ?_ ?_)
      ·simp only [execOp,eval_tmp,eval_const,t8];simp [go_sem]
      ·exact ⟨_,rfl,Below.refl _ _,rfl⟩
     ·intro a W hb0 hs hp hi;have hb:=undrew hb0;clear hb0
      have tt:sl a 47 = .pointer (some ⟨g8,0,none⟩):=hp 5 (by decide)
      have dd:=(hb.cell (p:=⟨g8,0,none⟩) (lt_of_cell c0)).trans c0
      refine ite_y rfl (wp_val (.slice q1 m1 c1) ?_ ?_)
      ·simp only [execOp,eval_tmp,tt];simp [go_sem,dd]
      ·exact ⟨_,rfl,Below.refl _ _,rfl⟩
     ·intro a W hb0 hs hp hi;have hb:=undrew hb0;clear hb0
      have t48:sl a 48 = .slice q1 m1 c1:=hp 6 (by decide)
      refine ite_y rfl (wp_enter 81 #[.slice q1 m1 c1] ?_ (RExplicit_any _ _ _ _ _ (ZV6.out.keep hb) HRk.out) ?_)
      ·simp only [execOp,resolve,List.map_toArray,List.map,eval_tmp,eval_func,eval_const,t48];simp [go_sem]
      ·rintro e W' ⟨q5,g5,rfl,o5,hw⟩;exact ⟨_,rfl,_,rfl,hw,q5,_,g5,rfl,o5.mono hb.size⟩
     ·intro a W hb0 hs hp hi;have hb:=undrew hb0;clear hb0
      have t8:sl a 8 = .pointer (some ⟨g8,0,none⟩):=hi 8 (by decide)
      refine ite_y rfl (wp_val (.pointer (some ⟨g8,1,none⟩)) ?_ ?_)
      ·simp only [execOp,eval_tmp,eval_const,t8];simp [go_sem]
      ·exact ⟨_,rfl,Below.refl _ _,rfl⟩
     ·intro a W hb0 hs hp hi;have hb:=undrew hb0;clear hb0
      have tt:sl a 50 = .pointer (some ⟨g8,1,none⟩):=hp 8 (by decide)
      have dd:=(hb.cell (p:=⟨g8,1,none⟩) (lt_of_cell c1')).trans c1'
      refine ite_y rfl (wp_val (.slice qd td cd) ?_ ?_)
      ·simp only [execOp,eval_tmp,tt];simp [go_sem,dd]
      ·exact ⟨_,rfl,Below.refl _ _,rfl⟩
     ·intro a W hb0 hs hp hi;have hb:=undrew hb0;clear hb0
      have t46:sl a 46 = HVal 0 D i:=hp 4 (by decide)
      have t49:RdV 5 w6.heap.size 0 0 x.1 (sl a 49) W:=hp 7 (by decide)
      have t51:sl a 51 = .slice qd td cd:=hp 9 (by decide)
      obtain ⟨q5,n5,g5,t49,z49⟩:=t49
      have v46:a.tmps[46]?.getD undef = sl a 46:=by simp [sl]
      rw [t46] at v46
      have v49:a.tmps[49]?.getD undef = sl a 49:=by simp [sl]
      rw [t49] at v49
      have v51:a.tmps[51]?.getD undef = sl a 51:=by simp [sl]
      rw [t51] at v51
      refine ite_y rfl (wp_val (PkVal 0 D i 0 q5 n5 g5 0 qd td cd) ?_ ?_)
      ·simp only [execOp,eval_tmp,t46,t49,t51];simp [go_sem,v46,v49,v51,Tryz.underlying120,Tryz.underlying83,Tryz.underlying122]
      ·exact ⟨_,rfl,Below.refl _ _,q5,n5,g5,rfl,z49⟩
     ·intro a W hb0 hs hp hi;have hb:=undrew hb0;clear hb0
      refine ite_y rfl (wp_val' (w':=W.alloc (.cells #[.int .u8 0,.int .u32 0,.int .u32 0,.int .u8 0,.slice none 0 0,.int .u64 0,.slice none 0 0] 122)) (.pointer (some ⟨W.heap.size,0,none⟩)) ?_ ?_)
      ·simp only [execOp];simp [go_sem]
      ·exact ⟨_,rfl,al (Below.refl _ _) (Nat.le_refl _),_,rfl,hb.size,hnew rfl⟩
    intro a w7 hb hs hd hI ht
    have ha:=act_is [42,43,44,45,46,47,48,49,50,51,52,9] hs hd ht (by decide)
    have y52:=hI 10 (by decide)
    obtain ⟨q9,n9,k9,t52,z52⟩:=y52
    have y9:=hI 11 (by decide)
    obtain ⟨g9,t9,hg9,hh9⟩:=y9
    simp only [List.foldl,t52,t9] at ha
    generalize sl a 42 = u42 at ha
    generalize sl a 43 = u43 at ha
    generalize sl a 44 = u44 at ha
    generalize sl a 45 = u45 at ha
    generalize sl a 46 = u46 at ha
    generalize sl a 47 = u47 at ha
    generalize sl a 48 = u48 at ha
    generalize sl a 49 = u49 at ha
    generalize sl a 50 = u50 at ha
    generalize sl a 51 = u51 at ha
    simp only [Act.put,List.setIfInBounds_toArray,List.set_cons_zero,List.set_cons_succ] at ha
    rw [ha];clear ha hI ht hs hd
    simp only [List.drop_succ_cons,List.drop_zero]
    have HN9:Hid (n9 = m1):=by show n9 = m1;rw [← z52.sl.len];exact HVL.out
    have B7:=bl B6.out hb B6.out.size
    have l6:=lt_of_block k6
    have l14:=lt_of_block p6
    have q14:=(hb.block _ l14).trans p6
    have D7:=ZD6.out.keep hb
    have O7:=HO6.out.keep hb
    have hl15:=hh9
    clear hb c0 c1' d0 d1 d2 d3 k6 p6
    go_wp2_with (refine wpList_store_rowS (o:=⟨none,.store 122 (.tmp 9) (.tmp 52),_,_,_,_⟩) rfl 122 (.tmp 9) (.tmp 52) rfl g9 #[.int .u8 0,.int .u32 (D:Nat),.int .u32 (i:Nat),.int .u8 0,.slice q9 n9 k9,.int .u64 0,.slice qd td cd] rfl rfl _ _ hh9 info_packet rfl (by simp [Value.oneCell']) ?_)
    intro w8 hr8
    have HB8:Hid (Below wc.heap.size wc w8):=by rw [hr8.eq];exact below_row B7 (Nat.le_trans B6.out.size hg9)
    have p8:w8.heap[gp]? = some (.cells #[.int .i64 (L:Nat),.int .i64 (td:Nat),.int .i64 (m1:Nat),.int .u32 (D:Nat)] 27 (0,0)):=by rw [hr8.eq];exact hro q14 (by omega)
    have n8:w8.heap[g9]? = some (.cells #[.int .u8 0,.int .u32 (D:Nat),.int .u32 (i:Nat),.int .u8 0,.slice q9 n9 k9,.int .u64 0,.slice qd td cd] 122 (0,0)):=by rw [hr8.eq];exact hrs hh9
    have V8:Hid (Sl B8 w8 q9 n9 k9 x.1):=by rw [hr8.eq];exact (z52.row hh9 pkt_ne).sl
    have D8:Hid (Sl B8 w8 qd td cd x.2):=by
     rw [hr8.eq]
     exact sl_setRow D7 fun a ha=>by
      obtain ⟨b,o,e,hlb⟩:=ZD6.out.has (by omega)
      rw [ha] at e;cases e
      show b≠g9
      omega
    have O8:Hid (HdrF 22 5 wc.heap.size w8 (.slice qo i co) i (expL D (R.take i))):=by
     rw [hr8.eq]
     exact O7.same (by simp [World.setRow]) (fun b cs fr h=>setRow_other_type h hh9 (by decide)) (fun b cs fr h=>setRow_other_type h hh9 (by decide))
    have HT8:=Lib.hid (HT.out.keep (bl HB.out HB8.out HB.out.size))
    clear hr8 q14 D7 O7 hh9 hl15 B7 z52 t52 t9 hg9 l6 l14
    obtain ⟨d0,d1,d2,d3⟩:=cells_four p8
    obtain ⟨f0,f1,f2,f3,f4,f5,f6⟩:=cells_seven n8
    obtain rfl:n9 = m1:=HN9.out
    go_wp2_with fail
    refine Calls.mono (PWrite_okF L td n9 D i 0 q9 n9 k9 0 qd cd x.1 x.2 w8 HP.out (by omega) rfl (fun _=>rfl) HRk.out V8.out D8.out HT8.out) ?_
    rintro e w9 ⟨qw,nw,cw,rfl,ho,hb⟩
    have HB9:=Lib.hid (bl HB8.out hb HB8.out.size)
    have HW9:=Lib.hid (ho.mono HB8.out.size)
    have HO9:=Lib.hid (O8.out.keep hb)
    clear hb ho d0 d1 d2 d3 f0 f1 f2 f3 f4 f5 f6 p8 n8 V8 D8 HT8 O8
    have ba:Below w9.heap.size w9 (w9.alloc (.cells #[.slice qw nw cw] 22 (0,0))):=al (Below.refl _ _) (Nat.le_refl _)
    have HO10:=Lib.hid (HO9.out.keep ba)
    have HW10:=Lib.hid (HW9.out.keep ba)
    have HB10:=Lib.hid (bl HB9.out ba HB9.out.size)
    clear ba
    go_wp2_with (first | (at_builtin;refine wpList_hdr rfl _ _ rfl wc.heap.size i (.slice qo i co) (expL D (R.take i)) rfl HO10.out (by omega) HB10.out.size w9.heap.size rfl qw nw cw (0,0) _ (hnew rfl) HW10.out ?_) | fail)
    rintro sA wA hA1 ⟨ys,hA2⟩ hA3 hA4
    obtain ⟨qA,cA,rfl⟩:=hA1.shape
    have HA:Hid (HdrF 22 5 wc.heap.size wA (.slice qA (i + 1) cA) (i + 1) (expL D (R.take (i + 1)))):=by show HdrF _ _ _ _ _ _ _;rw [HX.out];exact hA1
    have HBA:Hid (Below wc.heap.size wc wA):=HB10.out.grown hA3 HB10.out.size (fun g hg=>(hA2.lt g hg).1)
    clear hA1 hA2 hA3 hA4 HO10 HW10 HB10
    go_wp2
    go_roundw
    case rel=>exact ⟨i + 1,cA,qA,HLT.out,by go_num,rfl,HA.out,HBA.out⟩
    case measure=>simp [intOf];have:=HLT.out;omega
   ·obtain rfl:i = n:=by omega
    have e9:R.take i = R:=List.take_of_length_le (by have:=HN.out;omega)
    rw [e9] at HO
    clear hlt e9
    go_wp2
    go_ret
    exact ⟨qo,co,by rw [← HN.out];rfl,by rw [← HN.out];exact hdrF_mono HO.out HB.out.size,bl HB.out HBr.out HB.out.size⟩
end Go.Proofs.YtccaiiigdfieoaaGreatDoor
namespace Go.Proofs.YtccaiiigdfieoaaGreatDoor
open Go.RowKit Go.By Go.Lib
theorem suffix_ten (l:List UInt8) (z:UInt8):Lib.hasSuffix (l ++ [z]) [10] = decide (z = 10):=by
 unfold Lib.hasSuffix
 rw [Bool.eq_iff_iff,List.isSuffixOf_iff_suffix,decide_eq_true_iff]
 constructor
 ·rintro ⟨t,ht⟩
  have:=congrArg List.getLast? ht
  rw [List.getLast?_concat,List.getLast?_concat] at this
  exact (Option.some.inj this).symm
 ·rintro rfl
  exact ⟨l,rfl⟩
theorem CutTen_any (l:List UInt8) (w:World) (hl:l.length≤1000000) :
  Calls Tryz.prog 66 #[.string (strB l),.string ⟨#[10]⟩] w fun e w'=>w = w'∧((∃ l0,l = l0 ++ [10]∧e = .returned (.tuple #[.string (strB l0),.bool true]))∨(linesP l = none∧∃ x,e = .returned (.tuple #[.string x,.bool false]))):=by
 refine (Tryz.strings_CutSuffix (strB l) ⟨#[10]⟩ w (by rw [strB_size];omega)).mono ?_
 rintro e w' ⟨rfl,rfl⟩
 refine ⟨rfl,?_⟩
 rw [strB_data]
 rcases list_lastP l with rfl | ⟨l0,z,rfl⟩
 ·exact .inr ⟨rfl,_,rfl⟩
 ·have h3:((⟨#[10]⟩:ByteArray).data.toList) = [10]:=rfl
  rw [h3,suffix_ten]
  by_cases hz:z = 10
  ·subst hz
   refine .inl ⟨l0,rfl,?_⟩
   unfold Lib.trimSuffix
   rw [suffix_ten,decide_eq_true rfl,if_pos rfl]
   have e:(l0 ++ [(10:UInt8)]).take ((l0 ++ [(10:UInt8)]).length - [(10:UInt8)].length) = l0:=by simp
   rw [e];rfl
  ·rw [decide_eq_false hz]
   refine .inr ⟨?_,_,rfl⟩
   unfold linesP
   rw [List.getLast?_concat,if_neg (fun e=>hz (Option.some.inj e))]
theorem pktsP_snoc {T:List (List UInt8)} {x:List UInt8}:∀ {i:Nat} {P:List (List UInt8)},pktsP (T.take i) = some P→T[i]? = some x→pktsP (T.take (i + 1)) = (unhexO x).map (fun y=>P ++ [y]):=by
 induction T with
 | nil=>intro i P _ h;simp at h
 | cons a T ih =>
  intro i P hP hx
  cases i with
  | zero =>
   obtain rfl:a = x:=by simpa using hx
   have:P = []:=by simpa [pktsP] using hP.symm
   subst this
   show (unhexO a).bind (fun x=>(pktsP (T.take 0)).map (x :: ·)) = _
   cases unhexO a <;> simp [pktsP]
  | succ i =>
   have hP':(unhexO a).bind (fun x=>(pktsP (T.take i)).map (x :: ·)) = some P:=hP
   obtain ⟨y,hy,h2⟩:=Option.bind_eq_some_iff.1 hP'
   obtain ⟨P2,hp2,rfl⟩:=Option.map_eq_some_iff.1 h2
   show (unhexO a).bind (fun x=>(pktsP (T.take (i + 1))).map (x :: ·)) = _
   rw [hy,ih hp2 (by simpa using hx)]
   cases unhexO x <;> rfl
theorem pktsP_bad {T:List (List UInt8)} {x:List UInt8} (hx:unhexO x = none):x ∈ T→pktsP T = none:=by
 induction T with
 | nil=>intro h;cases h
 | cons a T ih =>
  intro h
  show (unhexO a).bind (fun x=>(pktsP T).map (x :: ·)) = none
  rcases List.mem_cons.1 h with rfl | h
  ·rw [hx];rfl
  ·rw [ih h];cases unhexO a <;> rfl
theorem pktsP_len:∀ {T P:List (List UInt8)},pktsP T = some P→P.length = T.length
 | [],P,h=>by cases h;rfl
 | a :: T,P,h=>by
  have h':(unhexO a).bind (fun x=>(pktsP T).map (x :: ·)) = some P:=h
  obtain ⟨y,_,h2⟩:=Option.bind_eq_some_iff.1 h'
  obtain ⟨P2,hp2,rfl⟩:=Option.map_eq_some_iff.1 h2
  simp [pktsP_len hp2]
theorem unhexO_len {x y:List UInt8} (h:unhexO x = some y):y.length≤x.length:=by
 unfold unhexO at h
 split at h
 ·cases h
 ·have:=unhexP_len _ (Nat.le_refl _) h;omega
theorem pktsP_lens {m:Nat}:∀ {T P:List (List UInt8)},pktsP T = some P→(∀ x ∈ T,x.length≤m)→∀ y ∈ P,y.length≤m
 | [],P,h,_=>by cases h;simp
 | a :: T,P,h,hm=>by
  have h':(unhexO a).bind (fun x=>(pktsP T).map (x :: ·)) = some P:=h
  obtain ⟨y,hy,h2⟩:=Option.bind_eq_some_iff.1 h'
  obtain ⟨P2,hp2,rfl⟩:=Option.map_eq_some_iff.1 h2
  intro z hz
  rcases List.mem_cons.1 hz with rfl | hz
  ·exact Nat.le_trans (unhexO_len hy) (hm a (by simp))
  ·exact pktsP_lens hp2 (fun x hx=>hm x (by simp [hx])) z hz
theorem numsO_four {ws:List (List UInt8)} {xs:List Nat} (h:numsO ws bndS = some xs):∃ d L S N,xs = [d,L,S,N]∧d≤4294967295∧L≤2147483647:=by
 unfold bndS at h
 match ws,h with
 | [],h=>cases h
 | [a],h=>simp [numsO] at h
 | [a,b],h=>simp [numsO] at h
 | [a,b,c],h=>simp [numsO] at h
 | [a,b,c,d],h =>
  simp only [numsO] at h
  obtain ⟨x,hx,h1⟩:=Option.bind_eq_some_iff.1 h
  obtain ⟨l1,h2,e1⟩:=Option.map_eq_some_iff.1 h1
  obtain ⟨y,hy,h3⟩:=Option.bind_eq_some_iff.1 h2
  obtain ⟨l2,h4,e2⟩:=Option.map_eq_some_iff.1 h3
  obtain ⟨z,hz,h5⟩:=Option.bind_eq_some_iff.1 h4
  obtain ⟨l3,h6,e3⟩:=Option.map_eq_some_iff.1 h5
  obtain ⟨u,hu,h7⟩:=Option.bind_eq_some_iff.1 h6
  obtain ⟨l4,h8,e4⟩:=Option.map_eq_some_iff.1 h7
  cases h8
  subst e4 e3 e2 e1
  exact ⟨x,y,z,u,rfl,(numB_some hx).2.2.1,(numB_some hy).2.2.1⟩
 | a :: b :: c :: d :: e :: r,h=>simp [numsO] at h
theorem parseV_two (l:List UInt8):(∃ c:Int,c≠0∧parseV l = .tuple #[.agg #[.int .i64 0,.int .i64 0,.int .i64 0,.int .u32 0],.int .i64 c])∨∃ L t k D,POK L t k D∧parseV l = .tuple #[PVal L t k D,.int .i64 0]:=by
 cases hp:parseO l with
 | none=>exact .inl ⟨14,by decide,parseV_none hp⟩
 | some xs =>
  have hq:=hp
  unfold parseO at hq
  split at hq
  ·rename_i o ws _
   split at hq
   ·obtain ⟨d,L,S,N,rfl,hd,hL⟩:=numsO_four hq
    by_cases hc:checkS L S N = 0
    ·right
     obtain ⟨L',t',k',D',e1,e2,e3,e4,hP⟩:=pok_of (l:=(L:Int)) (s:=(S:Int)) (n:=(N:Int)) (d:=(d:Int)) (by omega) hc (by omega) (by omega)
     refine ⟨L',t',k',D',hP,?_⟩
     rw [parseV_good hp hc,e1,e2,e3,e4]
    ·exact .inl ⟨checkS L S N,hc,parseV_bad hp hc⟩
   ·cases hq
  ·cases hq
end Go.Proofs.YtccaiiigdfieoaaGreatDoor
namespace Go.Proofs.YtccaiiigdfieoaaGreatDoor
open Go.RowKit Go.By Go.Maps
def PrsK (w:World) (s:List UInt8) (e:Ending) (w':World):Prop :=
 (linesP s = none∧e = .returned (.tuple #[.pointer none,.int .i64 14])∧Below w.heap.size w w') ∨
 ∃ a T,linesP s = some (a :: T)∧((pktsP T = none∧e = .returned (.tuple #[.pointer none,.int .i64 14])∧Below w.heap.size w w') ∨
  ∃ P,pktsP T = some P∧((∃ c:Int,c≠0∧parseV a = .tuple #[.agg #[.int .i64 0,.int .i64 0,.int .i64 0,.int .u32 0],.int .i64 c]∧e = .returned (.tuple #[.pointer none,.int .i64 c])∧Below w.heap.size w w') ∨
   ∃ L t k D,POK L t k D∧parseV a = .tuple #[PVal L t k D,.int .i64 0]∧ImpR w L t k D P.length P e w'))
theorem ImpR.from {w W w':World} {L t k D n:Nat} {P:List (List UInt8)} {e:Ending} (h:ImpR W L t k D n P e w') (hb:Below w.heap.size w W):ImpR w L t k D n P e w':=by
 rcases h with ⟨h0,base,gt,be,M,v,C,rfl,h1,h2,h3⟩ | ⟨h0,rfl,h3⟩
 ·exact .inl ⟨h0,base,gt,be,M,v,C,rfl,Nat.le_trans hb.size h1,h2,bl hb h3 hb.size⟩
 ·exact .inr ⟨h0,rfl,bl hb h3 hb.size⟩
theorem slice_one (g n:Nat) (hn:0 < n):∃ q' c',(∀ W,(Instr.sliceAt 88 (.slice (some ⟨g,0,none⟩) n n) (some (.int .i64 1)) none none).run Tryz.prog W = .ok (.slice q' (n - 1) c') W)∧(0 < n - 1→q' = some ⟨g,1,none⟩):=by
 have hel:Tryz.prog.underlying 88 = some (.slice (Tryz.prog.elem 88)):=by simp [Program.elem,Tryz.underlying88]
 refine ⟨if n = 1 then some ⟨g,0,none⟩ else some ⟨g,1,none⟩,n - 1,fun W=>?_,fun h=>if_neg (by omega)⟩
 have e1:(Value.int .i64 1) = .int .i64 ((1:Nat):Int):=rfl
 rw [e1,run_sliceAt_slice (h:=hel),run_slice_l (ht:=hel) (h0:=by omega) (h1:=by omega)]
 clear hel
 by_cases h1:n = 1
 ·subst h1;go_simp
 ·rw [if_neg h1]
  go_simp
set_option maxRecDepth 1000000 in
set_option maxHeartbeats 8000000 in
theorem KParse_any (s:List UInt8) (w:World) (hl:s.length≤90000) (hM:MaxI w) (hE:ErrI w) (hT:HalfT w):Calls Tryz.prog 17 #[.string (strB s)] w (PrsK w s):=by
 have HM:=Lib.hid hM
 have HE:=Lib.hid hE
 have HT:=Lib.hid hT
 have HCut:=Lib.hid (CutTen_any s w (by omega))
 obtain ⟨S,hS⟩:∃ S,S = strB s:=⟨_,rfl⟩
 rw [← hS] at HCut ⊢
 clear hM hE hT hS
 go_enter Tryz.func17,Tryz.ntmps17
 go_wp2_with fail
 refine Calls.mono HCut.out ?_
 clear HCut
 rintro e w1 ⟨rfl,⟨l0,rfl,rfl⟩ | ⟨hn,x,rfl⟩⟩
 case inr =>
  have HN:=Lib.hid hn
  clear hn
  go_wp2
  go_ret2
  exact .inl ⟨HN.out,rfl,Below.refl _ _⟩
 have HLs:=Lib.hid (linesP_ten l0)
 have hl0:l0.length≤90000:=by simp at hl;omega
 have HSp:=Lib.hid (Split_any 10 l0 w (by omega) HM.out)
 have HSh:Hid (∀ x,x ∈ splA 10 l0→x.length≤90000):=fun x hx=>Nat.le_trans (spl_shortC _ _ _ _ hx) hl0
 have hsl:=splA_len 10 l0
 obtain ⟨S0,hS0⟩:∃ S,S = strB l0:=⟨_,rfl⟩
 rw [← hS0] at HSp ⊢
 clear hl hS0
 obtain ⟨a,T,hLs⟩:∃ a T,splA 10 l0 = a :: T:=by
  cases h:splA 10 l0 with
  | nil=>exact absurd h (splA_ne 10 l0)
  | cons a T=>exact ⟨a,T,rfl⟩
 rw [hLs] at HLs HSp HSh hsl
 generalize l0 ++ [10] = s at *
 clear hLs
 go_wp2_with fail
 refine Calls.mono HSp.out ?_
 clear HSp
 rintro e w2 ⟨rfl,hr,hb⟩
 have HB2:=Lib.hid hb
 have HR2:=Lib.hid hr
 have hgw:w.heap.size < w2.heap.size:=lt_of_cell (hr 0 a rfl)
 obtain ⟨g,hg⟩:∃ g,g = w.heap.size:=⟨_,rfl⟩
 rw [← hg] at HR2 ⊢
 clear hb hr hg
 have hTl:T.length≤90000:=by simp at hsl;omega
 obtain ⟨n,hn⟩:∃ n,n = (a :: T).length:=⟨_,rfl⟩
 have HNT:Hid (n = T.length + 1):=by rw [hn];rfl
 have hn1:n - 1 = T.length:=by rw [hn];simp
 rw [← hn]
 obtain ⟨q',c',hsa,hq'⟩:=slice_one g n (by rw [hn];simp)
 rw [hn1] at hsa hq'
 have HQ:=Lib.hid hq'
 clear hsl hq' hn1 hn
 have hn0:(0:Int) < (n:Int):=by have:=HNT.out;omega
 go_wp2
 clear hsa
 obtain ⟨m,hm⟩:∃ m,m = T.length:=⟨_,rfl⟩
 have HMT:=Lib.hid hm
 rw [← hm] at HQ HNT hTl ⊢
 clear hm
 go_loopw [6,25] (fun pv iv wr=>∃ (i c:Nat) (q:Option Addr) (P:List (List UInt8)),i≤m∧iv = .int .i64 (i:Nat)∧pv = .slice q i c∧Hid (pktsP (T.take i) = some P)∧Hid (HdrF 22 5 w2.heap.size wr (.slice q i c) i P)∧Hid (Below w2.heap.size w2 wr)) (fun _ iv _=>m - (intOf iv).toNat)
 case atStart=>exact ⟨0,0,none,[],Nat.zero_le _,rfl,rfl,rfl,HdrF.nil _ _ _ _,Below.refl _ _⟩
 case round =>
  obtain ⟨i,c,q,P,hi,rfl,rfl,HPk,HO,HB⟩:=hrel
  by_cases hlt:i < m
  ·obtain ⟨x,hx⟩:∃ x,T[i]? = some x:=⟨_,List.getElem?_eq_getElem (by have:=HMT.out;omega)⟩
   obtain rfl:=HQ.out (by omega)
   have hxm:=List.mem_of_getElem? hx
   have hc0:wr.cell? ⟨g,1 + i,none⟩ = some (.string (strB x)):=by
    have h1:=HR2.out (i + 1) x (by simpa using hx)
    rw [Nat.add_comm]
    exact (HB.out.cell (lt_of_cell h1)).trans h1
   have HRd:=Lib.hid (keepRead_any x wr (by have:=HSh.out x (by simp [hxm]);omega))
   have HSn:=Lib.hid (pktsP_snoc HPk.out hx)
   have HXM:=Lib.hid hxm
   obtain ⟨X,hX⟩:∃ X,X = strB x:=⟨_,rfl⟩
   rw [← hX] at hc0 HRd
   have hlt':(i:Int) < (m:Int):=by omega
   have HLT:=Lib.hid hlt
   clear hx hxm hX hlt
   cases hu:unhexO x with
   | none =>
    rw [hu] at HRd
    have HBad:=Lib.hid (pktsP_bad hu HXM.out)
    clear hu HSn
    go_wp2_with fail
    refine Calls.mono HRd.out ?_
    clear HRd
    rintro e w3 ⟨q3,n3,c3,rfl,hf,hb⟩
    have HB3:=Lib.hid (bl HB2.out (bl HB.out hb HB.out.size) HB2.out.size)
    clear hf hb hc0
    go_wp2
    go_ret2
    exact .inr ⟨a,T,HLs.out,.inl ⟨HBad.out,rfl,HB3.out⟩⟩
   | some y =>
    rw [hu] at HRd HSn
    clear hu
    go_wp2_with fail
    refine Calls.mono HRd.out ?_
    clear HRd
    rintro e w3 ⟨qw,nw,cw,rfl,hf,hb⟩
    have HB3:=Lib.hid (bl HB.out hb HB.out.size)
    have HW3:=Lib.hid (hf.mono HB.out.size)
    have HO3:=Lib.hid (HO.out.keep hb)
    clear hf hb hc0 HO
    have ba:Below w3.heap.size w3 (w3.alloc (.cells #[.slice qw nw cw] 22 (0,0))):=al (Below.refl _ _) (Nat.le_refl _)
    have HO10:=Lib.hid (HO3.out.keep ba)
    have HW10:=Lib.hid (HW3.out.keep ba)
    have HB10:=Lib.hid (bl HB3.out ba HB3.out.size)
    clear ba
    go_wp2_with (first | (at_builtin;refine wpList_hdr rfl _ _ rfl w2.heap.size i (.slice q i c) P rfl HO10.out (by omega) HB10.out.size w3.heap.size rfl qw nw cw (0,0) _ (hnew rfl) HW10.out ?_) | fail)
    rintro sA wA hA1 ⟨ys,hA2⟩ hA3 hA4
    obtain ⟨qA,cA,rfl⟩:=hA1.shape
    have HA:=Lib.hid hA1
    have HBA:Hid (Below w2.heap.size w2 wA):=HB10.out.grown hA3 HB10.out.size (fun g hg=>(hA2.lt g hg).1)
    clear hA1 hA2 hA3 hA4 HO10 HW10 HB10
    go_wp2
    go_roundw
    case rel=>exact ⟨i + 1,cA,qA,_,HLT.out,by go_num,rfl,HSn.out,HA.out,HBA.out⟩
    case measure=>simp [intOf];have:=HLT.out;omega
  ·obtain rfl:i = m:=by omega
   have HPT:Hid (pktsP T = some P):=by have:=HPk.out;rwa [List.take_of_length_le (by have:=HMT.out;omega)] at this
   have hc0:wr.cell? ⟨g,0,none⟩ = some (.string (strB a)):=by
    have h1:=HR2.out 0 a rfl
    exact (HB.out.cell (lt_of_cell h1)).trans h1
   have HBw:=Lib.hid (bl HB2.out HB.out HB2.out.size)
   have HPP:=Lib.hid (PParse_any a wr (by have:=HSh.out a (by simp);omega) (HM.out.keep HBw.out) (HE.out.keep HBw.out))
   have hPl:P.length = i:=by rw [pktsP_len HPT.out];exact HMT.out.symm
   obtain ⟨A,hA⟩:∃ A,A = strB a:=⟨_,rfl⟩
   rw [← hA] at hc0 HPP
   clear hlt hA HPk
   rcases parseV_two a with ⟨code,hcode,hpv⟩ | ⟨L,t,k,D,hP,hpv⟩
   ·rw [hpv] at HPP
    have hz:(code != 0) = true:=bne_iff_ne.2 hcode
    have HPV:=Lib.hid hpv
    have HCo:=Lib.hid hcode
    clear hpv hcode hPl
    go_wp2_with fail
    refine Calls.mono HPP.out ?_
    clear HPP
    rintro e w3 ⟨rfl,hb⟩
    have HB3:=Lib.hid (bl HBw.out hb HBw.out.size)
    clear hb hc0
    go_wp2
    go_ret2
    exact .inr ⟨a,T,HLs.out,.inr ⟨P,HPT.out,.inl ⟨code,HCo.out,HPV.out,rfl,al HB3.out HB3.out.size⟩⟩⟩
   ·rw [hpv] at HPP
    have HPV:=Lib.hid hpv
    have HPo:=Lib.hid hP
    have HPL:Hid (∀ y ∈ P,y.length≤1000000):=fun y hy=>by
     have:=pktsP_lens HPT.out (m:=90000) (fun x hx=>HSh.out x (by simp [hx])) y hy
     omega
    clear hpv hP
    go_wp2_with fail
    refine Calls.mono HPP.out ?_
    clear HPP
    rintro e w3 ⟨rfl,hb⟩
    have HB3:=Lib.hid (bl HBw.out hb HBw.out.size)
    have HO3:=Lib.hid (HO.out.keep hb)
    clear hb hc0 HO
    have ba:Below w3.heap.size w3 (w3.alloc (.cells #[.int .i64 (L:Nat),.int .i64 (t:Nat),.int .i64 (k:Nat),.int .u32 (D:Nat)] 27 (0,0))):=al (Below.refl _ _) (Nat.le_refl _)
    have HO4:=Lib.hid ((HO3.out.keep ba).sl2)
    have HB4:=Lib.hid (bl HB3.out ba HB3.out.size)
    clear ba HO3
    go_wp2_with fail
    refine Calls.mono (KImport_any L t k D q i c P _ HPo.out (HT.out.keep HB4.out) HO4.out (by omega) HPL.out) ?_
    rintro e w5 hI
    have hI2:=hI.from HB4.out
    rw [← hPl] at hI2
    rcases hI with ⟨h0,base,gt,be,M,v,C,rfl,-,-,-⟩ | ⟨h0,rfl,-⟩
    ·have HI:=Lib.hid hI2
     clear hI2 h0 hPl
     go_wp2
     go_ret2
     exact .inr ⟨a,T,HLs.out,.inr ⟨P,HPT.out,.inr ⟨L,t,k,D,HPo.out,HPV.out,HI.out⟩⟩⟩
    ·have HI:=Lib.hid hI2
     clear hI2 h0 hPl
     go_wp2
     go_ret2
     exact .inr ⟨a,T,HLs.out,.inr ⟨P,HPT.out,.inr ⟨L,t,k,D,HPo.out,HPV.out,HI.out⟩⟩⟩
end Go.Proofs.YtccaiiigdfieoaaGreatDoor
namespace Go.Proofs.YtccaiiigdfieoaaGreatDoor
open Go.RowKit Go.By
def wbRen:Go.Shelf.Ren:=⟨fun | 166=>70 | 167=>73 | 240=>126 | 276=>191 | n=>n,fun | 0=>0 | 3=>3 | 4=>4 | 5=>5 | 9=>9 | 20=>20 | 37=>22 | 70=>133 | 72=>135 | 75=>137 | 164=>267 | 80=>70 | n=>n,fun n=>n⟩
theorem wbLays166:Go.Proofs.Lays.n166 Tryz.prog wbRen :=
 {
  mixed:=by kernel_rfl
  f166:=Tryz.func70.trans (congrArg some (by kernel_rfl))
  f240:=Tryz.func126.trans (congrArg some (by kernel_rfl))
  f276:=Tryz.func191.trans (congrArg some (by kernel_rfl))
  t0:=Tryz.underlying0
  a0:=Tryz.isAgg0
  z0:=Tryz.sizeOf0
  v0:=Tryz.zeroValue0
  t3:=Tryz.underlying3
  a3:=Tryz.isAgg3
  z3:=Tryz.sizeOf3
  v3:=Tryz.zeroValue3
  t4:=Tryz.underlying4
  a4:=Tryz.isAgg4
  z4:=Tryz.sizeOf4
  v4:=Tryz.zeroValue4
  t9:=Tryz.underlying9
  a9:=Tryz.isAgg9
  z9:=Tryz.sizeOf9
  v9:=Tryz.zeroValue9
  t20:=Tryz.underlying20
  a20:=Tryz.isAgg20
  z20:=Tryz.sizeOf20
  v20:=Tryz.zeroValue20
  t37:=Tryz.underlying22
  a37:=Tryz.isAgg22
  z37:=Tryz.sizeOf22
  v37:=Tryz.zeroValue22
  t70:=Tryz.underlying133
  a70:=Tryz.isAgg133
  z70:=Tryz.sizeOf133
  v70:=Tryz.zeroValue133
  t72:=Tryz.underlying135
  a72:=Tryz.isAgg135
  z72:=Tryz.sizeOf135
  v72:=Tryz.zeroValue135
  t75:=Tryz.underlying137
  a75:=Tryz.isAgg137
  z75:=Tryz.sizeOf137
  v75:=Tryz.zeroValue137
  t164:=Tryz.underlying267
  a164:=Tryz.isAgg267
  z164:=Tryz.sizeOf267
  v164:=Tryz.zeroValue267 }
theorem wbLays167:Go.Proofs.Lays.n167 Tryz.prog wbRen :=
 {
  mixed:=by kernel_rfl
  f167:=Tryz.func73.trans (congrArg some (by kernel_rfl))
  f240:=Tryz.func126.trans (congrArg some (by kernel_rfl))
  f276:=Tryz.func191.trans (congrArg some (by kernel_rfl))
  t0:=Tryz.underlying0
  a0:=Tryz.isAgg0
  z0:=Tryz.sizeOf0
  v0:=Tryz.zeroValue0
  t4:=Tryz.underlying4
  a4:=Tryz.isAgg4
  z4:=Tryz.sizeOf4
  v4:=Tryz.zeroValue4
  t5:=Tryz.underlying5
  a5:=Tryz.isAgg5
  z5:=Tryz.sizeOf5
  v5:=Tryz.zeroValue5
  t9:=Tryz.underlying9
  a9:=Tryz.isAgg9
  z9:=Tryz.sizeOf9
  v9:=Tryz.zeroValue9
  t20:=Tryz.underlying20
  a20:=Tryz.isAgg20
  z20:=Tryz.sizeOf20
  v20:=Tryz.zeroValue20
  t37:=Tryz.underlying22
  a37:=Tryz.isAgg22
  z37:=Tryz.sizeOf22
  v37:=Tryz.zeroValue22
  t70:=Tryz.underlying133
  a70:=Tryz.isAgg133
  z70:=Tryz.sizeOf133
  v70:=Tryz.zeroValue133
  t72:=Tryz.underlying135
  a72:=Tryz.isAgg135
  z72:=Tryz.sizeOf135
  v72:=Tryz.zeroValue135
  t75:=Tryz.underlying137
  a75:=Tryz.isAgg137
  z75:=Tryz.sizeOf137
  v75:=Tryz.zeroValue137
  t164:=Tryz.underlying267
  a164:=Tryz.isAgg267
  z164:=Tryz.sizeOf267
  v164:=Tryz.zeroValue267 }
theorem wbExtra:Builder.Extra Tryz.prog wbRen:={
 sizeBuilder:=by kernel_rfl
 liesBuilder:=by kernel_rfl
 t5:=Tryz.underlying5
 a5:=Tryz.isAgg5
 z5:=Tryz.sizeOf5
 v5:=Tryz.zeroValue5
 infoByte:=by kernel_rfl
 cellsByte:=by kernel_rfl
 sizeByte:=by kernel_rfl
 neB5:=by decide }
theorem WriteS_b (B b:Nat) (t s:List UInt8) (w:World) (h:Lib.IsBuilder 135 5 B b (Lib.byteCells t) w) (hlen:t.length + s.length≤100000000) (hBw:B≤w.heap.size) :
  Calls Tryz.prog 70 #[.pointer (some ⟨b,0,none⟩),.string (strB s)] w fun e w'=>e = .returned (.tuple #[.int .i64 s.length,.nilIface])∧Lib.BuilderAt 135 5 B b (.pointer (some ⟨b,0,none⟩)) (Lib.byteCells (t ++ s)) w'∧Below B w w':=by
 have:=Any.Builder_WriteString (ρ:=wbRen) wbLays166 wbExtra B b (Lib.byteCells t) (strB s) w h (by rw [Lib.byteCells_length,strB_size];omega) hBw
 refine Calls.mono this ?_
 rintro e w' ⟨rfl,h1,h2⟩
 rw [strB_cells,bytes_append] at h1
 rw [strB_size]
 exact ⟨rfl,h1,h2⟩
theorem StringB_b (B b:Nat) (t:List UInt8) (w:World) (h:Lib.IsBuilder 135 5 B b (Lib.byteCells t) w) (hBw:B≤w.heap.size) :
  Calls Tryz.prog 74 #[.pointer (some ⟨b,0,none⟩)] w fun e w'=>e = .returned (.string (strB t))∧Below B w w':=Tryz.Builder_String_any B b t w h hBw
end Go.Proofs.YtccaiiigdfieoaaGreatDoor
namespace Go.Proofs.YtccaiiigdfieoaaGreatDoor
open Go.RowKit Go.By
def BldI (w:World) (b:Nat) (t:List UInt8):Prop:=Lib.IsBuilder 135 5 b b (Lib.byteCells t) w
theorem BldI.keep {w w':World} {b:Nat} {t:List UInt8} (h:BldI w b t) (hb:Below w.heap.size w w'):BldI w' b t:=Or.imp (fun h=>BuilderAt.keep h hb) (fun h=>BuilderAt.keep h hb) h
theorem BldI.lt {w:World} {b:Nat} {t:List UInt8} (h:BldI w b t):b < w.heap.size:=h.elim (fun h=>h.lt) (fun h=>h.lt)
theorem BldI.new {w:World} {b:Nat} (h:w.heap[b]? = some (.cells #[.pointer none,.slice none 0 0] 135 (0,0))):BldI w b []:=Or.inl ⟨Nat.le_refl _,_,h,World.ownsRow_nil _ _ _ _,by simp [Value.ownBlock]⟩
theorem BldI.done {w:World} {b:Nat} {t:List UInt8} (h:BldI w b t):Calls Tryz.prog 74 #[.pointer (some ⟨b,0,none⟩)] w fun e w'=>e = .returned (.string (strB t))∧Below b w w':=StringB_b b b t w h (Nat.le_of_lt h.lt)
def digits16:List UInt8:=[48,49,50,51,52,53,54,55,56,57,97,98,99,100,101,102]
theorem digits_at:∀ y,y < 16→digits16[y]? = some (dgt y):=by decide
theorem digits_run {y:Nat} (hy:y < 16) (z:Int) (hz:z = (y:Int)) (w:World):(Instr.index 9 (.string ⟨#[48,49,50,51,52,53,54,55,56,57,97,98,99,100,101,102]⟩) (.int .u8 z)).run Tryz.prog w = .ok (B8 (dgt y)) w :=
 txt_idx (l:=digits16) _ Tryz.underlying9 (digits_at y hy) .u8 z hz w
theorem and15 (x:UInt8):bits BinOp.and IntKind.u8 (x.toNat:Int) 15 = ((x.toNat % 16:Nat):Int):=by
 have h:∀ n:Fin 256,bits BinOp.and IntKind.u8 (n.1:Int) 15 = ((n.1 % 16:Nat):Int):=by decide +kernel
 exact h ⟨x.toNat,x.toNat_lt⟩
theorem hexL_step {l:List UInt8} {i:Nat} {x:UInt8} (h:l[i]? = some x):hexL (l.take (i + 1)) = hexL (l.take i) ++ [dgt (x.toNat / 16)] ++ [dgt (x.toNat % 16)]:=by
 unfold hexL
 rw [List.take_add_one,h,List.flatMap_append];simp
theorem hexL_len2 (xs:List UInt8):(hexL xs).length = 2 * xs.length:=by
 unfold hexL
 induction xs with
 | nil=>rfl
 | cons x l ih=>rw [List.flatMap_cons,List.length_append,ih,List.length_cons];simp;omega
end Go.Proofs.YtccaiiigdfieoaaGreatDoor
namespace Go.Proofs.YtccaiiigdfieoaaGreatDoor
open Go.RowKit Go.By
def BG (w:World) (B b:Nat) (v:Value) (t:List UInt8):Prop :=
 w.heap[b]? = some (.cells #[.pointer (some ⟨b,0,none⟩),v] 135 (0,0))∧w.ownsRow B 5 1 v t.length (t.map B8)∧v.ownBlock≠some b∧B≤w.heap.size
def BGk (w w':World) (b:Nat) (v v':Value):Prop :=
 (∀ k,k < w.heap.size→k≠b→v.ownBlock≠some k→w'.heap[k]? = w.heap[k]?)∧w.heap.size≤w'.heap.size∧(v'.ownBlock = v.ownBlock∨∀ g,v'.ownBlock = some g→w.heap.size≤g)
theorem CopyCheck_g (w:World) (b:Nat) (h:w.cell? ⟨b,0,none⟩ = some (.pointer (some ⟨b,0,none⟩))) :
  Calls Tryz.prog 126 #[.pointer (some ⟨b,0,none⟩)] w fun e w'=>e = .returned (.tuple #[])∧w = w' :=
 (Any.Builder_copyCheck_used (ρ:=wbRen) { wbLays167 with } wbExtra.toX72 b w h).mono fun _ _ ⟨h1,h2⟩=>⟨h1,h2.symm⟩
set_option maxRecDepth 100000 in
set_option maxHeartbeats 2000000 in
theorem WriteB_g (B b:Nat) (v:Value) (t:List UInt8) (x:UInt8) (w:World) (h:BG w B b v t) (hl:t.length + 1≤100000000) :
  Calls Tryz.prog 73 #[.pointer (some ⟨b,0,none⟩),B8 x] w fun e w'=>e = .returned .nilIface∧∃ v',BG w' B b v' (t ++ [x])∧BGk w w' b v v'∧(B≤b→Below B w w'):=by
 obtain ⟨i0,hi,hz0,hz1,hz2⟩:=info_parts info_u8
 obtain ⟨hbk,hown,hne,hBw⟩:=h
 obtain ⟨c0,c1⟩:=cells2 hbk
 have hlt:=lt_of_block hbk
 have HC:=Lib.hid (CopyCheck_g w b c0)
 have HBK:=Lib.hid hbk
 have HOA:Hid (∀ o,(w.alloc o).ownsRow B 5 1 v t.length (t.map B8)):=fun o=>hown.alloc o
 have HO:=Lib.hid hown
 have HNE:=Lib.hid hne
 clear hbk hown hne c0
 go_enter Tryz.func73,Tryz.ntmps73
 go_wp2_with fail
 refine Calls.mono HC.out ?_
 rintro e w1 ⟨rfl,rfl⟩
 go_wp2_with (at_builtin;refine wpList_append_where _ rfl _ _ 22 rfl B 5 i0 (.int .u8 0) 1 1 Tryz.underlying22 hi hz0 hz1 hz2 rfl (by decide) v t.length (t.map B8) rfl (HOA.out _) ⟨w.heap.size,0,none⟩ 1 1 [B8 x] rfl rfl ?c1 ?c2 ?c3 ?c4 ?c5 (by decide) ?_)
 case c1 =>
  intro j u hj
  match j,hj with
  | 0,hj=>simp at hj;subst hj;rw [Addr.add_lit,cell_of_row _ _ _ _ _ _ (hnew (by simp))];rfl
 case c2=>intro u hu;simp at hu;subst hu;rfl
 case c3=>unfold maxLen;omega
 case c4=>omega
 case c5=>simp;omega
 intro v' w2 hown' hgrow hwh
 have hb2:w2.heap[b]? = some (.cells #[.pointer (some ⟨b,0,none⟩),v] 135 (0,0)):=by
  rw [hgrow.block b (by simp;omega) (fun e=>HNE.out e.symm),Lib.alloc_old w _ b hlt]
  exact HBK.out
 obtain ⟨d0,d1⟩:=cells2 hb2
 have f1:w2.frozen? ⟨b,1,none⟩ = false:=frozen_of_row _ _ 1 _ _ hb2
 have HW:=Lib.hid hwh
 have HG:=Lib.hid hgrow
 have HN:=Lib.hid hown'
 have HB2:=Lib.hid hb2
 obtain ⟨q,c,rfl⟩:=owns_shape hown'
 clear hown' hgrow hwh hb2
 go_wp2
 go_ret
 refine ⟨rfl,.slice q (t.length + 1) c,⟨?_,?_,?_,?_⟩,⟨?_,?_,?_⟩,fun hB=>?_⟩
 ·simp [World.setCell,Array.getElem?_modify,HB2.out]
 ·have hne:=Lib.ownBlock_ne HN.out HB2.out (by decide)
  have:=HN.out.kept (w':=w2.setCell ⟨b,1,none⟩ (.slice q (t.length + 1) c)) (row:=some b) ⟨rfl,rfl,rfl,by simp [World.setCell],fun k _ hk=>Below.heap_setCell _ _ _ _ (fun e=>hk (by simp [e]))⟩ (Or.inr hne)
  simpa [List.map_append] using this
 ·exact Lib.ownBlock_ne HN.out HB2.out (by decide)
 ·have:=HG.out.size;simp [World.setCell] at this ⊢;omega
 ·intro k hk hkb hkv
  rw [Below.heap_setCell _ _ _ _ (fun e=>hkb e),HG.out.block k (by simp;omega) (fun e=>hkv e.symm),Lib.alloc_old w _ k hk]
 ·have:=HG.out.size;simp [World.setCell] at this ⊢;omega
 ·rcases HW.out with e | e
  ·exact .inl e
  ·refine .inr fun g hg=>?_
   rw [e] at hg
   cases hg
   simp
 ·exact (((Below.refl B w).alloc hBw _).grown HG.out (by simp;omega) (fun k hk=>(HO.out.lt k hk).1)).setCell (p:=⟨b,1,none⟩) hB _
def MidW (w6 wr:World) (s5:Nat) (v:Value):Prop:=(∀ k,s5≤k→k < w6.heap.size→wr.heap[k]? = w6.heap[k]?)∧w6.heap.size≤wr.heap.size∧∀ g,v.ownBlock = some g→g < s5∨w6.heap.size≤g
theorem MidW.step {w6 wr w':World} {s5 b:Nat} {v v':Value} (h:MidW w6 wr s5 v) (hk:BGk wr w' b v v') (hb:b < s5):MidW w6 w' s5 v':=by
 obtain ⟨h1,h2,h3⟩:=h
 obtain ⟨k1,k2,k3⟩:=hk
 refine ⟨fun k a c=>?_,by omega,fun g hg=>?_⟩
 ·rw [k1 k (by omega) (by omega) (fun e=>by have:=h3 k e;omega)];exact h1 k a c
 ·rcases k3 with e | e
  ·exact h3 g (by rw [← e];exact hg)
  ·have:=e g hg;exact .inr (by omega)
theorem fresh_mid {T B n c:Nat} {w w':World} {q:Option Addr} {xs:List UInt8} (h:Fresh T B w q n c xs) (hm:∀ k,B≤k→k < w.heap.size→w'.heap[k]? = w.heap[k]?):Fresh T B w' q n c xs:=by
 have hd:∀ a,q = some a→w'.heap[a.block]? = w.heap[a.block]?:=fun a ha=>by
  obtain ⟨cs,fr,e⟩:=h.ty a ha
  exact hm _ (h.new a ha) (lt_of_block e)
 refine ⟨⟨h.sl.len,h.sl.le,h.sl.max,h.sl.nil,fun i hi=>?_⟩,h.new,fun a ha=>?_⟩
 ·obtain ⟨b,o,e,hc⟩:=h.sl.rs i hi
  exact ⟨b,o,e,(World.cell?_of_block (a:=⟨b,o + i,none⟩) (show w'.heap[b]? = w.heap[b]? from hd ⟨b,o,none⟩ e)).trans hc⟩
 ·obtain ⟨cs,fr,e⟩:=h.ty a ha
  exact ⟨cs,fr,(hd a ha).trans e⟩
theorem hdrF_base {T2 T1 B n b o c:Nat} {w:World} {xss:List (List UInt8)} (h:HdrF T2 T1 B w (.slice (some ⟨b,o,none⟩) n c) n xss):B≤b:=by
 obtain ⟨vs,ow,_⟩:=h
 rcases ow.2 with ⟨e,_⟩ | ⟨g,cap,cur,e,hB,_⟩
 ·cases e
 ·cases e;exact hB
theorem cell_mid {B b o:Nat} {w w':World} {u:Value} (h:w.cell? ⟨b,o,none⟩ = some u) (hB:B≤b) (hm:∀ k,B≤k→k < w.heap.size→w'.heap[k]? = w.heap[k]?):w'.cell? ⟨b,o,none⟩ = some u :=
 (World.cell?_of_block (a:=⟨b,o,none⟩) (show w'.heap[b]? = w.heap[b]? from hm b hB (lt_of_cell h))).trans h
theorem HdrF.mid {T2 T1 B n:Nat} {w w':World} {v:Value} {xss:List (List UInt8)} (h:HdrF T2 T1 B w v n xss) (hs:w.heap.size≤w'.heap.size) (hm:∀ k,B≤k→k < w.heap.size→w'.heap[k]? = w.heap[k]?):HdrF T2 T1 B w' v n xss:=by
 obtain ⟨vs,o,l,r⟩:=h
 refine ⟨vs,owns_same o hs fun g hg=>hm g (o.lt g hg).1 (o.lt g hg).2,l,fun j u hj=>?_⟩
 obtain ⟨q,m,c,xs,e,hx,hf⟩:=r j u hj
 have hd:∀ a,q = some a→w'.heap[a.block]? = w.heap[a.block]?:=fun a ha=>by
  obtain ⟨cs,fr,e⟩:=hf.ty a ha
  exact hm _ (hf.new a ha) (lt_of_block e)
 refine ⟨q,m,c,xs,e,hx,⟨hf.sl.len,hf.sl.le,hf.sl.max,hf.sl.nil,fun i hi=>?_⟩,hf.new,fun a ha=>?_⟩
 ·obtain ⟨b,o,e,hc⟩:=hf.sl.rs i hi
  exact ⟨b,o,e,(World.cell?_of_block (a:=⟨b,o + i,none⟩) (show w'.heap[b]? = w.heap[b]? from hd ⟨b,o,none⟩ e)).trans hc⟩
 ·obtain ⟨cs,fr,e⟩:=hf.ty a ha
  exact ⟨cs,fr,(hd a ha).trans e⟩
end Go.Proofs.YtccaiiigdfieoaaGreatDoor
namespace Go.By
open Go.RowKit Go.Proofs.YtccaiiigdfieoaaGreatDoor
end Go.By
namespace Go.Proofs.YtccaiiigdfieoaaGreatDoor
open Go.RowKit Go.By
end Go.Proofs.YtccaiiigdfieoaaGreatDoor
namespace Go.Proofs.YtccaiiigdfieoaaGreatDoor
open Go.RowKit Go.By
theorem hexT_len {L:List (List UInt8)} {m:Nat} (h:∀ x ∈ L,x.length≤m):(hexT L).length≤(2 * m + 1) * L.length:=by
 induction L with
 | nil=>simp [hexT]
 | cons x l ih =>
  have e:hexT (x :: l) = (hexL x ++ [10]) ++ hexT l:=rfl
  have h1:=h x (by simp)
  have h2:=ih fun y hy=>h y (by simp [hy])
  have h3:=hexL_len2 x
  have h4:(2 * m + 1) * (l.length + 1) = (2 * m + 1) * l.length + (2 * m + 1):=Nat.mul_succ _ _
  have h5:(x :: l).length = l.length + 1:=rfl
  have h6:([10]:List UInt8).length = 1:=rfl
  rw [e,List.length_append,List.length_append,h3,h5,h4,h6]
  omega
theorem digit_get {k:Nat} (hk:k < 16) (hs:k < (strB digits16).size):(strB digits16)[k]'hs = dgt k:=by
 have h3:(strB digits16).data[k]? = some ((strB digits16)[k]'hs):=Array.getElem?_eq_getElem hs
 have h4:(strB digits16).data[k]? = some (dgt k):=by rw [← Array.getElem?_toList,strB_data];exact digits_at k hk
 rw [h3] at h4;exact Option.some.inj h4
theorem textS_pok {L t k D:Nat} (h:POK L t k D):textS (L:Int) (t:Int) (k:Int) D = textW D L t k:=by
 unfold textS
 rw [if_pos h.chk]
 simp
set_option maxRecDepth 1000000 in
set_option maxHeartbeats 8000000 in
theorem KText_ok (base gt be L t k D N:Nat) (M v:Value) (C:DataW Unit) (K:List Rw) (st:Nat) (R:List (List UInt8)) (w:World) (h:Tkr w base gt be L t k D N M v C K st) (hT:Tab10 w)
  (hEx:∀ W,Below w.heap.size w W→Calls Tryz.prog 27 #[.pointer (some ⟨gt,0,none⟩)] W fun e w'=>∃ q c,e = .returned (.slice q R.length c)∧HdrF 22 5 W.heap.size w' (.slice q R.length c) R.length R∧Below W.heap.size W w')
  (hR:∀ x ∈ R,x.length≤100000) (hRl:R.length≤100) :
  Calls Tryz.prog 18 #[.pointer (some ⟨gt,0,none⟩)] w fun e w'=>e = .returned (.string (strB (textW D L t k ++ [10] ++ hexT R)))∧Below w.heap.size w w':=by
 have HGt:Hid (∀ W,Below w.heap.size w W→Calls Tryz.prog 71 #[.pointer (some ⟨gt,0,none⟩)] W fun e w'=>e = .returned (GVal L t k D M)∧Below W.heap.size W w'):=fun W hb=>TGate_any base gt be L t k D N M v C K st W (h.keep hb)
 have HPt:Hid (∀ W,Below w.heap.size w W→Calls Tryz.prog 72 #[PVal L t k D] W fun e w'=>e = .returned (.string (strB (textW D L t k)))∧Below W.heap.size W w'):=fun W hb=>by
  have:=PText_any L t k D h.ok.d W h.ok.l (hT.keep hb)
  rwa [textS_pok h.ok] at this
 have HEx:=Lib.hid hEx
 have HR:=Lib.hid hR
 have htl:(textW D L t k).length≤100:=textW_len (by have:=h.ok.d;omega) (by have:=h.ok.l;omega) (by have:=h.ok.t2;omega) (by have:=h.ok.k2;omega)
 have HHL:Hid (∀ i,(hexT (R.take i)).length≤20000200):=fun i=>by
  have h1:=hexT_len (L:=R.take i) fun x hx=>hR x (List.mem_of_mem_take hx)
  have h2:(R.take i).length≤100:=by rw [List.length_take];omega
  have h3:(2 * 100000 + 1) * (R.take i).length≤(2 * 100000 + 1) * 100:=Nat.mul_le_mul_left _ h2
  omega
 generalize textW D L t k = TX at *
 clear h hT hEx hR
 go_enter Tryz.func18,Tryz.ntmps18
 go_wp2_with fail
 have t1:BldI (w.alloc (.cells #[.pointer none,.slice none 0 0] 135 (0,0))) w.heap.size []:=BldI.new (hnew rfl)
 have BW:Hid (Below w.heap.size w (w.alloc (.cells #[.pointer none,.slice none 0 0] 135 (0,0)))):=al (Below.refl _ _) (Nat.le_refl _)
 generalize w.alloc (.cells #[.pointer none,.slice none 0 0] 135 (0,0)) = w1 at *
 have T1:=Lib.hid t1
 clear t1
 refine Calls.mono (HGt.out w1 BW.out) ?_
 rintro e w2 ⟨rfl,hb⟩
 have HB2:=Lib.hid (bl BW.out hb BW.out.size)
 have T2:=Lib.hid (T1.out.keep hb)
 clear hb T1 BW HGt
 have hfg:=field_gate L t k D M w2
 go_wp2_with (first | simp only [hfg] | fail)
 refine Calls.mono (HPt.out w2 HB2.out) ?_
 rintro e w3 ⟨rfl,hb⟩
 have HB3:=Lib.hid (bl HB2.out hb HB2.out.size)
 have T3:=T2.out.keep hb
 have hs3:=HB3.out.size
 have HS3:=Lib.hid (WriteS_b w.heap.size w.heap.size [] TX w3 T3 (by simpa using (by omega:TX.length≤100000000)) hs3)
 have hTXs:=strB_size TX
 clear hb T2 HB2 HPt T3 hfg
 generalize strB TX = TXS at *
 go_wp2_with fail
 refine Calls.mono HS3.out ?_
 rintro e w4 ⟨rfl,hbA,hb⟩
 obtain ⟨-,v4,hbk,hown,hne⟩:=hbA
 have HB4:=Lib.hid (HB3.out.trans hb)
 have HG4:Hid (BG w4 w.heap.size w.heap.size v4 TX):=⟨hbk,by rw [Lib.byteCells_length] at hown;exact hown,hne,by have:=hb.size;omega⟩
 clear hb hbk hown hne HS3 HB3 hs3
 go_wp2_with fail
 refine Calls.mono (WriteB_g _ _ _ _ 10 w4 HG4.out (by omega)) ?_
 rintro e w5 ⟨rfl,v5,hg5,-,hb⟩
 have HB5:=Lib.hid (HB4.out.trans (hb (Nat.le_refl _)))
 have HG5:=Lib.hid hg5
 clear hg5 hb HG4 HB4
 go_wp2_with fail
 refine Calls.mono (HEx.out w5 HB5.out) ?_
 rintro e w6 ⟨q,c,rfl,hh,hb⟩
 have HB6:=Lib.hid (bl HB5.out hb HB5.out.size)
 have HH:=Lib.hid hh
 have HM6:Hid (MidW w6 w6 w5.heap.size v5):=⟨fun _ _ _=>rfl,Nat.le_refl _,fun g hg=>.inl (HG5.out.2.1.lt g hg).2⟩
 have HGB:Hid (w.heap.size < w5.heap.size):=lt_of_block HG5.out.1
 have HG6:Hid (BG w6 w.heap.size w.heap.size v5 (TX ++ [10])):=⟨(hb.block _ HGB.out).trans HG5.out.1,owns_keepv HG5.out.2.1 hb,HG5.out.2.2.1,by have:=HB6.out.size;omega⟩
 have HL6:Hid (BG w6 w.heap.size w.heap.size v5 (TX ++ [10] ++ hexT (R.take 0))):=by
  show BG _ _ _ _ _
  have:TX ++ [10] ++ hexT (R.take 0) = TX ++ [10]:=by simp [hexT]
  rw [this];exact HG6.out
 clear hh hb HG5 HB5 HG6 HEx
 go_wp2
 go_loopw [5,7,19,25] (fun _ _ iv _ wr=>∃ (i:Nat) (v:Value),i≤R.length∧iv = .int .i64 (i:Nat)∧Hid (BG wr w.heap.size w.heap.size v (TX ++ [10] ++ hexT (R.take i)))∧Hid (MidW w6 wr w5.heap.size v)∧Hid (Below w.heap.size w wr)) (fun _ _ iv _ _=>R.length - (intOf iv).toNat)
 case atStart=>exact ⟨0,v5,Nat.zero_le _,rfl,HL6.out,HM6.out,HB6.out⟩
 case round =>
  obtain ⟨i,v,hi,rfl,HG,HM,HB⟩:=hrel
  clear HL6 HM6 HB6
  by_cases hlt:i < R.length
  ·obtain ⟨b,o,p,m,d,xs,rfl,hc,hx,hf⟩:=HH.out.at hlt
   have hc':=cell_mid hc (Nat.le_trans (hdrF_base HH.out) (Nat.le_refl _)) HM.out.1
   have HFr:=Lib.hid hf
   have hlt':(i:Int) < (R.length:Int):=by omega
   have HLT:=Lib.hid hlt
   have hmb:m≤100000:=by rw [← hf.sl.len];exact HR.out _ (List.mem_of_getElem? hx.out)
   clear hlt hc hf
   have HXI:=Lib.hid hx.out
   have HS:=Lib.hid (hexT_snoc hx.out)
   have hA:=HHL.out i
   obtain ⟨A,hAe⟩:∃ A,A = TX ++ [10] ++ hexT (R.take i):=⟨_,rfl⟩
   have hAl:A.length≤30000000:=by rw [hAe];simp only [List.length_append,List.length_cons,List.length_nil];omega
   rw [← hAe] at HG
   have HAE:=Lib.hid hAe
   have HGz:Hid (BG wr w.heap.size w.heap.size v (A ++ hexL (xs.take 0))):=by
    show BG _ _ _ _ _
    have e:A ++ hexL (xs.take 0) = A:=by simp [hexL]
    rw [e];exact HG.out
   clear hAe hA hx HG
   go_wp2
   clear hc' hlt'
   go_loopw [7,25] (fun _ jv wr=>∃ (j:Nat) (v:Value),j≤m∧jv = .int .i64 (j:Nat)∧Hid (BG wr w.heap.size w.heap.size v (A ++ hexL (xs.take j)))∧Hid (MidW w6 wr w5.heap.size v)∧Hid (Below w.heap.size w wr)) (fun _ jv _=>m - (intOf jv).toNat)
   case atStart=>exact ⟨0,v,Nat.zero_le _,rfl,HGz.out,HM.out,HB.out⟩
   case round =>
    clear HGz HM HB
    obtain ⟨j,v,hj,rfl,HG,HM,HB⟩:=hrel
    by_cases hlt:j < m
    ·obtain ⟨bb,oo,x,rfl,hc1,hx1⟩:=(fresh_mid HFr.out HM.out.1).sl.at j hlt
     have hlt':(j:Int) < (m:Int):=by omega
     have HLT2:=Lib.hid hlt
     have HST:=Lib.hid (hexL_step hx1.out)
     have hx8:=x.toNat_lt
     have hdA:=digits_run (y:=x.toNat / 16) (by omega) ((x.toNat:Int) / 16) (by omega)
     have hdB:=digits_run (y:=x.toNat % 16) (by omega) ((x.toNat % 16:Nat):Int) rfl
     have hand:=and15 x
     have HLn:Hid ((A ++ hexL (xs.take j)).length≤30300000):=by
      have h4:=hexL_len2 (xs.take j)
      have h5:(xs.take j).length≤j:=List.length_take_le _ _
      show _≤_
      rw [List.length_append];omega
     clear hlt hx1
     go_wp2_with (first | simp only [hdA] | fail)
     refine Calls.mono (WriteB_g _ _ _ _ _ wr HG.out (by have:=HLn.out;omega)) ?_
     rintro e w7 ⟨rfl,v7,hg7,hk7,hb7⟩
     have HG7:=Lib.hid hg7
     have HM7:=Lib.hid (HM.out.step hk7 HGB.out)
     have HB7:=Lib.hid (HB.out.trans (hb7 (Nat.le_refl _)))
     clear hg7 hk7 hb7 HG HM HB hc1 hdA
     go_wp2_with (first | simp only [hand,hdB] | simp only [hdB] | fail)
     refine Calls.mono (WriteB_g _ _ _ _ _ w7 HG7.out (by have:=HLn.out;have h1:([dgt (x.toNat / 16)]:List UInt8).length = 1:=rfl;rw [List.length_append];omega)) ?_
     rintro e w8 ⟨rfl,v8,hg8,hk8,hb8⟩
     have ed:∀ h,(ByteArray.mk #[48,49,50,51,52,53,54,55,56,57,97,98,99,100,101,102])[x.toNat % 16]'h = dgt (x.toNat % 16):=fun h=>digit_get (by omega) h
     rw [ed] at hg8
     have HG8:Hid (BG w8 w.heap.size w.heap.size v8 (A ++ hexL (xs.take (j + 1)))):=by show BG _ _ _ _ _;rw [HST.out,← List.append_assoc,← List.append_assoc];exact hg8
     have HM8:=Lib.hid (HM7.out.step hk8 HGB.out)
     have HB8:=Lib.hid (HB7.out.trans (hb8 (Nat.le_refl _)))
     clear hg8 hk8 hb8 HG7 HM7 HB7 hdB hand
     go_wp2
     go_roundw
     case rel=>exact ⟨j + 1,v8,HLT2.out,by go_num,HG8.out,HM8.out,HB8.out⟩
     case measure=>simp [intOf];have:=HLT2.out;omega
    ·obtain rfl:j = m:=by omega
     have e9:xs.take j = xs:=List.take_of_length_le (by rw [HFr.out.sl.len];exact Nat.le_refl _)
     have HLn:Hid ((A ++ hexL xs).length≤30300000):=by
      have h4:=hexL_len2 xs
      have h5:=HFr.out.sl.len
      show _≤_
      rw [List.length_append];omega
     rw [e9] at HG
     clear hlt e9
     go_wp2_with fail
     refine Calls.mono (WriteB_g _ _ _ _ 10 wr HG.out (by have:=HLn.out;omega)) ?_
     rintro e w7 ⟨rfl,v7,hg7,hk7,hb7⟩
     have HG7:Hid (BG w7 w.heap.size w.heap.size v7 (TX ++ [10] ++ hexT (R.take (i + 1)))):=by show BG _ _ _ _ _;rw [HS.out,← List.append_assoc,← List.append_assoc,← HAE.out];exact hg7
     have HM7:=Lib.hid (HM.out.step hk7 HGB.out)
     have HB7:=Lib.hid (HB.out.trans (hb7 (Nat.le_refl _)))
     clear hg7 hk7 hb7 HG HM HB
     go_wp2
     go_roundw
     case rel=>exact ⟨i + 1,v7,HLT.out,by go_num,HG7.out,HM7.out,HB7.out⟩
     case measure=>simp [intOf];have:=HLT.out;omega
  ·obtain rfl:i = R.length:=by omega
   have e9:R.take R.length = R:=List.take_length
   rw [e9] at HG
   have HD:=Lib.hid (StringB_b w.heap.size w.heap.size (TX ++ [10] ++ hexT R) wr (.inr ⟨Nat.le_refl _,v,HG.out.1,by rw [Lib.byteCells_length];exact HG.out.2.1,HG.out.2.2.1⟩) HG.out.2.2.2)
   clear hlt e9
   go_wp2_with fail
   refine Calls.mono HD.out ?_
   rintro e w7 ⟨rfl,hb⟩
   have HB7:=Lib.hid (HB.out.trans hb)
   clear hb
   go_wp2
   go_ret
   have e0:TX ++ [10] ++ hexT R = TX ++ 10 :: hexT R:=by simp
   exact ⟨by rw [e0];rfl,HB7.out⟩
end Go.Proofs.YtccaiiigdfieoaaGreatDoor
namespace Go.Proofs.YtccaiiigdfieoaaGreatDoor
open Go.RowKit Go.By
end Go.Proofs.YtccaiiigdfieoaaGreatDoor
namespace Go.Proofs.YtccaiiigdfieoaaGreatDoor
open Go.RowKit Go.By
theorem pok523:POK 5 2 3 7:=⟨by decide,by decide,by decide,by decide,by decide,by decide,by decide⟩
theorem of527:ofS 5 2 7 = .tuple #[PVal 5 2 3 7,.int .i64 0]:=by
 have h:fitS 5 2 = 0:=by decide
 have h2:needS 5 2 = 3:=by decide
 unfold ofS;rw [if_pos h,h2];rfl
theorem text527:textW 7 5 2 3 ++ [10] ++ hexT [] = [111,98,106,101,99,116,32,55,32,53,32,50,32,51,10]:=by decide +kernel
set_option maxRecDepth 100000 in
set_option maxHeartbeats 2000000 in
theorem awake24 (w:World) (hT:Tab10 w) (hH:HalfT w):Calls Tryz.prog 24 #[] w fun e w'=>e = .returned (.bool true)∧Below w.heap.size w w':=by
 have HT:=Lib.hid hT
 have HH:=Lib.hid hH
 have HOf:Hid (∀ w,Calls Tryz.prog 44 #[.int .i64 5,.int .i64 2,.int .u32 7] w fun e w'=>e = .returned (.tuple #[PVal 5 2 3 7,.int .i64 0])∧Below w.heap.size w w'):=fun w=>by have:=POf_any 5 2 7 w (by decide);rw [of527] at this;exact this
 clear hT hH
 go_enter Tryz.func24,Tryz.ntmps24
 go_wp2_with fail
 refine Calls.mono (HOf.out w) ?_
 rintro e w1 ⟨rfl,hb1⟩
 have HB1:=Lib.hid hb1
 clear hb1
 go_wp2_with fail
 have ba:=al (o:=.cells #[.int .i64 5,.int .i64 2,.int .i64 3,.int .u32 7] 27 (0,0)) (Below.refl w1.heap.size w1) (Nat.le_refl _)
 refine Calls.mono (TNew_ok 5 2 3 7 _ pok523) ?_
 rintro e w2 ⟨gt,be,v,rfl,ht,hb⟩
 have HB2:=Lib.hid (bl (bl HB1.out ba HB1.out.size) hb (bl HB1.out ba HB1.out.size).size)
 have HTx:=KText_ok _ gt be 5 2 3 7 0 _ v _ [] 0 [] w2 ht (HT.out.keep HB2.out) (fun W hW=>by
  have:=KExport_ok _ gt be 5 2 3 7 0 _ v _ [] 0 W (ht.keep hW) (HH.out.keep (bl HB2.out hW HB2.out.size))
  exact this.mono fun e w' ⟨q,c,h1,h2,h3⟩=>⟨q,c,h1,h2,h3⟩) (by simp) (by simp)
 rw [text527] at HTx
 have HTX:=Lib.hid HTx
 have hw:((strB [111,98,106,101,99,116,32,55,32,53,32,50,32,51,10]).toList == [111,98,106,101,99,116,32,55,32,53,32,50,32,51,10]) = true:=by
  rw [ByteArray.toList_eq,strB_data];rfl
 generalize strB [111,98,106,101,99,116,32,55,32,53,32,50,32,51,10] = X at *
 clear ht hb ba HTx
 go_wp2_with fail
 refine Calls.mono HTX.out ?_
 rintro e w3 ⟨rfl,hb⟩
 have HB3:=Lib.hid (bl HB2.out hb HB2.out.size)
 clear hb
 go_wp2
 go_ret
 exact ⟨rfl,HB3.out⟩
end Go.Proofs.YtccaiiigdfieoaaGreatDoor
namespace Go.Proofs.YtccaiiigdfieoaaGreatDoor
open Go.RowKit Go.By
end Go.Proofs.YtccaiiigdfieoaaGreatDoor
namespace Go.Proofs.YtccaiiigdfieoaaGreatDoor
open Go.RowKit Go.By
end Go.Proofs.YtccaiiigdfieoaaGreatDoor
namespace Go.By
open Go.RowKit
section
variable {P:Program} {ops:Array Oper} {Q:Exit→Act→World→Prop}
end
end Go.By
namespace Go.By
open Go.RowKit Go.Proofs.YtccaiiigdfieoaaGreatDoor
theorem RRef.push {wI w:World} {qb:Option Addr} {n cb:Nat} {X:List Rw} {vs:List (Value × Value)} {u1 u2:Value} {x:Rw} (hl:vs.length = n) (hX:X.length = n) (hr:∀ (j:Nat) (u:Value × Value),vs[j]? = some u→∃ k,X[j]? = some k∧OldB wI w u.1 k.1∧OldB wI w u.2 k.2) (h1:OldB wI w u1 x.1) (h2:OldB wI w u2 x.2) (ho:w.ownsRow wI.heap.size 101 2 (.slice qb (n + 1) cb) (n + 1) (fl2 vs ++ [u1,u2])):RRef wI w qb (n + 1) cb (X ++ [x]):=by
 refine ⟨vs ++ [(u1,u2)],by rw [fl2_append];exact ho,by simp [hl],by simp [hX],fun j u hj=>?_⟩
 rcases Nat.lt_or_ge j vs.length with g | g
 ·rw [List.getElem?_append_left g] at hj
  obtain ⟨k',hk',a1,a2⟩:=hr j u hj
  exact ⟨k',by rw [List.getElem?_append_left (by omega)];exact hk',a1,a2⟩
 ·have hj0:j = vs.length:=by have:=(List.getElem?_eq_some_iff.1 hj).1;simp at this;omega
  subst hj0
  simp at hj
  subst hj
  exact ⟨x,by rw [List.getElem?_append_right (by omega),show vs.length - X.length = 0 by omega];rfl,h1,h2⟩
section
variable {wz w:World} {gp t k:Nat} {v18 v19 v20 v21 v22 v23 v24 v8:Value} {dn:Nat→Bool}
end
end Go.By
namespace Go.Proofs.YtccaiiigdfieoaaGreatDoor
open Go.RowKit Go.By
end Go.Proofs.YtccaiiigdfieoaaGreatDoor
namespace Go.By
open Go.RowKit Go.Proofs.YtccaiiigdfieoaaGreatDoor
end Go.By
namespace Go.Proofs.YtccaiiigdfieoaaGreatDoor
open Go.RowKit Go.By Go.Maps
theorem expL_lens {k t D:Nat} {R:List Rw} (hf:∀ r,r ∈ R→Fit k t r) (hk:k≤12) (ht:t≤20):∀ x ∈ expL D R,x.length≤46:=fun x hx=>by
 obtain ⟨i,hi⟩:=List.mem_iff_getElem?.1 hx
 have hl:i < R.length:=by have:=(List.getElem?_eq_some_iff.1 hi).1;rwa [expL_len] at this
 have hr:=List.getElem?_eq_getElem hl
 rw [expL_at hr] at hi
 have hf2:=hf _ (List.mem_of_getElem? hr)
 rw [← Option.some.inj hi,pktB_len0,hf2.1,hf2.2]
 omega
end Go.Proofs.YtccaiiigdfieoaaGreatDoor
namespace Go.Proofs.YtccaiiigdfieoaaGreatDoor
open Go.RowKit Go.By Go.Maps
theorem PrsK.back {w w':World} {L t k D st:Nat} {K:List Rw} {e:Ending} (hP:POK L t k D) (hR:Red k t K) (hs:StF k K st) (h:PrsK w (keepT L t k D K st) e w') :
  ∃ base gt be N M v C,e = .returned (.tuple #[.pointer (some ⟨gt,0,none⟩),.int .i64 0])∧w.heap.size≤base∧Tkr w' base gt be L t k D N M v C K st∧Below w.heap.size w w':=by
 have hKl:K.length≤k:=Red.le hR
 have hk2:=hP.k2
 have hf:∀ r,r ∈ expR k t K st→Fit k t r:=expR_fit fun r hr=>(hR.kept.rows r hr).1
 have hel:(expR k t K st).length≤1000000:=by have:=expR_len (k:=k) (t:=t) (st:=st) (K:=K);omega
 rcases h with ⟨h1,-⟩ | ⟨a,T,h1,h2⟩
 ·rw [keep_lines] at h1;cases h1
 ·rw [keep_lines] at h1
  injection h1 with h1
  injection h1 with e1 e2
  subst e1 e2
  rcases h2 with ⟨h2,-⟩ | ⟨P,h2,h3⟩
  ·rw [keep_pkts] at h2;cases h2
  ·rw [keep_pkts] at h2
   injection h2 with h2
   subst h2
   rcases h3 with ⟨c,hc,h3,-⟩ | ⟨L',t',k',D',hP',h3,h4⟩
   ·rw [keep_plan hP] at h3
    injection h3 with h3
    injection h3 with h3
    injection h3 with _ h3
    injection h3 with h3 _
    injection h3 with _ h3
    exact absurd h3.symm hc
   ·rw [keep_plan hP] at h3
    have e4:L = L'∧t = t'∧k = k'∧D = D':=by
     simp at h3
     obtain ⟨x1,x2,x3,x4⟩:=h3
     exact ⟨by omega,by omega,by omega,by omega⟩
    obtain ⟨rfl,rfl,rfl,rfl⟩:=e4
    rcases h4 with ⟨-,base,gt,be,M,v,C,h5,h6,h7,h8⟩ | ⟨h4,-⟩
    ·rw [hear_again hR hs hP.k1 hP.t1 hP.d (by omega)] at h7
     exact ⟨base,gt,be,_,M,v,C,h5,h6,h7,h8⟩
    ·exact absurd (impC_exp hf hP.d hel) h4
theorem KText19 {base gt be L t k D N st:Nat} {M v:Value} {C:DataW Unit} {K:List Rw} {w:World} (h:Tkr w base gt be L t k D N M v C K st) (hk:k≤12) (ht:t≤20) (hX:Tab10 w) (hT:HalfT w) :
  Calls Tryz.prog 18 #[.pointer (some ⟨gt,0,none⟩)] w fun e w'=>e = .returned (.string (strB (keepT L t k D K st)))∧Below w.heap.size w w':=by
 have hf:∀ r,r ∈ expR k t K st→Fit k t r:=expR_fit fun r hr=>(h.red.kept.rows r hr).1
 have hKl:K.length≤k:=Red.le h.red
 refine KText_ok base gt be L t k D N M v C K st (expL D (expR k t K st)) w h hX (fun W hW=>?_) (fun x hx=>by have:=expL_lens hf hk ht x hx;omega) (by rw [expL_len];have:=expR_len (k:=k) (t:=t) (st:=st) (K:=K);omega)
 have:=KExport_ok base gt be L t k D N M v C K st W (h.keep hW) (hT.keep hW)
 rw [expL_len];exact this
end Go.Proofs.YtccaiiigdfieoaaGreatDoor
namespace Go.By
open Go.RowKit Go.Proofs.YtccaiiigdfieoaaGreatDoor
theorem owns_put {w:World} {base e g n c k:Nat} {xs:List Value} {u:Value} (h:w.ownsRow base e 1 (.slice (some ⟨g,0,none⟩) n c) n xs):(w.setCell ⟨g,k,none⟩ u).ownsRow base e 1 (.slice (some ⟨g,0,none⟩) n c) n (xs.set k u):=by
 refine ⟨by rw [List.length_set];exact h.1,?_⟩
 rcases h.2 with ⟨e1,_⟩ | ⟨g',cap,cur,e1,h2,h3,h4,h5,h6,h7⟩
 ·cases e1
 ·cases e1
  refine .inr ⟨g,c,cur.setIfInBounds k u,rfl,h2,hss h3,h4,h5,by simpa using h6,?_⟩
  rw [← h7,Array.toList_setIfInBounds,List.take_set]
theorem owns_lit1 {w:World} {T:TypeId} {u:Value} {base:Nat} (hb:base≤w.heap.size):(w.alloc (.cells #[u] T)).ownsRow base T 1 (.slice (some ⟨w.heap.size,0,none⟩) 1 1) 1 [u] :=
 ⟨rfl,.inr ⟨w.heap.size,1,#[u],rfl,hb,hnew rfl,Nat.le_refl _,by simp [maxLen],rfl,rfl⟩⟩
theorem own_ptr {w:World} {base e s n c:Nat} {q:Option Addr} {xs:List Value} (h:w.ownsRow base e s (.slice q n c) n xs) (hn:0 < n):∃ g,q = some ⟨g,0,none⟩∧n≤c∧base≤g:=by
 rcases h.2 with ⟨_,e1⟩ | ⟨g',cap,cur,e1,h2,h3,h4,_⟩
 ·omega
 ·cases e1;exact ⟨g',rfl,h4,h2⟩
theorem own_cell {w:World} {base e g n c k:Nat} {xs:List Value} {u:Value} (h:w.ownsRow base e 1 (.slice (some ⟨g,0,none⟩) n c) n xs) (hk:xs[k]? = some u):w.cell? ⟨g,k,none⟩ = some u:=by
 have:=(List.getElem?_eq_some_iff.1 hk).1
 have h2:=h.cellAt k (by have:=h.1;omega)
 rw [h2];exact hk
theorem own_free {w:World} {base e g n c k:Nat} {xs:List Value} (h:w.ownsRow base e 1 (.slice (some ⟨g,0,none⟩) n c) n xs):w.frozen? ⟨g,k,none⟩ = false:=by
 rcases h.2 with ⟨e1,_⟩ | ⟨g',cap,cur,e1,h2,h3,_⟩
 ·cases e1
 ·cases e1;exact frozen_of_row _ _ k _ _ h3
def encS (x:List UInt8):Value:=.string (strB x)
theorem last_set (F:List (List UInt8)) (a b:List UInt8):((F ++ [a]).map encS).set F.length (encS b) = (F ++ [b]).map encS:=by
 rw [List.map_append,List.set_append_right _ _ (by simp)]
 simp
theorem last_at (F:List (List UInt8)) (a:List UInt8):((F ++ [a]).map encS)[F.length]? = some (encS a):=by simp
theorem txt_one {s:List UInt8} {i:Nat} {c:UInt8} (h:s[i]? = some c):(strB s).extract i (i + 1) = strB [c]:=by
 rw [txt_ext,List.take_add_one,h]
 have hi:=(List.getElem?_eq_some_iff.1 h).1
 rw [List.drop_append_of_le_length (by simp;omega),List.drop_eq_nil_of_le (by simp;omega)];rfl
end Go.By
namespace Go.Proofs.YtccaiiigdfieoaaGreatDoor
open Go.RowKit Go.By
theorem info_str:(Tryz.prog.info? 9).map (fun i=>(i.zero,i.size,i.bytes)) = some (some (.string ⟨#[]⟩),1,16):=by kernel_rfl
end Go.Proofs.YtccaiiigdfieoaaGreatDoor
namespace Go.Proofs.YtccaiiigdfieoaaGreatDoor
open Go.RowKit Go.By
def LnR (w:World) (r:Option (List (List UInt8))) (e:Ending) (w':World):Prop:=(r = none∧e = .returned (.tuple #[.slice none 0 0,.bool false])∧Below w.heap.size w w')∨∃ L b c,r = some L∧e = .returned (.tuple #[.slice (some ⟨b,0,none⟩) L.length c,.bool true])∧L.length≤c∧StrRow w' b L∧Below w.heap.size w w'
set_option maxRecDepth 100000 in
set_option maxHeartbeats 4000000 in
theorem Lines_any (l0:List UInt8) (w:World) (hl0:l0.length≤1000000):Calls Tryz.prog 50 #[.string (strB l0)] w (LnR w (linesP l0)):=by
 obtain ⟨i0,h0,hz0,hz1,hz2⟩:=info_parts info_str
 rcases list_lastP l0 with rfl | ⟨l,z,rfl⟩
 ·have hemp:=txt_emp []
  obtain ⟨S,hS⟩:∃ S,S = strB []:=⟨_,rfl⟩
  rw [← hS] at hemp ⊢
  rw [decide_eq_true rfl] at hemp
  clear hS
  go_enter Tryz.func50,Tryz.ntmps50
  go_wp2
  go_ret2
  exact .inl ⟨rfl,rfl,Below.refl _ _⟩
 have hl:l.length≤1000000:=by simp at hl0;omega
 obtain ⟨n,hn⟩:∃ n,n = l.length:=⟨_,rfl⟩
 have hsz:(strB (l ++ [z])).size = n + 1:=by rw [strB_size,hn];simp
 have hemp:=txt_emp (l ++ [z])
 rw [decide_eq_false (by simp)] at hemp
 have hixk:Hid (∀ (k:Nat) (d:UInt8),l[k]? = some d→∀ w,(Instr.index 9 (.string (strB (l ++ [z]))) (.int .i64 (k:Int))).run Tryz.prog w = .ok (B8 d) w):=fun k d hd w=>txt_idx _ Tryz.underlying9 (by rw [List.getElem?_append_left (List.getElem?_eq_some_iff.1 hd).1];exact hd) _ _ rfl w
 have hixz:∀ w,(Instr.index 9 (.string (strB (l ++ [z]))) (.int .i64 (n:Int))).run Tryz.prog w = .ok (B8 z) w:=fun w=>txt_idx _ Tryz.underlying9 (by rw [hn];simp) _ _ rfl w
 have HEX:Hid (∀ i d,l[i]? = some d→(strB (l ++ [z])).extract i (i + 1) = strB [d]):=fun i d h=>txt_one (by rw [List.getElem?_append_left (List.getElem?_eq_some_iff.1 h).1];exact h)
 have hl':n≤1000000:=by omega
 have HN:=Lib.hid hn
 have hw1:IntKind.i64.wrap (((n + 1:Nat):Int) - 1) = (n:Int):=by rw [IntKind.wrap_i64];omega
 obtain ⟨S,hS⟩:∃ S,S = strB (l ++ [z]):=⟨_,rfl⟩
 rw [← hS] at hsz hixk HEX hemp hixz ⊢
 by_cases hz:z = 10
 case neg =>
  have hne:((z.toNat:Int) != 10) = true:=bne_iff_ne.2 (fun e=>hz (UInt8.toNat_inj.1 (by show z.toNat = 10;omega)))
  have HL:=Lib.hid (linesP_not (l0:=l) hz)
  clear hS hn hl hl0 hz
  go_enter Tryz.func50,Tryz.ntmps50
  go_wp2
  go_ret2
  exact .inl ⟨HL.out,rfl,Below.refl _ _⟩
 subst hz
 clear hS hn hl hl0
 go_enter Tryz.func50,Tryz.ntmps50
 go_wp2
 go_loopw [4,5] (fun ov iv wr=>∃ (i m c g:Nat) (F:List (List UInt8)) (cur:List UInt8),i≤n∧iv = .int .i64 i∧ov = .slice (some ⟨g,0,none⟩) m c∧m≤i + 1∧Hid (m = F.length + 1)∧Hid (PcAt 10 l i F cur)∧Hid (wr.ownsRow w.heap.size 9 1 (.slice (some ⟨g,0,none⟩) m c) m ((F ++ [cur]).map Go.By.encS))∧Hid (Below w.heap.size w wr)) (fun _ iv _=>n - (intOf iv).toNat)
 case atStart=>exact ⟨0,1,1,w.heap.size,[],[],Nat.zero_le _,rfl,rfl,by omega,rfl,PcAt.zero _ _,owns_lit1 (Nat.le_refl _),al (Below.refl _ _) (Nat.le_refl _)⟩
 case round =>
  obtain ⟨i,m,c,g,F,cur,hi,rfl,rfl,hm,HM,HP,HO,HB⟩:=hrel
  by_cases hlt:i < n
  ·obtain ⟨d,hd⟩:∃ d,l[i]? = some d:=⟨_,List.getElem?_eq_getElem (by have:=HN.out;omega)⟩
   have hix:=hixk.out i d hd
   have hlt':(i:Int) + 1 < ((n + 1:Nat):Int):=by omega
   have HD:=Lib.hid hd
   have HLT:=Lib.hid hlt
   by_cases h10:d = 10
   ·have h8:B8 d = .int .u8 10:=by rw [h10];rfl
    rw [h8] at hix
    have HP2:Hid (PcAt 10 l (i + 1) (F ++ [cur]) []):=HP.out.cut (by rw [← h10];exact hd)
    have hOA:Hid (∀ o,(wr.alloc o).ownsRow w.heap.size 9 1 (.slice (some ⟨g,0,none⟩) m c) m ((F ++ [cur]).map Go.By.encS)):=fun o=>owns_keep HO.out (al (Below.refl _ _) (Nat.le_refl _))
    have hszw:=HB.out.size
    clear hd hlt h10 h8 HP
    go_wp2_with (first | simp only [hix] | (at_builtin;refine wpList_append_own _ rfl _ _ 88 rfl w.heap.size 9 i0 (.string ⟨#[]⟩) 1 16 Tryz.underlying88 h0 hz0 hz1 hz2 rfl (by omega) _ m ((F ++ [cur]).map Go.By.encS) rfl (hOA.out _) ⟨wr.heap.size,0,none⟩ 1 1 [Go.By.encS []] rfl rfl (one_cellI rfl) ?c2 ?c3 ?c4 ?c5 ?_))
    case c2=>first | rfl | (intro y hy;simp at hy;subst hy;rfl)
    case c3=>unfold maxLen;omega
    case c4=>omega
    case c5=>first | omega | (simp;omega)
    intro v' w' ho' hg' _
    obtain ⟨q',c',rfl⟩:=owns_shape ho'
    obtain ⟨g',rfl,-,-⟩:=own_ptr ho' (by omega)
    have FIN:Hid (w'.ownsRow w.heap.size 9 1 (.slice (some ⟨g',0,none⟩) (m + 1) c') (m + 1) ((F ++ [cur] ++ [[]]).map Go.By.encS)∧Below w.heap.size w w'):=by
     refine ⟨?_,?_⟩
     ·rw [List.map_append];exact ho'
     ·exact (al HB.out hszw).grown hg' (by simp;omega) (fun rr hrr=>(HO.out.lt rr hrr).1)
    clear ho' hg' HO HB hOA hix
    go_wp2
    go_roundw
    case rel=>exact ⟨i + 1,m + 1,c',g',F ++ [cur],[],HLT.out,by go_num,rfl,by omega,by have:=HM.out;show _ = _;simp;omega,HP2.out,FIN.out.1,FIN.out.2⟩
    case measure=>simp [intOf];have:=HLT.out;omega
   ·have hne:((d.toNat:Int) == 10) = false:=beq_eq_false_iff_ne.2 (fun e=>h10 (UInt8.toNat_inj.1 (by show d.toNat = 10;omega)))
    have HP2:Hid (PcAt 10 l (i + 1) F (cur ++ [d])):=HP.out.sign hd h10
    obtain ⟨k,hk⟩:∃ k,k = F.length:=⟨_,rfl⟩
    have hcc:wr.cell? ⟨g,k,none⟩ = some (.string (strB cur)):=own_cell HO.out (by rw [hk];exact last_at F cur)
    have hmk:IntKind.i64.wrap ((m:Int) - 1) = (k:Int):=by have:=HM.out;rw [IntKind.wrap_i64];omega
    have hkm:k < m:=by have:=HM.out;omega
    have hi1:IntKind.i64.wrap ((i:Int) + 1) = (i:Int) + 1:=by rw [IntKind.wrap_i64];omega
    have hext:=HEX.out i d hd
    have hcl:cur.length≤i:=HP.out.2.1
    have HK:=Lib.hid hk
    have hin:(i:Int) + 1≤(n:Int):=by omega
    have hin6:¬ n < i:=by omega
    have hin2:(i:Int)≤(i:Int) + 1:=by omega
    have hin3:((i:Int) + 1).toNat = i + 1:=by omega
    have hin4:(0:Int)≤(i:Int) + 1:=by omega
    clear hd hlt h10 HP hk
    go_upto_region 9 with (simp only [hix])
    refine wp_region_tail (fun ix=>([.val (.slice (some ⟨g,0,none⟩) m c),.val (.slice (some ⟨g,0,none⟩) m c),.val (.int .i64 (m:Nat)),.val (.int .i64 (k:Nat)),.val (.slice (some ⟨g,0,none⟩) m c),.val (.slice (some ⟨g,0,none⟩) m c),.val (.int .i64 (m:Nat)),.val (.int .i64 (k:Nat)),.val (.pointer (some ⟨g,k,none⟩)),.val (.string (strB cur)),.val (.string S),.val (.int .i64 (i:Nat)),.val (.int .i64 (i:Nat)),.val (.int .i64 ((i:Int) + 1)),.val (.string (strB [d])),.val (.string ((strB cur) ++ (strB [d]))),.val (.pointer (some ⟨g,k,none⟩)),.any][ix]?).getD (.any)) 49 17 rfl (by kernel_rfl) (by decide +kernel) (by decide +kernel) (by decide +kernel) (by decide +kernel) ?_ ?_
    ·refine ⟨?_,?_,?_,?_,?_,?_,?_,?_,?_,?_,?_,?_,?_,?_,?_,?_,?_,trivial⟩
     ·intro a W hb0 hs hp hi;have hb:=undrew hb0;clear hb0
      have t4:sl a 4 = .slice (some ⟨g,0,none⟩) m c:=hi 4 (by decide)
      exact ite_y rfl (wp_val (sl a 4) rfl ⟨_,rfl,Below.refl _ _,t4⟩)
     ·intro a W hb0 hs hp hi;have hb:=undrew hb0;clear hb0
      have t4:sl a 4 = .slice (some ⟨g,0,none⟩) m c:=hi 4 (by decide)
      exact ite_y rfl (wp_val (sl a 4) rfl ⟨_,rfl,Below.refl _ _,t4⟩)
     ·intro a W hb0 hs hp hi;have hb:=undrew hb0;clear hb0
      have t32:sl a 32 = .slice (some ⟨g,0,none⟩) m c:=hp 1 (by decide)
      refine ite_y rfl (wp_val (.int .i64 (m:Nat)) ?_ ?_)
      ·simp only [execOp,resolve,List.map_toArray,List.map,eval_tmp,eval_func,eval_const,t32];simp [go_sem]
      ·exact ⟨_,rfl,Below.refl _ _,rfl⟩
     ·intro a W hb0 hs hp hi;have hb:=undrew hb0;clear hb0
      have t33:sl a 33 = .int .i64 (m:Nat):=hp 2 (by decide)
      refine ite_y rfl (wp_val (.int .i64 (k:Nat)) ?_ ?_)
      ·simp only [execOp,eval_tmp,eval_const,t33];simp [go_sem,hmk]
      ·exact ⟨_,rfl,Below.refl _ _,rfl⟩
     ·intro a W hb0 hs hp hi;have hb:=undrew hb0;clear hb0
      have t4:sl a 4 = .slice (some ⟨g,0,none⟩) m c:=hi 4 (by decide)
      exact ite_y rfl (wp_val (sl a 4) rfl ⟨_,rfl,Below.refl _ _,t4⟩)
     ·intro a W hb0 hs hp hi;have hb:=undrew hb0;clear hb0
      have t4:sl a 4 = .slice (some ⟨g,0,none⟩) m c:=hi 4 (by decide)
      exact ite_y rfl (wp_val (sl a 4) rfl ⟨_,rfl,Below.refl _ _,t4⟩)
     ·intro a W hb0 hs hp hi;have hb:=undrew hb0;clear hb0
      have t36:sl a 36 = .slice (some ⟨g,0,none⟩) m c:=hp 5 (by decide)
      refine ite_y rfl (wp_val (.int .i64 (m:Nat)) ?_ ?_)
      ·simp only [execOp,resolve,List.map_toArray,List.map,eval_tmp,eval_func,eval_const,t36];simp [go_sem]
      ·exact ⟨_,rfl,Below.refl _ _,rfl⟩
     ·intro a W hb0 hs hp hi;have hb:=undrew hb0;clear hb0
      have t37:sl a 37 = .int .i64 (m:Nat):=hp 6 (by decide)
      refine ite_y rfl (wp_val (.int .i64 (k:Nat)) ?_ ?_)
      ·simp only [execOp,eval_tmp,eval_const,t37];simp [go_sem,hmk]
      ·exact ⟨_,rfl,Below.refl _ _,rfl⟩
     ·intro a W hb0 hs hp hi;have hb:=undrew hb0;clear hb0
      have ti0:sl a 35 = .slice (some ⟨g,0,none⟩) m c:=hp 4 (by decide)
      have ti1:sl a 38 = .int .i64 (k:Nat):=hp 7 (by decide)
      refine ite_y rfl (wp_val (.pointer (some ⟨g,k,none⟩)) ?_ ?_)
      ·simp only [execOp,eval_tmp,eval_const,ti0,ti1];simp [go_sem,hkm]
      ·exact ⟨_,rfl,Below.refl _ _,rfl⟩
     ·intro a W hb0 hs hp hi;have hb:=undrew hb0;clear hb0
      have tt:sl a 39 = .pointer (some ⟨g,k,none⟩):=hp 8 (by decide)
      have dd:=(hb.cell (p:=⟨g,k,none⟩) (lt_of_cell hcc)).trans hcc
      refine ite_y rfl (wp_val (.string (strB cur)) ?_ ?_)
      ·simp only [execOp,eval_tmp,tt];simp [go_sem,dd]
      ·exact ⟨_,rfl,Below.refl _ _,rfl⟩
     ·intro a W hb0 hs hp hi;have hb:=undrew hb0;clear hb0
      have t0:sl a 0 = .string S:=hi 0 (by decide)
      exact ite_y rfl (wp_val (sl a 0) rfl ⟨_,rfl,Below.refl _ _,t0⟩)
     ·intro a W hb0 hs hp hi;have hb:=undrew hb0;clear hb0
      have t5:sl a 5 = .int .i64 (i:Nat):=hi 5 (by decide)
      exact ite_y rfl (wp_val (sl a 5) rfl ⟨_,rfl,Below.refl _ _,t5⟩)
     ·intro a W hb0 hs hp hi;have hb:=undrew hb0;clear hb0
      have t5:sl a 5 = .int .i64 (i:Nat):=hi 5 (by decide)
      exact ite_y rfl (wp_val (sl a 5) rfl ⟨_,rfl,Below.refl _ _,t5⟩)
     ·intro a W hb0 hs hp hi;have hb:=undrew hb0;clear hb0
      have t43:sl a 43 = .int .i64 (i:Nat):=hp 12 (by decide)
      refine ite_y rfl (wp_val (.int .i64 ((i:Int) + 1)) ?_ ?_)
      ·simp only [execOp,eval_tmp,eval_const,t43];simp [go_sem,hi1]
      ·exact ⟨_,rfl,Below.refl _ _,rfl⟩
     ·intro a W hb0 hs hp hi;have hb:=undrew hb0;clear hb0
      have t41:sl a 41 = .string S:=hp 10 (by decide)
      have t42:sl a 42 = .int .i64 (i:Nat):=hp 11 (by decide)
      have t44:sl a 44 = .int .i64 ((i:Int) + 1):=hp 13 (by decide)
      have v42:a.tmps[42]?.getD undef = sl a 42:=by simp [sl]
      rw [t42] at v42
      have v44:a.tmps[44]?.getD undef = sl a 44:=by simp [sl]
      rw [t44] at v44
      refine ite_y rfl (wp_val (.string (strB [d])) ?_ ?_)
      ·simp only [execOp,eval_tmp,eval_const,t41,t42,t44];simp [go_sem,v42,v44,hext,hsz,hin,hin2,hin3,hin4,hin6]
      ·exact ⟨_,rfl,Below.refl _ _,rfl⟩
     ·intro a W hb0 hs hp hi;have hb:=undrew hb0;clear hb0
      have ti0:sl a 40 = .string (strB cur):=hp 9 (by decide)
      have ti1:sl a 45 = .string (strB [d]):=hp 14 (by decide)
      refine ite_y rfl (wp_val (.string ((strB cur) ++ (strB [d]))) ?_ ?_)
      ·simp only [execOp,eval_tmp,eval_const,ti0,ti1];simp [go_sem,strB_size] <;> omega
      ·exact ⟨_,rfl,Below.refl _ _,rfl⟩
     ·intro a W hb0 hs hp hi;have hb:=undrew hb0;clear hb0
      have ti0:sl a 31 = .slice (some ⟨g,0,none⟩) m c:=hp 0 (by decide)
      have ti1:sl a 34 = .int .i64 (k:Nat):=hp 3 (by decide)
      refine ite_y rfl (wp_val (.pointer (some ⟨g,k,none⟩)) ?_ ?_)
      ·simp only [execOp,eval_tmp,eval_const,ti0,ti1];simp [go_sem,hkm]
      ·exact ⟨_,rfl,Below.refl _ _,rfl⟩
    intro a w5 hb hs hd hI ht
    have ha:=act_is [31,32,33,34,35,36,37,38,39,40,41,42,43,44,45,46,47] hs hd ht (by decide)
    have t46:sl a 46 = .string ((strB cur) ++ (strB [d])):=hI 15 (by decide)
    have t47:sl a 47 = .pointer (some ⟨g,k,none⟩):=hI 16 (by decide)
    simp only [List.foldl,t46,t47] at ha
    generalize sl a 31 = u31 at ha
    generalize sl a 32 = u32 at ha
    generalize sl a 33 = u33 at ha
    generalize sl a 34 = u34 at ha
    generalize sl a 35 = u35 at ha
    generalize sl a 36 = u36 at ha
    generalize sl a 37 = u37 at ha
    generalize sl a 38 = u38 at ha
    generalize sl a 39 = u39 at ha
    generalize sl a 40 = u40 at ha
    generalize sl a 41 = u41 at ha
    generalize sl a 42 = u42 at ha
    generalize sl a 43 = u43 at ha
    generalize sl a 44 = u44 at ha
    generalize sl a 45 = u45 at ha
    simp only [Act.put,List.setIfInBounds_toArray,List.set_cons_zero,List.set_cons_succ] at ha
    rw [ha];clear ha hI ht hs hd
    simp only [List.drop_succ_cons,List.drop_zero]
    have HO5:=Lib.hid (owns_keep HO.out hb)
    have HB5:=Lib.hid (bl HB.out hb HB.out.size)
    rw [txt_app]
    have c5:=(hb.cell (p:=⟨g,k,none⟩) (lt_of_cell hcc)).trans hcc
    have z5:=own_free (k:=k) HO5.out
    clear hb hcc hix HO HB hmk hkm hi1 hin hin2 hin3 hin4 hin6 hext
    go_wp2
    have HO6:Hid ((w5.setCell ⟨g,k,none⟩ (.string (strB (cur ++ [d])))).ownsRow w.heap.size 9 1 (.slice (some ⟨g,0,none⟩) m c) m ((F ++ [cur ++ [d]]).map Go.By.encS)):=by
     have:=owns_put (k:=k) (u:=Go.By.encS (cur ++ [d])) HO5.out
     rw [HK.out,last_set] at this
     rw [HK.out];exact this
    have HB6:Hid (Below w.heap.size w (w5.setCell ⟨g,k,none⟩ (.string (strB (cur ++ [d]))))):=HB5.out.setCell (HO5.out.lt g rfl).1 _
    go_roundw
    case rel=>exact ⟨i + 1,m,c,g,F,cur ++ [d],HLT.out,by go_num,rfl,by omega,HM.out,HP2.out,HO6.out,HB6.out⟩
    case measure=>simp [intOf];have:=HLT.out;omega
  ·obtain rfl:i = n:=by omega
   have HR:Hid (splA 10 l = F ++ [cur]):=HP.out.done (by have:=HN.out;omega)
   clear hlt
   go_wp2
   go_ret2
   obtain ⟨g',e1,hc,hg⟩:=own_ptr HO.out (by have:=HM.out;omega)
   cases e1
   refine .inr ⟨F ++ [cur],g,c,?_,?_,?_,?_,HB.out⟩
   ·rw [linesP_ten,HR.out]
   ·simp [HM.out]
   ·have:=HM.out;simp;omega
   ·intro j x hx
    exact own_cell HO.out (by rw [List.getElem?_map,hx];rfl)
end Go.Proofs.YtccaiiigdfieoaaGreatDoor
namespace Go.By
open Go.RowKit
theorem one_cellq {w:World} {v:Value} {T g:Nat} (hg:g = w.heap.size):∀ (j:Nat) (u:Value),[v][j]? = some u→(w.alloc (.cells #[v] T)).cell? ((⟨g,0,none⟩:Addr).add j) = some u:=by
 intro j u hj
 rw [Addr.add_lit,Nat.zero_add,cell_of_row _ _ j _ _ _ (hnew hg)]
 match j with
 | 0=>simpa using hj
 | j + 1=>simp at hj
theorem four_at {w:World} {base T:Nat} {q:Option Addr} {n c:Nat} {a b d e:Value} (h:w.ownsRow base T 1 (.slice q n c) 4 [a,b,d,e]):∃ g,q = some ⟨g,0,none⟩∧w.cell? ⟨g,0,none⟩ = some a∧w.cell? ⟨g,1,none⟩ = some b∧w.cell? ⟨g,2,none⟩ = some d∧w.cell? ⟨g,3,none⟩ = some e:=by
 rcases h.2 with ⟨e1,_,e2⟩ | ⟨g',cap,cur,e1,_,hc,h3⟩
 cases e1
 have hh:=h3.2.2.2
 have key:∀ (i:Nat) (u:Value),[a,b,d,e][i]? = some u→w.cell? ⟨g',i,none⟩ = some u:=fun i u hu=>by
  rw [cell_of_row _ _ i _ _ _ hc]
  rw [← hh,List.getElem?_take] at hu
  split at hu
  ·rw [Array.getElem?_toList] at hu;exact hu
  ·cases hu
 exact ⟨g',rfl,key 0 _ rfl,key 1 _ rfl,key 2 _ rfl,key 3 _ rfl⟩
def ShpPl (T:TypeId) (B:Nat):Shp:=⟨fun v w=>∃ b,v = .pointer (some ⟨b,0,none⟩)∧B≤b∧w.heap[b]? = some (.cells #[.int .i64 0,.int .i64 0,.int .i64 0,.int .u32 0] T (0,0)),fun _ _ _ ⟨b,e,hB,h⟩ hb=>⟨b,e,hB,(hb.block _ (lt_of_block h)).trans h⟩⟩
end Go.By
namespace Go.Proofs.YtccaiiigdfieoaaGreatDoor
open Go.RowKit Go.By
theorem info_intq:(Tryz.prog.info? 3).map (fun i=>(i.zero,i.size,i.bytes)) = some (some (.int .i64 0),1,8):=by kernel_rfl
theorem info_rplan:(Tryz.prog.info? 52).map (·.size) = some 4:=by kernel_rfl
set_option maxRecDepth 100000 in
set_option maxHeartbeats 8000000 in
theorem RParse_any (l:List UInt8) (w:World) (hl:l.length≤1000000) :
  Calls Tryz.prog 52 #[.string (strB l)] w fun e w'=>e = .returned (parseV l)∧Below w.heap.size w w':=by
 have hi:=info_rplan
 obtain ⟨t0,ht0,htz,ht1,ht2⟩:=info_parts info_intq
 have HBA:Hid (∀ (W:World) o,Below W.heap.size W (W.alloc o)):=fun W o=>al (Below.refl _ _) (Nat.le_refl _)
 have HW0:Hid (∀ W,Calls Tryz.prog 102 #[.string (strB l)] W fun e w'=>e = .returned (.tuple #[.string (strB (cutW 32 l).1),.string (strB ((cutW 32 l).2.getD [])),.bool (cutW 32 l).2.isSome])∧Below W.heap.size W w'):=fun W=>Word_any l W hl
 have HXB:Hid (∀ o,(w.alloc o).heap[w.heap.size]? = some o):=fun o=>hnew rfl
 have HSC:=Lib.hid (spl_cut 4 l)
 have hrl:Hid (((cutW 32 l).2.getD []).length≤1000000):=Nat.le_trans cut_len.1 hl
 obtain ⟨S0,hS0⟩:∃ S0,S0 = strB l:=⟨_,rfl⟩
 rw [← hS0] at HW0 ⊢
 clear hS0 hl
 generalize (cutW 32 l).1 = o at *
 generalize (cutW 32 l).2.getD [] = r0 at *
 generalize (cutW 32 l).2.isSome = m0 at *
 obtain ⟨b2,hb2⟩:∃ b2,b2 = w.heap.size:=⟨_,rfl⟩
 have HB2:=Lib.hid hb2
 have hfin0:∀ W,PC4 b2 52 0 0 0 0 W→PC4 b2 52 0 0 0 0 ((((W.setCell ⟨b2,0,none⟩ (.int .i64 0)).setCell ⟨b2,1,none⟩ (.int .i64 0)).setCell ⟨b2,2,none⟩ (.int .i64 0)).setCell ⟨b2,3,none⟩ (.int .u32 0)):=fun W h=>hss (hss (hss (hss h)))
 have hset:∀ W x y z u,Below w.heap.size w W→Below w.heap.size w ((((W.setCell ⟨b2,0,none⟩ x).setCell ⟨b2,1,none⟩ y).setCell ⟨b2,2,none⟩ z).setCell ⟨b2,3,none⟩ u):=fun W x y z u h=>by
  have e:w.heap.size≤b2:=Nat.le_of_eq HB2.out.symm
  exact (((h.setCell e _).setCell e _).setCell e _).setCell e _
 have HF0:=Lib.hid hfin0;have HST:=Lib.hid hset
 clear hfin0 hset
 go_enter Tryz.func52,Tryz.ntmps52
 go_wp2_with fail
 refine Calls.mono (HW0.out _) ?_
 rintro e w1 ⟨rfl,hb⟩
 have XB:Hid (PC4 w.heap.size 52 0 0 0 0 w1):=PC4.keep (HXB.out _) hb
 have B1:Hid (Below w.heap.size w w1):=bl (HBA.out _ _) hb (by simp)
 rw [← hb2] at XB ⊢
 clear hb hb2 HXB HW0
 by_cases ho:o = objW
 ·have SF0:Hid (SoFar l 0 [] (restS m0 4 r0)):=SoFar.zero (by rw [HSC.out,ho])
  have eo:strB o = ⟨#[111,98,106,101,99,116]⟩:=by rw [ho];rfl
  rw [eo]
  clear ho eo
  go_wp2
  go_loopw [4,6,7,8] (fun nv rv mv i wr=>∃ (k:Nat) (X:List Nat) (q:Option Addr) (c:Nat) (r:List UInt8) (m:Bool),i = .int .i64 k∧nv = .slice q k c∧rv = .string (strB r)∧mv = .bool m∧k≤4∧Hid (SoFar l k X (restS m (4 - k) r))∧Hid (r.length≤1000000)∧Hid (wr.ownsRow w1.heap.size 3 1 (.slice q k c) k (X.map fun x:Nat=>Value.int .i64 (x:Int)))∧Hid (PC4 b2 52 0 0 0 0 wr)∧Hid (Below w1.heap.size w1 wr)) (fun _ _ _ i _=>4 - (intOf i).toNat)
  case atStart=>exact ⟨0,[],none,0,r0,m0,rfl,rfl,rfl,rfl,by omega,SF0.out,hrl.out,World.ownsRow_nil _ _ _ _,XB.out,Below.refl _ _⟩
  case round =>
   obtain ⟨k,X,q,c,r,m,rfl,rfl,rfl,rfl,hk,hS,hr,hO,hP,hBw⟩:=hrel
   have hsz:=hBw.out.size
   by_cases hlt:k < 4
   ·have hlt':(k:Int) < 4:=by omega
    have HLT:=Lib.hid hlt
    cases m with
    | false =>
     have HP0:Hid (parseV l = .tuple #[.agg #[.int .i64 0,.int .i64 0,.int .i64 0,.int .u32 0],.int .i64 14]):=parseV_none (hS.out.short (by show k + 0≠4;omega))
     obtain ⟨c0,c1,c2,c3⟩:=hP.out.cells
     have f0:=hP.out.froz 0
     have f1:=hP.out.froz 1
     have f2:=hP.out.froz 2
     have f3:=hP.out.froz 3
     clear hlt
     go_wp2
     refine bodyPost_ret (results_ct rfl _ _ _ 52 #[.int .i64 0,.int .i64 0,.int .i64 0,.int .u32 0] (0,0) _ (.int .i64 14) rfl (HF0.out _ hP.out) rfl Tryz.underlying52 rfl hi) rfl ⟨by rw [HP0.out],HST.out _ _ _ _ _ (bl B1.out hBw.out B1.out.size)⟩
    | true =>
     have HWR:Hid (∀ W,Calls Tryz.prog 102 #[.string (strB r)] W fun e w'=>e = .returned (.tuple #[.string (strB (cutW 32 r).1),.string (strB ((cutW 32 r).2.getD [])),.bool (cutW 32 r).2.isSome])∧Below W.heap.size W w'):=fun W=>Word_any r W hr.out
     have HS1:Hid (SoFar l k X ((cutW 32 r).1 :: restS (cutW 32 r).2.isSome (4 - (k + 1)) ((cutW 32 r).2.getD []))):=by
      have h:=hS.out
      have e:4 - k = (4 - (k + 1)) + 1:=by omega
      rw [show restS true (4 - k) r = spl 32 (4 - k) r from rfl,e,spl_cut] at h
      exact h
     have hr2:Hid (((cutW 32 r).2.getD []).length≤1000000):=Nat.le_trans cut_len.1 hr.out
     have hr3:Hid ((cutW 32 r).1.length≤1000000):=Nat.le_trans cut_len.2 hr.out
     obtain ⟨sr,hsr⟩:∃ sr,sr = strB r:=⟨_,rfl⟩
     rw [← hsr] at HWR ⊢
     clear hsr hr hS
     generalize (cutW 32 r).1 = x at *
     generalize (cutW 32 r).2.getD [] = r2 at *
     generalize (cutW 32 r).2.isSome = m2 at *
     have hcase:((((k:Int) == 0) = true∧(k = 0∨k = 0))∧Hid (∀ W,Calls Tryz.prog 103 #[.string (strB x),.int .i64 4294967296] W fun e w'=>∃ v,e = .returned v∧NumRes .i64 (bndN k) x v∧Below W.heap.size W w'))∨((((k:Int) == 0) = false∧(k≠0∨k≠0))∧Hid (∀ W,Calls Tryz.prog 103 #[.string (strB x),.int .i64 2147483648] W fun e w'=>∃ v,e = .returned v∧NumRes .i64 (bndN k) x v∧Below W.heap.size W w')):=by
      by_cases h0:k = 0
      ·left
       subst h0
       exact ⟨⟨rfl,.inl rfl⟩,fun W=>RNumber_any x 4294967295 4294967296 rfl (by omega) W hr3.out⟩
      ·right
       have e:bndN k = 2147483647:=if_neg h0
       rw [e]
       exact ⟨⟨by simp;omega,.inl h0⟩,fun W=>RNumber_any x 2147483647 2147483648 rfl (by omega) W hr3.out⟩
     clear hlt hr3
     rcases hcase with ⟨⟨hk0,-⟩,HNU⟩ | ⟨⟨hk0,-⟩,HNU⟩
     all_goals
      obtain ⟨sx,hsx⟩:∃ sx,sx = strB x:=⟨_,rfl⟩
      rw [← hsx] at HNU HWR
      clear hsx
      go_wp2_with fail
      refine Calls.mono (HWR.out _) ?_
      rintro e w2 ⟨rfl,hb⟩
      have P2:=Lib.hid (hP.out.keep hb)
      have O2:=Lib.hid (owns_keep hO.out hb)
      have B2:Hid (Below w1.heap.size w1 w2):=bl hBw.out hb hsz
      clear hb hP hO hBw hsz HWR
      go_wp2_with fail
      refine Calls.mono (HNU.out _) ?_
      rintro e w3 ⟨v,rfl,⟨y,rfl,hy⟩,hb⟩
      have P3:=Lib.hid (P2.out.keep hb)
      have O3:=Lib.hid (owns_keep O2.out hb)
      have B3:Hid (Below w1.heap.size w1 w3):=bl B2.out hb B2.out.size
      clear hb P2 O2 B2 HNU hk0
      have hsz3:=B3.out.size
      cases hnb:numB (bndN k) x with
      | none =>
       have HP0:Hid (parseV l = .tuple #[.agg #[.int .i64 0,.int .i64 0,.int .i64 0,.int .u32 0],.int .i64 14]):=parseV_none (HS1.out.bad HLT.out hnb)
       obtain ⟨c0,c1,c2,c3⟩:=P3.out.cells
       have f0:=P3.out.froz 0
       have f1:=P3.out.froz 1
       have f2:=P3.out.froz 2
       have f3:=P3.out.froz 3
       clear hy hnb
       go_wp2
       refine bodyPost_ret (results_ct rfl _ _ _ 52 #[.int .i64 0,.int .i64 0,.int .i64 0,.int .u32 0] (0,0) _ (.int .i64 14) rfl (HF0.out _ P3.out) rfl Tryz.underlying52 rfl hi) rfl ⟨by rw [HP0.out],HST.out _ _ _ _ _ (bl B1.out B3.out B1.out.size)⟩
      | some y0 =>
       obtain rfl:y = y0:=hy y0 hnb
       have HS4:Hid (SoFar l (k + 1) (X ++ [y]) (restS m2 (4 - (k + 1)) r2)):=HS1.out.next HLT.out hnb
       have hAa:Hid (∀ o,(w3.alloc o).ownsRow w1.heap.size 3 1 (.slice q k c) k (X.map fun x:Nat=>Value.int .i64 (x:Int))):=fun o=>owns_keep O3.out (HBA.out _ _)
       clear hy hnb
       go_wp2_with (at_builtin;refine wpList_append_own _ rfl _ _ 103 rfl w1.heap.size 3 t0 (.int .i64 0) 1 8 Tryz.underlying103 ht0 htz ht1 ht2 rfl (by omega) _ k _ rfl (hAa.out _) ⟨w3.heap.size,0,none⟩ 1 1 [.int .i64 (y:Int)] rfl rfl (one_cellq rfl) ?c2 ?c3 ?c4 ?c5 ?_)
       case c2=>intro x hx;simp at hx;subst hx;rfl
       case c3=>unfold maxLen;omega
       case c4=>omega
       case c5=>simp;omega
       intro va wa hoa hga _
       obtain ⟨qa,da,rfl⟩:=owns_shape hoa
       have Ka:Hid (Below w1.heap.size w1 wa):=(al B3.out hsz3).grown hga (by simp;omega) (fun rr hr=>(O3.out.lt rr hr).1)
       have Ra:Hid (wa.ownsRow w1.heap.size 3 1 (.slice qa (k + 1) da) (k + 1) ((X ++ [y]).map fun x:Nat=>Value.int .i64 (x:Int))):=by first | exact hoa | (show World.ownsRow _ _ _ _ _ _ _;simpa using hoa)
       have Pa:Hid (PC4 b2 52 0 0 0 0 wa):=(XB.out.keep Ka.out)
       clear hoa hga P3 O3 B3 hAa
       go_wp2
       go_roundw
       case rel=>exact ⟨k + 1,X ++ [y],qa,da,r2,m2,by go_num,rfl,rfl,rfl,by have:=HLT.out;omega,HS4.out,hr2.out,Ra.out,Pa.out,Ka.out⟩
       case measure=>simp [intOf];omega
   ·obtain rfl:k = 4:=by omega
    obtain ⟨d,L,S,N,rfl,hd,hL,hSS,hN⟩:=hS.out.four
    clear hlt
    cases m with
    | true =>
     have HP0:Hid (parseV l = .tuple #[.agg #[.int .i64 0,.int .i64 0,.int .i64 0,.int .u32 0],.int .i64 14]):=parseV_none (hS.out.short (by show 4 + 1≠4;omega))
     obtain ⟨c0,c1,c2,c3⟩:=hP.out.cells
     have f0:=hP.out.froz 0
     have f1:=hP.out.froz 1
     have f2:=hP.out.froz 2
     have f3:=hP.out.froz 3
     go_wp2
     refine bodyPost_ret (results_ct rfl _ _ _ 52 #[.int .i64 0,.int .i64 0,.int .i64 0,.int .u32 0] (0,0) _ (.int .i64 14) rfl (HF0.out _ hP.out) rfl Tryz.underlying52 rfl hi) rfl ⟨by rw [HP0.out],HST.out _ _ _ _ _ (bl B1.out hBw.out B1.out.size)⟩
    | false =>
     have HPO:Hid (parseO l = some [d,L,S,N]):=hS.out.done
     obtain ⟨g,rfl,a0,a1,a2,a3⟩:=four_at hO.out
     have HC:Hid (∀ W,Calls Tryz.prog 90 #[.agg #[.int .i64 L,.int .i64 S,.int .i64 N,.int .u32 d]] W fun e w'=>e = .returned (.int .i64 (checkS L S N))∧Below W.heap.size W w'):=fun W=>RCheck_any L S N d W (by omega)
     clear hS
     go_wp2
     refine wp_region_last (fun ix=>([.val (.slice (some ⟨g,0,none⟩) 4 c),.val (.pointer (some ⟨g,1,none⟩)),.val (.int .i64 (L:Nat)),.val (.slice (some ⟨g,0,none⟩) 4 c),.val (.pointer (some ⟨g,2,none⟩)),.val (.int .i64 (S:Nat)),.val (.slice (some ⟨g,0,none⟩) 4 c),.val (.pointer (some ⟨g,3,none⟩)),.val (.int .i64 (N:Nat)),.val (.slice (some ⟨g,0,none⟩) 4 c),.val (.pointer (some ⟨g,0,none⟩)),.val (.int .i64 (d:Nat)),.val (.int .u32 (d:Nat)),(.val (.agg #[.int .i64 (L:Nat),.int .i64 (S:Nat),.int .i64 (N:Nat),.int .u32 (d:Nat)])),(ShpPl 52 wr.heap.size),.any][ix]?).getD (.any)) 74 15 rfl (by kernel_rfl) (by decide) (by decide) (by decide) (by decide) ?_ ?_
     ·refine ⟨?_,?_,?_,?_,?_,?_,?_,?_,?_,?_,?_,?_,?_,?_,?_,trivial⟩
      ·intro a W hb0 hs hp hi;have hb:=undrew hb0;clear hb0
       have t4:sl a 4 = .slice (some ⟨g,0,none⟩) 4 c:=hi 4 (by decide)
       exact ite_y rfl (wp_val (sl a 4) rfl ⟨_,rfl,Below.refl _ _,t4⟩)
      ·intro a W hb0 hs hp hi;have hb:=undrew hb0;clear hb0
       have ti0:sl a 53 = .slice (some ⟨g,0,none⟩) 4 c:=hp 0 (by decide)
       refine ite_y rfl (wp_val (.pointer (some ⟨g,1,none⟩)) ?_ ?_)
       ·simp only [execOp,eval_tmp,eval_const,ti0];simp [go_sem]
       ·exact ⟨_,rfl,Below.refl _ _,rfl⟩
      ·intro a W hb0 hs hp hi;have hb:=undrew hb0;clear hb0
       have tt:sl a 54 = .pointer (some ⟨g,1,none⟩):=hp 1 (by decide)
       have dd:=(hb.cell (p:=⟨g,1,none⟩) (lt_of_cell a1)).trans a1
       refine ite_y rfl (wp_val (.int .i64 (L:Nat)) ?_ ?_)
       ·simp only [execOp,eval_tmp,tt];simp [go_sem,dd]
       ·exact ⟨_,rfl,Below.refl _ _,rfl⟩
      ·intro a W hb0 hs hp hi;have hb:=undrew hb0;clear hb0
       have t4:sl a 4 = .slice (some ⟨g,0,none⟩) 4 c:=hi 4 (by decide)
       exact ite_y rfl (wp_val (sl a 4) rfl ⟨_,rfl,Below.refl _ _,t4⟩)
      ·intro a W hb0 hs hp hi;have hb:=undrew hb0;clear hb0
       have ti0:sl a 56 = .slice (some ⟨g,0,none⟩) 4 c:=hp 3 (by decide)
       refine ite_y rfl (wp_val (.pointer (some ⟨g,2,none⟩)) ?_ ?_)
       ·simp only [execOp,eval_tmp,eval_const,ti0];simp [go_sem]
       ·exact ⟨_,rfl,Below.refl _ _,rfl⟩
      ·intro a W hb0 hs hp hi;have hb:=undrew hb0;clear hb0
       have tt:sl a 57 = .pointer (some ⟨g,2,none⟩):=hp 4 (by decide)
       have dd:=(hb.cell (p:=⟨g,2,none⟩) (lt_of_cell a2)).trans a2
       refine ite_y rfl (wp_val (.int .i64 (S:Nat)) ?_ ?_)
       ·simp only [execOp,eval_tmp,tt];simp [go_sem,dd]
       ·exact ⟨_,rfl,Below.refl _ _,rfl⟩
      ·intro a W hb0 hs hp hi;have hb:=undrew hb0;clear hb0
       have t4:sl a 4 = .slice (some ⟨g,0,none⟩) 4 c:=hi 4 (by decide)
       exact ite_y rfl (wp_val (sl a 4) rfl ⟨_,rfl,Below.refl _ _,t4⟩)
      ·intro a W hb0 hs hp hi;have hb:=undrew hb0;clear hb0
       have ti0:sl a 59 = .slice (some ⟨g,0,none⟩) 4 c:=hp 6 (by decide)
       refine ite_y rfl (wp_val (.pointer (some ⟨g,3,none⟩)) ?_ ?_)
       ·simp only [execOp,eval_tmp,eval_const,ti0];simp [go_sem]
       ·exact ⟨_,rfl,Below.refl _ _,rfl⟩
      ·intro a W hb0 hs hp hi;have hb:=undrew hb0;clear hb0
       have tt:sl a 60 = .pointer (some ⟨g,3,none⟩):=hp 7 (by decide)
       have dd:=(hb.cell (p:=⟨g,3,none⟩) (lt_of_cell a3)).trans a3
       refine ite_y rfl (wp_val (.int .i64 (N:Nat)) ?_ ?_)
       ·simp only [execOp,eval_tmp,tt];simp [go_sem,dd]
       ·exact ⟨_,rfl,Below.refl _ _,rfl⟩
      ·intro a W hb0 hs hp hi;have hb:=undrew hb0;clear hb0
       have t4:sl a 4 = .slice (some ⟨g,0,none⟩) 4 c:=hi 4 (by decide)
       exact ite_y rfl (wp_val (sl a 4) rfl ⟨_,rfl,Below.refl _ _,t4⟩)
      ·intro a W hb0 hs hp hi;have hb:=undrew hb0;clear hb0
       have ti0:sl a 62 = .slice (some ⟨g,0,none⟩) 4 c:=hp 9 (by decide)
       refine ite_y rfl (wp_val (.pointer (some ⟨g,0,none⟩)) ?_ ?_)
       ·simp only [execOp,eval_tmp,eval_const,ti0];simp [go_sem]
       ·exact ⟨_,rfl,Below.refl _ _,rfl⟩
      ·intro a W hb0 hs hp hi;have hb:=undrew hb0;clear hb0
       have tt:sl a 63 = .pointer (some ⟨g,0,none⟩):=hp 10 (by decide)
       have dd:=(hb.cell (p:=⟨g,0,none⟩) (lt_of_cell a0)).trans a0
       refine ite_y rfl (wp_val (.int .i64 (d:Nat)) ?_ ?_)
       ·simp only [execOp,eval_tmp,tt];simp [go_sem,dd]
       ·exact ⟨_,rfl,Below.refl _ _,rfl⟩
      ·intro a W hb0 hs hp hi;have hb:=undrew hb0;clear hb0
       have tt:sl a 64 = .int .i64 (d:Nat):=hp 11 (by decide)
       refine ite_y rfl (wp_val (.int .u32 (d:Nat)) ?_ ?_)
       ·simp only [execOp,eval_tmp,tt];simp [go_sem,Tryz.underlying3,Tryz.underlying23,show IntKind.u32.wrap (d:Int) = d by rw [IntKind.wrap_u32];omega]
       ·exact ⟨_,rfl,Below.refl _ _,rfl⟩
      ·intro a W hb0 hs hp hi;have hb:=undrew hb0;clear hb0
       have x0:sl a 55 = .int .i64 (L:Nat):=hp 2 (by decide)
       have x1:sl a 58 = .int .i64 (S:Nat):=hp 5 (by decide)
       have x2:sl a 61 = .int .i64 (N:Nat):=hp 8 (by decide)
       have x3:sl a 65 = .int .u32 (d:Nat):=hp 12 (by decide)
       refine ite_y rfl (wp_val (.agg #[.int .i64 (L:Nat),.int .i64 (S:Nat),.int .i64 (N:Nat),.int .u32 (d:Nat)]) ?_ ?_)
       ·simp only [execOp,eval_tmp,eval_const,List.map_toArray,List.map,x0,x1,x2,x3];simp [go_sem,x0,x1,x2,x3]
       ·exact ⟨_,rfl,Below.refl _ _,rfl⟩
      ·intro a W hb0 hs hp hi;have hb:=undrew hb0;clear hb0
       refine ite_y rfl (wp_val' (w':=W.alloc (.cells #[.int .i64 0,.int .i64 0,.int .i64 0,.int .u32 0] 52)) (.pointer (some ⟨W.heap.size,0,none⟩)) ?_ ?_)
       ·simp only [execOp];simp [go_sem]
       ·exact ⟨_,rfl,al (Below.refl _ _) (Nat.le_refl _),W.heap.size,rfl,hb.size,hnew rfl⟩
     intro a w9 o ho hb hs hd hI ht
     have ha:=act_is [53,54,55,56,57,58,59,60,61,62,63,64,65,66,12] hs hd ht (by decide)
     simp at ho;subst ho
     have t12:=hI 14 (by decide)
     have t66:=hI 13 (by decide)
     obtain ⟨bb,tb,hB,hh⟩:=t12
     have t66:sl a 66 = .agg #[.int .i64 (L:Nat),.int .i64 (S:Nat),.int .i64 (N:Nat),.int .u32 (d:Nat)]:=t66
     have e0:w9.cell? ⟨bb,0,none⟩ = some (.int .i64 0):=cell_of_row _ _ 0 _ _ _ hh
     have e1:w9.cell? ⟨bb,1,none⟩ = some (.int .i64 0):=cell_of_row _ _ 1 _ _ _ hh
     have e2:w9.cell? ⟨bb,2,none⟩ = some (.int .i64 0):=cell_of_row _ _ 2 _ _ _ hh
     have e3:w9.cell? ⟨bb,3,none⟩ = some (.int .u32 0):=cell_of_row _ _ 3 _ _ _ hh
     have z0:=frozen_of_row _ _ 0 _ _ hh
     have z1:=frozen_of_row _ _ 1 _ _ hh
     have z2:=frozen_of_row _ _ 2 _ _ hh
     have z3:=frozen_of_row _ _ 3 _ _ hh
     have hPW:=hP.out.keep hb
     have hBW:=bl hBw.out hb hsz
     have hne:b2≠bb:=by have:=hP.out.lt;omega
     have hBb:w1.heap.size≤bb:=Nat.le_trans hsz hB
     obtain ⟨wn,hwn⟩:∃ wn,wn = (((w9.setCell ⟨bb,0,none⟩ (.int .i64 (L:Nat))).setCell ⟨bb,1,none⟩ (.int .i64 (S:Nat))).setCell ⟨bb,2,none⟩ (.int .i64 (N:Nat))).setCell ⟨bb,3,none⟩ (.int .u32 (d:Nat)):=⟨_,rfl⟩
     have Z1:Hid (PC4 bb 52 L S N d wn):=by rw [hwn];exact hss (hss (hss (hss hh)))
     have Z2:Hid (PC4 b2 52 0 0 0 0 wn):=by rw [hwn];exact hsc (hsc (hsc (hsc hPW hne) hne) hne) hne
     have Z3:Hid (Below w.heap.size w wn):=by
      rw [hwn]
      have h:=bl B1.out hBW B1.out.size
      have hs0:=B1.out.size
      have hle:w.heap.size≤bb:=Nat.le_trans hs0 hBb
      exact (((h.setCell hle _).setCell hle _).setCell hle _).setCell hle _
     refine wp_skip_none rfl (w':=wn) ?_ ?_
     ·rw [hwn];simp only [execOp,eval_tmp,tb,t66];simp [go_sem,e0,e1,e2,e3,z0,z1,z2,z3]
     simp only [List.foldl,tb,t66] at ha
     generalize sl a 53 = u53 at ha
     generalize sl a 54 = u54 at ha
     generalize sl a 55 = u55 at ha
     generalize sl a 56 = u56 at ha
     generalize sl a 57 = u57 at ha
     generalize sl a 58 = u58 at ha
     generalize sl a 59 = u59 at ha
     generalize sl a 60 = u60 at ha
     generalize sl a 61 = u61 at ha
     generalize sl a 62 = u62 at ha
     generalize sl a 63 = u63 at ha
     generalize sl a 64 = u64 at ha
     generalize sl a 65 = u65 at ha
     simp only [Act.put,List.setIfInBounds_toArray,List.set_cons_zero,List.set_cons_succ] at ha
     rw [ha];clear ha hwn hI ht e0 e1 e2 e3 z0 z1 z2 z3 hb hh hPW hBW hne hBb hB
     obtain ⟨c0,c1,c2,c3⟩:=Z1.out.cells
     go_wp2_with fail
     have z1:=Z1.out;have z2:=Z2.out;have z3:=Z3.out
     clear Z1 Z2 Z3 c0 c1 c2 c3
     refine Calls.mono (HC.out _) ?_
     rintro e w3 ⟨rfl,hb⟩
     have P1:=Lib.hid (z1.keep hb)
     have P2:=Lib.hid (z2.keep hb)
     have B3:Hid (Below w.heap.size w w3):=bl z3 hb z3.size
     clear z1 z2 z3 hb a0 a1 a2 a3 hO hP hBw
     obtain ⟨c0,c1,c2,c3⟩:=P2.out.cells
     have f0:=P2.out.froz 0
     have f1:=P2.out.froz 1
     have f2:=P2.out.froz 2
     have f3:=P2.out.froz 3
     by_cases hz:checkS L S N = 0
     ·have HP0:=Lib.hid (parseV_good HPO.out hz)
      obtain ⟨d0,d1,d2,d3⟩:=P1.out.cells
      have HQ:Hid (PC4 b2 52 L S N d ((((w3.setCell ⟨b2,0,none⟩ (.int .i64 L)).setCell ⟨b2,1,none⟩ (.int .i64 S)).setCell ⟨b2,2,none⟩ (.int .i64 N)).setCell ⟨b2,3,none⟩ (.int .u32 d))):=hss (hss (hss (hss P2.out)))
      rw [hz]
      clear hz
      go_wp2
      refine bodyPost_ret (results_ct rfl _ _ _ 52 #[.int .i64 L,.int .i64 S,.int .i64 N,.int .u32 d] (0,0) _ (.int .i64 0) rfl HQ.out rfl Tryz.underlying52 rfl hi) rfl ⟨by rw [HP0.out],HST.out _ _ _ _ _ B3.out⟩
     ·have HP0:=Lib.hid (parseV_bad HPO.out hz)
      have hzb:(checkS L S N != 0) = true:=by simpa using hz
      clear hz
      generalize checkS L S N = f at *
      go_wp2
      refine bodyPost_ret (results_ct rfl _ _ _ 52 #[.int .i64 0,.int .i64 0,.int .i64 0,.int .u32 0] (0,0) _ (.int .i64 f) rfl (HF0.out _ P2.out) rfl Tryz.underlying52 rfl hi) rfl ⟨by rw [HP0.out],HST.out _ _ _ _ _ B3.out⟩
 ·have HP0:Hid (parseV l = .tuple #[.agg #[.int .i64 0,.int .i64 0,.int .i64 0,.int .u32 0],.int .i64 14]):=parseV_none (parse_obj HSC.out ho)
  have hne:((strB o).toList == [111,98,106,101,99,116]) = false:=by
   rw [ByteArray.toList_eq,strB_data]
   exact beq_eq_false_iff_ne.2 ho
  obtain ⟨c0,c1,c2,c3⟩:=XB.out.cells
  have f0:=XB.out.froz 0
  have f1:=XB.out.froz 1
  have f2:=XB.out.froz 2
  have f3:=XB.out.froz 3
  generalize strB o = so at *
  clear ho
  go_wp2
  refine bodyPost_ret (results_ct rfl _ _ _ 52 #[.int .i64 0,.int .i64 0,.int .i64 0,.int .u32 0] (0,0) _ (.int .i64 14) rfl (HF0.out _ XB.out) rfl Tryz.underlying52 rfl hi) rfl ⟨by rw [HP0.out],HST.out _ _ _ _ _ B1.out⟩
end Go.Proofs.YtccaiiigdfieoaaGreatDoor
namespace Go.Proofs.YtccaiiigdfieoaaGreatDoor
open Go.RowKit Go.By Go.Maps
theorem pval_inj {L t k D L' t' k' D':Nat} (h:(Value.tuple #[PVal L t k D,.int .i64 0]) = .tuple #[PVal L' t' k' D',.int .i64 0]):L = L'∧t = t'∧k = k'∧D = D':=by
 simp at h
 obtain ⟨x1,x2,x3,x4⟩:=h
 exact ⟨by omega,by omega,by omega,by omega⟩
theorem pval_code {L t k D:Nat} {c:Int} {z:Value} (h:(Value.tuple #[PVal L t k D,.int .i64 0]) = .tuple #[z,.int .i64 c]):c = 0:=by
 simp at h
 exact h.2.symm
theorem code_inj {c c':Int} {z z':Value} (h:(Value.tuple #[z,.int .i64 c]) = .tuple #[z',.int .i64 c']):c = c':=by
 simp at h
 exact h.2
structure Imp (w w':World) (L t k D n:Nat) (P:List (List UInt8)) (o:Option Addr) (ec:Int):Prop where
 bad:impC k t D P≠0→o = none∧ec = impC k t D P
 good:impC k t D P = 0→ec = 0∧∃ base gt be M v C,o = some ⟨gt,0,none⟩∧w.heap.size≤base∧Tkr w' base gt be L t k D n M v C (tkR k t D P).1 (tkR k t D P).2
theorem Imp.keep {w w' w2:World} {L t k D n:Nat} {P:List (List UInt8)} {o:Option Addr} {ec:Int} (h:Imp w w' L t k D n P o ec) (hb:Below w'.heap.size w' w2):Imp w w2 L t k D n P o ec :=
 ⟨h.bad,fun e=>by obtain ⟨h1,base,gt,be,M,v,C,h2,h3,h4⟩:=h.good e;exact ⟨h1,base,gt,be,M,v,C,h2,h3,h4.keep hb⟩⟩
theorem ImpR.parts {w w':World} {L t k D n:Nat} {P:List (List UInt8)} {e:Ending} (h:ImpR w L t k D n P e w'):∃ o ec,e = .returned (.tuple #[.pointer o,.int .i64 ec])∧Below w.heap.size w w'∧Imp w w' L t k D n P o ec:=by
 rcases h with ⟨h0,base,gt,be,M,v,C,rfl,h1,h2,h3⟩ | ⟨h0,rfl,h3⟩
 ·exact ⟨_,_,rfl,h3,fun e=>absurd h0 e,fun _=>⟨rfl,base,gt,be,M,v,C,rfl,h1,h2⟩⟩
 ·exact ⟨_,_,rfl,h3,fun _=>⟨rfl,rfl⟩,fun e=>absurd e h0⟩
structure Prs (w w':World) (s:List UInt8) (o:Option Addr) (ec:Int):Prop where
 form:linesP s = none→o = none∧ec = 14
 hex:∀ a T,linesP s = some (a :: T)→pktsP T = none→o = none∧ec = 14
 plan:∀ a T P c z,linesP s = some (a :: T)→pktsP T = some P→parseV a = .tuple #[z,.int .i64 c]→c≠0→o = none∧ec = c
 imp:∀ a T P L t k D,linesP s = some (a :: T)→pktsP T = some P→parseV a = .tuple #[PVal L t k D,.int .i64 0]→Imp w w' L t k D P.length P o ec
theorem Prs.keep {w w' w2:World} {s:List UInt8} {o:Option Addr} {ec:Int} (h:Prs w w' s o ec) (hb:Below w'.heap.size w' w2):Prs w w2 s o ec :=
 ⟨h.form,h.hex,h.plan,fun a T P L t k D h1 h2 h3=>(h.imp a T P L t k D h1 h2 h3).keep hb⟩
theorem PrsK.parts {w w':World} {s:List UInt8} {e:Ending} (h:PrsK w s e w'):∃ o ec,e = .returned (.tuple #[.pointer o,.int .i64 ec])∧Below w.heap.size w w'∧Prs w w' s o ec:=by
 rcases h with ⟨h1,rfl,hb⟩ | ⟨a,T,h1,h2⟩
 ·exact ⟨_,_,rfl,hb,fun _=>⟨rfl,rfl⟩,fun _ _ _ _=>⟨rfl,rfl⟩,(fun a T P c z e=>by rw [h1] at e;cases e),(fun a T P L t k D e=>by rw [h1] at e;cases e)⟩
 ·rcases h2 with ⟨h2,rfl,hb⟩ | ⟨P,h2,h3⟩
  ·refine ⟨_,_,rfl,hb,fun _=>⟨rfl,rfl⟩,fun _ _ _ _=>⟨rfl,rfl⟩,fun a' T' P c z e e2=>?_,fun a' T' P L t k D e e2=>?_⟩
   ·rw [h1] at e;injection e with e;injection e with e3 e4;subst e4;rw [h2] at e2;cases e2
   ·rw [h1] at e;injection e with e;injection e with e3 e4;subst e4;rw [h2] at e2;cases e2
  ·rcases h3 with ⟨c,hc,h3,rfl,hb⟩ | ⟨L,t,k,D,hP,h3,h4⟩
   ·refine ⟨_,_,rfl,hb,(fun e=>by rw [h1] at e;cases e),fun a' T' e e2=>?_,fun a' T' P' c' z e e2 e3 hc'=>?_,fun a' T' P' L t k D e e2 e3=>?_⟩
    ·rw [h1] at e;injection e with e;injection e with e3 e4;subst e4;rw [h2] at e2;cases e2
    ·rw [h1] at e;injection e with e;injection e with e4 e5;subst e4
     rw [h3] at e3
     exact ⟨rfl,code_inj e3⟩
    ·rw [h1] at e;injection e with e;injection e with e4 e5;subst e4
     rw [h3] at e3
     exact absurd (code_inj e3) hc
   ·obtain ⟨o,ec,he,hb,hI⟩:=h4.parts
    refine ⟨o,ec,he,hb,(fun e=>by rw [h1] at e;cases e),fun a' T' e e2=>?_,fun a' T' P' c' z e e2 e3 hc'=>?_,fun a' T' P' L' t' k' D' e e2 e3=>?_⟩
    ·rw [h1] at e;injection e with e;injection e with e3 e4;subst e4;rw [h2] at e2;cases e2
    ·rw [h1] at e;injection e with e;injection e with e4 e5;subst e4
     rw [h3] at e3
     exact absurd (pval_code e3) hc'
    ·rw [h1] at e;injection e with e;injection e with e4 e5;subst e4 e5
     rw [h2] at e2;injection e2 with e2;subst e2
     rw [h3] at e3
     obtain ⟨rfl,rfl,rfl,rfl⟩:=pval_inj e3
     exact hI
theorem slice_oneC (g n c:Nat) (hn:0 < n) (hc:n≤c):∃ q' c',(∀ W,(Instr.sliceAt 88 (.slice (some ⟨g,0,none⟩) n c) (some (.int .i64 1)) none none).run Tryz.prog W = .ok (.slice q' (n - 1) c') W)∧(0 < n - 1→q' = some ⟨g,1,none⟩):=by
 have hel:Tryz.prog.underlying 88 = some (.slice (Tryz.prog.elem 88)):=by simp [Program.elem,Tryz.underlying88]
 refine ⟨if c = 1 then some ⟨g,0,none⟩ else some ⟨g,1,none⟩,c - 1,fun W=>?_,fun h=>if_neg (by omega)⟩
 have e1:(Value.int .i64 1) = .int .i64 ((1:Nat):Int):=rfl
 rw [e1,run_sliceAt_slice (h:=hel),run_slice_l (ht:=hel) (h0:=by omega) (h1:=by omega)]
 clear hel
 by_cases h1:c = 1
 ·subst h1;go_simp
 ·rw [if_neg h1]
  go_simp
theorem RRows24 {k t:Nat} {X K:List Rw} {wI W:World} {q:Option Addr} {c:Nat} (hX:RefS k t X K) (hk:k≤12) (ht:t≤20) (hl:X.length≤4096) (hR:RRef wI W q X.length c X) (hB:Below wI.heap.size wI W):Calls Tryz.prog 30 #[.slice q X.length c] W (RetKN W K):=by
 have:=RRows_any k t q X.length c X W (hR.rwS hB) hX.fit (by unfold Room;omega) (by unfold Room;omega) hl
 rwa [show redL (kD X) = K from hX.sys.same.symm] at this
end Go.Proofs.YtccaiiigdfieoaaGreatDoor
