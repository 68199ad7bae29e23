/- The library's Split,Cut,CutSuffix at a sign. Chapter 24: keep.Export. Chapter 24: keep.Parse. Chapter 24: keep.Parse,walked. strings.Builder: WriteString,WriteByte,String. A builder in a block of its own; the digits of base 16. A used strings.Builder,WriteByte with its whole frame. Chapter 24,the reference: Hex. Chapter 24: keep.Text. Chapter 24: no taker. Chapter 24,the law: awake. The document's packets as written (of what fits,told by bytes): chapters 13,14,15. Chapter 15,the reference: Write: the bytes lie in new memory. A region that draws its order,op by op: one invariant of all slots and of the world,told by which operations have run. Chapter 24,the reference: Export. Chapter 24: KeepExports,of a plan that may be. Chapter 28: audit.Taker finds nothing. Texts in memory,one by one: what the references' loops over signs lean on. Chapter 24,the reference: Lines. The reference's Parse. Chapter 24: what Parse and Import come to,said by parts. Chapter 24: three takers beside each other. Chapter 24: KeepBack,of a plan that may be. The theorems through the layers: sameRows,of the same; lists of packets appended; two takers beside each other. As text RE,of any quiet operation that may slip behind the store. Chapters 11,17: a plan and an object that do not fit. Chapter 22: trip.Run of a plan and an object that fit. Chapter 22: the law's awake. Chapter 22: the law's Few; trip.Run of what does not fit. The theorems through the layers: small,few. -/
import Derived.Test.YtccaiiigdfieoaaGreatDoorZk8
import Derived.Lib.CountLaws
import Derived.Shelf.Strings.Builder1
import Derived.Deep.DeepCutAuto
import Derived.Laws.AppendOwnNone
namespace Go.By
open Go.RowKit Go.Proofs.YtccaiiigdfieoaaGreatDoor
theorem spl_count (c:UInt8):∀ (m:Nat) (s:List UInt8),s.length≤m→spl c (Lib.count s [c]) s = splA c s
 | m,s,hm=>by
  cases h:(cutW c s).2 with
  | none =>
   have e:=(cutW_none h).2
   rw [Lib.count_miss e]
   show [s] = splA c s
   exact (spl_none h).symm
  | some r =>
   obtain ⟨i,e1,e2,e3,e4⟩:=cutW_some h
   have hl:=cutW_len h
   cases m with
   | zero=>omega
   | succ m =>
    rw [Lib.count_hit (by simp) e1,show ([c]:List UInt8).length = 1 from rfl,e3,Nat.add_comm,spl_some h,spl_count c m r (by omega)]
    unfold splA
    obtain ⟨k,hk⟩:∃ k,s.length = k + 1:=⟨s.length - 1,by omega⟩
    rw [hk,spl_some h,spl_more (k:=k) (by omega)];rfl
theorem splitB_splC (c:UInt8) (l:List UInt8) (k:Nat):Lib.splitB ⟨#[c]⟩ 0 k (strB l) = (spl c k l).map strB:=by
 have h:=Lib.splitB_data ⟨#[c]⟩ 0 k (strB l)
 rw [strB_data] at h
 have h2:Lib.splitK [c] 0 k l = spl c k l:=splitK_spl c k l
 have h3:((⟨#[c]⟩:ByteArray).data.toList) = [c]:=rfl
 rw [h3,h2] at h
 have h4:=congrArg (List.map strB) h
 rw [List.map_map] at h4
 rw [← h4]
 conv=>lhs;rw [← List.map_id (Lib.splitB ⟨#[c]⟩ 0 k (strB l))]
 apply List.map_congr_left
 intro x _
 exact strB_of x
theorem spl_shortC (c:UInt8):∀ (k:Nat) (l x:List UInt8),x ∈ spl c k l→x.length≤l.length
 | 0,l,x,h=>by
  have:x = l:=by simpa [spl] using h
  rw [this];exact Nat.le_refl _
 | k + 1,l,x,h=>by
  cases hc:(cutW c l).2 with
  | none =>
   rw [spl_none hc] at h
   rw [List.mem_singleton.1 h];exact Nat.le_refl _
  | some r =>
   rw [spl_some hc] at h
   obtain ⟨i,_,e2,e3,e4⟩:=cutW_some hc
   rcases List.mem_cons.1 h with rfl | h
   ·rw [← e2,List.length_take];omega
   ·have:=spl_shortC c k r x h
    have:=cutW_len hc
    omega
theorem splA_len (c:UInt8) (s:List UInt8):(splA c s).length≤s.length + 1:=(spl_len c s.length s).2
end Go.By
namespace Go.Proofs.YtccaiiigdfieoaaGreatDoor
open Go.RowKit Go.By
theorem Split_any (c:UInt8) (l:List UInt8) (w:World) (hl:l.length≤1000000) (hM:MaxI w) :
  Calls Tryz.prog 67 #[.string (strB l),.string ⟨#[c]⟩] w fun e w'=>e = .returned (.slice (some ⟨w.heap.size,0,none⟩) (splA c l).length (splA c l).length)∧StrRow w' w.heap.size (splA c l)∧Below w.heap.size w w':=by
 obtain ⟨m,hm⟩:=hM
 have hc:Lib.countB (strB l) ⟨#[c]⟩ = Lib.count l [c]:=by show Lib.count _ _ = _;rw [strB_data]
 have hs:Lib.splitB ⟨#[c]⟩ 0 (Lib.countB (strB l) ⟨#[c]⟩) (strB l) = (splA c l).map strB:=by
  rw [splitB_splC,hc,spl_count c _ l (Nat.le_refl _)]
 have hn:Lib.countB (strB l) ⟨#[c]⟩ + 1 = (splA c l).length:=by
  have:=Lib.splitB_all ⟨#[c]⟩ (Nat.le_refl 1) 0 _ (strB l) rfl
  rw [hs,List.length_map] at this
  exact this.symm
 refine (Tryz.strings_Split (strB l) ⟨#[c]⟩ m w (by rw [strB_size];omega) hm (Nat.le_refl 1)).mono ?_
 rintro e w' ⟨rfl,rfl⟩
 rw [hs,hn]
 refine ⟨rfl,fun i x hx=>?_,al (Below.refl _ _) (Nat.le_refl _)⟩
 rw [cell_of_row _ _ _ _ _ _ (hnew rfl),List.getElem?_toArray,List.getElem?_map,List.getElem?_map,hx];rfl
end Go.Proofs.YtccaiiigdfieoaaGreatDoor
namespace Go.Proofs.YtccaiiigdfieoaaGreatDoor
open Go.RowKit Go.By
theorem info_vrow3:(Tryz.prog.info? 99).map (fun i=>(i.zero,i.size,i.bytes)) = some (some (.agg #[.slice none 0 0,.slice none 0 0]),2,48):=by kernel_rfl
theorem setRow_other_type {w:World} {b g T T':Nat} {cs cs' old:Array Value} {fr fr':Nat × Nat} (h:w.heap[b]? = some (.cells cs T fr)) (hg:w.heap[g]? = some (.cells old T' fr')) (hne:T≠T'):(w.setRow g cs').heap[b]? = w.heap[b]?:=by
 refine (hro h fun e=>?_).trans h.symm
 subst e
 rw [h] at hg
 injection hg with hg
 injection hg with _ e _
 exact hne e
theorem hdrF_mono {T2 T1 B B' n:Nat} {w:World} {v:Value} {xss:List (List UInt8)} (h:HdrF T2 T1 B w v n xss) (hB:B'≤B):HdrF T2 T1 B' w v n xss:=by
 obtain ⟨vs,o,l,r⟩:=h
 exact ⟨vs,owns_mono o hB,l,fun j u hj=>by obtain ⟨q,m,c,xs,e,hx,hf⟩:=r j u hj;exact ⟨q,m,c,xs,e,hx,hf.mono hB⟩⟩
theorem mk_bytesK (T:TypeId) (hT:Tryz.prog.underlying T = some (.slice 5)) (n:Nat) (hn:n≤1000000) (W:World):(Instr.makeSlice T (.int .i64 (n:Int)) (.int .i64 (n:Int))).run Tryz.prog W = .ok (.slice (some ⟨W.heap.size,0,none⟩) n n) (W.alloc (.cells ((List.replicate n (0:UInt8)).map B8).toArray 5)):=by
 obtain ⟨i0,hi0,hz0,hz1,hz2⟩:=info_parts info_u8
 have:=run_make (P:=Tryz.prog) W T 5 i0 _ hT hi0 hz0 .i64 .i64 (n:Int) (n:Int) (by omega) (Int.le_refl _) (by rw [hz2];omega) (by omega)
 rw [hz1] at this
 simp only [Int.toNat_natCast,Nat.mul_one] at this
 have h8:B8 0 = .int .u8 0:=rfl
 have e:madeCells #[Value.int .u8 0] n = ((List.replicate n (0:UInt8)).map B8).toArray:=by
  apply Array.toList_inj.1
  rw [toList_madeCells_one,List.map_replicate,h8]
 rw [this,← e]
 rfl
set_option maxRecDepth 1000000 in
set_option maxHeartbeats 8000000 in
theorem KExport_ok (base gt be L t k D N:Nat) (M v:Value) (C:DataW Unit) (K:List Rw) (st:Nat) (w:World) (h:Tkr w base gt be L t k D N M v C K st) (hT:HalfT w) :
  Calls Tryz.prog 27 #[.pointer (some ⟨gt,0,none⟩)] w fun e w'=>∃ q c,e = .returned (.slice q (expR k t K st).length c)∧HdrF 22 5 w.heap.size w' (.slice q (expR k t K st).length c) (expR k t K st).length (expL D (expR k t K st))∧Below w.heap.size w w':=by
 obtain ⟨r0,hr0,hrz,hr1',hr2'⟩:=info_parts info_vrow3
 have HGt:Hid (∀ W,Below w.heap.size w W→Calls Tryz.prog 71 #[.pointer (some ⟨gt,0,none⟩)] W fun e w'=>e = .returned (GVal L t k D M)∧Below W.heap.size W w'):=fun W hb=>TGate_any base gt be L t k D N M v C K st W (h.keep hb)
 have HRw:Hid (∀ W,Below w.heap.size w W→Calls Tryz.prog 21 #[.pointer (some ⟨gt,0,none⟩)] W fun e w'=>∃ v',e = .returned v'∧RwL 99 5 w' W.heap.size v' K.length K∧Below W.heap.size W w'):=fun W hb=>TRows_any base gt be L t k D N M v C K st W (h.keep hb)
 have HSt:Hid (∀ W,Below w.heap.size w W→Calls Tryz.prog 22 #[.pointer (some ⟨gt,0,none⟩)] W fun e w'=>e = .returned (.int .i64 (st:Nat))∧W = w'):=fun W hb=>TStatus_any base gt be L t k D N M v C K st W (h.keep hb)
 have HF:Hid (∀ r,r ∈ expR k t K st→Fit k t r):=expR_fit fun r hr=>(h.red.kept.rows r hr).1
 have HP:=Lib.hid h.ok
 have HT:=Lib.hid hT
 have ht1:=h.ok.t1
 have ht2:=h.ok.t2
 have hk1:=h.ok.k1
 have hk2:=h.ok.k2
 have hKl:K.length≤k:=Red.le h.red
 have hRl:(expR k t K st).length≤5000:=by have:=expR_len (k:=k) (t:=t) (st:=st) (K:=K);omega
 obtain ⟨R,hRe⟩:∃ R,R = expR k t K st:=⟨_,rfl⟩
 rw [← hRe] at HF hRl ⊢
 have HRE:=Lib.hid hRe
 clear h hT hRe
 go_enter Tryz.func27,Tryz.ntmps27
 go_wp2_with fail
 refine Calls.mono (HGt.out w (Below.refl _ _)) ?_
 rintro e w1 ⟨rfl,hb1⟩
 have HB1:=Lib.hid hb1
 clear hb1 HGt
 have hfg:=field_gate L t k D M w1
 go_wp2_with (first | simp only [hfg] | fail)
 have ba:Below w1.heap.size w1 (w1.alloc (.cells #[.int .i64 (L:Nat),.int .i64 (t:Nat),.int .i64 (k:Nat),.int .u32 (D:Nat)] 27 (0,0))):=al (Below.refl _ _) (Nat.le_refl _)
 have hp2:(w1.alloc (.cells #[.int .i64 (L:Nat),.int .i64 (t:Nat),.int .i64 (k:Nat),.int .u32 (D:Nat)] 27 (0,0))).heap[w1.heap.size]? = some (.cells #[.int .i64 (L:Nat),.int .i64 (t:Nat),.int .i64 (k:Nat),.int .u32 (D:Nat)] 27 (0,0)):=hnew rfl
 have HB2:=Lib.hid (bl HB1.out ba HB1.out.size)
 have HGP:Hid (w.heap.size≤w1.heap.size):=HB1.out.size
 obtain ⟨gp,hgp⟩:∃ g,g = w1.heap.size:=⟨_,rfl⟩
 rw [← hgp] at hp2 HGP ⊢
 clear hgp ba hfg HB1
 generalize w1.alloc (.cells #[.int .i64 (L:Nat),.int .i64 (t:Nat),.int .i64 (k:Nat),.int .u32 (D:Nat)] 27 (0,0)) = w2 at *
 refine Calls.mono (HRw.out w2 HB2.out) ?_
 rintro e w3 ⟨v',rfl,hr,hb⟩
 have HB3:=Lib.hid (bl HB2.out hb HB2.out.size)
 have HR3:=Lib.hid (hr.mono HB2.out.size)
 have hp3:=Lib.hid ((hb.block _ (lt_of_block hp2)).trans hp2)
 obtain ⟨qr,cr,rfl⟩:=hr.shape
 clear hr hb hp2 HB2 HRw
 go_wp2_with fail
 refine Calls.mono (HSt.out w3 HB3.out) ?_
 rintro e w4 ⟨rfl,rfl⟩
 clear HSt
 go_upto_if 21 with (fail)
 go_cut [4,5] (fun s4 _ wx=>∃ (q:Option Addr) (c n:Nat),s4 = .slice q n c∧n = R.length∧Hid (RwL 99 5 wx w.heap.size (.slice q n c) n R)∧Hid (Below w.heap.size w wx)∧Hid (wx.heap[gp]? = some (.cells #[.int .i64 (L:Nat),.int .i64 (t:Nat),.int .i64 (k:Nat),.int .u32 (D:Nat)] 27 (0,0))))
 case first =>
  as_aux_lemma =>
   by_cases h2:st = 2
   ·have HE:Hid (R = K ++ [clashRow k t]):=by show _ = _;rw [HRE.out,h2];rfl
    subst h2
    have hmk5:=mk_bytesK 22 Tryz.underlying22 t (by omega)
    obtain ⟨z5,hz5⟩:∃ z,z = ((List.replicate t (0:UInt8)).map B8).toArray:=⟨_,rfl⟩
    rw [← hz5] at hmk5
    have HZ5:=Lib.hid hz5
    clear hz5
    obtain ⟨d0,d1,d2,d3⟩:=cells_four hp3.out
    go_upto_region 7 with (fail)
    have ba:Below w3.heap.size w3 (w3.alloc (.cells z5 5)):=al (Below.refl _ _) (Nat.le_refl _)
    have k5:(w3.alloc (.cells z5 5)).heap[w3.heap.size]? = some (.cells ((List.replicate t (0:UInt8)).map B8).toArray 5 (0,0)):=by rw [hnew rfl,HZ5.out]
    have HB5:=Lib.hid (bl HB3.out ba HB3.out.size)
    have HR5:=Lib.hid (HR3.out.keep ba)
    have p5:=Lib.hid ((ba.block _ (lt_of_block hp3.out)).trans hp3.out)
    have HG5:Hid (w.heap.size≤w3.heap.size):=HB3.out.size
    obtain ⟨g5,hg5⟩:∃ g,g = w3.heap.size:=⟨_,rfl⟩
    rw [← hg5] at k5 HG5 ⊢
    have hgp5:gp≠g5:=by have:=lt_of_block hp3.out;omega
    have BA5:=Lib.hid ba
    have hg5':=Lib.hid hg5
    clear ba hg5 HZ5 d0 d1 d2 d3
    generalize w3.alloc (.cells z5 5) = w5 at *
    have hcell:w5.cell? ⟨g5,0,none⟩ = some (.int .u8 0):=by
     rw [cell_of_row _ _ 0 _ _ _ k5,List.getElem?_toArray,List.getElem?_map,List.getElem?_replicate,if_pos (by omega)]
     rfl
    have hfro:w5.frozen? ⟨g5,0,none⟩ = false:=frozen_of_row _ _ 0 _ _ k5
    have k6:(w5.setCell ⟨g5,0,none⟩ (.int .u8 1)).heap[g5]? = some (.cells (((List.replicate t (0:UInt8)).set 0 1).map B8).toArray 5 (0,0)):=by
     rw [heap_setCell_same _ _ _ _ _ _ k5,List.setIfInBounds_toArray,List.map_set]
     rfl
    have HB6:Hid (Below w.heap.size w (w5.setCell ⟨g5,0,none⟩ (.int .u8 1))):=Below.setCell HB5.out HG5.out _
    have p6:(w5.setCell ⟨g5,0,none⟩ (.int .u8 1)).heap[gp]? = some (.cells #[.int .i64 (L:Nat),.int .i64 (t:Nat),.int .i64 (k:Nat),.int .u32 (D:Nat)] 27 (0,0)):=(Below.heap_setCell _ _ _ _ hgp5).trans p5.out
    have HR6:Hid (RwL 99 5 (w5.setCell ⟨g5,0,none⟩ (.int .u8 1)) w.heap.size (.slice qr K.length cr) K.length K):=HR3.out.keep (Below.setCell BA5.out (Nat.le_of_eq hg5'.out.symm) _)
    go_upto_region 8 with (fail)
    clear hcell hfro k5 HB5 HR5 p5 hmk5
    generalize w5.setCell ⟨g5,0,none⟩ (.int .u8 1) = w6 at *
    have hmk9:=mk_bytesK 97 Tryz.underlying97 k (by omega)
    obtain ⟨z9,hz9⟩:∃ z,z = ((List.replicate k (0:UInt8)).map B8).toArray:=⟨_,rfl⟩
    rw [← hz9] at hmk9
    have HZ9:=Lib.hid hz9
    clear hz9
    obtain ⟨d0,d1,d2,d3⟩:=cells_four p6
    have K6:=Lib.hid k6
    have P6:=Lib.hid p6
    clear k6 p6
    go_wp2_with fail
    have ba:Below w6.heap.size w6 (w6.alloc (.cells z9 5)):=al (Below.refl _ _) (Nat.le_refl _)
    have k9:(w6.alloc (.cells z9 5)).heap[w6.heap.size]? = some (.cells ((List.replicate k (0:UInt8)).map B8).toArray 5 (0,0)):=by rw [hnew rfl,HZ9.out]
    have k5:=(ba.block _ (lt_of_block K6.out)).trans K6.out
    have HB7:=Lib.hid (bl HB6.out ba HB6.out.size)
    have HR7:=Lib.hid (HR6.out.keep ba)
    have P7:=Lib.hid ((ba.block _ (lt_of_block P6.out)).trans P6.out)
    clear d0 d1 d2 d3 ba HZ9 K6 P6 HB6 HR6 hmk9
    generalize w6.alloc (.cells z9 5) = w7 at *
    refine Calls.mono (Of_any _ _ _ _ _ _ (List.replicate k 0) ((List.replicate t 0).set 0 1) w7 (sl_block _ k k9 rfl (by simp) (by unfold maxLen;omega)) (sl_block _ t k5 rfl (by simp) (by unfold maxLen;omega)) (by unfold Room;omega) (by unfold Room;omega)) ?_
    rintro e w8 ⟨q1,m1,c1,q2,m2,c2,hm1,hm2,rfl,o1,o2,hb⟩
    have HB8:=Lib.hid (bl HB7.out hb HB7.out.size)
    have HR8:=Lib.hid (HR7.out.keep hb)
    have P8:=Lib.hid ((hb.block _ (lt_of_block P7.out)).trans P7.out)
    have BW1:Hid (Bw 5 w8 w.heap.size (.slice q1 m1 c1) (clashRow k t).1):=Bw.mk (owns_mono o1 HB7.out.size) hm1.out
    have BW2:Hid (Bw 5 w8 w.heap.size (.slice q2 m2 c2) (clashRow k t).2):=Bw.mk (owns_mono o2 HB7.out.size) hm2.out
    clear hb o1 o2 k9 k5 hm1 hm2 HB7 HR7 P7
    have ba:Below w8.heap.size w8 (w8.alloc (.cells #[.slice q1 m1 c1,.slice q2 m2 c2] 99 (0,0))):=al (Below.refl _ _) (Nat.le_refl _)
    obtain ⟨vs,va,vb,vo,vr⟩:=HR8.out.keep ba
    have B1:=Lib.hid (BW1.out.keep ba)
    have B2:=Lib.hid (BW2.out.keep ba)
    have VA:=Lib.hid va
    have VO:=Lib.hid vo
    have VR:=Lib.hid vr
    have hsz8:=HB8.out.size
    clear va vb vo vr ba BW1 BW2 HR8
    go_wp2_with (at_builtin;refine wpList_append_own _ rfl _ _ 44 rfl w.heap.size 99 r0 _ 2 48 Tryz.underlying44 hr0 hrz hr1' hr2' rfl (by omega) _ K.length (fl2 vs) rfl VO.out ⟨w8.heap.size,0,none⟩ 1 1 [.slice q1 m1 c1,.slice q2 m2 c2] rfl rfl ?c1 ?c2 ?c3 ?c4 ?c5 ?_)
    case c1 =>
     intro j' y hj'
     rw [Addr.add_lit,Nat.zero_add,cell_of_row _ _ j' _ _ _ (hnew (by simp))]
     match j' with
     | 0=>simpa using hj'
     | 1=>simpa using hj'
     | j' + 2=>simp at hj'
    case c2=>intro y hy;simp at hy;rcases hy with rfl | rfl <;> rfl
    case c3=>unfold maxLen;omega
    case c4=>omega
    case c5=>simp;omega
    intro v' w9 ho' hg' _
    obtain ⟨q',c',rfl⟩:=owns_shape ho'
    have HR9:Hid (RwL 99 5 w9 w.heap.size (.slice q' (K.length + 1) c') (K.length + 1) R):=by
     show RwL _ _ _ _ _ _ _
     rw [HE.out]
     exact RwL.push VA.out rfl VO.out VR.out (by decide) B1.out B2.out ho' hg'
    have HB9:Hid (Below w.heap.size w w9):=(al HB8.out hsz8).grown hg' (by simp;omega) (fun rr hrr=>(VO.out.lt rr hrr).1)
    have P9:Hid (w9.heap[gp]? = some (.cells #[.int .i64 (L:Nat),.int .i64 (t:Nat),.int .i64 (k:Nat),.int .u32 (D:Nat)] 27 (0,0))):=by
     have hl:=lt_of_block P8.out
     refine (hg'.block gp (by simp;omega) fun e=>?_).trans (hal P8.out)
     have hO:=VO.out
     rcases hO.2 with ⟨e1,_⟩ | ⟨g',cap,cur,e1,_,hh,_⟩
     ·rw [e1] at e;cases e
     ·rw [e1] at e
      cases e
      rw [hal P8.out] at hh
      injection hh with hh
      injection hh with _ hh _
      exact absurd hh (by decide)
    clear ho' hg' VA VO VR B1 B2 hsz8
    go_wp2
    go_meet
    case rel=>exact ⟨q',c',K.length + 1,rfl,by rw [HE.out];simp,HR9.out,HB9.out,P9.out⟩
   ·have hne:((st:Int) == 2) = false:=beq_eq_false_iff_ne.2 (by omega)
    have HE:Hid (R = K):=by show _ = _;rw [HRE.out];exact expR_not h2
    clear h2
    go_wp2
    go_meet
    case rel=>exact ⟨qr,cr,K.length,rfl,by rw [HE.out],by rw [HE.out];exact HR3.out,HB3.out,hp3.out⟩
 case rest =>
  obtain ⟨q,c,n,rfl,hn,HR,HB,HPl⟩:=hcut
  clear HB3 HR3 hp3
  have HN:=Lib.hid hn
  have hnl:n≤5000:=by omega
  clear hn hRl hKl
  go_wp2
  go_loopw [6,7,8,9,10,11,37] (fun ov _ _ _ _ _ iv wr=>∃ (i co:Nat) (qo:Option Addr),i≤n∧iv = .int .i64 (i:Nat)∧ov = .slice qo i co∧Hid (HdrF 22 5 wc.heap.size wr (.slice qo i co) i (expL D (R.take i)))∧Hid (Below wc.heap.size wc wr)) (fun _ _ _ _ _ _ iv _=>n - (intOf iv).toNat)
  case atStart=>exact ⟨0,0,none,Nat.zero_le _,rfl,rfl,HdrF.nil _ _ _ _,Below.refl _ _⟩
  case round =>
   obtain ⟨i,co,qo,hi,rfl,rfl,HO,HBr⟩:=hrel
   by_cases hlt:i < n
   ·obtain ⟨gr,x,q1,m1,c1,qd,td,cd,rfl,e0,e1,hx,s1,s2⟩:=(HR.out.keep HBr.out).at hlt
    have hfx:=HF.out x (List.mem_of_getElem? hx.out)
    obtain rfl:m1 = k:=by rw [← s1.len];exact hfx.1
    obtain rfl:td = t:=by rw [← s2.len];exact hfx.2
    have HVL:Hid (x.1.length = m1):=hfx.1
    have HX:=Lib.hid (expL_snoc (D:=D) hx.out)
    have hlt':(i:Int) < (n:Int):=by omega
    have HLT:=Lib.hid hlt
    have S1:=Lib.hid s1
    have S2:=Lib.hid s2
    have hi32:IntKind.u32.wrap (i:Int) = (i:Int):=by rw [IntKind.wrap_u32];omega
    have HRk:Hid (Room m1):=by show Room m1;unfold Room;omega
    have pr:=Lib.hid ((HBr.out.block _ (lt_of_block HPl.out)).trans HPl.out)
    clear hlt hx s1 s2 hfx
    go_upto_region 13 with (fail)
    have ba:Below wr.heap.size wr (wr.alloc (.cells #[.slice q1 m1 c1,.slice qd td cd] 99 (0,0))):=al (Below.refl _ _) (Nat.le_refl _)
    have k6:(wr.alloc (.cells #[.slice q1 m1 c1,.slice qd td cd] 99 (0,0))).heap[wr.heap.size]? = some (.cells #[.slice q1 m1 c1,.slice qd td cd] 99 (0,0)):=hnew rfl
    have p6:=(ba.block _ (lt_of_block pr.out)).trans pr.out
    have B6:=Lib.hid (bl HBr.out ba HBr.out.size)
    have ZV6:=Lib.hid (S1.out.keep ba)
    have ZD6:=Lib.hid (S2.out.keep ba)
    have HO6:=Lib.hid (HO.out.keep ba)
    have hs6:wr.heap.size < (wr.alloc (.cells #[.slice q1 m1 c1,.slice qd td cd] 99 (0,0))).heap.size:=by simp
    obtain ⟨g8,hg8⟩:∃ g,g = wr.heap.size:=⟨_,rfl⟩
    rw [← hg8] at k6 hs6 ⊢
    have HG8:Hid (wc.heap.size≤g8):=by rw [hg8];exact HBr.out.size
    clear ba pr S1 S2 HO e0 e1 hg8
    generalize wr.alloc (.cells #[.slice q1 m1 c1,.slice qd td cd] 99 (0,0)) = w6 at *
    obtain ⟨c0,c1'⟩:=cells2 k6
    obtain ⟨d0,d1,d2,d3⟩:=cells_four p6
    refine wp_region_tail (fun ix=>([.val (.pointer (some ⟨gp,3,none⟩)),.val (.int .u32 (D:Nat)),.val (.int .i64 (i:Nat)),.val (.int .u32 (i:Nat)),(.val (HVal 0 D i)),.val (.pointer (some ⟨g8,0,none⟩)),.val (.slice q1 m1 c1),(ShRdV 5 w6.heap.size 0 0 x.1),.val (.pointer (some ⟨g8,1,none⟩)),.val (.slice qd td cd),(ShPkS 5 w6.heap.size D i qd td cd x.1),(ShNew 122 w6.heap.size #[.int .u8 0,.int .u32 0,.int .u32 0,.int .u8 0,.slice none 0 0,.int .u64 0,.slice none 0 0]),.any][ix]?).getD (.any)) 67 12 rfl (by kernel_rfl) (by decide +kernel) (by decide +kernel) (by decide +kernel) (by decide +kernel) ?_ ?_
    ·refine ⟨?_,?_,?_,?_,?_,?_,?_,?_,?_,?_,?_,?_,trivial⟩
     ·intro a W hb0 hs hp hi;have hb:=undrew hb0;clear hb0
      have t3:sl a 3 = .pointer (some ⟨gp,0,none⟩):=hi 3 (by decide)
      refine ite_y rfl (wp_val (.pointer (some ⟨gp,3,none⟩)) ?_ ?_)
      ·simp only [execOp,eval_tmp,eval_const,t3];simp [go_sem]
      ·exact ⟨_,rfl,Below.refl _ _,rfl⟩
     ·intro a W hb0 hs hp hi;have hb:=undrew hb0;clear hb0
      have tt:sl a 42 = .pointer (some ⟨gp,3,none⟩):=hp 0 (by decide)
      have dd:=(hb.cell (p:=⟨gp,3,none⟩) (lt_of_cell d3)).trans d3
      refine ite_y rfl (wp_val (.int .u32 (D:Nat)) ?_ ?_)
      ·simp only [execOp,eval_tmp,tt];simp [go_sem,dd]
      ·exact ⟨_,rfl,Below.refl _ _,rfl⟩
     ·intro a W hb0 hs hp hi;have hb:=undrew hb0;clear hb0
      have t7:sl a 7 = .int .i64 (i:Nat):=hi 7 (by decide)
      exact ite_y rfl (wp_val (sl a 7) rfl ⟨_,rfl,Below.refl _ _,t7⟩)
     ·intro a W hb0 hs hp hi;have hb:=undrew hb0;clear hb0
      have tt:sl a 44 = .int .i64 (i:Nat):=hp 2 (by decide)
      refine ite_y rfl (wp_val (.int .u32 (i:Nat)) ?_ ?_)
      ·simp only [execOp,eval_tmp,tt];simp [go_sem,Tryz.underlying3,Tryz.underlying23,hi32]
      ·exact ⟨_,rfl,Below.refl _ _,rfl⟩
     ·intro a W hb0 hs hp hi;have hb:=undrew hb0;clear hb0
      have t43:sl a 43 = .int .u32 (D:Nat):=hp 1 (by decide)
      have t45:sl a 45 = .int .u32 (i:Nat):=hp 3 (by decide)
      have v43:a.tmps[43]?.getD undef = sl a 43:=by simp [sl]
      rw [t43] at v43
      have v45:a.tmps[45]?.getD undef = sl a 45:=by simp [sl]
      rw [t45] at v45
      refine ite_y rfl (wp_val (HVal 0 D i) ?_ ?_)
      ·simp only [execOp,eval_tmp,eval_const,t43,t45];simp [go_sem,v43,v45,Tryz.underlying120]
      ·exact ⟨_,rfl,Below.refl _ _,rfl⟩
     ·intro a W hb0 hs hp hi;have hb:=undrew hb0;clear hb0
      have t8:sl a 8 = .pointer (some ⟨g8,0,none⟩):=hi 8 (by decide)
      refine ite_y rfl (wp_val (.pointer (some ⟨g8,0,none⟩)) ?_ ?_)
      ·simp only [execOp,eval_tmp,eval_const,t8];simp [go_sem]
      ·exact ⟨_,rfl,Below.refl _ _,rfl⟩
     ·intro a W hb0 hs hp hi;have hb:=undrew hb0;clear hb0
      have tt:sl a 47 = .pointer (some ⟨g8,0,none⟩):=hp 5 (by decide)
      have dd:=(hb.cell (p:=⟨g8,0,none⟩) (lt_of_cell c0)).trans c0
      refine ite_y rfl (wp_val (.slice q1 m1 c1) ?_ ?_)
      ·simp only [execOp,eval_tmp,tt];simp [go_sem,dd]
      ·exact ⟨_,rfl,Below.refl _ _,rfl⟩
     ·intro a W hb0 hs hp hi;have hb:=undrew hb0;clear hb0
      have t48:sl a 48 = .slice q1 m1 c1:=hp 6 (by decide)
      refine ite_y rfl (wp_enter 81 #[.slice q1 m1 c1] ?_ (RExplicit_any _ _ _ _ _ (ZV6.out.keep hb) HRk.out) ?_)
      ·simp only [execOp,resolve,List.map_toArray,List.map,eval_tmp,eval_func,eval_const,t48];simp [go_sem]
      ·rintro e W' ⟨q5,g5,rfl,o5,hw⟩;exact ⟨_,rfl,_,rfl,hw,q5,_,g5,rfl,o5.mono hb.size⟩
     ·intro a W hb0 hs hp hi;have hb:=undrew hb0;clear hb0
      have t8:sl a 8 = .pointer (some ⟨g8,0,none⟩):=hi 8 (by decide)
      refine ite_y rfl (wp_val (.pointer (some ⟨g8,1,none⟩)) ?_ ?_)
      ·simp only [execOp,eval_tmp,eval_const,t8];simp [go_sem]
      ·exact ⟨_,rfl,Below.refl _ _,rfl⟩
     ·intro a W hb0 hs hp hi;have hb:=undrew hb0;clear hb0
      have tt:sl a 50 = .pointer (some ⟨g8,1,none⟩):=hp 8 (by decide)
      have dd:=(hb.cell (p:=⟨g8,1,none⟩) (lt_of_cell c1')).trans c1'
      refine ite_y rfl (wp_val (.slice qd td cd) ?_ ?_)
      ·simp only [execOp,eval_tmp,tt];simp [go_sem,dd]
      ·exact ⟨_,rfl,Below.refl _ _,rfl⟩
     ·intro a W hb0 hs hp hi;have hb:=undrew hb0;clear hb0
      have t46:sl a 46 = HVal 0 D i:=hp 4 (by decide)
      have t49:RdV 5 w6.heap.size 0 0 x.1 (sl a 49) W:=hp 7 (by decide)
      have t51:sl a 51 = .slice qd td cd:=hp 9 (by decide)
      obtain ⟨q5,n5,g5,t49,z49⟩:=t49
      have v46:a.tmps[46]?.getD undef = sl a 46:=by simp [sl]
      rw [t46] at v46
      have v49:a.tmps[49]?.getD undef = sl a 49:=by simp [sl]
      rw [t49] at v49
      have v51:a.tmps[51]?.getD undef = sl a 51:=by simp [sl]
      rw [t51] at v51
      refine ite_y rfl (wp_val (PkVal 0 D i 0 q5 n5 g5 0 qd td cd) ?_ ?_)
      ·simp only [execOp,eval_tmp,t46,t49,t51];simp [go_sem,v46,v49,v51,Tryz.underlying120,Tryz.underlying83,Tryz.underlying122]
      ·exact ⟨_,rfl,Below.refl _ _,q5,n5,g5,rfl,z49⟩
     ·intro a W hb0 hs hp hi;have hb:=undrew hb0;clear hb0
      refine ite_y rfl (wp_val' (w':=W.alloc (.cells #[.int .u8 0,.int .u32 0,.int .u32 0,.int .u8 0,.slice none 0 0,.int .u64 0,.slice none 0 0] 122)) (.pointer (some ⟨W.heap.size,0,none⟩)) ?_ ?_)
      ·simp only [execOp];simp [go_sem]
      ·exact ⟨_,rfl,al (Below.refl _ _) (Nat.le_refl _),_,rfl,hb.size,hnew rfl⟩
    intro a w7 hb hs hd hI ht
    have ha:=act_is [42,43,44,45,46,47,48,49,50,51,52,9] hs hd ht (by decide)
    have y52:=hI 10 (by decide)
    obtain ⟨q9,n9,k9,t52,z52⟩:=y52
    have y9:=hI 11 (by decide)
    obtain ⟨g9,t9,hg9,hh9⟩:=y9
    simp only [List.foldl,t52,t9] at ha
    generalize sl a 42 = u42 at ha
    generalize sl a 43 = u43 at ha
    generalize sl a 44 = u44 at ha
    generalize sl a 45 = u45 at ha
    generalize sl a 46 = u46 at ha
    generalize sl a 47 = u47 at ha
    generalize sl a 48 = u48 at ha
    generalize sl a 49 = u49 at ha
    generalize sl a 50 = u50 at ha
    generalize sl a 51 = u51 at ha
    simp only [Act.put,List.setIfInBounds_toArray,List.set_cons_zero,List.set_cons_succ] at ha
    rw [ha];clear ha hI ht hs hd
    simp only [List.drop_succ_cons,List.drop_zero]
    have HN9:Hid (n9 = m1):=by show n9 = m1;rw [← z52.sl.len];exact HVL.out
    have B7:=bl B6.out hb B6.out.size
    have l6:=lt_of_block k6
    have l14:=lt_of_block p6
    have q14:=(hb.block _ l14).trans p6
    have D7:=ZD6.out.keep hb
    have O7:=HO6.out.keep hb
    have hl15:=hh9
    clear hb c0 c1' d0 d1 d2 d3 k6 p6
    go_wp2_with (refine wpList_store_rowS (o:=⟨none,.store 122 (.tmp 9) (.tmp 52),_,_,_,_⟩) rfl 122 (.tmp 9) (.tmp 52) rfl g9 #[.int .u8 0,.int .u32 (D:Nat),.int .u32 (i:Nat),.int .u8 0,.slice q9 n9 k9,.int .u64 0,.slice qd td cd] rfl rfl _ _ hh9 info_packet rfl (by simp [Value.oneCell']) ?_)
    intro w8 hr8
    have HB8:Hid (Below wc.heap.size wc w8):=by rw [hr8.eq];exact below_row B7 (Nat.le_trans B6.out.size hg9)
    have p8:w8.heap[gp]? = some (.cells #[.int .i64 (L:Nat),.int .i64 (td:Nat),.int .i64 (m1:Nat),.int .u32 (D:Nat)] 27 (0,0)):=by rw [hr8.eq];exact hro q14 (by omega)
    have n8:w8.heap[g9]? = some (.cells #[.int .u8 0,.int .u32 (D:Nat),.int .u32 (i:Nat),.int .u8 0,.slice q9 n9 k9,.int .u64 0,.slice qd td cd] 122 (0,0)):=by rw [hr8.eq];exact hrs hh9
    have V8:Hid (Sl B8 w8 q9 n9 k9 x.1):=by rw [hr8.eq];exact (z52.row hh9 pkt_ne).sl
    have D8:Hid (Sl B8 w8 qd td cd x.2):=by
     rw [hr8.eq]
     exact sl_setRow D7 fun a ha=>by
      obtain ⟨b,o,e,hlb⟩:=ZD6.out.has (by omega)
      rw [ha] at e;cases e
      show b≠g9
      omega
    have O8:Hid (HdrF 22 5 wc.heap.size w8 (.slice qo i co) i (expL D (R.take i))):=by
     rw [hr8.eq]
     exact O7.same (by simp [World.setRow]) (fun b cs fr h=>setRow_other_type h hh9 (by decide)) (fun b cs fr h=>setRow_other_type h hh9 (by decide))
    have HT8:=Lib.hid (HT.out.keep (bl HB.out HB8.out HB.out.size))
    clear hr8 q14 D7 O7 hh9 hl15 B7 z52 t52 t9 hg9 l6 l14
    obtain ⟨d0,d1,d2,d3⟩:=cells_four p8
    obtain ⟨f0,f1,f2,f3,f4,f5,f6⟩:=cells_seven n8
    obtain rfl:n9 = m1:=HN9.out
    go_wp2_with fail
    refine Calls.mono (PWrite_okF L td n9 D i 0 q9 n9 k9 0 qd cd x.1 x.2 w8 HP.out (by omega) rfl (fun _=>rfl) HRk.out V8.out D8.out HT8.out) ?_
    rintro e w9 ⟨qw,nw,cw,rfl,ho,hb⟩
    have HB9:=Lib.hid (bl HB8.out hb HB8.out.size)
    have HW9:=Lib.hid (ho.mono HB8.out.size)
    have HO9:=Lib.hid (O8.out.keep hb)
    clear hb ho d0 d1 d2 d3 f0 f1 f2 f3 f4 f5 f6 p8 n8 V8 D8 HT8 O8
    have ba:Below w9.heap.size w9 (w9.alloc (.cells #[.slice qw nw cw] 22 (0,0))):=al (Below.refl _ _) (Nat.le_refl _)
    have HO10:=Lib.hid (HO9.out.keep ba)
    have HW10:=Lib.hid (HW9.out.keep ba)
    have HB10:=Lib.hid (bl HB9.out ba HB9.out.size)
    clear ba
    go_wp2_with (first | (at_builtin;refine wpList_hdr rfl _ _ rfl wc.heap.size i (.slice qo i co) (expL D (R.take i)) rfl HO10.out (by omega) HB10.out.size w9.heap.size rfl qw nw cw (0,0) _ (hnew rfl) HW10.out ?_) | fail)
    rintro sA wA hA1 ⟨ys,hA2⟩ hA3 hA4
    obtain ⟨qA,cA,rfl⟩:=hA1.shape
    have HA:Hid (HdrF 22 5 wc.heap.size wA (.slice qA (i + 1) cA) (i + 1) (expL D (R.take (i + 1)))):=by show HdrF _ _ _ _ _ _ _;rw [HX.out];exact hA1
    have HBA:Hid (Below wc.heap.size wc wA):=HB10.out.grown hA3 HB10.out.size (fun g hg=>(hA2.lt g hg).1)
    clear hA1 hA2 hA3 hA4 HO10 HW10 HB10
    go_wp2
    go_roundw
    case rel=>exact ⟨i + 1,cA,qA,HLT.out,by go_num,rfl,HA.out,HBA.out⟩
    case measure=>simp [intOf];have:=HLT.out;omega
   ·obtain rfl:i = n:=by omega
    have e9:R.take i = R:=List.take_of_length_le (by have:=HN.out;omega)
    rw [e9] at HO
    clear hlt e9
    go_wp2
    go_ret
    exact ⟨qo,co,by rw [← HN.out];rfl,by rw [← HN.out];exact hdrF_mono HO.out HB.out.size,bl HB.out HBr.out HB.out.size⟩
end Go.Proofs.YtccaiiigdfieoaaGreatDoor
namespace Go.Proofs.YtccaiiigdfieoaaGreatDoor
open Go.RowKit Go.By Go.Lib
theorem suffix_ten (l:List UInt8) (z:UInt8):Lib.hasSuffix (l ++ [z]) [10] = decide (z = 10):=by
 unfold Lib.hasSuffix
 rw [Bool.eq_iff_iff,List.isSuffixOf_iff_suffix,decide_eq_true_iff]
 constructor
 ·rintro ⟨t,ht⟩
  have:=congrArg List.getLast? ht
  rw [List.getLast?_concat,List.getLast?_concat] at this
  exact (Option.some.inj this).symm
 ·rintro rfl
  exact ⟨l,rfl⟩
theorem CutTen_any (l:List UInt8) (w:World) (hl:l.length≤1000000) :
  Calls Tryz.prog 66 #[.string (strB l),.string ⟨#[10]⟩] w fun e w'=>w = w'∧((∃ l0,l = l0 ++ [10]∧e = .returned (.tuple #[.string (strB l0),.bool true]))∨(linesP l = none∧∃ x,e = .returned (.tuple #[.string x,.bool false]))):=by
 refine (Tryz.strings_CutSuffix (strB l) ⟨#[10]⟩ w (by rw [strB_size];omega)).mono ?_
 rintro e w' ⟨rfl,rfl⟩
 refine ⟨rfl,?_⟩
 rw [strB_data]
 rcases list_lastP l with rfl | ⟨l0,z,rfl⟩
 ·exact .inr ⟨rfl,_,rfl⟩
 ·have h3:((⟨#[10]⟩:ByteArray).data.toList) = [10]:=rfl
  rw [h3,suffix_ten]
  by_cases hz:z = 10
  ·subst hz
   refine .inl ⟨l0,rfl,?_⟩
   unfold Lib.trimSuffix
   rw [suffix_ten,decide_eq_true rfl,if_pos rfl]
   have e:(l0 ++ [(10:UInt8)]).take ((l0 ++ [(10:UInt8)]).length - [(10:UInt8)].length) = l0:=by simp
   rw [e];rfl
  ·rw [decide_eq_false hz]
   refine .inr ⟨?_,_,rfl⟩
   unfold linesP
   rw [List.getLast?_concat,if_neg (fun e=>hz (Option.some.inj e))]
theorem pktsP_snoc {T:List (List UInt8)} {x:List UInt8}:∀ {i:Nat} {P:List (List UInt8)},pktsP (T.take i) = some P→T[i]? = some x→pktsP (T.take (i + 1)) = (unhexO x).map (fun y=>P ++ [y]):=by
 induction T with
 | nil=>intro i P _ h;simp at h
 | cons a T ih =>
  intro i P hP hx
  cases i with
  | zero =>
   obtain rfl:a = x:=by simpa using hx
   have:P = []:=by simpa [pktsP] using hP.symm
   subst this
   show (unhexO a).bind (fun x=>(pktsP (T.take 0)).map (x :: ·)) = _
   cases unhexO a <;> simp [pktsP]
  | succ i =>
   have hP':(unhexO a).bind (fun x=>(pktsP (T.take i)).map (x :: ·)) = some P:=hP
   obtain ⟨y,hy,h2⟩:=Option.bind_eq_some_iff.1 hP'
   obtain ⟨P2,hp2,rfl⟩:=Option.map_eq_some_iff.1 h2
   show (unhexO a).bind (fun x=>(pktsP (T.take (i + 1))).map (x :: ·)) = _
   rw [hy,ih hp2 (by simpa using hx)]
   cases unhexO x <;> rfl
theorem pktsP_bad {T:List (List UInt8)} {x:List UInt8} (hx:unhexO x = none):x ∈ T→pktsP T = none:=by
 induction T with
 | nil=>intro h;cases h
 | cons a T ih =>
  intro h
  show (unhexO a).bind (fun x=>(pktsP T).map (x :: ·)) = none
  rcases List.mem_cons.1 h with rfl | h
  ·rw [hx];rfl
  ·rw [ih h];cases unhexO a <;> rfl
theorem pktsP_len:∀ {T P:List (List UInt8)},pktsP T = some P→P.length = T.length
 | [],P,h=>by cases h;rfl
 | a :: T,P,h=>by
  have h':(unhexO a).bind (fun x=>(pktsP T).map (x :: ·)) = some P:=h
  obtain ⟨y,_,h2⟩:=Option.bind_eq_some_iff.1 h'
  obtain ⟨P2,hp2,rfl⟩:=Option.map_eq_some_iff.1 h2
  simp [pktsP_len hp2]
theorem unhexO_len {x y:List UInt8} (h:unhexO x = some y):y.length≤x.length:=by
 unfold unhexO at h
 split at h
 ·cases h
 ·have:=unhexP_len _ (Nat.le_refl _) h;omega
theorem pktsP_lens {m:Nat}:∀ {T P:List (List UInt8)},pktsP T = some P→(∀ x ∈ T,x.length≤m)→∀ y ∈ P,y.length≤m
 | [],P,h,_=>by cases h;simp
 | a :: T,P,h,hm=>by
  have h':(unhexO a).bind (fun x=>(pktsP T).map (x :: ·)) = some P:=h
  obtain ⟨y,hy,h2⟩:=Option.bind_eq_some_iff.1 h'
  obtain ⟨P2,hp2,rfl⟩:=Option.map_eq_some_iff.1 h2
  intro z hz
  rcases List.mem_cons.1 hz with rfl | hz
  ·exact Nat.le_trans (unhexO_len hy) (hm a (by simp))
  ·exact pktsP_lens hp2 (fun x hx=>hm x (by simp [hx])) z hz
theorem numsO_four {ws:List (List UInt8)} {xs:List Nat} (h:numsO ws bndS = some xs):∃ d L S N,xs = [d,L,S,N]∧d≤4294967295∧L≤2147483647:=by
 unfold bndS at h
 match ws,h with
 | [],h=>cases h
 | [a],h=>simp [numsO] at h
 | [a,b],h=>simp [numsO] at h
 | [a,b,c],h=>simp [numsO] at h
 | [a,b,c,d],h =>
  simp only [numsO] at h
  obtain ⟨x,hx,h1⟩:=Option.bind_eq_some_iff.1 h
  obtain ⟨l1,h2,e1⟩:=Option.map_eq_some_iff.1 h1
  obtain ⟨y,hy,h3⟩:=Option.bind_eq_some_iff.1 h2
  obtain ⟨l2,h4,e2⟩:=Option.map_eq_some_iff.1 h3
  obtain ⟨z,hz,h5⟩:=Option.bind_eq_some_iff.1 h4
  obtain ⟨l3,h6,e3⟩:=Option.map_eq_some_iff.1 h5
  obtain ⟨u,hu,h7⟩:=Option.bind_eq_some_iff.1 h6
  obtain ⟨l4,h8,e4⟩:=Option.map_eq_some_iff.1 h7
  cases h8
  subst e4 e3 e2 e1
  exact ⟨x,y,z,u,rfl,(numB_some hx).2.2.1,(numB_some hy).2.2.1⟩
 | a :: b :: c :: d :: e :: r,h=>simp [numsO] at h
theorem parseV_two (l:List UInt8):(∃ c:Int,c≠0∧parseV l = .tuple #[.agg #[.int .i64 0,.int .i64 0,.int .i64 0,.int .u32 0],.int .i64 c])∨∃ L t k D,POK L t k D∧parseV l = .tuple #[PVal L t k D,.int .i64 0]:=by
 cases hp:parseO l with
 | none=>exact .inl ⟨14,by decide,parseV_none hp⟩
 | some xs =>
  have hq:=hp
  unfold parseO at hq
  split at hq
  ·rename_i o ws _
   split at hq
   ·obtain ⟨d,L,S,N,rfl,hd,hL⟩:=numsO_four hq
    by_cases hc:checkS L S N = 0
    ·right
     obtain ⟨L',t',k',D',e1,e2,e3,e4,hP⟩:=pok_of (l:=(L:Int)) (s:=(S:Int)) (n:=(N:Int)) (d:=(d:Int)) (by omega) hc (by omega) (by omega)
     refine ⟨L',t',k',D',hP,?_⟩
     rw [parseV_good hp hc,e1,e2,e3,e4]
    ·exact .inl ⟨checkS L S N,hc,parseV_bad hp hc⟩
   ·cases hq
  ·cases hq
end Go.Proofs.YtccaiiigdfieoaaGreatDoor
namespace Go.Proofs.YtccaiiigdfieoaaGreatDoor
open Go.RowKit Go.By Go.Maps
def PrsK (w:World) (s:List UInt8) (e:Ending) (w':World):Prop :=
 (linesP s = none∧e = .returned (.tuple #[.pointer none,.int .i64 14])∧Below w.heap.size w w') ∨
 ∃ a T,linesP s = some (a :: T)∧((pktsP T = none∧e = .returned (.tuple #[.pointer none,.int .i64 14])∧Below w.heap.size w w') ∨
  ∃ P,pktsP T = some P∧((∃ c:Int,c≠0∧parseV a = .tuple #[.agg #[.int .i64 0,.int .i64 0,.int .i64 0,.int .u32 0],.int .i64 c]∧e = .returned (.tuple #[.pointer none,.int .i64 c])∧Below w.heap.size w w') ∨
   ∃ L t k D,POK L t k D∧parseV a = .tuple #[PVal L t k D,.int .i64 0]∧ImpR w L t k D P.length P e w'))
theorem ImpR.from {w W w':World} {L t k D n:Nat} {P:List (List UInt8)} {e:Ending} (h:ImpR W L t k D n P e w') (hb:Below w.heap.size w W):ImpR w L t k D n P e w':=by
 rcases h with ⟨h0,base,gt,be,M,v,C,rfl,h1,h2,h3⟩ | ⟨h0,rfl,h3⟩
 ·exact .inl ⟨h0,base,gt,be,M,v,C,rfl,Nat.le_trans hb.size h1,h2,bl hb h3 hb.size⟩
 ·exact .inr ⟨h0,rfl,bl hb h3 hb.size⟩
theorem slice_one (g n:Nat) (hn:0 < n):∃ q' c',(∀ W,(Instr.sliceAt 88 (.slice (some ⟨g,0,none⟩) n n) (some (.int .i64 1)) none none).run Tryz.prog W = .ok (.slice q' (n - 1) c') W)∧(0 < n - 1→q' = some ⟨g,1,none⟩):=by
 have hel:Tryz.prog.underlying 88 = some (.slice (Tryz.prog.elem 88)):=by simp [Program.elem,Tryz.underlying88]
 refine ⟨if n = 1 then some ⟨g,0,none⟩ else some ⟨g,1,none⟩,n - 1,fun W=>?_,fun h=>if_neg (by omega)⟩
 have e1:(Value.int .i64 1) = .int .i64 ((1:Nat):Int):=rfl
 rw [e1,run_sliceAt_slice (h:=hel),run_slice_l (ht:=hel) (h0:=by omega) (h1:=by omega)]
 clear hel
 by_cases h1:n = 1
 ·subst h1;go_simp
 ·rw [if_neg h1]
  go_simp
set_option maxRecDepth 1000000 in
set_option maxHeartbeats 8000000 in
theorem KParse_any (s:List UInt8) (w:World) (hl:s.length≤90000) (hM:MaxI w) (hE:ErrI w) (hT:HalfT w):Calls Tryz.prog 17 #[.string (strB s)] w (PrsK w s):=by
 have HM:=Lib.hid hM
 have HE:=Lib.hid hE
 have HT:=Lib.hid hT
 have HCut:=Lib.hid (CutTen_any s w (by omega))
 obtain ⟨S,hS⟩:∃ S,S = strB s:=⟨_,rfl⟩
 rw [← hS] at HCut ⊢
 clear hM hE hT hS
 go_enter Tryz.func17,Tryz.ntmps17
 go_wp2_with fail
 refine Calls.mono HCut.out ?_
 clear HCut
 rintro e w1 ⟨rfl,⟨l0,rfl,rfl⟩ | ⟨hn,x,rfl⟩⟩
 case inr =>
  have HN:=Lib.hid hn
  clear hn
  go_wp2
  go_ret2
  exact .inl ⟨HN.out,rfl,Below.refl _ _⟩
 have HLs:=Lib.hid (linesP_ten l0)
 have hl0:l0.length≤90000:=by simp at hl;omega
 have HSp:=Lib.hid (Split_any 10 l0 w (by omega) HM.out)
 have HSh:Hid (∀ x,x ∈ splA 10 l0→x.length≤90000):=fun x hx=>Nat.le_trans (spl_shortC _ _ _ _ hx) hl0
 have hsl:=splA_len 10 l0
 obtain ⟨S0,hS0⟩:∃ S,S = strB l0:=⟨_,rfl⟩
 rw [← hS0] at HSp ⊢
 clear hl hS0
 obtain ⟨a,T,hLs⟩:∃ a T,splA 10 l0 = a :: T:=by
  cases h:splA 10 l0 with
  | nil=>exact absurd h (splA_ne 10 l0)
  | cons a T=>exact ⟨a,T,rfl⟩
 rw [hLs] at HLs HSp HSh hsl
 generalize l0 ++ [10] = s at *
 clear hLs
 go_wp2_with fail
 refine Calls.mono HSp.out ?_
 clear HSp
 rintro e w2 ⟨rfl,hr,hb⟩
 have HB2:=Lib.hid hb
 have HR2:=Lib.hid hr
 have hgw:w.heap.size < w2.heap.size:=lt_of_cell (hr 0 a rfl)
 obtain ⟨g,hg⟩:∃ g,g = w.heap.size:=⟨_,rfl⟩
 rw [← hg] at HR2 ⊢
 clear hb hr hg
 have hTl:T.length≤90000:=by simp at hsl;omega
 obtain ⟨n,hn⟩:∃ n,n = (a :: T).length:=⟨_,rfl⟩
 have HNT:Hid (n = T.length + 1):=by rw [hn];rfl
 have hn1:n - 1 = T.length:=by rw [hn];simp
 rw [← hn]
 obtain ⟨q',c',hsa,hq'⟩:=slice_one g n (by rw [hn];simp)
 rw [hn1] at hsa hq'
 have HQ:=Lib.hid hq'
 clear hsl hq' hn1 hn
 have hn0:(0:Int) < (n:Int):=by have:=HNT.out;omega
 go_wp2
 clear hsa
 obtain ⟨m,hm⟩:∃ m,m = T.length:=⟨_,rfl⟩
 have HMT:=Lib.hid hm
 rw [← hm] at HQ HNT hTl ⊢
 clear hm
 go_loopw [6,25] (fun pv iv wr=>∃ (i c:Nat) (q:Option Addr) (P:List (List UInt8)),i≤m∧iv = .int .i64 (i:Nat)∧pv = .slice q i c∧Hid (pktsP (T.take i) = some P)∧Hid (HdrF 22 5 w2.heap.size wr (.slice q i c) i P)∧Hid (Below w2.heap.size w2 wr)) (fun _ iv _=>m - (intOf iv).toNat)
 case atStart=>exact ⟨0,0,none,[],Nat.zero_le _,rfl,rfl,rfl,HdrF.nil _ _ _ _,Below.refl _ _⟩
 case round =>
  obtain ⟨i,c,q,P,hi,rfl,rfl,HPk,HO,HB⟩:=hrel
  by_cases hlt:i < m
  ·obtain ⟨x,hx⟩:∃ x,T[i]? = some x:=⟨_,List.getElem?_eq_getElem (by have:=HMT.out;omega)⟩
   obtain rfl:=HQ.out (by omega)
   have hxm:=List.mem_of_getElem? hx
   have hc0:wr.cell? ⟨g,1 + i,none⟩ = some (.string (strB x)):=by
    have h1:=HR2.out (i + 1) x (by simpa using hx)
    rw [Nat.add_comm]
    exact (HB.out.cell (lt_of_cell h1)).trans h1
   have HRd:=Lib.hid (keepRead_any x wr (by have:=HSh.out x (by simp [hxm]);omega))
   have HSn:=Lib.hid (pktsP_snoc HPk.out hx)
   have HXM:=Lib.hid hxm
   obtain ⟨X,hX⟩:∃ X,X = strB x:=⟨_,rfl⟩
   rw [← hX] at hc0 HRd
   have hlt':(i:Int) < (m:Int):=by omega
   have HLT:=Lib.hid hlt
   clear hx hxm hX hlt
   cases hu:unhexO x with
   | none =>
    rw [hu] at HRd
    have HBad:=Lib.hid (pktsP_bad hu HXM.out)
    clear hu HSn
    go_wp2_with fail
    refine Calls.mono HRd.out ?_
    clear HRd
    rintro e w3 ⟨q3,n3,c3,rfl,hf,hb⟩
    have HB3:=Lib.hid (bl HB2.out (bl HB.out hb HB.out.size) HB2.out.size)
    clear hf hb hc0
    go_wp2
    go_ret2
    exact .inr ⟨a,T,HLs.out,.inl ⟨HBad.out,rfl,HB3.out⟩⟩
   | some y =>
    rw [hu] at HRd HSn
    clear hu
    go_wp2_with fail
    refine Calls.mono HRd.out ?_
    clear HRd
    rintro e w3 ⟨qw,nw,cw,rfl,hf,hb⟩
    have HB3:=Lib.hid (bl HB.out hb HB.out.size)
    have HW3:=Lib.hid (hf.mono HB.out.size)
    have HO3:=Lib.hid (HO.out.keep hb)
    clear hf hb hc0 HO
    have ba:Below w3.heap.size w3 (w3.alloc (.cells #[.slice qw nw cw] 22 (0,0))):=al (Below.refl _ _) (Nat.le_refl _)
    have HO10:=Lib.hid (HO3.out.keep ba)
    have HW10:=Lib.hid (HW3.out.keep ba)
    have HB10:=Lib.hid (bl HB3.out ba HB3.out.size)
    clear ba
    go_wp2_with (first | (at_builtin;refine wpList_hdr rfl _ _ rfl w2.heap.size i (.slice q i c) P rfl HO10.out (by omega) HB10.out.size w3.heap.size rfl qw nw cw (0,0) _ (hnew rfl) HW10.out ?_) | fail)
    rintro sA wA hA1 ⟨ys,hA2⟩ hA3 hA4
    obtain ⟨qA,cA,rfl⟩:=hA1.shape
    have HA:=Lib.hid hA1
    have HBA:Hid (Below w2.heap.size w2 wA):=HB10.out.grown hA3 HB10.out.size (fun g hg=>(hA2.lt g hg).1)
    clear hA1 hA2 hA3 hA4 HO10 HW10 HB10
    go_wp2
    go_roundw
    case rel=>exact ⟨i + 1,cA,qA,_,HLT.out,by go_num,rfl,HSn.out,HA.out,HBA.out⟩
    case measure=>simp [intOf];have:=HLT.out;omega
  ·obtain rfl:i = m:=by omega
   have HPT:Hid (pktsP T = some P):=by have:=HPk.out;rwa [List.take_of_length_le (by have:=HMT.out;omega)] at this
   have hc0:wr.cell? ⟨g,0,none⟩ = some (.string (strB a)):=by
    have h1:=HR2.out 0 a rfl
    exact (HB.out.cell (lt_of_cell h1)).trans h1
   have HBw:=Lib.hid (bl HB2.out HB.out HB2.out.size)
   have HPP:=Lib.hid (PParse_any a wr (by have:=HSh.out a (by simp);omega) (HM.out.keep HBw.out) (HE.out.keep HBw.out))
   have hPl:P.length = i:=by rw [pktsP_len HPT.out];exact HMT.out.symm
   obtain ⟨A,hA⟩:∃ A,A = strB a:=⟨_,rfl⟩
   rw [← hA] at hc0 HPP
   clear hlt hA HPk
   rcases parseV_two a with ⟨code,hcode,hpv⟩ | ⟨L,t,k,D,hP,hpv⟩
   ·rw [hpv] at HPP
    have hz:(code != 0) = true:=bne_iff_ne.2 hcode
    have HPV:=Lib.hid hpv
    have HCo:=Lib.hid hcode
    clear hpv hcode hPl
    go_wp2_with fail
    refine Calls.mono HPP.out ?_
    clear HPP
    rintro e w3 ⟨rfl,hb⟩
    have HB3:=Lib.hid (bl HBw.out hb HBw.out.size)
    clear hb hc0
    go_wp2
    go_ret2
    exact .inr ⟨a,T,HLs.out,.inr ⟨P,HPT.out,.inl ⟨code,HCo.out,HPV.out,rfl,al HB3.out HB3.out.size⟩⟩⟩
   ·rw [hpv] at HPP
    have HPV:=Lib.hid hpv
    have HPo:=Lib.hid hP
    have HPL:Hid (∀ y ∈ P,y.length≤1000000):=fun y hy=>by
     have:=pktsP_lens HPT.out (m:=90000) (fun x hx=>HSh.out x (by simp [hx])) y hy
     omega
    clear hpv hP
    go_wp2_with fail
    refine Calls.mono HPP.out ?_
    clear HPP
    rintro e w3 ⟨rfl,hb⟩
    have HB3:=Lib.hid (bl HBw.out hb HBw.out.size)
    have HO3:=Lib.hid (HO.out.keep hb)
    clear hb hc0 HO
    have ba:Below w3.heap.size w3 (w3.alloc (.cells #[.int .i64 (L:Nat),.int .i64 (t:Nat),.int .i64 (k:Nat),.int .u32 (D:Nat)] 27 (0,0))):=al (Below.refl _ _) (Nat.le_refl _)
    have HO4:=Lib.hid ((HO3.out.keep ba).sl2)
    have HB4:=Lib.hid (bl HB3.out ba HB3.out.size)
    clear ba HO3
    go_wp2_with fail
    refine Calls.mono (KImport_any L t k D q i c P _ HPo.out (HT.out.keep HB4.out) HO4.out (by omega) HPL.out) ?_
    rintro e w5 hI
    have hI2:=hI.from HB4.out
    rw [← hPl] at hI2
    rcases hI with ⟨h0,base,gt,be,M,v,C,rfl,-,-,-⟩ | ⟨h0,rfl,-⟩
    ·have HI:=Lib.hid hI2
     clear hI2 h0 hPl
     go_wp2
     go_ret2
     exact .inr ⟨a,T,HLs.out,.inr ⟨P,HPT.out,.inr ⟨L,t,k,D,HPo.out,HPV.out,HI.out⟩⟩⟩
    ·have HI:=Lib.hid hI2
     clear hI2 h0 hPl
     go_wp2
     go_ret2
     exact .inr ⟨a,T,HLs.out,.inr ⟨P,HPT.out,.inr ⟨L,t,k,D,HPo.out,HPV.out,HI.out⟩⟩⟩
end Go.Proofs.YtccaiiigdfieoaaGreatDoor
namespace Go.Proofs.YtccaiiigdfieoaaGreatDoor
open Go.RowKit Go.By
def wbRen:Go.Shelf.Ren:=⟨fun | 166=>70 | 167=>73 | 240=>126 | 276=>191 | n=>n,fun | 0=>0 | 3=>3 | 4=>4 | 5=>5 | 9=>9 | 20=>20 | 37=>22 | 70=>133 | 72=>135 | 75=>137 | 164=>267 | 80=>70 | n=>n,fun n=>n⟩
theorem wbLays166:Go.Proofs.Lays.n166 Tryz.prog wbRen :=
 {
  mixed:=by kernel_rfl
  f166:=Tryz.func70.trans (congrArg some (by kernel_rfl))
  f240:=Tryz.func126.trans (congrArg some (by kernel_rfl))
  f276:=Tryz.func191.trans (congrArg some (by kernel_rfl))
  t0:=Tryz.underlying0
  a0:=Tryz.isAgg0
  z0:=Tryz.sizeOf0
  v0:=Tryz.zeroValue0
  t3:=Tryz.underlying3
  a3:=Tryz.isAgg3
  z3:=Tryz.sizeOf3
  v3:=Tryz.zeroValue3
  t4:=Tryz.underlying4
  a4:=Tryz.isAgg4
  z4:=Tryz.sizeOf4
  v4:=Tryz.zeroValue4
  t9:=Tryz.underlying9
  a9:=Tryz.isAgg9
  z9:=Tryz.sizeOf9
  v9:=Tryz.zeroValue9
  t20:=Tryz.underlying20
  a20:=Tryz.isAgg20
  z20:=Tryz.sizeOf20
  v20:=Tryz.zeroValue20
  t37:=Tryz.underlying22
  a37:=Tryz.isAgg22
  z37:=Tryz.sizeOf22
  v37:=Tryz.zeroValue22
  t70:=Tryz.underlying133
  a70:=Tryz.isAgg133
  z70:=Tryz.sizeOf133
  v70:=Tryz.zeroValue133
  t72:=Tryz.underlying135
  a72:=Tryz.isAgg135
  z72:=Tryz.sizeOf135
  v72:=Tryz.zeroValue135
  t75:=Tryz.underlying137
  a75:=Tryz.isAgg137
  z75:=Tryz.sizeOf137
  v75:=Tryz.zeroValue137
  t164:=Tryz.underlying267
  a164:=Tryz.isAgg267
  z164:=Tryz.sizeOf267
  v164:=Tryz.zeroValue267 }
theorem wbLays167:Go.Proofs.Lays.n167 Tryz.prog wbRen :=
 {
  mixed:=by kernel_rfl
  f167:=Tryz.func73.trans (congrArg some (by kernel_rfl))
  f240:=Tryz.func126.trans (congrArg some (by kernel_rfl))
  f276:=Tryz.func191.trans (congrArg some (by kernel_rfl))
  t0:=Tryz.underlying0
  a0:=Tryz.isAgg0
  z0:=Tryz.sizeOf0
  v0:=Tryz.zeroValue0
  t4:=Tryz.underlying4
  a4:=Tryz.isAgg4
  z4:=Tryz.sizeOf4
  v4:=Tryz.zeroValue4
  t5:=Tryz.underlying5
  a5:=Tryz.isAgg5
  z5:=Tryz.sizeOf5
  v5:=Tryz.zeroValue5
  t9:=Tryz.underlying9
  a9:=Tryz.isAgg9
  z9:=Tryz.sizeOf9
  v9:=Tryz.zeroValue9
  t20:=Tryz.underlying20
  a20:=Tryz.isAgg20
  z20:=Tryz.sizeOf20
  v20:=Tryz.zeroValue20
  t37:=Tryz.underlying22
  a37:=Tryz.isAgg22
  z37:=Tryz.sizeOf22
  v37:=Tryz.zeroValue22
  t70:=Tryz.underlying133
  a70:=Tryz.isAgg133
  z70:=Tryz.sizeOf133
  v70:=Tryz.zeroValue133
  t72:=Tryz.underlying135
  a72:=Tryz.isAgg135
  z72:=Tryz.sizeOf135
  v72:=Tryz.zeroValue135
  t75:=Tryz.underlying137
  a75:=Tryz.isAgg137
  z75:=Tryz.sizeOf137
  v75:=Tryz.zeroValue137
  t164:=Tryz.underlying267
  a164:=Tryz.isAgg267
  z164:=Tryz.sizeOf267
  v164:=Tryz.zeroValue267 }
theorem wbExtra:Builder.Extra Tryz.prog wbRen:={
 sizeBuilder:=by kernel_rfl
 liesBuilder:=by kernel_rfl
 t5:=Tryz.underlying5
 a5:=Tryz.isAgg5
 z5:=Tryz.sizeOf5
 v5:=Tryz.zeroValue5
 infoByte:=by kernel_rfl
 cellsByte:=by kernel_rfl
 sizeByte:=by kernel_rfl
 neB5:=by decide }
theorem WriteS_b (B b:Nat) (t s:List UInt8) (w:World) (h:Lib.IsBuilder 135 5 B b (Lib.byteCells t) w) (hlen:t.length + s.length≤100000000) (hBw:B≤w.heap.size) :
  Calls Tryz.prog 70 #[.pointer (some ⟨b,0,none⟩),.string (strB s)] w fun e w'=>e = .returned (.tuple #[.int .i64 s.length,.nilIface])∧Lib.BuilderAt 135 5 B b (.pointer (some ⟨b,0,none⟩)) (Lib.byteCells (t ++ s)) w'∧Below B w w':=by
 have:=Any.Builder_WriteString (ρ:=wbRen) wbLays166 wbExtra B b (Lib.byteCells t) (strB s) w h (by rw [Lib.byteCells_length,strB_size];omega) hBw
 refine Calls.mono this ?_
 rintro e w' ⟨rfl,h1,h2⟩
 rw [strB_cells,bytes_append] at h1
 rw [strB_size]
 exact ⟨rfl,h1,h2⟩
theorem StringB_b (B b:Nat) (t:List UInt8) (w:World) (h:Lib.IsBuilder 135 5 B b (Lib.byteCells t) w) (hBw:B≤w.heap.size) :
  Calls Tryz.prog 74 #[.pointer (some ⟨b,0,none⟩)] w fun e w'=>e = .returned (.string (strB t))∧Below B w w':=Tryz.Builder_String_any B b t w h hBw
end Go.Proofs.YtccaiiigdfieoaaGreatDoor
namespace Go.Proofs.YtccaiiigdfieoaaGreatDoor
open Go.RowKit Go.By
def BldI (w:World) (b:Nat) (t:List UInt8):Prop:=Lib.IsBuilder 135 5 b b (Lib.byteCells t) w
theorem BldI.keep {w w':World} {b:Nat} {t:List UInt8} (h:BldI w b t) (hb:Below w.heap.size w w'):BldI w' b t:=Or.imp (fun h=>BuilderAt.keep h hb) (fun h=>BuilderAt.keep h hb) h
theorem BldI.lt {w:World} {b:Nat} {t:List UInt8} (h:BldI w b t):b < w.heap.size:=h.elim (fun h=>h.lt) (fun h=>h.lt)
theorem BldI.new {w:World} {b:Nat} (h:w.heap[b]? = some (.cells #[.pointer none,.slice none 0 0] 135 (0,0))):BldI w b []:=Or.inl ⟨Nat.le_refl _,_,h,World.ownsRow_nil _ _ _ _,by simp [Value.ownBlock]⟩
theorem BldI.done {w:World} {b:Nat} {t:List UInt8} (h:BldI w b t):Calls Tryz.prog 74 #[.pointer (some ⟨b,0,none⟩)] w fun e w'=>e = .returned (.string (strB t))∧Below b w w':=StringB_b b b t w h (Nat.le_of_lt h.lt)
def digits16:List UInt8:=[48,49,50,51,52,53,54,55,56,57,97,98,99,100,101,102]
theorem digits_at:∀ y,y < 16→digits16[y]? = some (dgt y):=by decide
theorem digits_run {y:Nat} (hy:y < 16) (z:Int) (hz:z = (y:Int)) (w:World):(Instr.index 9 (.string ⟨#[48,49,50,51,52,53,54,55,56,57,97,98,99,100,101,102]⟩) (.int .u8 z)).run Tryz.prog w = .ok (B8 (dgt y)) w :=
 txt_idx (l:=digits16) _ Tryz.underlying9 (digits_at y hy) .u8 z hz w
theorem and15 (x:UInt8):bits BinOp.and IntKind.u8 (x.toNat:Int) 15 = ((x.toNat % 16:Nat):Int):=by
 have h:∀ n:Fin 256,bits BinOp.and IntKind.u8 (n.1:Int) 15 = ((n.1 % 16:Nat):Int):=by decide +kernel
 exact h ⟨x.toNat,x.toNat_lt⟩
theorem hexL_step {l:List UInt8} {i:Nat} {x:UInt8} (h:l[i]? = some x):hexL (l.take (i + 1)) = hexL (l.take i) ++ [dgt (x.toNat / 16)] ++ [dgt (x.toNat % 16)]:=by
 unfold hexL
 rw [List.take_add_one,h,List.flatMap_append];simp
theorem hexL_len2 (xs:List UInt8):(hexL xs).length = 2 * xs.length:=by
 unfold hexL
 induction xs with
 | nil=>rfl
 | cons x l ih=>rw [List.flatMap_cons,List.length_append,ih,List.length_cons];simp;omega
end Go.Proofs.YtccaiiigdfieoaaGreatDoor
namespace Go.Proofs.YtccaiiigdfieoaaGreatDoor
open Go.RowKit Go.By
def BG (w:World) (B b:Nat) (v:Value) (t:List UInt8):Prop :=
 w.heap[b]? = some (.cells #[.pointer (some ⟨b,0,none⟩),v] 135 (0,0))∧w.ownsRow B 5 1 v t.length (t.map B8)∧v.ownBlock≠some b∧B≤w.heap.size
def BGk (w w':World) (b:Nat) (v v':Value):Prop :=
 (∀ k,k < w.heap.size→k≠b→v.ownBlock≠some k→w'.heap[k]? = w.heap[k]?)∧w.heap.size≤w'.heap.size∧(v'.ownBlock = v.ownBlock∨∀ g,v'.ownBlock = some g→w.heap.size≤g)
theorem CopyCheck_g (w:World) (b:Nat) (h:w.cell? ⟨b,0,none⟩ = some (.pointer (some ⟨b,0,none⟩))) :
  Calls Tryz.prog 126 #[.pointer (some ⟨b,0,none⟩)] w fun e w'=>e = .returned (.tuple #[])∧w = w' :=
 (Any.Builder_copyCheck_used (ρ:=wbRen) { wbLays167 with } wbExtra.toX72 b w h).mono fun _ _ ⟨h1,h2⟩=>⟨h1,h2.symm⟩
set_option maxRecDepth 100000 in
set_option maxHeartbeats 2000000 in
theorem WriteB_g (B b:Nat) (v:Value) (t:List UInt8) (x:UInt8) (w:World) (h:BG w B b v t) (hl:t.length + 1≤100000000) :
  Calls Tryz.prog 73 #[.pointer (some ⟨b,0,none⟩),B8 x] w fun e w'=>e = .returned .nilIface∧∃ v',BG w' B b v' (t ++ [x])∧BGk w w' b v v'∧(B≤b→Below B w w'):=by
 obtain ⟨i0,hi,hz0,hz1,hz2⟩:=info_parts info_u8
 obtain ⟨hbk,hown,hne,hBw⟩:=h
 obtain ⟨c0,c1⟩:=cells2 hbk
 have hlt:=lt_of_block hbk
 have HC:=Lib.hid (CopyCheck_g w b c0)
 have HBK:=Lib.hid hbk
 have HOA:Hid (∀ o,(w.alloc o).ownsRow B 5 1 v t.length (t.map B8)):=fun o=>hown.alloc o
 have HO:=Lib.hid hown
 have HNE:=Lib.hid hne
 clear hbk hown hne c0
 go_enter Tryz.func73,Tryz.ntmps73
 go_wp2_with fail
 refine Calls.mono HC.out ?_
 rintro e w1 ⟨rfl,rfl⟩
 go_wp2_with (at_builtin;refine wpList_append_where _ rfl _ _ 22 rfl B 5 i0 (.int .u8 0) 1 1 Tryz.underlying22 hi hz0 hz1 hz2 rfl (by decide) v t.length (t.map B8) rfl (HOA.out _) ⟨w.heap.size,0,none⟩ 1 1 [B8 x] rfl rfl ?c1 ?c2 ?c3 ?c4 ?c5 (by decide) ?_)
 case c1 =>
  intro j u hj
  match j,hj with
  | 0,hj=>simp at hj;subst hj;rw [Addr.add_lit,cell_of_row _ _ _ _ _ _ (hnew (by simp))];rfl
 case c2=>intro u hu;simp at hu;subst hu;rfl
 case c3=>unfold maxLen;omega
 case c4=>omega
 case c5=>simp;omega
 intro v' w2 hown' hgrow hwh
 have hb2:w2.heap[b]? = some (.cells #[.pointer (some ⟨b,0,none⟩),v] 135 (0,0)):=by
  rw [hgrow.block b (by simp;omega) (fun e=>HNE.out e.symm),Lib.alloc_old w _ b hlt]
  exact HBK.out
 obtain ⟨d0,d1⟩:=cells2 hb2
 have f1:w2.frozen? ⟨b,1,none⟩ = false:=frozen_of_row _ _ 1 _ _ hb2
 have HW:=Lib.hid hwh
 have HG:=Lib.hid hgrow
 have HN:=Lib.hid hown'
 have HB2:=Lib.hid hb2
 obtain ⟨q,c,rfl⟩:=owns_shape hown'
 clear hown' hgrow hwh hb2
 go_wp2
 go_ret
 refine ⟨rfl,.slice q (t.length + 1) c,⟨?_,?_,?_,?_⟩,⟨?_,?_,?_⟩,fun hB=>?_⟩
 ·simp [World.setCell,Array.getElem?_modify,HB2.out]
 ·have hne:=Lib.ownBlock_ne HN.out HB2.out (by decide)
  have:=HN.out.kept (w':=w2.setCell ⟨b,1,none⟩ (.slice q (t.length + 1) c)) (row:=some b) ⟨rfl,rfl,rfl,by simp [World.setCell],fun k _ hk=>Below.heap_setCell _ _ _ _ (fun e=>hk (by simp [e]))⟩ (Or.inr hne)
  simpa [List.map_append] using this
 ·exact Lib.ownBlock_ne HN.out HB2.out (by decide)
 ·have:=HG.out.size;simp [World.setCell] at this ⊢;omega
 ·intro k hk hkb hkv
  rw [Below.heap_setCell _ _ _ _ (fun e=>hkb e),HG.out.block k (by simp;omega) (fun e=>hkv e.symm),Lib.alloc_old w _ k hk]
 ·have:=HG.out.size;simp [World.setCell] at this ⊢;omega
 ·rcases HW.out with e | e
  ·exact .inl e
  ·refine .inr fun g hg=>?_
   rw [e] at hg
   cases hg
   simp
 ·exact (((Below.refl B w).alloc hBw _).grown HG.out (by simp;omega) (fun k hk=>(HO.out.lt k hk).1)).setCell (p:=⟨b,1,none⟩) hB _
def MidW (w6 wr:World) (s5:Nat) (v:Value):Prop:=(∀ k,s5≤k→k < w6.heap.size→wr.heap[k]? = w6.heap[k]?)∧w6.heap.size≤wr.heap.size∧∀ g,v.ownBlock = some g→g < s5∨w6.heap.size≤g
theorem MidW.step {w6 wr w':World} {s5 b:Nat} {v v':Value} (h:MidW w6 wr s5 v) (hk:BGk wr w' b v v') (hb:b < s5):MidW w6 w' s5 v':=by
 obtain ⟨h1,h2,h3⟩:=h
 obtain ⟨k1,k2,k3⟩:=hk
 refine ⟨fun k a c=>?_,by omega,fun g hg=>?_⟩
 ·rw [k1 k (by omega) (by omega) (fun e=>by have:=h3 k e;omega)];exact h1 k a c
 ·rcases k3 with e | e
  ·exact h3 g (by rw [← e];exact hg)
  ·have:=e g hg;exact .inr (by omega)
theorem fresh_mid {T B n c:Nat} {w w':World} {q:Option Addr} {xs:List UInt8} (h:Fresh T B w q n c xs) (hm:∀ k,B≤k→k < w.heap.size→w'.heap[k]? = w.heap[k]?):Fresh T B w' q n c xs:=by
 have hd:∀ a,q = some a→w'.heap[a.block]? = w.heap[a.block]?:=fun a ha=>by
  obtain ⟨cs,fr,e⟩:=h.ty a ha
  exact hm _ (h.new a ha) (lt_of_block e)
 refine ⟨⟨h.sl.len,h.sl.le,h.sl.max,h.sl.nil,fun i hi=>?_⟩,h.new,fun a ha=>?_⟩
 ·obtain ⟨b,o,e,hc⟩:=h.sl.rs i hi
  exact ⟨b,o,e,(World.cell?_of_block (a:=⟨b,o + i,none⟩) (show w'.heap[b]? = w.heap[b]? from hd ⟨b,o,none⟩ e)).trans hc⟩
 ·obtain ⟨cs,fr,e⟩:=h.ty a ha
  exact ⟨cs,fr,(hd a ha).trans e⟩
theorem hdrF_base {T2 T1 B n b o c:Nat} {w:World} {xss:List (List UInt8)} (h:HdrF T2 T1 B w (.slice (some ⟨b,o,none⟩) n c) n xss):B≤b:=by
 obtain ⟨vs,ow,_⟩:=h
 rcases ow.2 with ⟨e,_⟩ | ⟨g,cap,cur,e,hB,_⟩
 ·cases e
 ·cases e;exact hB
theorem cell_mid {B b o:Nat} {w w':World} {u:Value} (h:w.cell? ⟨b,o,none⟩ = some u) (hB:B≤b) (hm:∀ k,B≤k→k < w.heap.size→w'.heap[k]? = w.heap[k]?):w'.cell? ⟨b,o,none⟩ = some u :=
 (World.cell?_of_block (a:=⟨b,o,none⟩) (show w'.heap[b]? = w.heap[b]? from hm b hB (lt_of_cell h))).trans h
theorem HdrF.mid {T2 T1 B n:Nat} {w w':World} {v:Value} {xss:List (List UInt8)} (h:HdrF T2 T1 B w v n xss) (hs:w.heap.size≤w'.heap.size) (hm:∀ k,B≤k→k < w.heap.size→w'.heap[k]? = w.heap[k]?):HdrF T2 T1 B w' v n xss:=by
 obtain ⟨vs,o,l,r⟩:=h
 refine ⟨vs,owns_same o hs fun g hg=>hm g (o.lt g hg).1 (o.lt g hg).2,l,fun j u hj=>?_⟩
 obtain ⟨q,m,c,xs,e,hx,hf⟩:=r j u hj
 have hd:∀ a,q = some a→w'.heap[a.block]? = w.heap[a.block]?:=fun a ha=>by
  obtain ⟨cs,fr,e⟩:=hf.ty a ha
  exact hm _ (hf.new a ha) (lt_of_block e)
 refine ⟨q,m,c,xs,e,hx,⟨hf.sl.len,hf.sl.le,hf.sl.max,hf.sl.nil,fun i hi=>?_⟩,hf.new,fun a ha=>?_⟩
 ·obtain ⟨b,o,e,hc⟩:=hf.sl.rs i hi
  exact ⟨b,o,e,(World.cell?_of_block (a:=⟨b,o + i,none⟩) (show w'.heap[b]? = w.heap[b]? from hd ⟨b,o,none⟩ e)).trans hc⟩
 ·obtain ⟨cs,fr,e⟩:=hf.ty a ha
  exact ⟨cs,fr,(hd a ha).trans e⟩
end Go.Proofs.YtccaiiigdfieoaaGreatDoor
namespace Go.By
open Go.RowKit Go.Proofs.YtccaiiigdfieoaaGreatDoor
end Go.By
namespace Go.Proofs.YtccaiiigdfieoaaGreatDoor
open Go.RowKit Go.By
end Go.Proofs.YtccaiiigdfieoaaGreatDoor
namespace Go.Proofs.YtccaiiigdfieoaaGreatDoor
open Go.RowKit Go.By
theorem hexT_len {L:List (List UInt8)} {m:Nat} (h:∀ x ∈ L,x.length≤m):(hexT L).length≤(2 * m + 1) * L.length:=by
 induction L with
 | nil=>simp [hexT]
 | cons x l ih =>
  have e:hexT (x :: l) = (hexL x ++ [10]) ++ hexT l:=rfl
  have h1:=h x (by simp)
  have h2:=ih fun y hy=>h y (by simp [hy])
  have h3:=hexL_len2 x
  have h4:(2 * m + 1) * (l.length + 1) = (2 * m + 1) * l.length + (2 * m + 1):=Nat.mul_succ _ _
  have h5:(x :: l).length = l.length + 1:=rfl
  have h6:([10]:List UInt8).length = 1:=rfl
  rw [e,List.length_append,List.length_append,h3,h5,h4,h6]
  omega
theorem digit_get {k:Nat} (hk:k < 16) (hs:k < (strB digits16).size):(strB digits16)[k]'hs = dgt k:=by
 have h3:(strB digits16).data[k]? = some ((strB digits16)[k]'hs):=Array.getElem?_eq_getElem hs
 have h4:(strB digits16).data[k]? = some (dgt k):=by rw [← Array.getElem?_toList,strB_data];exact digits_at k hk
 rw [h3] at h4;exact Option.some.inj h4
theorem textS_pok {L t k D:Nat} (h:POK L t k D):textS (L:Int) (t:Int) (k:Int) D = textW D L t k:=by
 unfold textS
 rw [if_pos h.chk]
 simp
set_option maxRecDepth 1000000 in
set_option maxHeartbeats 8000000 in
theorem KText_ok (base gt be L t k D N:Nat) (M v:Value) (C:DataW Unit) (K:List Rw) (st:Nat) (R:List (List UInt8)) (w:World) (h:Tkr w base gt be L t k D N M v C K st) (hT:Tab10 w)
  (hEx:∀ W,Below w.heap.size w W→Calls Tryz.prog 27 #[.pointer (some ⟨gt,0,none⟩)] W fun e w'=>∃ q c,e = .returned (.slice q R.length c)∧HdrF 22 5 W.heap.size w' (.slice q R.length c) R.length R∧Below W.heap.size W w')
  (hR:∀ x ∈ R,x.length≤100000) (hRl:R.length≤100) :
  Calls Tryz.prog 18 #[.pointer (some ⟨gt,0,none⟩)] w fun e w'=>e = .returned (.string (strB (textW D L t k ++ [10] ++ hexT R)))∧Below w.heap.size w w':=by
 have HGt:Hid (∀ W,Below w.heap.size w W→Calls Tryz.prog 71 #[.pointer (some ⟨gt,0,none⟩)] W fun e w'=>e = .returned (GVal L t k D M)∧Below W.heap.size W w'):=fun W hb=>TGate_any base gt be L t k D N M v C K st W (h.keep hb)
 have HPt:Hid (∀ W,Below w.heap.size w W→Calls Tryz.prog 72 #[PVal L t k D] W fun e w'=>e = .returned (.string (strB (textW D L t k)))∧Below W.heap.size W w'):=fun W hb=>by
  have:=PText_any L t k D h.ok.d W h.ok.l (hT.keep hb)
  rwa [textS_pok h.ok] at this
 have HEx:=Lib.hid hEx
 have HR:=Lib.hid hR
 have htl:(textW D L t k).length≤100:=textW_len (by have:=h.ok.d;omega) (by have:=h.ok.l;omega) (by have:=h.ok.t2;omega) (by have:=h.ok.k2;omega)
 have HHL:Hid (∀ i,(hexT (R.take i)).length≤20000200):=fun i=>by
  have h1:=hexT_len (L:=R.take i) fun x hx=>hR x (List.mem_of_mem_take hx)
  have h2:(R.take i).length≤100:=by rw [List.length_take];omega
  have h3:(2 * 100000 + 1) * (R.take i).length≤(2 * 100000 + 1) * 100:=Nat.mul_le_mul_left _ h2
  omega
 generalize textW D L t k = TX at *
 clear h hT hEx hR
 go_enter Tryz.func18,Tryz.ntmps18
 go_wp2_with fail
 have t1:BldI (w.alloc (.cells #[.pointer none,.slice none 0 0] 135 (0,0))) w.heap.size []:=BldI.new (hnew rfl)
 have BW:Hid (Below w.heap.size w (w.alloc (.cells #[.pointer none,.slice none 0 0] 135 (0,0)))):=al (Below.refl _ _) (Nat.le_refl _)
 generalize w.alloc (.cells #[.pointer none,.slice none 0 0] 135 (0,0)) = w1 at *
 have T1:=Lib.hid t1
 clear t1
 refine Calls.mono (HGt.out w1 BW.out) ?_
 rintro e w2 ⟨rfl,hb⟩
 have HB2:=Lib.hid (bl BW.out hb BW.out.size)
 have T2:=Lib.hid (T1.out.keep hb)
 clear hb T1 BW HGt
 have hfg:=field_gate L t k D M w2
 go_wp2_with (first | simp only [hfg] | fail)
 refine Calls.mono (HPt.out w2 HB2.out) ?_
 rintro e w3 ⟨rfl,hb⟩
 have HB3:=Lib.hid (bl HB2.out hb HB2.out.size)
 have T3:=T2.out.keep hb
 have hs3:=HB3.out.size
 have HS3:=Lib.hid (WriteS_b w.heap.size w.heap.size [] TX w3 T3 (by simpa using (by omega:TX.length≤100000000)) hs3)
 have hTXs:=strB_size TX
 clear hb T2 HB2 HPt T3 hfg
 generalize strB TX = TXS at *
 go_wp2_with fail
 refine Calls.mono HS3.out ?_
 rintro e w4 ⟨rfl,hbA,hb⟩
 obtain ⟨-,v4,hbk,hown,hne⟩:=hbA
 have HB4:=Lib.hid (HB3.out.trans hb)
 have HG4:Hid (BG w4 w.heap.size w.heap.size v4 TX):=⟨hbk,by rw [Lib.byteCells_length] at hown;exact hown,hne,by have:=hb.size;omega⟩
 clear hb hbk hown hne HS3 HB3 hs3
 go_wp2_with fail
 refine Calls.mono (WriteB_g _ _ _ _ 10 w4 HG4.out (by omega)) ?_
 rintro e w5 ⟨rfl,v5,hg5,-,hb⟩
 have HB5:=Lib.hid (HB4.out.trans (hb (Nat.le_refl _)))
 have HG5:=Lib.hid hg5
 clear hg5 hb HG4 HB4
 go_wp2_with fail
 refine Calls.mono (HEx.out w5 HB5.out) ?_
 rintro e w6 ⟨q,c,rfl,hh,hb⟩
 have HB6:=Lib.hid (bl HB5.out hb HB5.out.size)
 have HH:=Lib.hid hh
 have HM6:Hid (MidW w6 w6 w5.heap.size v5):=⟨fun _ _ _=>rfl,Nat.le_refl _,fun g hg=>.inl (HG5.out.2.1.lt g hg).2⟩
 have HGB:Hid (w.heap.size < w5.heap.size):=lt_of_block HG5.out.1
 have HG6:Hid (BG w6 w.heap.size w.heap.size v5 (TX ++ [10])):=⟨(hb.block _ HGB.out).trans HG5.out.1,owns_keepv HG5.out.2.1 hb,HG5.out.2.2.1,by have:=HB6.out.size;omega⟩
 have HL6:Hid (BG w6 w.heap.size w.heap.size v5 (TX ++ [10] ++ hexT (R.take 0))):=by
  show BG _ _ _ _ _
  have:TX ++ [10] ++ hexT (R.take 0) = TX ++ [10]:=by simp [hexT]
  rw [this];exact HG6.out
 clear hh hb HG5 HB5 HG6 HEx
 go_wp2
 go_loopw [5,7,19,25] (fun _ _ iv _ wr=>∃ (i:Nat) (v:Value),i≤R.length∧iv = .int .i64 (i:Nat)∧Hid (BG wr w.heap.size w.heap.size v (TX ++ [10] ++ hexT (R.take i)))∧Hid (MidW w6 wr w5.heap.size v)∧Hid (Below w.heap.size w wr)) (fun _ _ iv _ _=>R.length - (intOf iv).toNat)
 case atStart=>exact ⟨0,v5,Nat.zero_le _,rfl,HL6.out,HM6.out,HB6.out⟩
 case round =>
  obtain ⟨i,v,hi,rfl,HG,HM,HB⟩:=hrel
  clear HL6 HM6 HB6
  by_cases hlt:i < R.length
  ·obtain ⟨b,o,p,m,d,xs,rfl,hc,hx,hf⟩:=HH.out.at hlt
   have hc':=cell_mid hc (Nat.le_trans (hdrF_base HH.out) (Nat.le_refl _)) HM.out.1
   have HFr:=Lib.hid hf
   have hlt':(i:Int) < (R.length:Int):=by omega
   have HLT:=Lib.hid hlt
   have hmb:m≤100000:=by rw [← hf.sl.len];exact HR.out _ (List.mem_of_getElem? hx.out)
   clear hlt hc hf
   have HXI:=Lib.hid hx.out
   have HS:=Lib.hid (hexT_snoc hx.out)
   have hA:=HHL.out i
   obtain ⟨A,hAe⟩:∃ A,A = TX ++ [10] ++ hexT (R.take i):=⟨_,rfl⟩
   have hAl:A.length≤30000000:=by rw [hAe];simp only [List.length_append,List.length_cons,List.length_nil];omega
   rw [← hAe] at HG
   have HAE:=Lib.hid hAe
   have HGz:Hid (BG wr w.heap.size w.heap.size v (A ++ hexL (xs.take 0))):=by
    show BG _ _ _ _ _
    have e:A ++ hexL (xs.take 0) = A:=by simp [hexL]
    rw [e];exact HG.out
   clear hAe hA hx HG
   go_wp2
   clear hc' hlt'
   go_loopw [7,25] (fun _ jv wr=>∃ (j:Nat) (v:Value),j≤m∧jv = .int .i64 (j:Nat)∧Hid (BG wr w.heap.size w.heap.size v (A ++ hexL (xs.take j)))∧Hid (MidW w6 wr w5.heap.size v)∧Hid (Below w.heap.size w wr)) (fun _ jv _=>m - (intOf jv).toNat)
   case atStart=>exact ⟨0,v,Nat.zero_le _,rfl,HGz.out,HM.out,HB.out⟩
   case round =>
    clear HGz HM HB
    obtain ⟨j,v,hj,rfl,HG,HM,HB⟩:=hrel
    by_cases hlt:j < m
    ·obtain ⟨bb,oo,x,rfl,hc1,hx1⟩:=(fresh_mid HFr.out HM.out.1).sl.at j hlt
     have hlt':(j:Int) < (m:Int):=by omega
     have HLT2:=Lib.hid hlt
     have HST:=Lib.hid (hexL_step hx1.out)
     have hx8:=x.toNat_lt
     have hdA:=digits_run (y:=x.toNat / 16) (by omega) ((x.toNat:Int) / 16) (by omega)
     have hdB:=digits_run (y:=x.toNat % 16) (by omega) ((x.toNat % 16:Nat):Int) rfl
     have hand:=and15 x
     have HLn:Hid ((A ++ hexL (xs.take j)).length≤30300000):=by
      have h4:=hexL_len2 (xs.take j)
      have h5:(xs.take j).length≤j:=List.length_take_le _ _
      show _≤_
      rw [List.length_append];omega
     clear hlt hx1
     go_wp2_with (first | simp only [hdA] | fail)
     refine Calls.mono (WriteB_g _ _ _ _ _ wr HG.out (by have:=HLn.out;omega)) ?_
     rintro e w7 ⟨rfl,v7,hg7,hk7,hb7⟩
     have HG7:=Lib.hid hg7
     have HM7:=Lib.hid (HM.out.step hk7 HGB.out)
     have HB7:=Lib.hid (HB.out.trans (hb7 (Nat.le_refl _)))
     clear hg7 hk7 hb7 HG HM HB hc1 hdA
     go_wp2_with (first | simp only [hand,hdB] | simp only [hdB] | fail)
     refine Calls.mono (WriteB_g _ _ _ _ _ w7 HG7.out (by have:=HLn.out;have h1:([dgt (x.toNat / 16)]:List UInt8).length = 1:=rfl;rw [List.length_append];omega)) ?_
     rintro e w8 ⟨rfl,v8,hg8,hk8,hb8⟩
     have ed:∀ h,(ByteArray.mk #[48,49,50,51,52,53,54,55,56,57,97,98,99,100,101,102])[x.toNat % 16]'h = dgt (x.toNat % 16):=fun h=>digit_get (by omega) h
     rw [ed] at hg8
     have HG8:Hid (BG w8 w.heap.size w.heap.size v8 (A ++ hexL (xs.take (j + 1)))):=by show BG _ _ _ _ _;rw [HST.out,← List.append_assoc,← List.append_assoc];exact hg8
     have HM8:=Lib.hid (HM7.out.step hk8 HGB.out)
     have HB8:=Lib.hid (HB7.out.trans (hb8 (Nat.le_refl _)))
     clear hg8 hk8 hb8 HG7 HM7 HB7 hdB hand
     go_wp2
     go_roundw
     case rel=>exact ⟨j + 1,v8,HLT2.out,by go_num,HG8.out,HM8.out,HB8.out⟩
     case measure=>simp [intOf];have:=HLT2.out;omega
    ·obtain rfl:j = m:=by omega
     have e9:xs.take j = xs:=List.take_of_length_le (by rw [HFr.out.sl.len];exact Nat.le_refl _)
     have HLn:Hid ((A ++ hexL xs).length≤30300000):=by
      have h4:=hexL_len2 xs
      have h5:=HFr.out.sl.len
      show _≤_
      rw [List.length_append];omega
     rw [e9] at HG
     clear hlt e9
     go_wp2_with fail
     refine Calls.mono (WriteB_g _ _ _ _ 10 wr HG.out (by have:=HLn.out;omega)) ?_
     rintro e w7 ⟨rfl,v7,hg7,hk7,hb7⟩
     have HG7:Hid (BG w7 w.heap.size w.heap.size v7 (TX ++ [10] ++ hexT (R.take (i + 1)))):=by show BG _ _ _ _ _;rw [HS.out,← List.append_assoc,← List.append_assoc,← HAE.out];exact hg7
     have HM7:=Lib.hid (HM.out.step hk7 HGB.out)
     have HB7:=Lib.hid (HB.out.trans (hb7 (Nat.le_refl _)))
     clear hg7 hk7 hb7 HG HM HB
     go_wp2
     go_roundw
     case rel=>exact ⟨i + 1,v7,HLT.out,by go_num,HG7.out,HM7.out,HB7.out⟩
     case measure=>simp [intOf];have:=HLT.out;omega
  ·obtain rfl:i = R.length:=by omega
   have e9:R.take R.length = R:=List.take_length
   rw [e9] at HG
   have HD:=Lib.hid (StringB_b w.heap.size w.heap.size (TX ++ [10] ++ hexT R) wr (.inr ⟨Nat.le_refl _,v,HG.out.1,by rw [Lib.byteCells_length];exact HG.out.2.1,HG.out.2.2.1⟩) HG.out.2.2.2)
   clear hlt e9
   go_wp2_with fail
   refine Calls.mono HD.out ?_
   rintro e w7 ⟨rfl,hb⟩
   have HB7:=Lib.hid (HB.out.trans hb)
   clear hb
   go_wp2
   go_ret
   have e0:TX ++ [10] ++ hexT R = TX ++ 10 :: hexT R:=by simp
   exact ⟨by rw [e0];rfl,HB7.out⟩
end Go.Proofs.YtccaiiigdfieoaaGreatDoor
namespace Go.Proofs.YtccaiiigdfieoaaGreatDoor
open Go.RowKit Go.By
end Go.Proofs.YtccaiiigdfieoaaGreatDoor
namespace Go.Proofs.YtccaiiigdfieoaaGreatDoor
open Go.RowKit Go.By
end Go.Proofs.YtccaiiigdfieoaaGreatDoor
namespace Go.Proofs.YtccaiiigdfieoaaGreatDoor
open Go.RowKit Go.By
end Go.Proofs.YtccaiiigdfieoaaGreatDoor
namespace Go.Proofs.YtccaiiigdfieoaaGreatDoor
open Go.RowKit Go.By
end Go.Proofs.YtccaiiigdfieoaaGreatDoor
namespace Go.By
open Go.RowKit
section
variable {P:Program} {ops:Array Oper} {Q:Exit→Act→World→Prop}
end
end Go.By
namespace Go.By
open Go.RowKit Go.Proofs.YtccaiiigdfieoaaGreatDoor
section
variable {wz w:World} {gp t k:Nat} {v18 v19 v20 v21 v22 v23 v24 v8:Value} {dn:Nat→Bool}
end
end Go.By
namespace Go.Proofs.YtccaiiigdfieoaaGreatDoor
open Go.RowKit Go.By
end Go.Proofs.YtccaiiigdfieoaaGreatDoor
namespace Go.By
open Go.RowKit Go.Proofs.YtccaiiigdfieoaaGreatDoor
end Go.By
namespace Go.Proofs.YtccaiiigdfieoaaGreatDoor
open Go.RowKit Go.By Go.Maps
theorem expL_lens {k t D:Nat} {R:List Rw} (hf:∀ r,r ∈ R→Fit k t r) (hk:k≤12) (ht:t≤20):∀ x ∈ expL D R,x.length≤46:=fun x hx=>by
 obtain ⟨i,hi⟩:=List.mem_iff_getElem?.1 hx
 have hl:i < R.length:=by have:=(List.getElem?_eq_some_iff.1 hi).1;rwa [expL_len] at this
 have hr:=List.getElem?_eq_getElem hl
 rw [expL_at hr] at hi
 have hf2:=hf _ (List.mem_of_getElem? hr)
 rw [← Option.some.inj hi,pktB_len0,hf2.1,hf2.2]
 omega
end Go.Proofs.YtccaiiigdfieoaaGreatDoor
namespace Go.Proofs.YtccaiiigdfieoaaGreatDoor
open Go.RowKit Go.By Go.Maps
theorem PrsK.back {w w':World} {L t k D st:Nat} {K:List Rw} {e:Ending} (hP:POK L t k D) (hR:Red k t K) (hs:StF k K st) (h:PrsK w (keepT L t k D K st) e w') :
  ∃ base gt be N M v C,e = .returned (.tuple #[.pointer (some ⟨gt,0,none⟩),.int .i64 0])∧w.heap.size≤base∧Tkr w' base gt be L t k D N M v C K st∧Below w.heap.size w w':=by
 have hKl:K.length≤k:=Red.le hR
 have hk2:=hP.k2
 have hf:∀ r,r ∈ expR k t K st→Fit k t r:=expR_fit fun r hr=>(hR.kept.rows r hr).1
 have hel:(expR k t K st).length≤1000000:=by have:=expR_len (k:=k) (t:=t) (st:=st) (K:=K);omega
 rcases h with ⟨h1,-⟩ | ⟨a,T,h1,h2⟩
 ·rw [keep_lines] at h1;cases h1
 ·rw [keep_lines] at h1
  injection h1 with h1
  injection h1 with e1 e2
  subst e1 e2
  rcases h2 with ⟨h2,-⟩ | ⟨P,h2,h3⟩
  ·rw [keep_pkts] at h2;cases h2
  ·rw [keep_pkts] at h2
   injection h2 with h2
   subst h2
   rcases h3 with ⟨c,hc,h3,-⟩ | ⟨L',t',k',D',hP',h3,h4⟩
   ·rw [keep_plan hP] at h3
    injection h3 with h3
    injection h3 with h3
    injection h3 with _ h3
    injection h3 with h3 _
    injection h3 with _ h3
    exact absurd h3.symm hc
   ·rw [keep_plan hP] at h3
    have e4:L = L'∧t = t'∧k = k'∧D = D':=by
     simp at h3
     obtain ⟨x1,x2,x3,x4⟩:=h3
     exact ⟨by omega,by omega,by omega,by omega⟩
    obtain ⟨rfl,rfl,rfl,rfl⟩:=e4
    rcases h4 with ⟨-,base,gt,be,M,v,C,h5,h6,h7,h8⟩ | ⟨h4,-⟩
    ·rw [hear_again hR hs hP.k1 hP.t1 hP.d (by omega)] at h7
     exact ⟨base,gt,be,_,M,v,C,h5,h6,h7,h8⟩
    ·exact absurd (impC_exp hf hP.d hel) h4
theorem keepT_len {L t k D st:Nat} {K:List Rw} (hP:POK L t k D) (hR:Red k t K) (hk:k≤12) (ht:t≤20):(keepT L t k D K st).length≤2000:=by
 have hf:∀ r,r ∈ expR k t K st→Fit k t r:=expR_fit fun r hr=>(hR.kept.rows r hr).1
 have hKl:K.length≤k:=Red.le hR
 have h0:(expL D (expR k t K st)).length≤13:=by rw [expL_len];have:=expR_len (k:=k) (t:=t) (st:=st) (K:=K);omega
 have h1:=hexT_len (L:=expL D (expR k t K st)) (m:=46) (expL_lens hf hk ht)
 have h2:(2 * 46 + 1) * (expL D (expR k t K st)).length≤(2 * 46 + 1) * 13:=Nat.mul_le_mul_left _ h0
 have htl:(textW D L t k).length≤100:=textW_len (by have:=hP.d;omega) (by have:=hP.l;omega) (by have:=hP.t2;omega) (by have:=hP.k2;omega)
 unfold keepT
 rw [List.length_append,List.length_append]
 simp only [List.length_cons,List.length_nil]
 omega
theorem KText19 {base gt be L t k D N st:Nat} {M v:Value} {C:DataW Unit} {K:List Rw} {w:World} (h:Tkr w base gt be L t k D N M v C K st) (hk:k≤12) (ht:t≤20) (hX:Tab10 w) (hT:HalfT w) :
  Calls Tryz.prog 18 #[.pointer (some ⟨gt,0,none⟩)] w fun e w'=>e = .returned (.string (strB (keepT L t k D K st)))∧Below w.heap.size w w':=by
 have hf:∀ r,r ∈ expR k t K st→Fit k t r:=expR_fit fun r hr=>(h.red.kept.rows r hr).1
 have hKl:K.length≤k:=Red.le h.red
 refine KText_ok base gt be L t k D N M v C K st (expL D (expR k t K st)) w h hX (fun W hW=>?_) (fun x hx=>by have:=expL_lens hf hk ht x hx;omega) (by rw [expL_len];have:=expR_len (k:=k) (t:=t) (st:=st) (K:=K);omega)
 have:=KExport_ok base gt be L t k D N M v C K st W (h.keep hW) (hT.keep hW)
 rw [expL_len];exact this
end Go.Proofs.YtccaiiigdfieoaaGreatDoor
namespace Go.By
open Go.RowKit Go.Proofs.YtccaiiigdfieoaaGreatDoor
end Go.By
namespace Go.Proofs.YtccaiiigdfieoaaGreatDoor
open Go.RowKit Go.By
end Go.Proofs.YtccaiiigdfieoaaGreatDoor
namespace Go.Proofs.YtccaiiigdfieoaaGreatDoor
open Go.RowKit Go.By
end Go.Proofs.YtccaiiigdfieoaaGreatDoor
namespace Go.By
open Go.RowKit
end Go.By
namespace Go.Proofs.YtccaiiigdfieoaaGreatDoor
open Go.RowKit Go.By
end Go.Proofs.YtccaiiigdfieoaaGreatDoor
namespace Go.Proofs.YtccaiiigdfieoaaGreatDoor
open Go.RowKit Go.By Go.Maps
theorem pval_inj {L t k D L' t' k' D':Nat} (h:(Value.tuple #[PVal L t k D,.int .i64 0]) = .tuple #[PVal L' t' k' D',.int .i64 0]):L = L'∧t = t'∧k = k'∧D = D':=by
 simp at h
 obtain ⟨x1,x2,x3,x4⟩:=h
 exact ⟨by omega,by omega,by omega,by omega⟩
theorem pval_code {L t k D:Nat} {c:Int} {z:Value} (h:(Value.tuple #[PVal L t k D,.int .i64 0]) = .tuple #[z,.int .i64 c]):c = 0:=by
 simp at h
 exact h.2.symm
theorem code_inj {c c':Int} {z z':Value} (h:(Value.tuple #[z,.int .i64 c]) = .tuple #[z',.int .i64 c']):c = c':=by
 simp at h
 exact h.2
structure Imp (w w':World) (L t k D n:Nat) (P:List (List UInt8)) (o:Option Addr) (ec:Int):Prop where
 bad:impC k t D P≠0→o = none∧ec = impC k t D P
 good:impC k t D P = 0→ec = 0∧∃ base gt be M v C,o = some ⟨gt,0,none⟩∧w.heap.size≤base∧Tkr w' base gt be L t k D n M v C (tkR k t D P).1 (tkR k t D P).2
theorem Imp.keep {w w' w2:World} {L t k D n:Nat} {P:List (List UInt8)} {o:Option Addr} {ec:Int} (h:Imp w w' L t k D n P o ec) (hb:Below w'.heap.size w' w2):Imp w w2 L t k D n P o ec :=
 ⟨h.bad,fun e=>by obtain ⟨h1,base,gt,be,M,v,C,h2,h3,h4⟩:=h.good e;exact ⟨h1,base,gt,be,M,v,C,h2,h3,h4.keep hb⟩⟩
theorem ImpR.parts {w w':World} {L t k D n:Nat} {P:List (List UInt8)} {e:Ending} (h:ImpR w L t k D n P e w'):∃ o ec,e = .returned (.tuple #[.pointer o,.int .i64 ec])∧Below w.heap.size w w'∧Imp w w' L t k D n P o ec:=by
 rcases h with ⟨h0,base,gt,be,M,v,C,rfl,h1,h2,h3⟩ | ⟨h0,rfl,h3⟩
 ·exact ⟨_,_,rfl,h3,fun e=>absurd h0 e,fun _=>⟨rfl,base,gt,be,M,v,C,rfl,h1,h2⟩⟩
 ·exact ⟨_,_,rfl,h3,fun _=>⟨rfl,rfl⟩,fun e=>absurd e h0⟩
structure Prs (w w':World) (s:List UInt8) (o:Option Addr) (ec:Int):Prop where
 form:linesP s = none→o = none∧ec = 14
 hex:∀ a T,linesP s = some (a :: T)→pktsP T = none→o = none∧ec = 14
 plan:∀ a T P c z,linesP s = some (a :: T)→pktsP T = some P→parseV a = .tuple #[z,.int .i64 c]→c≠0→o = none∧ec = c
 imp:∀ a T P L t k D,linesP s = some (a :: T)→pktsP T = some P→parseV a = .tuple #[PVal L t k D,.int .i64 0]→Imp w w' L t k D P.length P o ec
theorem Prs.keep {w w' w2:World} {s:List UInt8} {o:Option Addr} {ec:Int} (h:Prs w w' s o ec) (hb:Below w'.heap.size w' w2):Prs w w2 s o ec :=
 ⟨h.form,h.hex,h.plan,fun a T P L t k D h1 h2 h3=>(h.imp a T P L t k D h1 h2 h3).keep hb⟩
theorem PrsK.parts {w w':World} {s:List UInt8} {e:Ending} (h:PrsK w s e w'):∃ o ec,e = .returned (.tuple #[.pointer o,.int .i64 ec])∧Below w.heap.size w w'∧Prs w w' s o ec:=by
 rcases h with ⟨h1,rfl,hb⟩ | ⟨a,T,h1,h2⟩
 ·exact ⟨_,_,rfl,hb,fun _=>⟨rfl,rfl⟩,fun _ _ _ _=>⟨rfl,rfl⟩,(fun a T P c z e=>by rw [h1] at e;cases e),(fun a T P L t k D e=>by rw [h1] at e;cases e)⟩
 ·rcases h2 with ⟨h2,rfl,hb⟩ | ⟨P,h2,h3⟩
  ·refine ⟨_,_,rfl,hb,fun _=>⟨rfl,rfl⟩,fun _ _ _ _=>⟨rfl,rfl⟩,fun a' T' P c z e e2=>?_,fun a' T' P L t k D e e2=>?_⟩
   ·rw [h1] at e;injection e with e;injection e with e3 e4;subst e4;rw [h2] at e2;cases e2
   ·rw [h1] at e;injection e with e;injection e with e3 e4;subst e4;rw [h2] at e2;cases e2
  ·rcases h3 with ⟨c,hc,h3,rfl,hb⟩ | ⟨L,t,k,D,hP,h3,h4⟩
   ·refine ⟨_,_,rfl,hb,(fun e=>by rw [h1] at e;cases e),fun a' T' e e2=>?_,fun a' T' P' c' z e e2 e3 hc'=>?_,fun a' T' P' L t k D e e2 e3=>?_⟩
    ·rw [h1] at e;injection e with e;injection e with e3 e4;subst e4;rw [h2] at e2;cases e2
    ·rw [h1] at e;injection e with e;injection e with e4 e5;subst e4
     rw [h3] at e3
     exact ⟨rfl,code_inj e3⟩
    ·rw [h1] at e;injection e with e;injection e with e4 e5;subst e4
     rw [h3] at e3
     exact absurd (code_inj e3) hc
   ·obtain ⟨o,ec,he,hb,hI⟩:=h4.parts
    refine ⟨o,ec,he,hb,(fun e=>by rw [h1] at e;cases e),fun a' T' e e2=>?_,fun a' T' P' c' z e e2 e3 hc'=>?_,fun a' T' P' L' t' k' D' e e2 e3=>?_⟩
    ·rw [h1] at e;injection e with e;injection e with e3 e4;subst e4;rw [h2] at e2;cases e2
    ·rw [h1] at e;injection e with e;injection e with e4 e5;subst e4
     rw [h3] at e3
     exact absurd (pval_code e3) hc'
    ·rw [h1] at e;injection e with e;injection e with e4 e5;subst e4 e5
     rw [h2] at e2;injection e2 with e2;subst e2
     rw [h3] at e3
     obtain ⟨rfl,rfl,rfl,rfl⟩:=pval_inj e3
     exact hI
end Go.Proofs.YtccaiiigdfieoaaGreatDoor
namespace Go.By
open Go.RowKit Go.Maps Go.Proofs.YtccaiiigdfieoaaGreatDoor
def TkB (w:World) (base gt be L t k D N:Nat) (v:Value) (K:List Rw) (st:Nat):Prop:=∃ N' M C,N'≤N∧Tkr w base gt be L t k D N' M v C K st
theorem TkB.keep {w w':World} {base gt be L t k D N:Nat} {v:Value} {K:List Rw} {st:Nat} (h:TkB w base gt be L t k D N v K st) (hb:Below w.heap.size w w'):TkB w' base gt be L t k D N v K st:=by
 obtain ⟨N',M,C,h1,h2⟩:=h;exact ⟨N',M,C,h1,h2.keep hb⟩
theorem TkB.more {w:World} {base gt be L t k D N N2:Nat} {v:Value} {K:List Rw} {st:Nat} (h:TkB w base gt be L t k D N v K st) (hn:N≤N2):TkB w base gt be L t k D N2 v K st:=by
 obtain ⟨N',M,C,h1,h2⟩:=h;exact ⟨N',M,C,Nat.le_trans h1 hn,h2⟩
theorem TkB.lt {w:World} {base gt be L t k D N:Nat} {v:Value} {K:List Rw} {st:Nat} (h:TkB w base gt be L t k D N v K st):gt < w.heap.size∧be < w.heap.size∧∀ g,v.ownBlock = some g→g < w.heap.size:=by
 obtain ⟨N',M,C,h1,h2⟩:=h
 refine ⟨lt_of_block h2.box,lt_of_block h2.elm.box,fun g hg=>?_⟩
 obtain ⟨vs,_,_,o,_⟩:=h2.elm.rows
 exact (o.lt g hg).2
theorem TkB.ge {w:World} {base gt be L t k D N:Nat} {v:Value} {K:List Rw} {st:Nat} (h:TkB w base gt be L t k D N v K st):base≤gt∧base≤be∧∀ g,v.ownBlock = some g→base≤g:=by
 obtain ⟨N',M,C,h1,h2⟩:=h
 refine ⟨h2.old,h2.elm.old,fun g hg=>?_⟩
 obtain ⟨vs,_,_,o,_⟩:=h2.elm.rows
 exact (o.lt g hg).1
theorem TApart.late {w w2:World} {b1 g1 e1 b2 g2 e2 L t k D L2 t2 k2 D2 N N2:Nat} {v v2:Value} {K K2:List Rw} {st st2:Nat} (h:TkB w b1 g1 e1 L t k D N v K st) (h2:TkB w2 b2 g2 e2 L2 t2 k2 D2 N2 v2 K2 st2) (hb:w.heap.size≤b2):TApart g1 e1 v g2 e2 v2:=by
 obtain ⟨l1,l2,l3⟩:=h.lt
 obtain ⟨m1,m2,m3⟩:=h2.ge
 exact ⟨by omega,by omega,fun g hg e=>by have:=l3 g e;have:=m3 g hg;omega⟩
section
variable {w w':World} {B L t k D b1 g1 e1 b2 g2 e2 b3 g3 e3 N:Nat} {K1 K2 K3:List Rw} {s1 s2 s3:Nat}
end
end Go.By
namespace Go.Proofs.YtccaiiigdfieoaaGreatDoor
open Go.RowKit Go.By Go.Maps
end Go.Proofs.YtccaiiigdfieoaaGreatDoor
namespace Go.By
open Go.RowKit
section
variable {P:Program} {ops:Array Oper} {Q:Exit→Act→World→Prop}
end
end Go.By
namespace Go.By
open Go.RowKit Go.Maps Go.Proofs.YtccaiiigdfieoaaGreatDoor
end Go.By
namespace Go.Proofs.YtccaiiigdfieoaaGreatDoor
open Go.RowKit Go.By Go.Maps
section
variable {wI W:World} {L t k D b1 g1 e1 b2 g2 e2 b3 g3 e3 N0:Nat} {K:List Rw} {s:Nat} {d10 d16 d24:Bool} {p:Option Addr} {n c:Nat} {xs:List UInt8}
end
theorem PrsK.back5 {w w':World} {L t k D st:Nat} {K:List Rw} {e:Ending} (hP:POK L t k D) (hR:Red k t K) (hs:StF k K st) (h:PrsK w (keepT L t k D K st) e w') :
  ∃ base gt be N M v C,e = .returned (.tuple #[.pointer (some ⟨gt,0,none⟩),.int .i64 0])∧w.heap.size≤base∧N≤5000∧Tkr w' base gt be L t k D N M v C K st∧Below w.heap.size w w':=by
 have hKl:K.length≤k:=Red.le hR
 have hk2:=hP.k2
 have hf:∀ r,r ∈ expR k t K st→Fit k t r:=expR_fit fun r hr=>(hR.kept.rows r hr).1
 have hel:(expR k t K st).length≤5000:=by have:=expR_len (k:=k) (t:=t) (st:=st) (K:=K);omega
 obtain ⟨o,ec,he,hb,hp⟩:=h.parts
 have hI:=hp.imp _ _ _ _ _ _ _ (keep_lines L t k D K st) keep_pkts (keep_plan hP)
 obtain ⟨rfl,base,gt,be,M,v,C,rfl,h1,h2⟩:=hI.good (impC_exp hf hP.d (by omega))
 rw [hear_again hR hs hP.k1 hP.t1 hP.d (by omega)] at h2
 exact ⟨base,gt,be,_,M,v,C,he,h1,by rw [expL_len];exact hel,h2,hb⟩
end Go.Proofs.YtccaiiigdfieoaaGreatDoor
namespace Go.By
open Go.RowKit Go.Maps Go.Proofs.YtccaiiigdfieoaaGreatDoor
theorem grown_of {B T e n:Nat} {w w':World} {v:Value} {ys:List Value} (ho:w.ownsRow B T e v n ys) (hg:w.grownBy w' v.ownBlock) {T':Nat} (hne:T≠T'):∀ (b:Nat) (cs:Array Value) (fr:Nat × Nat),w.heap[b]? = some (.cells cs T' fr)→w'.heap[b]? = w.heap[b]?:=fun b cs fr hb=>by
 rcases ho.2 with ⟨e1,_⟩ | ⟨g,cap,cur,e1,hgb,hh,_⟩
 ·exact hg.block b (lt_of_block hb) (fun e=>by rw [e1] at e;cases e)
 ·refine hg.block b (lt_of_block hb) (fun e=>?_)
  rw [e1] at e;cases e
  rw [hh] at hb;injection hb with hb;injection hb with _ hb _;exact hne hb
theorem HdrF.keepS {B n:Nat} {w w':World} {v:Value} {xss:List (List UInt8)} (h:HdrF 22 5 B w v n xss) (hk:KeepS w w'):HdrF 22 5 B w' v n xss:=h.same hk.size (hk.same _ os_rows) (hk.same _ os_u8)
structure Duo (w:World) (B L t k D b1 g1 e1 b2 g2 e2 N:Nat) (K1:List Rw) (s1:Nat) (K2:List Rw) (s2:Nat):Prop where
 o1:B≤b1
 o2:B≤b2
 sz:B≤w.heap.size
 ex:∃ v1 v2,TkB w b1 g1 e1 L t k D N v1 K1 s1∧TkB w b2 g2 e2 L t k D N v2 K2 s2∧TApart g1 e1 v1 g2 e2 v2
section
variable {w w':World} {B L t k D b1 g1 e1 b2 g2 e2 N:Nat} {K1 K2:List Rw} {s1 s2:Nat}
theorem Duo.keep (h:Duo w B L t k D b1 g1 e1 b2 g2 e2 N K1 s1 K2 s2) (hb:Below w.heap.size w w'):Duo w' B L t k D b1 g1 e1 b2 g2 e2 N K1 s1 K2 s2:=by
 obtain ⟨v1,v2,h1,h2,a⟩:=h.ex
 exact ⟨h.o1,h.o2,Nat.le_trans h.sz hb.size,v1,v2,h1.keep hb,h2.keep hb,a⟩
theorem Duo.swap (h:Duo w B L t k D b1 g1 e1 b2 g2 e2 N K1 s1 K2 s2):Duo w B L t k D b2 g2 e2 b1 g1 e1 N K2 s2 K1 s1:=by
 obtain ⟨v1,v2,h1,h2,a⟩:=h.ex
 exact ⟨h.o2,h.o1,h.sz,v2,v1,h2,h1,a.symm⟩
theorem Duo.more {N2:Nat} (h:Duo w B L t k D b1 g1 e1 b2 g2 e2 N K1 s1 K2 s2) (hn:N≤N2):Duo w B L t k D b1 g1 e1 b2 g2 e2 N2 K1 s1 K2 s2:=by
 obtain ⟨v1,v2,h1,h2,a⟩:=h.ex
 exact ⟨h.o1,h.o2,h.sz,v1,v2,h1.more hn,h2.more hn,a⟩
theorem Duo.fst (h:Duo w B L t k D b1 g1 e1 b2 g2 e2 N K1 s1 K2 s2):∃ N' M v C,Tkr w b1 g1 e1 L t k D N' M v C K1 s1:=by
 obtain ⟨v1,v2,⟨N',M,C,_,h1⟩,_⟩:=h.ex
 exact ⟨N',M,v1,C,h1⟩
theorem Duo.snd (h:Duo w B L t k D b1 g1 e1 b2 g2 e2 N K1 s1 K2 s2):∃ N' M v C,Tkr w b2 g2 e2 L t k D N' M v C K2 s2:=h.swap.fst
theorem Duo.next {b3 g3 e3 N3:Nat} {M3 v3:Value} {C3:DataW Unit} {K3:List Rw} {s3:Nat} {w1:World} (h:Duo w1 B L t k D b1 g1 e1 b2 g2 e2 N K1 s1 K2 s2) (hb:Below w1.heap.size w1 w) (h3:Tkr w b3 g3 e3 L t k D N3 M3 v3 C3 K3 s3) (hn:N3≤N) (ho:w1.heap.size≤b3):Duo w B L t k D b1 g1 e1 b3 g3 e3 N K1 s1 K3 s3:=by
 obtain ⟨v1,v2,h1,h2,a⟩:=h.ex
 have t3:TkB w b3 g3 e3 L t k D N v3 K3 s3:=⟨N3,M3,C3,hn,h3⟩
 exact ⟨h.o1,Nat.le_trans h.sz ho,Nat.le_trans h.sz hb.size,v1,v3,h1.keep hb,t3,TApart.late h1 t3 ho⟩
end
end Go.By
namespace Go.Proofs.YtccaiiigdfieoaaGreatDoor
open Go.RowKit Go.By Go.Maps
theorem Duo.take {w:World} {B L t k D b1 g1 e1 b2 g2 e2 N:Nat} {K1 K2:List Rw} {s1 s2:Nat} (h:Duo w B L t k D b1 g1 e1 b2 g2 e2 N K1 s1 K2 s2) {p:Option Addr} {n c:Nat} {xs:List UInt8} (hT:HalfT w) (hN:N < 1000000) (hs:Sl B8 w p n c xs) (hr:Room n) :
  Calls Tryz.prog 16 #[.pointer (some ⟨g1,0,none⟩),.slice p n c] w fun e w'=>e = .returned (.int .i64 (readC k t D xs))∧Duo w' B L t k D b1 g1 e1 b2 g2 e2 (N + 1) (takeK k t D K1 s1 xs) (takeS k t D K1 s1 xs) K2 s2∧Below B w w'∧KeepS w w':=by
 obtain ⟨v1,v2,⟨N',M,C,hn,h1⟩,h2,a⟩:=h.ex
 refine (TTake_any b1 g1 e1 L t k D N' M v1 C K1 s1 p n c xs w h1 hT (by omega) hs hr).mono ?_
 rintro e w' ⟨rfl,M',v',hk,hch,hv⟩
 have hb:Below B w w':=hch.below h1 h.o1 h.sz
 have l2:=h2.lt.2.2
 obtain ⟨N2,M2,C2,n2,t2⟩:=h2
 exact ⟨rfl,⟨h.o1,h.o2,Nat.le_trans h.sz hb.size,v',v2,⟨N' + 1,M',_,by omega,hk⟩,⟨N2,M2,C2,by omega,hch.tkr2 h1 t2 a⟩,a.next hv l2⟩,hb,hch.keepS h1⟩
theorem info_slN:(Tryz.prog.info? 22).map (fun i=>(i.zero,i.size,i.bytes)) = some (some (.slice none 0 0),1,24):=by kernel_rfl
def HdG (Bo Bb:Nat) (w:World) (v:Value) (n:Nat) (xss:List (List UInt8)):Prop:=∃ vs,w.ownsRow Bo 22 1 v n vs∧xss.length = n∧∀ (j:Nat) (u:Value),vs[j]? = some u→∃ q m c xs,u = .slice q m c∧xss[j]? = some xs∧Fresh 5 Bb w q m c xs
theorem HdG.hdrF {Bo Bb n:Nat} {w:World} {v:Value} {xss:List (List UInt8)} (h:HdG Bo Bb w v n xss) (hb:Bb≤Bo):HdrF 22 5 Bb w v n xss:=by
 obtain ⟨vs,o,l,r⟩:=h
 exact ⟨vs,owns_mono o hb,l,r⟩
theorem HdG.shape {Bo Bb n:Nat} {w:World} {v:Value} {xss:List (List UInt8)} (h:HdG Bo Bb w v n xss):∃ q c,v = .slice q n c:=by
 obtain ⟨vs,o,l,r⟩:=h
 exact owns_shape o
theorem wpList_append_hf {ops:Array Oper} {rest:List Oper} {o:Oper} {a:Act} {W:World} {Q:Exit→Act→World→Prop} (hgd:o.guard = none) (s x:Operand) (ho:o.op = .call { callee:=.builtin .append,args:=#[s,x],argTypes:=#[31,31] })
  (Bo B n:Nat) (v:Value) (xss:List (List UInt8)) (hs:a.eval s = v) (hH:HdG Bo B W v n xss) (B2:Nat) (p:Option Addr) (m c:Nat) (yss:List (List UInt8)) (hx:a.eval x = .slice p m c) (hY:HdrF 22 5 B2 W (.slice p m c) m yss) (hB2:B≤B2) (hn:n + m≤1000000) (hB:Bo≤W.heap.size)
  (h:∀ v' W',HdG Bo B W' v' (n + m) (xss ++ yss)→(∀ g,v.ownBlock = some g→Bo≤g)→W.grownBy W' v.ownBlock→(∀ (b:Nat) (cs:Array Value) (fr:Nat × Nat),W.heap[b]? = some (.cells cs 5 fr)→W'.heap[b]? = W.heap[b]?)→wpList Tryz.prog ops Q rest (a.put o.dst v') W'):wpList Tryz.prog ops Q (o :: rest) a W:=by
 obtain ⟨i0,hi0,hz0,hz1,hz2⟩:=info_parts info_slN
 obtain ⟨vs,ho1,hl,hr⟩:=hH
 obtain ⟨us,hu1,ul,ur⟩:=hY
 have hge:∀ g,v.ownBlock = some g→Bo≤g:=fun g hg=>(ho1.lt g hg).1
 have hvl:vs.length = n:=by have:=ho1.1;simpa using this
 have hul:us.length = m:=by have:=hu1.1;simpa using this
 have fin:∀ v' W',W'.ownsRow Bo 22 1 v' (n + m) (vs ++ us)→(∀ (b:Nat) (cs:Array Value) (fr:Nat × Nat),W.heap[b]? = some (.cells cs 5 fr)→W'.heap[b]? = W.heap[b]?)→HdG Bo B W' v' (n + m) (xss ++ yss):=fun v' W' h1 hk=>by
  refine ⟨vs ++ us,h1,by rw [List.length_append,hl,ul],fun j u hj=>?_⟩
  rcases Nat.lt_or_ge j vs.length with g | g
  ·rw [List.getElem?_append_left g] at hj
   obtain ⟨q,m',c',xs,e,h2,h3⟩:=hr j u hj
   exact ⟨q,m',c',xs,e,by rw [List.getElem?_append_left (by omega)];exact h2,fresh_same h3 hk⟩
  ·rw [List.getElem?_append_right g] at hj
   obtain ⟨q,m',c',xs,e,h2,h3⟩:=ur _ u hj
   exact ⟨q,m',c',xs,e,by rw [List.getElem?_append_right (by omega),hl,← hvl];exact h2,fresh_same (h3.mono hB2) hk⟩
 rcases hu1.2 with ⟨e1,e2⟩ | ⟨g',cap,cur,e1,_⟩
 ·cases e1
  have hus:us = []:=List.eq_nil_of_length_eq_zero (by omega)
  subst hus
  exact wpList_append_own_none hgd s x 31 ho Bo 22 i0 1 Tryz.underlying31 hi0 v n vs hs ho1 hx (h v W (fin v W (by simpa using ho1) (fun _ _ _ _=>rfl)) hge (World.grownBy.refl _ _) (fun _ _ _ _=>rfl))
 ·cases e1
  refine wpList_append_own W hgd s x 31 ho Bo 22 i0 (.slice none 0 0) 1 24 Tryz.underlying31 hi0 hz0 hz1 hz2 rfl (by decide) v n vs hs ho1 ⟨g',0,none⟩ m c us hx (by omega) (fun j u hj=>?_) (fun u hu=>?_) (by unfold maxLen;omega) (by omega) hB ?_
  ·have hj2:=(List.getElem?_eq_some_iff.1 hj).1
   rw [Addr.add_lit,hu1.cellAt (0 + j) (by omega),Nat.zero_add]
   exact hj
  ·obtain ⟨j,hj⟩:=List.mem_iff_getElem?.1 hu
   obtain ⟨q,m',c',xs,rfl,_⟩:=ur j u hj
   rfl
  ·intro v' W' h1 h2 _
   have hk:=grown_of ho1 h2 (T':=5) (by decide)
   exact h v' W' (fin v' W' h1 hk) hge h2 hk
set_option maxRecDepth 1000000 in
set_option maxHeartbeats 2000000 in
theorem sameRows_same (p1 p2:Option Addr) (n c1 c2:Nat) (K:List Rw) (w:World) (h1:RwS w p1 n c1 K) (h2:RwS w p2 n c2 K) :
  Calls Tryz.prog 20 #[.slice p1 n c1,.slice p2 n c2] w fun e w'=>e = .returned (.bool true)∧Below w.heap.size w w':=by
 have hb:n≤9223372036854775807:=by have g1:=h1.le;have g2:=h1.max;unfold maxLen at g2;omega
 have H1:=Lib.hid h1;have H2:=Lib.hid h2;have HL:=Lib.hid h1.len
 clear h1 h2
 go_enter Tryz.func20,Tryz.ntmps20
 go_wp2
 go_loopw [13] (fun iv wr=>∃ i:Nat,i≤n∧iv = .int .i64 (i:Nat)∧Hid (Below w.heap.size w wr)) (fun iv _=>n - (intOf iv).toNat)
 case atStart=>exact ⟨0,Nat.zero_le _,rfl,Below.refl _ _⟩
 case round =>
  obtain ⟨i,hi,rfl,HB⟩:=hrel
  by_cases hlt:i < n
  ·obtain ⟨x,hx⟩:∃ x,K[i]? = some x:=⟨_,List.getElem?_eq_getElem (by rw [HL.out];exact hlt)⟩
   obtain ⟨b,o,q1,m1,k1,q2,m2,k2,rfl,E1,E2,s1,s2⟩:=(H1.out.keep HB.out).row i x hx
   obtain ⟨b',o',q3,m3,k3,q4,m4,k4,rfl,E3,E4,s3,s4⟩:=(H2.out.keep HB.out).row i x hx
   have hlt':(i:Int) < (n:Int):=by omega
   have HC:Hid (∀ W,Below wr.heap.size wr W→Calls Tryz.prog 77 #[.agg #[.slice q1 m1 k1,.slice q2 m2 k2],.agg #[.slice q3 m3 k3,.slice q4 m4 k4]] W fun e w'=>e = .returned (.bool true)∧Below W.heap.size W w'):=fun W hb=>by
    have hc:=VSame_any q1 q2 q3 q4 m1 k1 m2 k2 m3 k3 m4 k4 x.1 x.2 x.1 x.2 W (s1.keep hb) (s2.keep hb) (s3.keep hb) (s4.keep hb)
    rwa [decide_eq_true rfl] at hc
   have HLT:=Lib.hid hlt
   clear hx hlt s1 s2 s3 s4
   go_upto_region 6 with (fail)
   refine wp_region_shapes (fun ix=>([.val (.slice (some ⟨b,o,none⟩) n c1),.val (.int .i64 (i:Nat)),.val (.pointer (some ⟨b,o + i * 2,none⟩)),.val (.agg #[.slice q1 m1 k1,.slice q2 m2 k2]),.val (.slice (some ⟨b',o',none⟩) n c2),.val (.int .i64 (i:Nat)),.val (.pointer (some ⟨b',o' + i * 2,none⟩)),.val (.agg #[.slice q3 m3 k3,.slice q4 m4 k4]),.val (.bool true),.val (.bool false)][ix]?).getD (.any)) 27 rfl (by kernel_rfl) (by decide +kernel) (by decide +kernel) (by decide +kernel) ?_ ?_
   ·refine ⟨?_,?_,?_,?_,?_,?_,?_,?_,?_,?_,trivial⟩
    ·intro a W hb0 hs hp hi;have hb:=undrew hb0;clear hb0
     have t0:sl a 0 = .slice (some ⟨b,o,none⟩) n c1:=hi 0 (by decide)
     exact ite_y rfl (wp_val (sl a 0) rfl ⟨_,rfl,Below.refl _ _,t0⟩)
    ·intro a W hb0 hs hp hi;have hb:=undrew hb0;clear hb0
     have t5:sl a 5 = .int .i64 (i:Nat):=hi 5 (by decide)
     exact ite_y rfl (wp_val (sl a 5) rfl ⟨_,rfl,Below.refl _ _,t5⟩)
    ·intro a W hb0 hs hp hi;have hb:=undrew hb0;clear hb0
     have ti0:sl a 16 = .slice (some ⟨b,o,none⟩) n c1:=hp 0 (by decide)
     have ti1:sl a 17 = .int .i64 (i:Nat):=hp 1 (by decide)
     refine ite_y rfl (wp_val (.pointer (some ⟨b,o + i * 2,none⟩)) ?_ ?_)
     ·simp only [execOp,eval_tmp,eval_const,ti0,ti1];simp [go_sem,hlt']
     ·exact ⟨_,rfl,Below.refl _ _,rfl⟩
    ·intro a W hb0 hs hp hi;have hb:=undrew hb0;clear hb0
     have tt:sl a 18 = .pointer (some ⟨b,o + i * 2,none⟩):=hp 2 (by decide)
     have dd0:=(hb.cell (p:=⟨b,o + i * 2,none⟩) (lt_of_cell E1)).trans E1
     have dd1:=(hb.cell (p:=⟨b,o + i * 2 + 1,none⟩) (lt_of_cell E2)).trans E2
     refine ite_y rfl (wp_val (.agg #[.slice q1 m1 k1,.slice q2 m2 k2]) ?_ ?_)
     ·simp only [execOp,eval_tmp,tt];simp [go_sem,dd0,dd1]
     ·exact ⟨_,rfl,Below.refl _ _,rfl⟩
    ·intro a W hb0 hs hp hi;have hb:=undrew hb0;clear hb0
     have t1:sl a 1 = .slice (some ⟨b',o',none⟩) n c2:=hi 1 (by decide)
     exact ite_y rfl (wp_val (sl a 1) rfl ⟨_,rfl,Below.refl _ _,t1⟩)
    ·intro a W hb0 hs hp hi;have hb:=undrew hb0;clear hb0
     have t5:sl a 5 = .int .i64 (i:Nat):=hi 5 (by decide)
     exact ite_y rfl (wp_val (sl a 5) rfl ⟨_,rfl,Below.refl _ _,t5⟩)
    ·intro a W hb0 hs hp hi;have hb:=undrew hb0;clear hb0
     have ti0:sl a 20 = .slice (some ⟨b',o',none⟩) n c2:=hp 4 (by decide)
     have ti1:sl a 21 = .int .i64 (i:Nat):=hp 5 (by decide)
     refine ite_y rfl (wp_val (.pointer (some ⟨b',o' + i * 2,none⟩)) ?_ ?_)
     ·simp only [execOp,eval_tmp,eval_const,ti0,ti1];simp [go_sem,hlt']
     ·exact ⟨_,rfl,Below.refl _ _,rfl⟩
    ·intro a W hb0 hs hp hi;have hb:=undrew hb0;clear hb0
     have tt:sl a 22 = .pointer (some ⟨b',o' + i * 2,none⟩):=hp 6 (by decide)
     have dd0:=(hb.cell (p:=⟨b',o' + i * 2,none⟩) (lt_of_cell E3)).trans E3
     have dd1:=(hb.cell (p:=⟨b',o' + i * 2 + 1,none⟩) (lt_of_cell E4)).trans E4
     refine ite_y rfl (wp_val (.agg #[.slice q3 m3 k3,.slice q4 m4 k4]) ?_ ?_)
     ·simp only [execOp,eval_tmp,tt];simp [go_sem,dd0,dd1]
     ·exact ⟨_,rfl,Below.refl _ _,rfl⟩
    ·intro a W hb0 hs hp hi;have hb:=undrew hb0;clear hb0
     have t19:sl a 19 = .agg #[.slice q1 m1 k1,.slice q2 m2 k2]:=hp 3 (by decide)
     have t23:sl a 23 = .agg #[.slice q3 m3 k3,.slice q4 m4 k4]:=hp 7 (by decide)
     refine ite_y rfl (wp_enter 77 #[.agg #[.slice q1 m1 k1,.slice q2 m2 k2],.agg #[.slice q3 m3 k3,.slice q4 m4 k4]] ?_ (HC.out W hb) ?_)
     ·simp only [execOp,resolve,List.map_toArray,List.map,eval_tmp,eval_func,eval_const,t19,t23];simp [go_sem]
     ·rintro e W' ⟨rfl,hw⟩;exact ⟨_,rfl,_,rfl,hw,rfl⟩
    ·intro a W hb0 hs hp hi;have hb:=undrew hb0;clear hb0
     have t24:sl a 24 = .bool true:=hp 8 (by decide)
     refine ite_y rfl (wp_val (.bool false) ?_ ?_)
     ·simp only [execOp,eval_tmp,eval_const,t24];simp [go_sem]
     ·exact ⟨_,rfl,Below.refl _ _,rfl⟩
   intro a w1 hb hs hd hI ht
   have ha:=act_is [16,17,18,19,20,21,22,23,24,25] hs hd ht (by decide)
   have t25:sl a 25 = .bool false:=hI 9 (by decide)
   simp only [List.foldl,t25] at ha
   generalize sl a 16 = u16 at ha
   generalize sl a 17 = u17 at ha
   generalize sl a 18 = u18 at ha
   generalize sl a 19 = u19 at ha
   generalize sl a 20 = u20 at ha
   generalize sl a 21 = u21 at ha
   generalize sl a 22 = u22 at ha
   generalize sl a 23 = u23 at ha
   generalize sl a 24 = u24 at ha
   simp only [Act.put,List.setIfInBounds_toArray,List.set_cons_zero,List.set_cons_succ] at ha
   rw [ha]
   clear ha hI ht
   have HB3:=Lib.hid (bl HB.out hb HB.out.size)
   clear hb HC E1 E2 E3 E4 HB
   go_wp2
   go_roundw
   case rel=>exact ⟨i + 1,HLT.out,by go_num,HB3.out⟩
   case measure=>simp [intOf];have:=HLT.out;omega
  ·obtain rfl:i = n:=by omega
   clear hlt
   go_wp2
   go_ret
   exact ⟨rfl,HB.out⟩
end Go.Proofs.YtccaiiigdfieoaaGreatDoor
namespace Go.By
open Go.RowKit
theorem wp_region_slipV {P:Program} {ops:Array Oper} {Q:Exit→Act→World→Prop} {id:Nat} {a0:Act} {w0:World} (sh:Nat→Shp) (n m e d:Nat) (u:Value) (hn:a0.tmps.size = n) (hm:P.follows .mixedOrders = true) (hback:backB ops = true) (hdist:distB ops = true)
  (htail:slipB ops m e = true) (oe:Oper) (hoe:ops[e]? = some oe) (hge:oe.guard = none) (hde:oe.dst = some d) (hdn:d < n) (hshe:sh e = Shp.val u)
  (hdsts:dstsB (ops.extract 0 m) n = true)
  (each:EachS P ops Q a0 w0.drew sh (ops.toList.take m) 0)
  (fin:∀ a w o,ops[m]? = some o→Below w0.heap.size w0 w→a.tmps.size = a0.tmps.size→a.defers = a0.defers→(∀ j,j < m→j≠e→InvS ops sh j (sl a) w)→(∀ t,(ops.toList.all fun o=>o.dst != some t) = true→sl a t = sl a0 t) →
   (∀ w',(execOp a.eval oe).run P w' = .ok (.value u) w')∧o.wp P a w (fun a' w'=>a' = a∧∀ b:Act,b.tmps.size = a0.tmps.size→b.defers = a0.defers→(∀ t',t'≠d→sl b t' = sl a t')→sl b d = u→wpList P ops Q (ops.toList.drop (m + 1)) b w') Q) :
  (Code.region id ops true).wp P Q a0 w0:=by
 unfold slipB at htail
 simp only [Bool.and_eq_true,decide_eq_true_eq] at htail
 obtain ⟨⟨⟨⟨⟨hm1,hem⟩,hl2⟩,hl3⟩,htl⟩,hch⟩:=htail
 have hm':m < ops.size:=by omega
 obtain ⟨ol,hol⟩:∃ ol,ops[m]? = some ol:=⟨_,Array.getElem?_eq_getElem hm'⟩
 rw [hol] at hl2
 simp only [Bool.and_eq_true] at hl2
 have hguard:ol.guard = none:=by cases hg:ol.guard <;> simp [hg] at hl2 ⊢
 have hdst:ol.dst = none:=by cases hg:ol.dst <;> simp [hg] at hl2 ⊢
 obtain ⟨on,hon⟩:∃ on,ops[m + 1]? = some on:=⟨_,Array.getElem?_eq_getElem hm1⟩
 rw [hon] at hl3
 have hne:e ∈ preds on:=by simpa using hl3
 have hchain:∀ j o,m < j→ops[j]? = some o→(preds o).contains (j - 1) = true:=fun j o hj ho=>by
  have:=List.all_eq_true.1 hch j (List.mem_range.2 (Array.getElem?_eq_some_iff.1 ho).1)
  rw [ho] at this
  simpa [hj] using this
 have hpl:∀ i,i < m→i≠e→∃ j o,i < j∧j≤m∧j≠e∧ops[j]? = some o∧i ∈ preds o:=fun i hi hie=>by
  have h0:=List.all_eq_true.1 htl i (List.mem_range.2 hi)
  rw [Bool.or_eq_true] at h0
  have h0':=h0.resolve_left (by simpa using hie)
  obtain ⟨j,hj,h⟩:=List.any_eq_true.1 h0'
  have hjm:=List.mem_range.1 hj
  simp only [Bool.and_eq_true,decide_eq_true_eq] at h
  obtain ⟨oj,hoj⟩:∃ oj,ops[j]? = some oj:=⟨_,Array.getElem?_eq_getElem (by omega)⟩
  have h2:=h.2
  rw [hoj] at h2
  exact ⟨j,oj,h.1.1,by omega,by simpa using h.1.2,hoj,by simpa using h2⟩
 have hE:=each_of (Q:=Q) (P:=P) (a0:=a0) (W0:=w0.drew) (sh:=sh) hn (ops.toList.take m) 0 (fun j o hj=>by
   rw [List.getElem?_take] at hj;split at hj
   ·simpa using hj
   ·cases hj) (by
   unfold dstsB at hdsts
   have e:(ops.extract 0 m).toList = ops.toList.take m:=by simp
   rw [e] at hdsts;exact hdsts) each
 have stepAt:∀ i o,i < m→ops[i]? = some o→StepOf P ops Q a0 w0.drew (fun W w=>Below W.heap.size W w) (fun _ w w'=>Below w.heap.size w w') (InvS ops sh) i o:=fun i o hi ho=>by
  have:=Each.get _ 0 hE i o (by rw [List.getElem?_take,if_pos hi];simpa using ho)
  rwa [Nat.zero_add] at this
 have stable:∀ i j oi oj (σ σ':Nat→Value) w w',i≠j→ops[i]? = some oi→ops[j]? = some oj→InvS ops sh j σ w→Below w.heap.size w w'→(∀ t,oi.dst≠some t→σ' t = σ t)→InvS ops sh j σ' w':=by
  intro i j oi oj σ σ' w w' hij hoi hoj hI hR hσ
  unfold InvS at hI ⊢
  cases hdj:dstOf ops j with
  | none=>trivial
  | some d =>
   rw [hdj] at hI
   show (sh j).ok (σ' d) w'
   have hne:oi.dst≠some d:=by
    intro e
    have hi':i < ops.size:=(Array.getElem?_eq_some_iff.1 hoi).1
    have hj':j < ops.size:=(Array.getElem?_eq_some_iff.1 hoj).1
    have:=List.all_eq_true.1 (List.all_eq_true.1 hdist i (List.mem_range.2 hi')) j (List.mem_range.2 hj')
    rw [hoi,hoj] at this
    have hdj':oj.dst = some d:=by simpa [dstOf,hoj] using hdj
    simp [e,hdj',hij] at this
   rw [hσ d hne]
   exact (sh j).keep _ _ _ hI hR
 refine wp_region_any hm ?_
 show wpAny P .any ops Q ops.size (Array.replicate ops.size false) a0 w0.drew
 have main:∀ (fuel:Nat) (listed:Array Bool) (a:Act) (w:World),unl ops.size listed≤fuel→listed.getD m true = false→Below w0.heap.size w0 w→a.tmps.size = a0.tmps.size→a.defers = a0.defers →
   (∀ j o,listed.getD j false = true→ops[j]? = some o→∀ k,k ∈ preds o→listed.getD k false = true) →
   (∀ j,j < ops.size→listed.getD j true = true→listed.getD j false = true) →
   (∀ j,j < m→listed.getD j false = true→InvS ops sh j (sl a) w) →
   (∀ t,(∀ j o,j < m→listed.getD j false = true→ops[j]? = some o→o.dst≠some t)→sl a t = sl a0 t)→wpAny P .any ops Q fuel listed a w:=by
  intro fuel
  induction fuel with
  | zero =>
   intro listed a w hu hlm
   exfalso
   have h0:unl ops.size listed = 0:=by omega
   unfold unl at h0
   have:=List.countP_eq_zero.1 h0 m (List.mem_range.2 hm')
   simp [hlm] at this
  | succ fuel ih =>
   intro listed a w hu hlm hEw hs hd hcl hlt hI ht
   have hup:∀ d j,j = m + d→j < ops.size→listed.getD j false = true→False:=by
    intro d
    induction d with
    | zero=>intro j e hj hl;rw [show j = m by omega] at hl;exact (getD_both hlm).1 hl
    | succ d ihd =>
     intro j e hj hl
     have hoj:ops[j]? = some ops[j]:=Array.getElem?_eq_getElem hj
     exact ihd (j - 1) (by omega) (by omega) (hcl j _ hl hoj (j - 1) (by simpa using hchain j _ (by omega) hoj))
   refine ⟨fun hr=>?_,fun i hi=>?_⟩
   ·exfalso
    have hall:∀ k j,j < k→j < ops.size→listed.getD j false = true:=by
     intro k
     induction k with
     | zero=>intro j hj;omega
     | succ k ihk =>
      intro j hj hjs
      refine hlt j hjs ?_
      cases hb:listed.getD j true with
      | true=>rfl
      | false =>
       exfalso
       have ho:ops[j]? = some ops[j]:=Array.getElem?_eq_getElem hjs
       have:j ∈ Region.ready .any ops listed:=mem_ready.2 ⟨hjs,hb,_,ho,fun q hq=>by
        have hbk:=List.all_eq_true.1 hback j (List.mem_range.2 hjs)
        rw [ho] at hbk
        have hkj:=of_decide_eq_true (List.all_eq_true.1 hbk q hq)
        exact ihk q (by omega) (by omega)⟩
       rw [hr] at this;cases this
    have hx:=hall (m + 1) m (by omega) hm'
    rcases Nat.lt_or_ge m listed.size with h | h
    ·simp [Array.getD_eq_getD_getElem?,h] at hlm hx;rw [hlm] at hx;cases hx
    ·simp [Array.getD_eq_getD_getElem?,Array.getElem?_eq_none h] at hx
   ·obtain ⟨h1,h2,o,ho,h3⟩:=mem_ready.1 hi
    have hnl:listed.getD i false≠true:=by
     intro hx
     rcases Nat.lt_or_ge i listed.size with h | h
     ·simp [Array.getD_eq_getD_getElem?,h] at h2 hx;rw [h2] at hx;cases hx
     ·simp [Array.getD_eq_getD_getElem?,Array.getElem?_eq_none h] at hx
    have his:i < listed.size:=by
     rcases Nat.lt_or_ge i listed.size with h | h
     ·exact h
     ·simp [Array.getD_eq_getD_getElem?,Array.getElem?_eq_none h] at h2
    have gset:∀ j (d:Bool),(listed.setIfInBounds i true).getD j d = if i = j then true else listed.getD j d:=by
     intro j d
     simp only [Array.getD_eq_getD_getElem?,Array.getElem?_setIfInBounds]
     by_cases e:i = j
     ·subst e;simp [his]
     ·simp [e]
    by_cases him:i = m
    ·subst him
     rw [hol] at ho;cases ho
     have hdown:∀ d j,i - j≤d→j < i→j≠e→listed.getD j false = true:=by
      intro d
      induction d with
      | zero=>intro j h4 h5;omega
      | succ d ihd =>
       intro j h4 h5 h6
       obtain ⟨j2,o2,g1,g2,g5,g3,g4⟩:=hpl j h5 h6
       by_cases e2:j2 = i
       ·subst e2;rw [hol] at g3;cases g3;exact h3 j g4
       ·exact hcl j2 o2 (ihd j2 (by omega) (by omega) g5) g3 j g4
     have hdn':∀ j,j < i→j≠e→listed.getD j false = true:=fun j hj hje=>hdown i j (by omega) hj hje
     obtain ⟨hx,hf⟩:=fin a w ol hol hEw hs hd (fun j hj hje=>hI j hj (hdn' j hj hje)) (fun t htt=>ht t (fun j oj hj _ hoj=>by
      have:=List.all_eq_true.1 htt oj (by rw [Array.mem_toList_iff];exact Array.mem_of_getElem? hoj)
      simpa using this))
     have htrue:∀ j,listed.getD j false = true→listed.getD j true = true:=fun j hj=>by
      cases hb:listed.getD j true with
      | true=>rfl
      | false=>exact absurd hj (getD_both hb).1
     have hfu:=unl_set (n:=ops.size) h1 h2
     unfold wpOp
     rw [hol]
     show if Region.wanted ol (yielded ops a.tmps) = true then _ else _
     rw [if_pos (by simp [Region.wanted,hguard])]
     refine .inl (Oper.wp_mono (fun a' w' hq=>?_) hf)
     obtain ⟨rfl,hq⟩:=hq
     cases hle:listed.getD e false with
     | true =>
      have hIe:=hI e hem hle
      have hud:sl a' d = u:=by
       unfold InvS at hIe
       rw [show dstOf ops e = some d by simp [dstOf,hoe,hde]] at hIe
       rw [hshe] at hIe
       exact hIe
      refine wpAny_tail (m:=i) hback hchain fuel (i + 1) _ a' w' (by omega) (by omega) (fun j hj hjs=>?_) (fun j hj hjs=>?_) (hq a' hs hd (fun _ _=>rfl) hud)
      ·rw [gset,gset]
       by_cases e3:i = j
       ·rw [if_pos e3,if_pos e3];exact ⟨rfl,rfl⟩
       ·rw [if_neg e3,if_neg e3]
        have hjl:listed.getD j false = true:=by
         by_cases e4:j = e
         ·rw [e4];exact hle
         ·exact hdn' j (by omega) e4
        exact ⟨hjl,htrue j hjl⟩
      ·rw [gset,if_neg (by omega)]
       cases hb:listed.getD j true with
       | false=>rfl
       | true=>exact (hup (j - i) j (by omega) hjs (hlt j hjs hb)).elim
     | false =>
      have hes:e < ops.size:=by omega
      have hleT:listed.getD e true = false:=by
       cases hb:listed.getD e true with
       | false=>rfl
       | true=>rw [hlt e hes hb] at hle;cases hle
      have gse:(listed.setIfInBounds i true).getD e true = false:=by rw [gset,if_neg (by omega)];exact hleT
      have hpe:∀ k,k ∈ preds oe→(listed.setIfInBounds i true).getD k false = true:=fun k hk=>by
       have hbk:=List.all_eq_true.1 hback e (List.mem_range.2 hes)
       rw [hoe] at hbk
       have hke:=of_decide_eq_true (List.all_eq_true.1 hbk k hk)
       rw [gset]
       by_cases e3:i = k
       ·rw [if_pos e3]
       ·rw [if_neg e3];exact hdn' k (by omega) (by omega)
      have hin:e ∈ Region.ready .any ops (listed.setIfInBounds i true):=mem_ready.2 ⟨hes,gse,oe,hoe,hpe⟩
      have hu2:unl ops.size (listed.setIfInBounds i true)≤fuel:=by omega
      cases fuel with
      | zero =>
       exfalso
       have h0:unl ops.size (listed.setIfInBounds i true) = 0:=by omega
       unfold unl at h0
       have:=List.countP_eq_zero.1 h0 e (List.mem_range.2 hes)
       simp [gse] at this
      | succ fuel =>
       refine ⟨fun hr=>by rw [hr] at hin;simp at hin,fun k hk=>?_⟩
       obtain ⟨k1,k2,ok,hok,k3⟩:=mem_ready.1 hk
       obtain ⟨knl,kis⟩:=getD_both k2
       have hke:k = e:=by
        apply Classical.byContradiction
        intro hne'
        rcases Nat.lt_trichotomy k i with hlt' | heq | hgt
        ·exact knl (by rw [gset,if_neg (by omega)];exact hdn' k hlt' hne')
        ·subst heq;exact knl (by rw [gset,if_pos rfl])
        ·by_cases hk1:k = i + 1
         ·subst hk1
          rw [hon] at hok;cases hok
          have:=k3 e hne
          exact (getD_both gse).1 this
         ·have:=k3 (k - 1) (by simpa using hchain k ok (by omega) hok)
          rw [gset,if_neg (by omega)] at this
          exact hup (k - 1 - i) (k - 1) (by omega) (by omega) this
       subst hke
       rw [hoe] at hok;cases hok
       unfold wpOp
       rw [hoe]
       show if Region.wanted oe (yielded ops a'.tmps) = true then _ else _
       rw [if_pos (by simp [Region.wanted,hge])]
       have hr:=hx w'
       refine .inl ?_
       refine wp_val u hr ?_
       rw [hde]
       have gset2:∀ j (dd:Bool),((listed.setIfInBounds i true).setIfInBounds k true).getD j dd = if k = j then true else (listed.setIfInBounds i true).getD j dd:=by
        intro j dd
        simp only [Array.getD_eq_getD_getElem?,Array.getElem?_setIfInBounds]
        by_cases e5:k = j
        ·subst e5;simp at kis;simp [kis]
        ·simp [e5]
       refine wpAny_tail (m:=i) hback hchain fuel (i + 1) _ _ w' (by omega) (by have:=unl_set (n:=ops.size) k1 k2;omega) (fun j hj hjs=>?_) (fun j hj hjs=>?_) (hq (a'.put (some d) u) ((put_size _ _ _).trans hs) ((put_defers _ _ _).trans hd) (fun t' ht'=>put_sl _ _ _ _ (fun ee=>ht' (Option.some.inj ee).symm)) (put_same _ _ _ (by rw [hs,hn];exact hdn)))
       ·rw [gset2,gset2]
        by_cases e3:k = j
        ·rw [if_pos e3,if_pos e3];exact ⟨rfl,rfl⟩
        ·rw [if_neg e3,if_neg e3,gset,gset]
         by_cases e4:i = j
         ·rw [if_pos e4,if_pos e4];exact ⟨rfl,rfl⟩
         ·rw [if_neg e4,if_neg e4]
          have hjl:=hdn' j (by omega) (fun e9=>e3 e9.symm)
          exact ⟨hjl,htrue j hjl⟩
       ·rw [gset2,if_neg (by omega),gset,if_neg (by omega)]
        cases hb:listed.getD j true with
        | false=>rfl
        | true=>exact (hup (j - i) j (by omega) hjs (hlt j hjs hb)).elim
    ·have him':i < m:=by
      rcases Nat.lt_or_ge i m with hx | hx
      ·exact hx
      ·exact (hup (i - 1 - m) (i - 1) (by omega) (by omega) (h3 (i - 1) (by simpa using hchain i o (by omega) ho))).elim
     have hst:=stepAt i o him' ho
     have hst':=hst a w ⟨hEw.os,hEw.tape,hEw.output,hEw.size,hEw.block⟩ hs (fun k hk=>hI k (by
       have hbk:=List.all_eq_true.1 hback i (List.mem_range.2 h1)
       rw [ho] at hbk
       have:=of_decide_eq_true (List.all_eq_true.1 hbk k hk);omega) (h3 k hk)) (fun t hti=>by
      refine ht t (fun j oj hj hlj hoj hdj=>?_)
      have:=List.all_eq_true.1 hti j (List.mem_range.2 (by omega))
      rw [hoj] at this
      by_cases e:j = i
      ·subst e;exact hnl hlj
      ·simp [e,hdj] at this
       exact hnl (hcl j oj hlj hoj i this))
     have next:∀ (v:Value) (w':World),Below w.heap.size w w'→InvS ops sh i (sl (a.put o.dst v)) w'→wpAny P .any ops Q fuel (listed.setIfInBounds i true) (a.put o.dst v) w':=by
      intro v w' hR hIi
      refine ih _ _ _ (by have:=unl_set (n:=ops.size) h1 h2;omega) (by rw [gset,if_neg him];exact hlm) (hEw.trans (hR.mono hEw.size)) ((put_size _ _ _).trans hs) ((put_defers _ _ _).trans hd) ?_ ?_ ?_ ?_
      ·intro j oj hj hoj k hk
       rw [gset] at hj ⊢
       by_cases e:i = k
       ·rw [if_pos e]
       ·rw [if_neg e]
        by_cases e':i = j
        ·subst e';rw [ho] at hoj;cases hoj;exact h3 k hk
        ·rw [if_neg e'] at hj;exact hcl j oj hj hoj k hk
      ·intro j hj hl
       rw [gset] at hl ⊢
       by_cases e:i = j
       ·rw [if_pos e]
       ·rw [if_neg e] at hl ⊢;exact hlt j hj hl
      ·intro j hj hl
       rw [gset] at hl
       by_cases e:i = j
       ·subst e;exact hIi
       ·rw [if_neg e] at hl
        have hoj:ops[j]? = some ops[j]:=Array.getElem?_eq_getElem (by omega)
        exact stable i j o _ (sl a) _ w w' e ho hoj (hI j hj hl) hR (fun t h=>put_sl _ _ _ _ h)
      ·intro t htt
       have hdt:o.dst≠some t:=htt i o him' (by rw [gset,if_pos rfl]) ho
       rw [put_sl _ _ _ _ hdt]
       exact ht t (fun j oj hj hl hoj=>htt j oj hj (by rw [gset];split <;> simp [hl]) hoj)
     unfold wpOp
     rw [ho]
     show if Region.wanted o (yielded ops a.tmps) = true then _ else _
     split
     ·rename_i hw
      rw [if_pos hw] at hst'
      exact .inl (Oper.wp_mono (fun a' w' ⟨v,e,hR,hIi⟩=>by rw [e] at hIi ⊢;exact next v w' hR hIi) hst')
     ·rename_i hw
      rw [if_neg hw] at hst'
      exact next undef w hst'.1 hst'.2
 refine main ops.size _ a0 w0.drew ?_ ?_ ⟨rfl,rfl,rfl,Nat.le_refl _,fun _ _=>rfl⟩ rfl rfl ?_ ?_ ?_ ?_
 ·unfold unl;exact Nat.le_trans List.countP_le_length (by simp)
 ·simp [Array.getD_eq_getD_getElem?,Array.getElem?_replicate,hm']
 ·intro j o hj;simp [Array.getD_eq_getD_getElem?,Array.getElem?_replicate] at hj
  split at hj <;> simp at hj
 ·intro j hj hl;simp [Array.getD_eq_getD_getElem?,Array.getElem?_replicate,hj] at hl
 ·intro j hj hl;simp [Array.getD_eq_getD_getElem?,Array.getElem?_replicate,show j < ops.size by omega] at hl
 ·intro t _;rfl
end Go.By
namespace Go.Proofs.YtccaiiigdfieoaaGreatDoor
open Go.RowKit Go.By
end Go.Proofs.YtccaiiigdfieoaaGreatDoor
namespace Go.By
open Go.RowKit
theorem KeepR.owns {w w':World} {b2 T e n:Nat} {v:Value} {ys:List Value} (h:∀ (b:Nat) (cs:Array Value) (fr:Nat × Nat),w.heap[b]? = some (.cells cs T fr)→w'.heap[b]? = w.heap[b]?) (hs:w.heap.size≤w'.heap.size) (ho:w.ownsRow b2 T e v n ys):w'.ownsRow b2 T e v n ys :=
 owns_same ho hs fun g hg=>by
  rcases ho.2 with ⟨e1,_⟩ | ⟨g',cap,cur,e1,_,hh,_⟩
  ·rw [e1] at hg;cases hg
  ·rw [e1] at hg;cases hg
   exact h _ _ _ hh
end Go.By
namespace Go.Proofs.YtccaiiigdfieoaaGreatDoor
open Go.RowKit Go.By Gf Go.Maps
end Go.Proofs.YtccaiiigdfieoaaGreatDoor
namespace Go.By
open Go.RowKit Go.Proofs.YtccaiiigdfieoaaGreatDoor
end Go.By
namespace Go.Proofs.YtccaiiigdfieoaaGreatDoor
open Go.RowKit Go.By Gf Go.Maps
end Go.Proofs.YtccaiiigdfieoaaGreatDoor
namespace Go.Proofs.YtccaiiigdfieoaaGreatDoor
open Go.RowKit Go.By Gf Go.Maps
end Go.Proofs.YtccaiiigdfieoaaGreatDoor
namespace Go.Proofs.YtccaiiigdfieoaaGreatDoor
open Go.RowKit Go.By Gf Go.Maps
set_option maxRecDepth 100000 in
set_option maxHeartbeats 2000000 in
theorem TSmall_ok (q0:Option Addr) (n0 c0:Nat) (s k d:Int) (w:World) (hn:n0≤9223372036854775807) (hof:ofS n0 s d = .tuple #[.agg #[.int .i64 n0,.int .i64 s,.int .i64 k,.int .u32 d],.int .i64 0]) :
  Calls Tryz.prog 12 #[.slice q0 n0 c0,.int .i64 s,.int .u32 d] w fun e w'=>e = .returned (.tuple #[.agg #[.int .i64 n0,.int .i64 s,.int .i64 k,.int .u32 d],.bool (small19 n0 s k)])∧Below w.heap.size w w':=by
 have HOf:Hid (∀ w,Calls Tryz.prog 44 #[.int .i64 (n0:Nat),.int .i64 s,.int .u32 d] w fun e w'=>e = .returned (.tuple #[.agg #[.int .i64 n0,.int .i64 s,.int .i64 k,.int .u32 d],.int .i64 0])∧Below w.heap.size w w'):=fun w=>by
  have:=POf_any (n0:Int) s d w (by omega)
  rw [hof] at this;exact this
 have HSm:=Lib.hid (fun w=>Small19_any (n0:Int) s k d w (by omega))
 clear hof
 generalize small19 n0 s k = S at *
 go_enter Tryz.func12,Tryz.ntmps12
 go_wp2_with fail
 refine Calls.mono (HOf.out _) ?_
 rintro e w1 ⟨rfl,hb⟩
 obtain ⟨hb1,k6,-⟩:=one_of hb
 have ba:Below w1.heap.size w1 (w1.alloc (.cells #[.int .i64 n0,.int .i64 s,.int .i64 k,.int .u32 d] 27 (0,0))):=al (Below.refl _ _) (Nat.le_refl _)
 have HB2:=Lib.hid (bl hb1 ba hb1.size)
 have k8:(w1.alloc (.cells #[.int .i64 n0,.int .i64 s,.int .i64 k,.int .u32 d] 27 (0,0))).heap[w1.heap.size]? = some (.cells #[.int .i64 n0,.int .i64 s,.int .i64 k,.int .u32 d] 27 (0,0)):=hnew rfl
 have k62:=(ba.block _ (lt_of_block k6)).trans k6
 obtain ⟨g6,hg6⟩:∃ g6,g6 = w.heap.size:=⟨_,rfl⟩
 obtain ⟨g8,hg8⟩:∃ g8,g8 = w1.heap.size:=⟨_,rfl⟩
 rw [← hg6] at k62 ⊢
 rw [← hg8] at k8
 clear hb hb1 ba k6
 go_wp2
 rw [← hg8,← hg6]
 generalize w1.alloc (.cells #[.int .i64 n0,.int .i64 s,.int .i64 k,.int .u32 d] 27 (0,0)) = w2 at *
 obtain ⟨z0,z1,z2,z3⟩:=cells_four k8
 have HG6:=Lib.hid (Nat.le_of_eq hg6.symm)
 clear hg8 hg6
 refine wp_region_slipV (fun ix=>([.val (.agg #[.int .i64 n0,.int .i64 s,.int .i64 k,.int .u32 d]),.val (.int .i64 0),.val (.bool true),.val (.bool true),.val (.agg #[.int .i64 n0,.int .i64 s,.int .i64 k,.int .u32 d]),.val (.bool S),.val (.bool S),.any,.any][ix]?).getD (.any)) 25 7 6 24 (.bool S) rfl (by kernel_rfl) (by decide +kernel) (by decide +kernel) (by decide +kernel) _ rfl rfl rfl (by decide) rfl (by decide) ?_ ?_
 ·refine ⟨?_,?_,?_,?_,?_,?_,?_,trivial⟩
  ·intro a W hb0 hs hp hi;have hb:=undrew hb0;clear hb0
   have tt:sl a 8 = .pointer (some ⟨g8,0,none⟩):=hi 8 (by decide)
   have dd0:=(hb.cell (p:=⟨g8,0,none⟩) (lt_of_cell z0)).trans z0
   have dd1:=(hb.cell (p:=⟨g8,1,none⟩) (lt_of_cell z1)).trans z1
   have dd2:=(hb.cell (p:=⟨g8,2,none⟩) (lt_of_cell z2)).trans z2
   have dd3:=(hb.cell (p:=⟨g8,3,none⟩) (lt_of_cell z3)).trans z3
   refine ite_y rfl (wp_val (.agg #[.int .i64 n0,.int .i64 s,.int .i64 k,.int .u32 d]) ?_ ?_)
   ·simp only [execOp,eval_tmp,tt];simp [go_sem,dd0,dd1,dd2,dd3]
   ·exact ⟨_,rfl,Below.refl _ _,rfl⟩
  ·intro a W hb0 hs hp hi;have hb:=undrew hb0;clear hb0
   have t9:sl a 9 = .int .i64 0:=hi 9 (by decide)
   exact ite_y rfl (wp_val (sl a 9) rfl ⟨_,rfl,Below.refl _ _,t9⟩)
  ·intro a W hb0 hs hp hi;have hb:=undrew hb0;clear hb0
   have t19:sl a 19 = .int .i64 0:=hp 1 (by decide)
   refine ite_y rfl (wp_val (.bool true) ?_ ?_)
   ·simp only [execOp,eval_tmp,eval_const,t19];simp [go_sem]
   ·exact ⟨_,rfl,Below.refl _ _,rfl⟩
  ·intro a W hb0 hs hp hi;have hb:=undrew hb0;clear hb0
   have t20:sl a 20 = .bool true:=hp 2 (by decide)
   exact ite_y rfl (wp_val (sl a 20) rfl ⟨_,rfl,Below.refl _ _,t20⟩)
  ·intro a W hb0 hs hp hi;have hb:=undrew hb0;clear hb0
   have tg:sl a 21 = .bool true:=hp 3 (by decide)
   have tt:sl a 8 = .pointer (some ⟨g8,0,none⟩):=hi 8 (by decide)
   have dd0:=(hb.cell (p:=⟨g8,0,none⟩) (lt_of_cell z0)).trans z0
   have dd1:=(hb.cell (p:=⟨g8,1,none⟩) (lt_of_cell z1)).trans z1
   have dd2:=(hb.cell (p:=⟨g8,2,none⟩) (lt_of_cell z2)).trans z2
   have dd3:=(hb.cell (p:=⟨g8,3,none⟩) (lt_of_cell z3)).trans z3
   refine ite_y (wanted_yes rfl rfl (by have hz:a.tmps.size = 25:=hs;rw [hz];decide) tg) (wp_val (.agg #[.int .i64 n0,.int .i64 s,.int .i64 k,.int .u32 d]) ?_ ?_)
   ·simp only [execOp,eval_tmp,tt];simp [go_sem,dd0,dd1,dd2,dd3]
   ·exact ⟨_,rfl,Below.refl _ _,rfl⟩
  ·intro a W hb0 hs hp hi;have hb:=undrew hb0;clear hb0
   have tg:sl a 21 = .bool true:=hp 3 (by decide)
   have t22:sl a 22 = .agg #[.int .i64 n0,.int .i64 s,.int .i64 k,.int .u32 d]:=hp 4 (by decide)
   refine ite_y (wanted_yes rfl rfl (by have hz:a.tmps.size = 25:=hs;rw [hz];decide) tg) (wp_enter 26 #[.agg #[.int .i64 n0,.int .i64 s,.int .i64 k,.int .u32 d]] ?_ (HSm.out _) ?_)
   ·simp only [execOp,resolve,List.map_toArray,List.map,eval_tmp,eval_func,eval_const,t22];simp [go_sem]
   ·rintro e W' ⟨rfl,hw⟩;exact ⟨_,rfl,_,rfl,hw,rfl⟩
  ·intro a W hb0 hs hp hi;have hb:=undrew hb0;clear hb0
   have t21:sl a 21 = .bool true:=hp 3 (by decide)
   have t23:sl a 23 = .bool S:=hp 5 (by decide)
   refine ite_y rfl (wp_val (.bool S) ?_ ?_)
   ·simp only [execOp,eval_tmp,eval_const,t21,t23];simp [go_sem]
   ·exact ⟨_,rfl,Below.refl _ _,rfl⟩
 intro a w3 o ho hb hs hd hI ht
 simp at ho;subst ho
 have t6:sl a 6 = .pointer (some ⟨g6,0,none⟩):=ht 6 (by decide)
 have t18:sl a 18 = .agg #[.int .i64 n0,.int .i64 s,.int .i64 k,.int .u32 d]:=hI 0 (by decide) (by decide)
 have t21:sl a 21 = .bool true:=hI 3 (by decide) (by decide)
 have t23:sl a 23 = .bool S:=hI 5 (by decide) (by decide)
 have v21:a.tmps[21]?.getD undef = .bool true:=by simpa [sl] using t21
 have v23:a.tmps[23]?.getD undef = .bool S:=by simpa [sl] using t23
 have k63:=(hb.block _ (lt_of_block k62)).trans k62
 have HB3:Below w.heap.size w w3:=bl HB2.out hb HB2.out.size
 refine ⟨fun w'=>?_,?_⟩
 ·simp [execOp,eval_tmp,eval_const,go_sem,v21,v23]
 refine wp_store_row 27 (.tmp 6) (.tmp 18) rfl g6 #[.int .i64 n0,.int .i64 s,.int .i64 k,.int .u32 d] (by rw [eval_tmp];exact t6) (by rw [eval_tmp];exact t18) _ _ k63 info_plan rfl (by simp [Value.oneCell']) ?_
 refine ⟨rfl,fun ab hbs hbd hbt hbu=>?_⟩
 have ha:=act_is [18,19,20,21,22,23,24,7] hbs hbd (fun t h=>(hbt t (fun e=>by subst e;revert h;decide)).trans (ht t h)) (by decide)
 simp only [List.foldl,hbu] at ha
 generalize sl ab 18 = u18 at ha
 generalize sl ab 19 = u19 at ha
 generalize sl ab 20 = u20 at ha
 generalize sl ab 21 = u21 at ha
 generalize sl ab 22 = u22 at ha
 generalize sl ab 23 = u23 at ha
 generalize sl ab 7 = u7 at ha
 simp only [Act.put,List.setIfInBounds_toArray,List.set_cons_zero,List.set_cons_succ] at ha
 rw [ha];clear ha hbu hbt hbs hbd hI ht hs hd
 simp only [List.drop_succ_cons,List.drop_zero]
 go_wp2
 exact bodyPost_ret (res_ct rfl _ _ _ 27 #[.int .i64 n0,.int .i64 s,.int .i64 k,.int .u32 d] (0,0) _ (.bool S) rfl (hrs k63) rfl Tryz.underlying27 rfl info_plan) rfl ⟨rfl,below_row HB3 HG6.out⟩
set_option maxRecDepth 100000 in
set_option maxHeartbeats 2000000 in
theorem TSmall_bad (q0:Option Addr) (n0 c0:Nat) (s d:Int) (w:World) (hn:n0≤9223372036854775807) (hf:fitS n0 s≠0) :
  Calls Tryz.prog 12 #[.slice q0 n0 c0,.int .i64 s,.int .u32 d] w fun e w'=>e = .returned (.tuple #[.agg #[.int .i64 0,.int .i64 0,.int .i64 0,.int .u32 0],.bool false])∧Below w.heap.size w w':=by
 have HOf:Hid (∀ w,Calls Tryz.prog 44 #[.int .i64 (n0:Nat),.int .i64 s,.int .u32 d] w fun e w'=>e = .returned (.tuple #[.agg #[.int .i64 0,.int .i64 0,.int .i64 0,.int .u32 0],.int .i64 (fitS n0 s)])∧Below w.heap.size w w'):=fun w=>by
  have:=POf_any (n0:Int) s d w (by omega)
  rw [of_none hf] at this;exact this
 have hz:(fitS n0 s == 0) = false:=beq_eq_false_iff_ne.2 hf
 clear hf
 generalize fitS n0 s = F at *
 go_enter Tryz.func12,Tryz.ntmps12
 go_wp2_with fail
 refine Calls.mono (HOf.out _) ?_
 rintro e w1 ⟨rfl,hb⟩
 obtain ⟨hb1,k6,-⟩:=one_of hb
 have ba:Below w1.heap.size w1 (w1.alloc (.cells #[.int .i64 0,.int .i64 0,.int .i64 0,.int .u32 0] 27 (0,0))):=al (Below.refl _ _) (Nat.le_refl _)
 have HB2:=Lib.hid (bl hb1 ba hb1.size)
 have k8:(w1.alloc (.cells #[.int .i64 0,.int .i64 0,.int .i64 0,.int .u32 0] 27 (0,0))).heap[w1.heap.size]? = some (.cells #[.int .i64 0,.int .i64 0,.int .i64 0,.int .u32 0] 27 (0,0)):=hnew rfl
 have k62:=(ba.block _ (lt_of_block k6)).trans k6
 obtain ⟨g6,hg6⟩:∃ g6,g6 = w.heap.size:=⟨_,rfl⟩
 obtain ⟨g8,hg8⟩:∃ g8,g8 = w1.heap.size:=⟨_,rfl⟩
 rw [← hg6] at k62 ⊢
 rw [← hg8] at k8
 clear hb hb1 ba k6
 go_wp2
 rw [← hg8,← hg6]
 generalize w1.alloc (.cells #[.int .i64 0,.int .i64 0,.int .i64 0,.int .u32 0] 27 (0,0)) = w2 at *
 obtain ⟨z0,z1,z2,z3⟩:=cells_four k8
 have HG6:=Lib.hid (Nat.le_of_eq hg6.symm)
 clear hg8 hg6
 refine wp_region_slipV (fun ix=>([.val (.agg #[.int .i64 0,.int .i64 0,.int .i64 0,.int .u32 0]),.val (.int .i64 F),.val (.bool false),.val (.bool false),.val (undef),.val (undef),.val (.bool false),.any,.any][ix]?).getD (.any)) 25 7 6 24 (.bool false) rfl (by kernel_rfl) (by decide +kernel) (by decide +kernel) (by decide +kernel) _ rfl rfl rfl (by decide) rfl (by decide) ?_ ?_
 ·refine ⟨?_,?_,?_,?_,?_,?_,?_,trivial⟩
  ·intro a W hb0 hs hp hi;have hb:=undrew hb0;clear hb0
   have tt:sl a 8 = .pointer (some ⟨g8,0,none⟩):=hi 8 (by decide)
   have dd0:=(hb.cell (p:=⟨g8,0,none⟩) (lt_of_cell z0)).trans z0
   have dd1:=(hb.cell (p:=⟨g8,1,none⟩) (lt_of_cell z1)).trans z1
   have dd2:=(hb.cell (p:=⟨g8,2,none⟩) (lt_of_cell z2)).trans z2
   have dd3:=(hb.cell (p:=⟨g8,3,none⟩) (lt_of_cell z3)).trans z3
   refine ite_y rfl (wp_val (.agg #[.int .i64 0,.int .i64 0,.int .i64 0,.int .u32 0]) ?_ ?_)
   ·simp only [execOp,eval_tmp,tt];simp [go_sem,dd0,dd1,dd2,dd3]
   ·exact ⟨_,rfl,Below.refl _ _,rfl⟩
  ·intro a W hb0 hs hp hi;have hb:=undrew hb0;clear hb0
   have t9:sl a 9 = .int .i64 F:=hi 9 (by decide)
   exact ite_y rfl (wp_val (sl a 9) rfl ⟨_,rfl,Below.refl _ _,t9⟩)
  ·intro a W hb0 hs hp hi;have hb:=undrew hb0;clear hb0
   have t19:sl a 19 = .int .i64 F:=hp 1 (by decide)
   refine ite_y rfl (wp_val (.bool false) ?_ ?_)
   ·simp only [execOp,eval_tmp,eval_const,t19];simp [go_sem,hz]
   ·exact ⟨_,rfl,Below.refl _ _,rfl⟩
  ·intro a W hb0 hs hp hi;have hb:=undrew hb0;clear hb0
   have t20:sl a 20 = .bool false:=hp 2 (by decide)
   exact ite_y rfl (wp_val (sl a 20) rfl ⟨_,rfl,Below.refl _ _,t20⟩)
  ·intro a W hb0 hs hp hi;have hb:=undrew hb0;clear hb0
   have tg:sl a 21 = .bool false:=hp 3 (by decide)
   exact ite_n (wanted_no rfl rfl (by have hz:a.tmps.size = 25:=hs;rw [hz];decide) tg (by decide)) rfl
  ·intro a W hb0 hs hp hi;have hb:=undrew hb0;clear hb0
   have tg:sl a 21 = .bool false:=hp 3 (by decide)
   exact ite_n (wanted_no rfl rfl (by have hz:a.tmps.size = 25:=hs;rw [hz];decide) tg (by decide)) rfl
  ·intro a W hb0 hs hp hi;have hb:=undrew hb0;clear hb0
   have t21:sl a 21 = .bool false:=hp 3 (by decide)
   have t23:sl a 23 = undef:=hp 5 (by decide)
   refine ite_y rfl (wp_val (.bool false) ?_ ?_)
   ·simp only [execOp,eval_tmp,eval_const,t21,t23];simp [go_sem]
   ·exact ⟨_,rfl,Below.refl _ _,rfl⟩
 intro a w3 o ho hb hs hd hI ht
 simp at ho;subst ho
 have t6:sl a 6 = .pointer (some ⟨g6,0,none⟩):=ht 6 (by decide)
 have t18:sl a 18 = .agg #[.int .i64 0,.int .i64 0,.int .i64 0,.int .u32 0]:=hI 0 (by decide) (by decide)
 have t21:sl a 21 = .bool false:=hI 3 (by decide) (by decide)
 have v21:a.tmps[21]?.getD undef = .bool false:=by simpa [sl] using t21
 have k63:=(hb.block _ (lt_of_block k62)).trans k62
 have HB3:Below w.heap.size w w3:=bl HB2.out hb HB2.out.size
 refine ⟨fun w'=>?_,?_⟩
 ·simp [execOp,eval_tmp,eval_const,go_sem,v21]
 refine wp_store_row 27 (.tmp 6) (.tmp 18) rfl g6 #[.int .i64 0,.int .i64 0,.int .i64 0,.int .u32 0] (by rw [eval_tmp];exact t6) (by rw [eval_tmp];exact t18) _ _ k63 info_plan rfl (by simp [Value.oneCell']) ?_
 refine ⟨rfl,fun ab hbs hbd hbt hbu=>?_⟩
 have ha:=act_is [18,19,20,21,22,23,24,7] hbs hbd (fun t h=>(hbt t (fun e=>by subst e;revert h;decide)).trans (ht t h)) (by decide)
 simp only [List.foldl,hbu] at ha
 generalize sl ab 18 = u18 at ha
 generalize sl ab 19 = u19 at ha
 generalize sl ab 20 = u20 at ha
 generalize sl ab 21 = u21 at ha
 generalize sl ab 22 = u22 at ha
 generalize sl ab 23 = u23 at ha
 generalize sl ab 7 = u7 at ha
 simp only [Act.put,List.setIfInBounds_toArray,List.set_cons_zero,List.set_cons_succ] at ha
 rw [ha];clear ha hbu hbt hbs hbd hI ht hs hd
 simp only [List.drop_succ_cons,List.drop_zero]
 go_wp2
 exact bodyPost_ret (res_ct rfl _ _ _ 27 #[.int .i64 0,.int .i64 0,.int .i64 0,.int .u32 0] (0,0) _ (.bool false) rfl (hrs k63) rfl Tryz.underlying27 rfl info_plan) rfl ⟨rfl,below_row HB3 HG6.out⟩
def fewT (srcs:List SrcD):Bool:=srcs.all (fun a=>decide (a.xs.length≤60)) && decide (srcs.length≤20)
set_option maxRecDepth 100000 in
set_option maxHeartbeats 2000000 in
theorem TFew_any (p1:Option Addr) (n1 c1:Nat) (srcs:List SrcD) (w:World) (h1:SlS w p1 n1 c1 srcs) :
  Calls Tryz.prog 13 #[.slice p1 n1 c1] w fun e w'=>e = .returned (.bool (fewT srcs))∧Below w.heap.size w w':=by
 have H1:=Lib.hid h1
 have hb1:=h1.bound
 have HL:=Lib.hid h1.len
 clear h1
 go_enter Tryz.func13,Tryz.ntmps13
 go_wp2
 go_loopw [7] (fun iv wr=>∃ i:Nat,i≤n1∧iv = .int .i64 (i:Nat)∧Hid (∀ (j:Nat) (a:SrcD),j < i→srcs[j]? = some a→a.xs.length≤60)∧Hid (Below w.heap.size w wr)) (fun iv _=>n1 - (intOf iv).toNat)
 case atStart=>exact ⟨0,Nat.zero_le _,rfl,fun j a hj=>by omega,Below.refl _ _⟩
 case round =>
  obtain ⟨i,hi,rfl,hA,hB⟩:=hrel
  by_cases hlt:i < n1
  ·obtain ⟨b,ob,q,j,c',a,rfl,hga,f0,f1,f2,hs,hs64⟩:=H1.out.at hlt
   have x0:=(hB.out.cell (p:=⟨b,ob + i * 3,none⟩) (lt_of_cell f0)).trans f0
   have x1:=(hB.out.cell (p:=⟨b,ob + i * 3 + 1,none⟩) (lt_of_cell f1)).trans f1
   have x2:=(hB.out.cell (p:=⟨b,ob + i * 3 + 2,none⟩) (lt_of_cell f2)).trans f2
   have hlt':(i:Int) < (n1:Int):=by omega
   have HJ:=Lib.hid hs.len
   have hjb:=hs.bound
   clear f0 f1 f2 hs hlt
   by_cases hj:j≤60
   ·have hj':¬ (60:Int) < (j:Int):=by omega
    have HX:Hid (∀ (j:Nat) (a:SrcD),j < i + 1→srcs[j]? = some a→a.xs.length≤60):=fun j2 a2 h1 h2=>by
     by_cases e:j2 = i
     ·subst e;have:=hga.out.symm.trans h2;cases this;rw [HJ.out];exact hj
     ·exact hA.out j2 a2 (by omega) h2
    have HB':=Lib.hid (al (o:=.cells #[B8 a.m,.slice q j c',.int .u64 (a.s:Nat)] 83 (0,0)) hB.out hB.out.size)
    clear hA hga
    go_wp2
    go_roundw
    case rel=>exact ⟨i + 1,by omega,by go_num,HX.out,HB'.out⟩
    case measure=>simp [intOf];omega
   ·have hj':(60:Int) < (j:Int):=by omega
    have HF:Hid (fewT srcs = false):=by
     show _ = _
     unfold fewT
     have:srcs.all (fun a=>decide (a.xs.length≤60)) = false:=by
      rw [List.all_eq_false];exact ⟨a,List.mem_of_getElem? hga.out,by have:=HJ.out;simp;omega⟩
     rw [this];rfl
    go_wp2
    go_ret
    exact ⟨by rw [HF.out];rfl,al hB.out hB.out.size⟩
  ·have HA:Hid (fewT srcs = decide (n1≤20)):=by
    show _ = _
    unfold fewT
    have:srcs.all (fun a=>decide (a.xs.length≤60)) = true:=List.all_eq_true.2 fun x hx=>by
     obtain ⟨r,hr,e⟩:=List.getElem_of_mem hx
     exact decide_eq_true (hA.out r x (by have:=HL.out;omega) (by rw [List.getElem?_eq_getElem hr,e]))
    rw [this,HL.out];rfl
   have hlt':¬ (i:Int) < (n1:Int):=by omega
   clear hA hlt
   by_cases h3:n1≤20
   ·have h3':(n1:Int)≤20:=by omega
    have HR:Hid (fewT srcs = true):=by show _ = _;rw [HA.out,decide_eq_true h3]
    clear h3
    go_wp2
    go_ret
    exact ⟨by rw [HR.out];rfl,hB.out⟩
   ·have h3':¬ (n1:Int)≤20:=by omega
    have HR:Hid (fewT srcs = false):=by show _ = _;rw [HA.out,decide_eq_false h3]
    clear h3
    go_wp2
    go_ret
    exact ⟨by rw [HR.out];rfl,hB.out⟩
end Go.Proofs.YtccaiiigdfieoaaGreatDoor
