/- Chapter 28: audit.Taker finds nothing. Chapter 28: the document's rules of rows. Chapter 28: AuditRows. Chapter 28: AuditNothing,of a plan that may be. The library's table of powers of ten,out of the row's condition. What the library's variables hold: out of the row's condition,and of the world's shape. The table of the sum,out of the row's condition. What the library's variables hold,for Parse: out of the row's condition. Chapter 28: AuditNothing,of any plan. Arguments that came in: slices of byte slices. -/
import Derived.Test.YtccaiiigdfieoaaGreatDoorZh8
import Derived.Deep.DeepCutAuto
import Derived.Test.YtccaiiigdfieoaaGreatDoorRows
import Derived.Lib.LaidTab
import Derived.Stop.LaidErr
import Derived.Shelf.Vars
import Derived.SizedLaws
import Derived.OpenShut
import Derived.Deep.Matrix
namespace Go.Proofs.YtccaiiigdfieoaaGreatDoor
open Go.RowKit Go.By Go.Maps
theorem PrsK.back {w w' : World} {L t k D st : Nat} {K : List Rw} {e : Ending} (hP : POK L t k D) (hR : Red k t K) (hs : StF k K st) (h : PrsK w (keepT L t k D K st) e w') :
  ∃ base gt be N M v C,e = .returned (.tuple #[.pointer (some ⟨gt,0,none⟩),.int .i64 0]) ∧ w.heap.size ≤ base ∧ Tkr w' base gt be L t k D N M v C K st ∧ Below w.heap.size w w' := by
 have hKl : K.length ≤ k := Red.le hR
 have hk2 := hP.k2
 have hf : ∀ r,r ∈ expR k t K st → Fit k t r := expR_fit fun r hr => (hR.kept.rows r hr).1
 have hel : (expR k t K st).length ≤ 1000000 := by have := expR_len (k := k) (t := t) (st := st) (K := K); omega
 rcases h with ⟨h1,-⟩ | ⟨a,T,h1,h2⟩
 ·rw [keep_lines] at h1; cases h1
 ·rw [keep_lines] at h1
  injection h1 with h1
  injection h1 with e1 e2
  subst e1 e2
  rcases h2 with ⟨h2,-⟩ | ⟨P,h2,h3⟩
  ·rw [keep_pkts] at h2; cases h2
  ·rw [keep_pkts] at h2
   injection h2 with h2
   subst h2
   rcases h3 with ⟨c,hc,h3,-⟩ | ⟨L',t',k',D',hP',h3,h4⟩
   ·rw [keep_plan hP] at h3
    injection h3 with h3
    injection h3 with h3
    injection h3 with _ h3
    injection h3 with h3 _
    injection h3 with _ h3
    exact absurd h3.symm hc
   ·rw [keep_plan hP] at h3
    have e4 : L = L' ∧ t = t' ∧ k = k' ∧ D = D' := by
     simp at h3
     obtain ⟨x1,x2,x3,x4⟩ := h3
     exact ⟨by omega,by omega,by omega,by omega⟩
    obtain ⟨rfl,rfl,rfl,rfl⟩ := e4
    rcases h4 with ⟨-,base,gt,be,M,v,C,h5,h6,h7,h8⟩ | ⟨h4,-⟩
    ·rw [hear_again hR hs hP.k1 hP.t1 hP.d (by omega)] at h7
     exact ⟨base,gt,be,_,M,v,C,h5,h6,h7,h8⟩
    ·exact absurd (impC_exp hf hP.d hel) h4
theorem objX_done {L t k : Nat} {K : List Rw} {st : Nat} (h : st = 1) : (objX L t k K st).length = L := by
 unfold objX; rw [if_pos h]; exact objL_len _ _ _ _
theorem keepT_len {L t k D st : Nat} {K : List Rw} (hP : POK L t k D) (hR : Red k t K) (hk : k ≤ 12) (ht : t ≤ 20) : (keepT L t k D K st).length ≤ 2000 := by
 have hf : ∀ r,r ∈ expR k t K st → Fit k t r := expR_fit fun r hr => (hR.kept.rows r hr).1
 have hKl : K.length ≤ k := Red.le hR
 have h0 : (expL D (expR k t K st)).length ≤ 13 := by rw [expL_len]; have := expR_len (k := k) (t := t) (st := st) (K := K); omega
 have h1 := hexT_len (L := expL D (expR k t K st)) (m := 46) (expL_lens hf hk ht)
 have h2 : (2 * 46 + 1) * (expL D (expR k t K st)).length ≤ (2 * 46 + 1) * 13 := Nat.mul_le_mul_left _ h0
 have htl : (textW D L t k).length ≤ 100 := textW_len (by have := hP.d; omega) (by have := hP.l; omega) (by have := hP.t2; omega) (by have := hP.k2; omega)
 unfold keepT
 rw [List.length_append,List.length_append]
 simp only [List.length_cons,List.length_nil]
 omega
theorem KText19 {base gt be L t k D N st : Nat} {M v : Value} {C : DataW Unit} {K : List Rw} {w : World} (h : Tkr w base gt be L t k D N M v C K st) (hk : k ≤ 12) (ht : t ≤ 20) (hX : Tab10 w) (hT : HalfT w) :
  Calls Tryz.prog 18 #[.pointer (some ⟨gt,0,none⟩)] w fun e w' => e = .returned (.string (strB (keepT L t k D K st))) ∧ Below w.heap.size w w' := by
 have hf : ∀ r,r ∈ expR k t K st → Fit k t r := expR_fit fun r hr => (h.red.kept.rows r hr).1
 have hKl : K.length ≤ k := Red.le h.red
 refine KText_ok base gt be L t k D N M v C K st (expL D (expR k t K st)) w h hX (fun W hW => ?_) (fun x hx => by have := expL_lens hf hk ht x hx; omega) (by rw [expL_len]; have := expR_len (k := k) (t := t) (st := st) (K := K); omega)
 have := KExport_ok base gt be L t k D N M v C K st W (h.keep hW) (hT.keep hW)
 rw [expL_len]; exact this
set_option maxRecDepth 1000000 in
set_option maxHeartbeats 8000000 in
theorem AuTaker_ok (base gt be L t k D N : Nat) (M v : Value) (C : DataW Unit) (K : List Rw) (st : Nat) (w : World) (h : Tkr w base gt be L t k D N M v C K st) (hs : StF k K st) (hk : k ≤ 12) (ht : t ≤ 20) (hX : Tab10 w) (hT : HalfT w) (hM : MaxI w) (hE : ErrI w) :
  Calls Tryz.prog 58 #[.pointer (some ⟨gt,0,none⟩)] w fun e w' => ∃ q c,e = .returned (.slice q 0 c) ∧ Below w.heap.size w w' := by
 have HG : Hid (∀ W,Below w.heap.size w W → Calls Tryz.prog 71 #[.pointer (some ⟨gt,0,none⟩)] W fun e w' => e = .returned (GVal L t k D M) ∧ Below W.heap.size W w') := fun W hb => TGate_any base gt be L t k D N M v C K st W (h.keep hb)
 have HR : Hid (∀ W,Below w.heap.size w W → Calls Tryz.prog 21 #[.pointer (some ⟨gt,0,none⟩)] W fun e w' => ∃ v',e = .returned v' ∧ RwL 99 5 w' W.heap.size v' K.length K ∧ Below W.heap.size W w') := fun W hb => TRows_any base gt be L t k D N M v C K st W (h.keep hb)
 have HS : Hid (∀ W,Below w.heap.size w W → Calls Tryz.prog 22 #[.pointer (some ⟨gt,0,none⟩)] W fun e w' => e = .returned (.int .i64 (st : Nat)) ∧ W = w') := fun W hb => TStatus_any base gt be L t k D N M v C K st W (h.keep hb)
 have HO : Hid (∀ W,Below w.heap.size w W → Calls Tryz.prog 19 #[.pointer (some ⟨gt,0,none⟩)] W (RetL W (objX L t k K st) (objC st))) := fun W hb => TObj_any (h.keep hb) hs
 have HA : Hid (∀ W q c,RwS W q K.length c K → Calls Tryz.prog 56 #[PVal L t k D,.slice q K.length c] W (RetZ W [])) := fun W q c hr => by
  have := AuRows_any (L : Int) (t : Int) (k : Int) (D : Int) q K.length c K W hr h.ok.l
  rwa [auS_red h.ok h.red] at this
 have HTx : Hid (∀ W,Below w.heap.size w W → Calls Tryz.prog 18 #[.pointer (some ⟨gt,0,none⟩)] W fun e w' => e = .returned (.string (strB (keepT L t k D K st))) ∧ Below W.heap.size W w') := fun W hb => KText19 (h.keep hb) hk ht (hX.keep hb) (hT.keep hb)
 have HPr : Hid (∀ W,Below w.heap.size w W → Calls Tryz.prog 17 #[.string (strB (keepT L t k D K st))] W fun e w' => ∃ base2 gt2 be2 N2 M2 v2 C2,e = .returned (.tuple #[.pointer (some ⟨gt2,0,none⟩),.int .i64 0]) ∧ W.heap.size ≤ base2 ∧ Tkr w' base2 gt2 be2 L t k D N2 M2 v2 C2 K st ∧ Below W.heap.size W w') := fun W hb =>
  (KParse_any (keepT L t k D K st) W (by have := keepT_len (st := st) h.ok h.red hk ht; omega) (hM.keep hb) (hE.keep hb) (hT.keep hb)).mono fun e w' hp => hp.back h.ok h.red hs
 have HSm : Hid (∀ W gt2 base2 be2 N2 M2 v2 C2,Below w.heap.size w W → Tkr W base2 gt2 be2 L t k D N2 M2 v2 C2 K st → Calls Tryz.prog 110 #[.pointer (some ⟨gt,0,none⟩),.pointer (some ⟨gt2,0,none⟩)] W fun e w' => e = .returned (.bool true) ∧ Below W.heap.size W w') := fun W gt2 base2 be2 N2 M2 v2 C2 hb h2 => AuSame_ok base gt be L t k D N M v C K st base2 gt2 be2 N2 M2 v2 C2 W (h.keep hb) h2 hs
 have hlk0 : K.length ≤ k := Red.le h.red
 have HOL : Hid (st = 1 → (objX L t k K st).length = L) := fun e => objX_done e
 obtain ⟨d,hd⟩ : ∃ d,d = decide (st = 1) := ⟨_,rfl⟩
 have hst1 : ((st : Int) == 1) = d := by rw [hd,Bool.eq_iff_iff,decide_eq_true_iff,beq_iff_eq]; omega
 have hlk : ((K.length : Int) == (k : Int)) = d := by rw [hd,Bool.eq_iff_iff,decide_eq_true_iff,beq_iff_eq]; have := hs.2; omega
 have hst2 : d = true → ((st : Int) != 2) = true := fun e => by rw [hd,decide_eq_true_iff] at e; rw [e]; rfl
 have hoc : (objC st == 0) = d := by
  rw [hd]
  have := hs.1
  have h3 : st = 0 ∨ st = 1 ∨ st = 2 := by omega
  rcases h3 with rfl | rfl | rfl <;> rfl
 have HD : Hid (d = true → st = 1) := fun e => by rw [hd,decide_eq_true_iff] at e; exact e
 generalize objC st = CX at *
 generalize objX L t k K st = OX at *
 generalize keepT L t k D K st = KT at *
 obtain ⟨S,hS⟩ : ∃ S,S = strB KT := ⟨_,rfl⟩
 rw [← hS] at HTx HPr
 clear h hs hk ht hX hT hM hE hd hS
 go_enter Tryz.func58,Tryz.ntmps58
 go_wp2_with fail
 refine Calls.mono (HG.out w (Below.refl _ _)) ?_
 rintro e w1 ⟨rfl,hb1⟩
 have HB1 := Lib.hid hb1
 have hfg := field_gate L t k D M w1
 have ba : Below w1.heap.size w1 (w1.alloc (.cells #[.int .i64 (L : Nat),.int .i64 (t : Nat),.int .i64 (k : Nat),.int .u32 (D : Nat)] 27 (0,0))) := al (Below.refl _ _) (Nat.le_refl _)
 have hp2 : (w1.alloc (.cells #[.int .i64 (L : Nat),.int .i64 (t : Nat),.int .i64 (k : Nat),.int .u32 (D : Nat)] 27 (0,0))).heap[w1.heap.size]? = some (.cells #[.int .i64 (L : Nat),.int .i64 (t : Nat),.int .i64 (k : Nat),.int .u32 (D : Nat)] 27 (0,0)) := hnew rfl
 have HB2 := Lib.hid (bl HB1.out ba HB1.out.size)
 have HP2 := Lib.hid hp2
 clear hb1 ba hp2 HB1
 go_wp2_with (first | simp only [hfg] | fail)
 clear hfg
 obtain ⟨gp,hgp⟩ : ∃ g,g = w1.heap.size := ⟨_,rfl⟩
 rw [← hgp] at HP2 ⊢
 clear hgp
 generalize w1.alloc (.cells #[.int .i64 (L : Nat),.int .i64 (t : Nat),.int .i64 (k : Nat),.int .u32 (D : Nat)] 27 (0,0)) = w2 at *
 refine Calls.mono (HR.out w2 HB2.out) ?_
 rintro e w3 ⟨v3,rfl,hr3,hb⟩
 obtain ⟨q3,c3,rfl⟩ := hr3.shape
 have HB3 := Lib.hid (bl HB2.out hb HB2.out.size)
 have HP3 := Lib.hid ((hb.block _ (lt_of_block HP2.out)).trans HP2.out)
 have R3 := Lib.hid hr3.rwS
 clear hb hr3 HB2 HP2 HR
 go_wp2_with fail
 refine Calls.mono (HS.out w3 HB3.out) ?_
 rintro e w4 ⟨rfl,rfl⟩
 go_wp2_with fail
 refine Calls.mono (HO.out w3 HB3.out) ?_
 rintro e w4 ⟨qo,mo,co,rfl,so,hb⟩
 have HB4 := Lib.hid (bl HB3.out hb HB3.out.size)
 have HP4 := Lib.hid ((hb.block _ (lt_of_block HP3.out)).trans HP3.out)
 have R4 := Lib.hid (R3.out.keep hb)
 have HML : Hid (d = true → mo = L) := fun e => by rw [← so.len]; exact HOL.out (HD.out e)
 clear hb so HB3 HP3 R3 HO HOL
 obtain ⟨p0,p1,p2,p3⟩ := cells_four HP4.out
 go_wp2_with fail
 refine Calls.mono (HA.out w4 q3 c3 R4.out) ?_
 rintro e w5 ⟨q5,c5,rfl,-,hb⟩
 have HB5 := Lib.hid (bl HB4.out hb HB4.out.size)
 have HP5 := Lib.hid ((hb.block _ (lt_of_block HP4.out)).trans HP4.out)
 clear hb HB4 HP4 R4 p0 p1 p2 p3 HA
 obtain ⟨p0,p1,p2,p3⟩ := cells_four HP5.out
 have HSm2 := HSm
 cases d with
 | true =>
  have hst2' := hst2 rfl
  obtain rfl := HML.out rfl
  have hml : ((mo : Int) != (mo : Int)) = false := by simp
  clear hst2
  go_wp2_with fail
  refine Calls.mono (HS.out w5 HB5.out) ?_
  rintro e w6 ⟨rfl,rfl⟩
  go_wp2_with fail
  refine Calls.mono (HTx.out w5 HB5.out) ?_
  rintro e w6 ⟨rfl,hb⟩
  have HB6 := Lib.hid (bl HB5.out hb HB5.out.size)
  clear hb HB5 HP5 p0 p1 p2 p3
  go_wp2_with fail
  refine Calls.mono (HPr.out w6 HB6.out) ?_
  rintro e w7 ⟨base2,gt2,be2,N2,M2,v2,C2,rfl,-,ht2,hb⟩
  have HB7 := Lib.hid (bl HB6.out hb HB6.out.size)
  have HT2 := Lib.hid ht2
  clear hb HB6 ht2
  go_wp2_with fail
  refine Calls.mono (HSm.out w7 gt2 base2 be2 N2 M2 v2 C2 HB7.out HT2.out) ?_
  rintro e w8 ⟨rfl,hb⟩
  have HB8 := Lib.hid (bl HB7.out hb HB7.out.size)
  clear hb HB7
  go_wp2
  go_ret
  exact ⟨_,_,rfl,HB8.out⟩
 | false =>
  clear hst2
  go_wp2_with fail
  refine Calls.mono (HTx.out w5 HB5.out) ?_
  rintro e w6 ⟨rfl,hb⟩
  have HB6 := Lib.hid (bl HB5.out hb HB5.out.size)
  clear hb HB5 HP5 p0 p1 p2 p3
  go_wp2_with fail
  refine Calls.mono (HPr.out w6 HB6.out) ?_
  rintro e w7 ⟨base2,gt2,be2,N2,M2,v2,C2,rfl,-,ht2,hb⟩
  have HB7 := Lib.hid (bl HB6.out hb HB6.out.size)
  have HT2 := Lib.hid ht2
  clear hb HB6 ht2
  go_wp2_with fail
  refine Calls.mono (HSm.out w7 gt2 base2 be2 N2 M2 v2 C2 HB7.out HT2.out) ?_
  rintro e w8 ⟨rfl,hb⟩
  have HB8 := Lib.hid (bl HB7.out hb HB7.out.size)
  clear hb HB7
  go_wp2
  go_ret
  exact ⟨_,_,rfl,HB8.out⟩
end Go.Proofs.YtccaiiigdfieoaaGreatDoor
namespace Go.Proofs.YtccaiiigdfieoaaGreatDoor
open Go.RowKit Go.By
end Go.Proofs.YtccaiiigdfieoaaGreatDoor
namespace Go.By
open Go.RowKit Go.Proofs.YtccaiiigdfieoaaGreatDoor
def ZsT (xs : List Int) (v : Value) (w : World) : Prop := ∃ q n c,v = .slice q n c ∧ SlZ w q n c xs
def ShZs (xs : List Int) : Shp := ⟨ZsT xs,fun _ _ _ ⟨q,n,c,e,h⟩ hb => ⟨q,n,c,e,Sl.keep h hb⟩⟩
def RwsV (K : List Rw) (v : Value) (w : World) : Prop := ∃ q n c,v = .slice q n c ∧ RwS w q n c K
def ShRwsV (K : List Rw) : Shp := ⟨RwsV K,fun _ _ _ ⟨q,n,c,e,h⟩ hb => ⟨q,n,c,e,h.keep hb⟩⟩
theorem RwS.two {w : World} {g T : Nat} {fr : Nat × Nat} {q1 q2 q3 q4 : Option Addr} {n1 c1 n2 c2 n3 c3 n4 c4 : Nat} {x y : Rw} (h : w.heap[g]? = some (.cells #[.slice q1 n1 c1,.slice q2 n2 c2,.slice q3 n3 c3,.slice q4 n4 c4] T fr)) (h1 : Sl B8 w q1 n1 c1 x.1) (h2 : Sl B8 w q2 n2 c2 x.2) (h3 : Sl B8 w q3 n3 c3 y.1) (h4 : Sl B8 w q4 n4 c4 y.2) : RwS w (some ⟨g,0,none⟩) 2 2 [x,y] := by
 refine ⟨rfl,Nat.le_refl _,by simp [maxLen],fun e => (by cases e),fun j k hj => ?_⟩
 match j,hj with
 | 0,hj => simp at hj; subst hj; exact ⟨g,0,_,_,_,_,_,_,rfl,cell_of_row _ _ 0 _ _ _ h,cell_of_row _ _ 1 _ _ _ h,h1,h2⟩
 | 1,hj => simp at hj; subst hj; exact ⟨g,0,_,_,_,_,_,_,rfl,cell_of_row _ _ 2 _ _ _ h,cell_of_row _ _ 3 _ _ _ h,h3,h4⟩
 | j + 2,hj => simp at hj
end Go.By
namespace Go.Proofs.YtccaiiigdfieoaaGreatDoor
open Go.RowKit Go.By
theorem SlZ.cells {w : World} {b o n c : Nat} {xs : List Int} (h : SlZ w (some ⟨b,o,none⟩) n c xs) : ∀ j,j < xs.length → w.cell? ⟨b,o + j,none⟩ = some (.int .i64 (xs.getD j 0)) := fun j hj => by
 obtain ⟨b',o',e,hc⟩ := h.rs j hj
 cases e
 rw [hc,List.getD_eq_getElem?_getD,List.getElem?_eq_getElem hj]; rfl
theorem EqZ_any (p q : Option Addr) (n c m d : Nat) (xs ys : List Int) (w : World) (h1 : SlZ w p n c xs) (h2 : SlZ w q m d ys) :
  Calls Tryz.prog 55 #[.slice p n c,.slice q m d] w fun e w' => e = .returned (.bool (decide (xs = ys))) ∧ Below w.heap.size w w' := by
 have l1 := h1.len; have l2 := h2.len
 have b1 := h1.bound; have b2 := h2.bound
 by_cases hnm : n = m
 ·subst hnm
  rcases Nat.eq_zero_or_pos n with h0 | h0
  ·subst h0
   have e1 : xs = [] := List.eq_nil_of_length_eq_zero l1
   have e2 : ys = [] := List.eq_nil_of_length_eq_zero l2
   subst e1 e2
   refine Calls.mono (Tryz.slices_Equal_int_empty p q c 0 d w b2) ?_
   rintro e w' ⟨rfl,rfl⟩
   exact ⟨rfl,Below.refl _ _⟩
  ·obtain ⟨g1,o1,rfl,_⟩ := h1.has h0
   obtain ⟨g2,o2,rfl,_⟩ := h2.has h0
   refine Calls.mono (Tryz.slices_Equal_int g1 o1 n c g2 o2 n d xs ys w (by omega) (by omega) b1 b2 (SlZ.cells h1) (SlZ.cells h2)) ?_
   rintro e w' ⟨rfl,q,rfl⟩
   refine ⟨?_,bdn (Below.refl _ _)⟩
   rw [← l1,List.take_length,show xs.length = ys.length by omega,List.take_length]
   congr 2
   by_cases h : xs = ys
   ·rw [decide_eq_true h,h]; exact beq_self_eq_true ys
   ·rw [decide_eq_false h]; exact beq_eq_false_iff_ne.2 h
 ·refine Calls.mono (Tryz.slices_Equal_int_lens p q n c m d w hnm) ?_
  rintro e w' ⟨rfl,rfl⟩
  refine ⟨?_,Below.refl _ _⟩
  rw [decide_eq_false (fun e => hnm (by rw [← l1,← l2,e]))]
theorem AuTaker_nil (w : World) : Calls Tryz.prog 58 #[.pointer none] w fun e w' => e = .returned (.slice none 0 0) ∧ w = w' := by
 go_enter Tryz.func58,Tryz.ntmps58
 go_wp2
 go_ret
 exact ⟨rfl,rfl⟩
theorem of210 : ofS 2 1 0 = .tuple #[.agg #[.int .i64 2,.int .i64 1,.int .i64 2,.int .u32 0],.int .i64 0] := by
 have h : fitS 2 1 = 0 := by decide
 have h2 : needS 2 1 = 2 := by decide
 unfold ofS; rw [if_pos h,h2]
theorem au28 : auS 2 1 2 [([1,0],[5]),([1,1],[6])] = [3,4] := by decide +kernel
set_option maxRecDepth 100000 in
set_option maxHeartbeats 4000000 in
theorem awake28 (w : World) : Calls Tryz.prog 54 #[] w fun e w' => e = .returned (.bool true) ∧ Below w.heap.size w w' := by
 have HOf : Hid (∀ w,Calls Tryz.prog 44 #[.int .i64 2,.int .i64 1,.int .u32 0] w fun e w' => e = .returned (.tuple #[.agg #[.int .i64 2,.int .i64 1,.int .i64 2,.int .u32 0],.int .i64 0]) ∧ Below w.heap.size w w') := fun w => by have := POf_any 2 1 0 w (by decide); rw [of210] at this; exact this
 have HAU : Hid (∀ W p n c,RwS W p n c [([1,0],[5]),([1,1],[6])] → Calls Tryz.prog 56 #[.agg #[.int .i64 2,.int .i64 1,.int .i64 2,.int .u32 0],.slice p n c] W fun e w' => ∃ q m d,e = .returned (.slice q m d) ∧ SlZ w' q m d [3,4] ∧ Below W.heap.size W w') := fun W p n c h => by
  refine Calls.mono (AuRows_any 2 1 2 0 p n c _ W h (by decide)) ?_
  rintro e w' ⟨q,d,rfl,hs,hb⟩
  rw [au28] at hs
  exact ⟨q,_,d,rfl,hs,hb⟩
 go_enter Tryz.func54,Tryz.ntmps54
 go_wp2_with fail
 refine Calls.mono (HOf.out _) ?_
 rintro e w1 ⟨rfl,hb⟩
 have HB1 := Lib.hid hb
 clear hb HOf
 go_upto_region 2 with (fail)
 have ba : Below w1.heap.size w1 (w1.alloc (.cells #[.int .i64 2,.int .i64 1,.int .i64 2,.int .u32 0] 27 (0,0))) := al (Below.refl _ _) (Nat.le_refl _)
 have kp : (w1.alloc (.cells #[.int .i64 2,.int .i64 1,.int .i64 2,.int .u32 0] 27 (0,0))).heap[w1.heap.size]? = some (.cells #[.int .i64 2,.int .i64 1,.int .i64 2,.int .u32 0] 27 (0,0)) := hnew rfl
 have HB2 := Lib.hid (bl HB1.out ba HB1.out.size)
 obtain ⟨gp,hgp⟩ : ∃ gp,gp = w1.heap.size := ⟨_,rfl⟩
 rw [← hgp] at kp ⊢
 generalize w1.alloc (.cells #[.int .i64 2,.int .i64 1,.int .i64 2,.int .u32 0] 27 (0,0)) = w2 at *
 clear ba hgp HB1
 obtain ⟨z0,z1,z2,z3⟩ := cells_four kp
 refine wp_region_shapes (fun ix => ([.val (.int .i64 0),.val (.bool true),.val (.bool true),.val (.agg #[.int .i64 2,.int .i64 1,.int .i64 2,.int .u32 0]),.bytes ([1,0]),.bytes ([5]),(.row ([1,0],[5])),.bytes ([1,1]),.bytes ([6]),(.row ([1,1],[6])),(ShRwsV [([1,0],[5]),([1,1],[6])]),(ShZs [3,4]),(ShZs [3,4]),.val (.bool true),.val (.bool true),.val (.bool true),.val (.slice none 0 0),.val (.int .i64 0),.val (.bool true),.val (.bool true),.val (.bool true)][ix]?).getD (.any)) 27 rfl (by kernel_rfl) (by decide +kernel) (by decide +kernel) (by decide +kernel) ?_ ?_
 ·refine ⟨?_,?_,?_,?_,?_,?_,?_,?_,?_,?_,?_,?_,?_,?_,?_,?_,?_,?_,?_,?_,?_,trivial⟩
  ·intro a W hb0 hs hp hi; have hb := undrew hb0; clear hb0
   have t2 : sl a 2 = .int .i64 0 := hi 2 (by decide)
   exact ite_y rfl (wp_val (sl a 2) rfl ⟨_,rfl,Below.refl _ _,t2⟩)
  ·intro a W hb0 hs hp hi; have hb := undrew hb0; clear hb0
   have t7 : sl a 7 = .int .i64 0 := hp 0 (by decide)
   refine ite_y rfl (wp_val (.bool true) ?_ ?_)
   ·simp only [execOp,eval_tmp,eval_const,t7]; simp [go_sem]
   ·exact ⟨_,rfl,Below.refl _ _,rfl⟩
  ·intro a W hb0 hs hp hi; have hb := undrew hb0; clear hb0
   have t8 : sl a 8 = .bool true := hp 1 (by decide)
   exact ite_y rfl (wp_val (sl a 8) rfl ⟨_,rfl,Below.refl _ _,t8⟩)
  ·intro a W hb0 hs hp hi; have hb := undrew hb0; clear hb0
   have tg : sl a 9 = .bool true := hp 2 (by decide)
   have tt : sl a 1 = .pointer (some ⟨gp,0,none⟩) := hi 1 (by decide)
   have dd0 := (hb.cell (p := ⟨gp,0,none⟩) (lt_of_cell z0)).trans z0
   have dd1 := (hb.cell (p := ⟨gp,1,none⟩) (lt_of_cell z1)).trans z1
   have dd2 := (hb.cell (p := ⟨gp,2,none⟩) (lt_of_cell z2)).trans z2
   have dd3 := (hb.cell (p := ⟨gp,3,none⟩) (lt_of_cell z3)).trans z3
   refine ite_y (wanted_yes rfl rfl (by have hz : a.tmps.size = 27 := hs; rw [hz]; decide) tg) (wp_val (.agg #[.int .i64 2,.int .i64 1,.int .i64 2,.int .u32 0]) ?_ ?_)
   ·simp only [execOp,eval_tmp,tt]; simp [go_sem,dd0,dd1,dd2,dd3]
   ·exact ⟨_,rfl,Below.refl _ _,rfl⟩
  ·intro a W hb0 hs hp hi; have hb := undrew hb0; clear hb0
   have tg : sl a 9 = .bool true := hp 2 (by decide)
   refine ite_y (wanted_yes rfl rfl (by have hz : a.tmps.size = 27 := hs; rw [hz]; decide) tg) (wp_val' (w' := W.alloc (.cells #[.int .u8 1,.int .u8 0] 5)) (.slice (some ⟨W.heap.size,0,none⟩) 2 2) ?_ ?_)
   ·simp only [execOp,eval_tmp,eval_const]; simp [go_sem]
   ·exact ⟨_,rfl,(al (Below.refl _ _) (Nat.le_refl _)),_,_,_,rfl,sl_block ([1,0]) 2 (hnew rfl) rfl rfl (by simp [maxLen])⟩
  ·intro a W hb0 hs hp hi; have hb := undrew hb0; clear hb0
   have tg : sl a 9 = .bool true := hp 2 (by decide)
   refine ite_y (wanted_yes rfl rfl (by have hz : a.tmps.size = 27 := hs; rw [hz]; decide) tg) (wp_val' (w' := W.alloc (.cells #[.int .u8 5] 5)) (.slice (some ⟨W.heap.size,0,none⟩) 1 1) ?_ ?_)
   ·simp only [execOp,eval_tmp,eval_const]; simp [go_sem]
   ·exact ⟨_,rfl,(al (Below.refl _ _) (Nat.le_refl _)),_,_,_,rfl,sl_block ([5]) 1 (hnew rfl) rfl rfl (by simp [maxLen])⟩
  ·intro a W hb0 hs hp hi; have hb := undrew hb0; clear hb0
   have tg : sl a 9 = .bool true := hp 2 (by decide)
   have t11 : BytesIs [1,0] (sl a 11) W := hp 4 (by decide)
   obtain ⟨y11a,y11b,y11c,t11,z11a⟩ := t11
   have t12 : BytesIs [5] (sl a 12) W := hp 5 (by decide)
   obtain ⟨y12a,y12b,y12c,t12,z12a⟩ := t12
   refine ite_y (wanted_yes rfl rfl (by have hz : a.tmps.size = 27 := hs; rw [hz]; decide) tg) (wp_enter 80 #[.slice y11a y11b y11c,.slice y12a y12b y12c] ?_ (Of_any _ _ _ _ _ _ [1,0] [5] W z11a z12a (by rw [← z11a.len]; unfold Room; decide) (by rw [← z12a.len]; unfold Room; decide)) ?_)
   ·simp only [execOp,resolve,List.map_toArray,List.map,eval_tmp,eval_func,eval_const,t11,t12]; simp [go_sem]
   ·rintro e W' ⟨q5,m5,g5,q6,m6,g6,e5,e6,rfl,o5,o6,hw⟩
    exact ⟨_,rfl,_,rfl,hw,q5,m5,g5,q6,m6,g6,rfl,Sl.of_owns o5,Sl.of_owns o6⟩
  ·intro a W hb0 hs hp hi; have hb := undrew hb0; clear hb0
   have tg : sl a 9 = .bool true := hp 2 (by decide)
   refine ite_y (wanted_yes rfl rfl (by have hz : a.tmps.size = 27 := hs; rw [hz]; decide) tg) (wp_val' (w' := W.alloc (.cells #[.int .u8 1,.int .u8 1] 5)) (.slice (some ⟨W.heap.size,0,none⟩) 2 2) ?_ ?_)
   ·simp only [execOp,eval_tmp,eval_const]; simp [go_sem]
   ·exact ⟨_,rfl,(al (Below.refl _ _) (Nat.le_refl _)),_,_,_,rfl,sl_block ([1,1]) 2 (hnew rfl) rfl rfl (by simp [maxLen])⟩
  ·intro a W hb0 hs hp hi; have hb := undrew hb0; clear hb0
   have tg : sl a 9 = .bool true := hp 2 (by decide)
   refine ite_y (wanted_yes rfl rfl (by have hz : a.tmps.size = 27 := hs; rw [hz]; decide) tg) (wp_val' (w' := W.alloc (.cells #[.int .u8 6] 5)) (.slice (some ⟨W.heap.size,0,none⟩) 1 1) ?_ ?_)
   ·simp only [execOp,eval_tmp,eval_const]; simp [go_sem]
   ·exact ⟨_,rfl,(al (Below.refl _ _) (Nat.le_refl _)),_,_,_,rfl,sl_block ([6]) 1 (hnew rfl) rfl rfl (by simp [maxLen])⟩
  ·intro a W hb0 hs hp hi; have hb := undrew hb0; clear hb0
   have tg : sl a 9 = .bool true := hp 2 (by decide)
   have t14 : BytesIs [1,1] (sl a 14) W := hp 7 (by decide)
   obtain ⟨y14a,y14b,y14c,t14,z14a⟩ := t14
   have t15 : BytesIs [6] (sl a 15) W := hp 8 (by decide)
   obtain ⟨y15a,y15b,y15c,t15,z15a⟩ := t15
   refine ite_y (wanted_yes rfl rfl (by have hz : a.tmps.size = 27 := hs; rw [hz]; decide) tg) (wp_enter 80 #[.slice y14a y14b y14c,.slice y15a y15b y15c] ?_ (Of_any _ _ _ _ _ _ [1,1] [6] W z14a z15a (by rw [← z14a.len]; unfold Room; decide) (by rw [← z15a.len]; unfold Room; decide)) ?_)
   ·simp only [execOp,resolve,List.map_toArray,List.map,eval_tmp,eval_func,eval_const,t14,t15]; simp [go_sem]
   ·rintro e W' ⟨q5,m5,g5,q6,m6,g6,e5,e6,rfl,o5,o6,hw⟩
    exact ⟨_,rfl,_,rfl,hw,q5,m5,g5,q6,m6,g6,rfl,Sl.of_owns o5,Sl.of_owns o6⟩
  ·intro a W hb0 hs hp hi; have hb := undrew hb0; clear hb0
   have tg : sl a 9 = .bool true := hp 2 (by decide)
   have t13 : RowIs ([1,0],[5]) (sl a 13) W := hp 6 (by decide)
   obtain ⟨y13a,y13b,y13c,y13d,y13e,y13f,t13,z13a,z13b⟩ := t13
   have v13 : a.tmps[13]?.getD undef = sl a 13 := by simp [sl]
   rw [t13] at v13
   have t16 : RowIs ([1,1],[6]) (sl a 16) W := hp 9 (by decide)
   obtain ⟨y16a,y16b,y16c,y16d,y16e,y16f,t16,z16a,z16b⟩ := t16
   have v16 : a.tmps[16]?.getD undef = sl a 16 := by simp [sl]
   rw [t16] at v16
   refine ite_y (wanted_yes rfl rfl (by have hz : a.tmps.size = 27 := hs; rw [hz]; decide) tg) (wp_val' (w' := W.alloc (.cells #[.slice y13a y13b y13c,.slice y13d y13e y13f,.slice y16a y16b y16c,.slice y16d y16e y16f] 99)) (.slice (some ⟨W.heap.size,0,none⟩) 2 2) ?_ ?_)
   ·simp only [execOp,eval_tmp,eval_const,t13,t16]; simp [go_sem,v13,v16,Tryz.underlying99]
   ·exact ⟨_,rfl,(al (Below.refl _ _) (Nat.le_refl _)),_,_,_,rfl,RwS.two (hnew rfl) (z13a.keep (al (Below.refl _ _) (Nat.le_refl _))) (z13b.keep (al (Below.refl _ _) (Nat.le_refl _))) (z16a.keep (al (Below.refl _ _) (Nat.le_refl _))) (z16b.keep (al (Below.refl _ _) (Nat.le_refl _)))⟩
  ·intro a W hb0 hs hp hi; have hb := undrew hb0; clear hb0
   have tg : sl a 9 = .bool true := hp 2 (by decide)
   have t10 : sl a 10 = .agg #[.int .i64 2,.int .i64 1,.int .i64 2,.int .u32 0] := hp 3 (by decide)
   have t17 : RwsV [([1,0],[5]),([1,1],[6])] (sl a 17) W := hp 10 (by decide)
   obtain ⟨q7,n7,c7,t17,z7⟩ := t17
   refine ite_y (wanted_yes rfl rfl (by have hz : a.tmps.size = 27 := hs; rw [hz]; decide) tg) (wp_enter 56 #[.agg #[.int .i64 2,.int .i64 1,.int .i64 2,.int .u32 0],.slice q7 n7 c7] ?_ (HAU.out W q7 n7 c7 z7) ?_)
   ·simp only [execOp,resolve,List.map_toArray,List.map,eval_tmp,eval_func,eval_const,t10,t17]; simp [go_sem]
   ·rintro e W' ⟨q5,n5,g5,rfl,hz,hw⟩; exact ⟨_,rfl,_,rfl,hw,q5,n5,g5,rfl,hz⟩
  ·intro a W hb0 hs hp hi; have hb := undrew hb0; clear hb0
   have tg : sl a 9 = .bool true := hp 2 (by decide)
   refine ite_y (wanted_yes rfl rfl (by have hz : a.tmps.size = 27 := hs; rw [hz]; decide) tg) (wp_val' (w' := W.alloc (.cells #[.int .i64 3,.int .i64 4] 3)) (.slice (some ⟨W.heap.size,0,none⟩) 2 2) ?_ ?_)
   ·simp only [execOp,eval_const]; simp [go_sem]
   ·exact ⟨_,rfl,(al (Below.refl _ _) (Nat.le_refl _)),_,_,_,rfl,sl_block (enc := fun z : Int => Value.int .i64 z) [3,4] 2 (hnew rfl) rfl rfl (by simp [maxLen])⟩
  ·intro a W hb0 hs hp hi; have hb := undrew hb0; clear hb0
   have tg : sl a 9 = .bool true := hp 2 (by decide)
   have t18 : ZsT [3,4] (sl a 18) W := hp 11 (by decide)
   obtain ⟨y18a,y18b,y18c,t18,z18a⟩ := t18
   have t19 : ZsT [3,4] (sl a 19) W := hp 12 (by decide)
   obtain ⟨y19a,y19b,y19c,t19,z19a⟩ := t19
   refine ite_y (wanted_yes rfl rfl (by have hz : a.tmps.size = 27 := hs; rw [hz]; decide) tg) (wp_enter 55 #[.slice y18a y18b y18c,.slice y19a y19b y19c] ?_ (EqZ_any _ _ _ _ _ _ [3,4] [3,4] W z18a z19a) ?_)
   ·simp only [execOp,resolve,List.map_toArray,List.map,eval_tmp,eval_func,eval_const,t18,t19]; simp [go_sem]
   ·rintro e W' ⟨rfl,hw⟩; exact ⟨_,rfl,_,rfl,hw,rfl⟩
  ·intro a W hb0 hs hp hi; have hb := undrew hb0; clear hb0
   have t9 : sl a 9 = .bool true := hp 2 (by decide)
   have t20 : sl a 20 = .bool true := hp 13 (by decide)
   refine ite_y rfl (wp_val (.bool true) ?_ ?_)
   ·simp only [execOp,eval_tmp,eval_const,t9,t20]; simp [go_sem]
   ·exact ⟨_,rfl,Below.refl _ _,rfl⟩
  ·intro a W hb0 hs hp hi; have hb := undrew hb0; clear hb0
   have t21 : sl a 21 = .bool true := hp 14 (by decide)
   exact ite_y rfl (wp_val (sl a 21) rfl ⟨_,rfl,Below.refl _ _,t21⟩)
  ·intro a W hb0 hs hp hi; have hb := undrew hb0; clear hb0
   have tg : sl a 22 = .bool true := hp 15 (by decide)
   refine ite_y (wanted_yes rfl rfl (by have hz : a.tmps.size = 27 := hs; rw [hz]; decide) tg) (wp_enter 58 #[.pointer none] ?_ (AuTaker_nil W) ?_)
   ·simp only [execOp,resolve,List.map_toArray,List.map,eval_tmp,eval_func,eval_const,]; simp [go_sem]
   ·rintro e W' ⟨rfl,rfl⟩; exact ⟨_,rfl,_,rfl,Below.refl _ _,rfl⟩
  ·intro a W hb0 hs hp hi; have hb := undrew hb0; clear hb0
   have tg : sl a 22 = .bool true := hp 15 (by decide)
   have t23 : sl a 23 = .slice none 0 0 := hp 16 (by decide)
   refine ite_y (wanted_yes rfl rfl (by have hz : a.tmps.size = 27 := hs; rw [hz]; decide) tg) (wp_val (.int .i64 0) ?_ ?_)
   ·simp only [execOp,resolve,List.map_toArray,List.map,eval_tmp,eval_func,eval_const,t23]; simp [go_sem]
   ·exact ⟨_,rfl,Below.refl _ _,rfl⟩
  ·intro a W hb0 hs hp hi; have hb := undrew hb0; clear hb0
   have tg : sl a 22 = .bool true := hp 15 (by decide)
   have t24 : sl a 24 = .int .i64 0 := hp 17 (by decide)
   refine ite_y (wanted_yes rfl rfl (by have hz : a.tmps.size = 27 := hs; rw [hz]; decide) tg) (wp_val (.bool true) ?_ ?_)
   ·simp only [execOp,eval_tmp,eval_const,t24]; simp [go_sem]
   ·exact ⟨_,rfl,Below.refl _ _,rfl⟩
  ·intro a W hb0 hs hp hi; have hb := undrew hb0; clear hb0
   have t22 : sl a 22 = .bool true := hp 15 (by decide)
   have t25 : sl a 25 = .bool true := hp 18 (by decide)
   refine ite_y rfl (wp_val (.bool true) ?_ ?_)
   ·simp only [execOp,eval_tmp,eval_const,t22,t25]; simp [go_sem]
   ·exact ⟨_,rfl,Below.refl _ _,rfl⟩
  ·intro a W hb0 hs hp hi; have hb := undrew hb0; clear hb0
   have t26 : sl a 26 = .bool true := hp 19 (by decide)
   exact ite_y rfl (wp_val (sl a 26) rfl ⟨_,rfl,Below.refl _ _,t26⟩)
 intro a w3 hb hs hd hI ht
 have ha := act_is [7,8,9,10,11,12,13,14,15,16,17,18,19,20,21,22,23,24,25,26,0] hs hd ht (by decide)
 have t0 : sl a 0 = .bool true := hI 20 (by decide)
 simp only [List.foldl,t0] at ha
 generalize sl a 7 = u7 at ha
 generalize sl a 8 = u8 at ha
 generalize sl a 9 = u9 at ha
 generalize sl a 10 = u10 at ha
 generalize sl a 11 = u11 at ha
 generalize sl a 12 = u12 at ha
 generalize sl a 13 = u13 at ha
 generalize sl a 14 = u14 at ha
 generalize sl a 15 = u15 at ha
 generalize sl a 16 = u16 at ha
 generalize sl a 17 = u17 at ha
 generalize sl a 18 = u18 at ha
 generalize sl a 19 = u19 at ha
 generalize sl a 20 = u20 at ha
 generalize sl a 21 = u21 at ha
 generalize sl a 22 = u22 at ha
 generalize sl a 23 = u23 at ha
 generalize sl a 24 = u24 at ha
 generalize sl a 25 = u25 at ha
 generalize sl a 26 = u26 at ha
 simp only [Act.put,List.setIfInBounds_toArray,List.set_cons_zero,List.set_cons_succ] at ha
 rw [ha]
 clear ha hI ht
 have HB3 := Lib.hid (bl HB2.out hb HB2.out.size)
 clear hb
 go_wp2
 go_ret
 exact ⟨rfl,HB3.out⟩
end Go.Proofs.YtccaiiigdfieoaaGreatDoor
namespace Go.Proofs.YtccaiiigdfieoaaGreatDoor
open Go.RowKit Go.By Go.Maps
set_option maxRecDepth 1000000 in
set_option maxHeartbeats 8000000 in
theorem AuditNothing_core (L t k D : Nat) (p1 : Option Addr) (n1 c1 : Nat) (xss : List (List UInt8)) (w : World) (hP : POK L t k D) (hk12 : k ≤ 12) (ht20 : t ≤ 20) (hfew : (xss.all (fun y => decide (y.length ≤ 800)) && decide (n1 ≤ 30)) = true) (hsm : small19 (L : Int) (t : Int) (k : Int) = true) (h1 : Sl2 w p1 n1 c1 xss) (hT : HalfT w) (hX : Tab10 w) (hM : MaxI w) (hE : ErrI w) :
  Calls Tryz.prog 10 #[PVal L t k D,.slice p1 n1 c1] w fun e w' => e = .returned (.bool true) ∧ Below w.heap.size w w' := by
 have HT := Lib.hid hT
 have HTX := Lib.hid hX
 have HMx := Lib.hid hM
 have HEr := Lib.hid hE
 have HFew : Hid (∀ w,Sl2 w p1 n1 c1 xss → Calls Tryz.prog 25 #[.slice p1 n1 c1] w fun e w' => e = .returned (.bool true) ∧ w = w') := fun w h => by have := Few18_any p1 n1 c1 xss w h; rw [hfew] at this; exact this
 have HSm : Hid (∀ w,Calls Tryz.prog 26 #[PVal L t k D] w fun e w' => e = .returned (.bool true) ∧ Below w.heap.size w w') := fun w => by have := Small19_any L t k D w hP.l; rw [hsm] at this; exact this
 have HNew := Lib.hid (fun w => TNew_ok L t k D w hP)
 have HP := Lib.hid hP
 have H1 := Lib.hid h1
 have HFw := Lib.hid hfew
 have HK12 := Lib.hid hk12
 have HT20 := Lib.hid ht20
 have hb1' := h1.bound
 clear hT hP h1 hfew hsm hk12 ht20 hX hM hE
 go_enter Tryz.func10,Tryz.ntmps10
 go_wp2_with fail
 refine Calls.mono (awake28 _) ?_
 rintro e w1 ⟨rfl,hb⟩
 obtain ⟨hb1,kp,hs1⟩ := one_of hb
 have HB1 := Lib.hid hb1
 clear hb hb1
 go_wp2_with fail
 refine Calls.mono (HFew.out _ (H1.out.keep HB1.out)) ?_
 rintro e w2 ⟨rfl,rfl⟩
 obtain ⟨z0,z1,z2,z3⟩ := cells_four kp
 go_wp2_with fail
 refine Calls.mono (HSm.out _) ?_
 rintro e w3 ⟨rfl,hb⟩
 have HB3 := Lib.hid (bl HB1.out hb HB1.out.size)
 have kp3 := (hb.block _ (lt_of_block kp)).trans kp
 clear hb z0 z1 z2 z3 kp HB1 hs1
 obtain ⟨z0,z1,z2,z3⟩ := cells_four kp3
 go_wp2_with fail
 refine Calls.mono (HNew.out _) ?_
 rintro e w4 ⟨gt,be,v0,rfl,hr,hb⟩
 have HB4 := Lib.hid (bl HB3.out hb HB3.out.size)
 have HBase : Hid (w.heap.size ≤ w3.heap.size) := HB3.out.size
 obtain ⟨base,hbase⟩ : ∃ base,base = w3.heap.size := ⟨_,rfl⟩
 rw [← hbase] at hr HBase
 have kp4 := (hb.block _ (lt_of_block kp3)).trans kp3
 clear hb kp3 z0 z1 z2 z3 hbase HB3
 obtain ⟨z0,z1,z2,z3⟩ := cells_four kp4
 have HR5 := Lib.hid hr
 have HB5 := HB4
 have KP5 := Lib.hid kp4
 have HK1 : Hid (1 ≤ k) := hr.ok.k1
 clear hr HB4 HFew HSm HNew kp4
 go_wp2
 clear z0 z1 z2 z3
 go_loopw [28] (fun iv wr => ∃ (i : Nat) (M v : Value) (C : DataW Unit) (K : List Rw) (st : Nat),i ≤ n1 ∧ iv = .int .i64 (i : Nat) ∧ Hid (Tkr wr base gt be L t k D i M v C K st) ∧ Hid (StF k K st) ∧ Hid (Below w.heap.size w wr) ∧ Hid (wr.heap[w.heap.size]? = some (.cells #[.int .i64 (L : Nat),.int .i64 (t : Nat),.int .i64 (k : Nat),.int .u32 (D : Nat)] 27 (0,0)))) (fun iv _ => n1 - (intOf iv).toNat)
 case atStart => exact ⟨0,_,_,_,_,0,Nat.zero_le _,rfl,HR5.out,StF.nil HK1.out,HB5.out,KP5.out⟩
 case round =>
  obtain ⟨i,M,v,C,K,st,hi,rfl,HR6,HS6,HB6,KP6⟩ := hrel
  clear HR5 HB5 KP5
  by_cases hlt : i < n1
  ·obtain ⟨bb,oo,qx,mx,cx,xs,rfl,hcd,hsd,hxd⟩ := H1.out.at i hlt
   have hcd6 := (HB6.out.cell (lt_of_cell hcd)).trans hcd
   have HXS := Lib.hid hsd
   have hmx : xs.length ≤ 800 := few_len19 HFw.out hxd.out
   have hmb : Room mx := by have := hsd.len; unfold Room; omega
   have hi30 : i < 30 := by
    have := HFw.out
    rw [Bool.and_eq_true] at this
    have := of_decide_eq_true this.2
    omega
   have hlt' : (i : Int) < (n1 : Int) := by omega
   have HLT := Lib.hid hlt
   clear hcd hsd hxd hlt hmx
   go_wp2_with fail
   refine Calls.mono (TTake_any base gt be L t k D i M v C K st qx mx cx xs wr HR6.out (HT.out.keep HB6.out) (by omega) (HXS.out.keep HB6.out) hmb) ?_
   rintro e w4 ⟨rfl,M4,v4,hk4,hch,-⟩
   have HR4 := Lib.hid hk4
   have HW4 := Lib.hid (HB6.out.trans (hch.below HR6.out HBase.out HB6.out.size))
   have KP4 : Hid (w4.heap[w.heap.size]? = some (.cells #[.int .i64 (L : Nat),.int .i64 (t : Nat),.int .i64 (k : Nat),.int .u32 (D : Nat)] 27 (0,0))) := hch.blk HR6.out KP6.out (by decide) (by decide) (by decide)
   have HS4 := Lib.hid (HS6.out.take (t := t) (D := D) xs)
   clear hk4 hch HR6 KP6 HB6 HS6
   generalize takeK k t D K st xs = K5 at *
   generalize takeS k t D K st xs = st5 at *
   generalize readC k t D xs = code at *
   generalize bump C code = C5 at *
   have HAT : Hid (∀ W,Below w4.heap.size w4 W → Calls Tryz.prog 58 #[.pointer (some ⟨gt,0,none⟩)] W fun e w' => ∃ q c,e = .returned (.slice q 0 c) ∧ Below W.heap.size W w') := fun W hb =>
    AuTaker_ok base gt be L t k D (i + 1) M4 v4 C5 K5 st5 W (HR4.out.keep hb) HS4.out HK12.out HT20.out (HTX.out.keep (bl HW4.out hb HW4.out.size)) (HT.out.keep (bl HW4.out hb HW4.out.size)) (HMx.out.keep (bl HW4.out hb HW4.out.size)) (HEr.out.keep (bl HW4.out hb HW4.out.size))
   have HRs : Hid (∀ W,Below w4.heap.size w4 W → Calls Tryz.prog 21 #[.pointer (some ⟨gt,0,none⟩)] W fun e w' => ∃ v',e = .returned v' ∧ RwL 99 5 w' W.heap.size v' K5.length K5 ∧ Below W.heap.size W w') := fun W hb => TRows_any base gt be L t k D (i + 1) M4 v4 C5 K5 st5 W (HR4.out.keep hb)
   have HAR : Hid (∀ W q c,RwS W q K5.length c K5 → Calls Tryz.prog 56 #[PVal L t k D,.slice q K5.length c] W (RetZ W [])) := fun W q c hr => by
    have := AuRows_any (L : Int) (t : Int) (k : Int) (D : Int) q K5.length c K5 W hr HR4.out.ok.l
    rwa [auS_red HR4.out.ok HR4.out.red] at this
   obtain ⟨z0,z1,z2,z3⟩ := cells_four KP4.out
   go_upto_region 12 with (fail)
   refine wp_region_shapes (fun ix => ([.val (.pointer (some ⟨gt,0,none⟩)),(ShLen 0),.val (.int .i64 0),.val (.bool false),.val (.bool false),.val (.agg #[.int .i64 (L : Nat),.int .i64 (t : Nat),.int .i64 (k : Nat),.int .u32 (D : Nat)]),.val (.pointer (some ⟨gt,0,none⟩)),(ShRw4 K5),(ShLen 0),.val (.int .i64 0),.val (.bool false),.val (.bool false)][ix]?).getD (.any)) 48 rfl (by kernel_rfl) (by decide +kernel) (by decide +kernel) (by decide +kernel) ?_ ?_
   ·refine ⟨?_,?_,?_,?_,?_,?_,?_,?_,?_,?_,?_,?_,trivial⟩
    ·intro a W hb0 hs hp hi; have hb := undrew hb0; clear hb0
     have t5 : sl a 5 = .pointer (some ⟨gt,0,none⟩) := hi 5 (by decide)
     exact ite_y rfl (wp_val (sl a 5) rfl ⟨_,rfl,Below.refl _ _,t5⟩)
    ·intro a W hb0 hs hp hi; have hb := undrew hb0; clear hb0
     have t35 : sl a 35 = .pointer (some ⟨gt,0,none⟩) := hp 0 (by decide)
     refine ite_y rfl (wp_enter 58 #[.pointer (some ⟨gt,0,none⟩)] ?_ (HAT.out W hb) ?_)
     ·simp only [execOp,resolve,List.map_toArray,List.map,eval_tmp,eval_func,eval_const,t35]; simp [go_sem]
     ·rintro e W' ⟨q5,g5,rfl,hw⟩; exact ⟨_,rfl,_,rfl,hw,q5,g5,rfl⟩
    ·intro a W hb0 hs hp hi; have hb := undrew hb0; clear hb0
     have t36 : LenIs 0 (sl a 36) W := hp 1 (by decide)
     obtain ⟨q5,g5,t36⟩ := t36
     refine ite_y rfl (wp_val (.int .i64 0) ?_ ?_)
     ·simp only [execOp,resolve,List.map_toArray,List.map,eval_tmp,eval_func,eval_const,t36]; simp [go_sem]
     ·exact ⟨_,rfl,Below.refl _ _,rfl⟩
    ·intro a W hb0 hs hp hi; have hb := undrew hb0; clear hb0
     have t37 : sl a 37 = .int .i64 0 := hp 2 (by decide)
     refine ite_y rfl (wp_val (.bool false) ?_ ?_)
     ·simp only [execOp,eval_tmp,eval_const,t37]; simp [go_sem]
     ·exact ⟨_,rfl,Below.refl _ _,rfl⟩
    ·intro a W hb0 hs hp hi; have hb := undrew hb0; clear hb0
     have t38 : sl a 38 = .bool false := hp 3 (by decide)
     exact ite_y rfl (wp_val (sl a 38) rfl ⟨_,rfl,Below.refl _ _,t38⟩)
    ·intro a W hb0 hs hp hi; have hb := undrew hb0; clear hb0
     have tg : sl a 39 = .bool false := hp 4 (by decide)
     have tt : sl a 2 = .pointer (some ⟨w.heap.size,0,none⟩) := hi 2 (by decide)
     have dd0 := (hb.cell (p := ⟨w.heap.size,0,none⟩) (lt_of_cell z0)).trans z0
     have dd1 := (hb.cell (p := ⟨w.heap.size,1,none⟩) (lt_of_cell z1)).trans z1
     have dd2 := (hb.cell (p := ⟨w.heap.size,2,none⟩) (lt_of_cell z2)).trans z2
     have dd3 := (hb.cell (p := ⟨w.heap.size,3,none⟩) (lt_of_cell z3)).trans z3
     refine ite_y (wanted_yes rfl rfl (by have hz : a.tmps.size = 48 := hs; rw [hz]; decide) tg) (wp_val (.agg #[.int .i64 (L : Nat),.int .i64 (t : Nat),.int .i64 (k : Nat),.int .u32 (D : Nat)]) ?_ ?_)
     ·simp only [execOp,eval_tmp,tt]; simp [go_sem,dd0,dd1,dd2,dd3]
     ·exact ⟨_,rfl,Below.refl _ _,rfl⟩
    ·intro a W hb0 hs hp hi; have hb := undrew hb0; clear hb0
     have tg : sl a 39 = .bool false := hp 4 (by decide)
     have t5 : sl a 5 = .pointer (some ⟨gt,0,none⟩) := hi 5 (by decide)
     exact ite_y (wanted_yes rfl rfl (by have hz : a.tmps.size = 48 := hs; rw [hz]; decide) tg) (wp_val (sl a 5) rfl ⟨_,rfl,Below.refl _ _,t5⟩)
    ·intro a W hb0 hs hp hi; have hb := undrew hb0; clear hb0
     have tg : sl a 39 = .bool false := hp 4 (by decide)
     have t41 : sl a 41 = .pointer (some ⟨gt,0,none⟩) := hp 6 (by decide)
     refine ite_y (wanted_yes rfl rfl (by have hz : a.tmps.size = 48 := hs; rw [hz]; decide) tg) (wp_enter 21 #[.pointer (some ⟨gt,0,none⟩)] ?_ (HRs.out W hb) ?_)
     ·simp only [execOp,resolve,List.map_toArray,List.map,eval_tmp,eval_func,eval_const,t41]; simp [go_sem]
     ·rintro e W' ⟨v5,rfl,hr5,hw⟩; obtain ⟨q5,g5,rfl⟩ := hr5.shape; exact ⟨_,rfl,_,rfl,hw,q5,g5,rfl,hr5.rwS⟩
    ·intro a W hb0 hs hp hi; have hb := undrew hb0; clear hb0
     have tg : sl a 39 = .bool false := hp 4 (by decide)
     have t40 : sl a 40 = .agg #[.int .i64 (L : Nat),.int .i64 (t : Nat),.int .i64 (k : Nat),.int .u32 (D : Nat)] := hp 5 (by decide)
     have t42 : RwT4 K5 (sl a 42) W := hp 7 (by decide)
     obtain ⟨q5,g5,t42,z42⟩ := t42
     refine ite_y (wanted_yes rfl rfl (by have hz : a.tmps.size = 48 := hs; rw [hz]; decide) tg) (wp_enter 56 #[.agg #[.int .i64 (L : Nat),.int .i64 (t : Nat),.int .i64 (k : Nat),.int .u32 (D : Nat)],.slice q5 K5.length g5] ?_ (HAR.out W q5 g5 z42) ?_)
     ·simp only [execOp,resolve,List.map_toArray,List.map,eval_tmp,eval_func,eval_const,t40,t42]; simp [go_sem]
     ·rintro e W' ⟨q6,g6,rfl,-,hw⟩; exact ⟨_,rfl,_,rfl,hw,q6,g6,rfl⟩
    ·intro a W hb0 hs hp hi; have hb := undrew hb0; clear hb0
     have tg : sl a 39 = .bool false := hp 4 (by decide)
     have t43 : LenIs 0 (sl a 43) W := hp 8 (by decide)
     obtain ⟨q5,g5,t43⟩ := t43
     refine ite_y (wanted_yes rfl rfl (by have hz : a.tmps.size = 48 := hs; rw [hz]; decide) tg) (wp_val (.int .i64 0) ?_ ?_)
     ·simp only [execOp,resolve,List.map_toArray,List.map,eval_tmp,eval_func,eval_const,t43]; simp [go_sem]
     ·exact ⟨_,rfl,Below.refl _ _,rfl⟩
    ·intro a W hb0 hs hp hi; have hb := undrew hb0; clear hb0
     have tg : sl a 39 = .bool false := hp 4 (by decide)
     have t44 : sl a 44 = .int .i64 0 := hp 9 (by decide)
     refine ite_y (wanted_yes rfl rfl (by have hz : a.tmps.size = 48 := hs; rw [hz]; decide) tg) (wp_val (.bool false) ?_ ?_)
     ·simp only [execOp,eval_tmp,eval_const,t44]; simp [go_sem]
     ·exact ⟨_,rfl,Below.refl _ _,rfl⟩
    ·intro a W hb0 hs hp hi; have hb := undrew hb0; clear hb0
     have t39 : sl a 39 = .bool false := hp 4 (by decide)
     have t45 : sl a 45 = .bool false := hp 10 (by decide)
     refine ite_y rfl (wp_val (.bool false) ?_ ?_)
     ·simp only [execOp,eval_tmp,eval_const,t39,t45]; simp [go_sem]
     ·exact ⟨_,rfl,Below.refl _ _,rfl⟩
   intro a w5 hb hs hd hI ht
   have ha := act_is [35,36,37,38,39,40,41,42,43,44,45,46] hs hd ht (by decide)
   have t46 : sl a 46 = .bool false := hI 11 (by decide)
   simp only [List.foldl,t46] at ha
   generalize sl a 35 = u35 at ha
   generalize sl a 36 = u36 at ha
   generalize sl a 37 = u37 at ha
   generalize sl a 38 = u38 at ha
   generalize sl a 39 = u39 at ha
   generalize sl a 40 = u40 at ha
   generalize sl a 41 = u41 at ha
   generalize sl a 42 = u42 at ha
   generalize sl a 43 = u43 at ha
   generalize sl a 44 = u44 at ha
   generalize sl a 45 = u45 at ha
   simp only [Act.put,List.setIfInBounds_toArray,List.set_cons_zero,List.set_cons_succ] at ha
   rw [ha]
   clear ha hI ht
   have HB5 := Lib.hid (bl HW4.out hb HW4.out.size)
   have HR5 := Lib.hid (HR4.out.keep hb)
   have KP5 := Lib.hid ((hb.block _ (lt_of_block KP4.out)).trans KP4.out)
   clear hb z0 z1 z2 z3 HAT HRs HAR HR4 KP4 HW4
   go_wp2
   go_roundw
   case rel => exact ⟨i + 1,M4,v4,C5,K5,st5,HLT.out,by go_num,HR5.out,HS4.out,HB5.out,KP5.out⟩
   case measure => simp [intOf]; have := HLT.out; omega
  ·obtain rfl : i = n1 := by omega
   clear hlt
   go_wp2
   go_ret
   exact ⟨rfl,HB6.out⟩
end Go.Proofs.YtccaiiigdfieoaaGreatDoor
namespace Go.Proofs.YtccaiiigdfieoaaGreatDoor
open Go.RowKit Go.By
theorem tab10_of {d32 d64 : DataW Unit} {rest : List (String × DataW Unit)} {W : World} (h : laidMet Tryz.prog (("math/bits.deBruijn32tab", d32) :: ("math/bits.deBruijn64tab", d64) :: ("internal/strconv.uint64pow10", Rows.laid_internal_strconv_uint64pow10) :: rest) W) : Tab10 W := by
 have hz : (Rows.laid_internal_strconv_uint64pow10 : DataW Unit) = Lib.tabData .u64 Lib.pow10Tab := rfl
 have h2 := laidMet.tail (laidMet.tail h)
 rw [hz] at h2
 exact Lib.tabIs_of_head (g := 2) (t := 323) (e := 81) (n := 20) (by kernel_rfl) (by kernel_rfl) (by kernel_rfl) (by kernel_rfl) (by kernel_rfl) (by kernel_rfl) h2
end Go.Proofs.YtccaiiigdfieoaaGreatDoor
namespace Go.By
open Go.RowKit
theorem handed_shaped_and {H : Type} {enc : TypeId × Value → H} {a : Assume} {C : Checked} {os : Os} {f : FuncId} {fn : Func} {s : ChangeSpec} {conds : List PathCond} {apart fresh handsOn again : Bool} {X : World → Array Value → Prop}
  (hX : ∀ (w w' : World) (args : Array Value),w.heap = w'.heap → X w args → X w' args)
  (own : ownKnob C.prog.godebug = none) (started : os.Started) (noInit : C.prog.inits.idxOf? f = none) (hfn : C.prog.funcs[f]? = some fn)
  (witness : ∃ (w : World) (tape : Tape) (i : Input),w.os = os ∧ (w.forCall tape i).Shaped C.prog ∧ i.vars = [] ∧ Input.okWide C.prog (w.forCall tape i) .any w.heap.size f i ∧
   ((s.pre enc C.prog fn conds apart (w.forCall tape i).memory i.args ∧ X (w.forCall tape i).memory i.args) ∧ sizedMet enc C.prog fn (OpenSpec.ofChange s) apart (w.forCall tape i).memory i.args) ∧ a.holds C.prog (lone (Frame.enter C.prog f i.args .normal) [] (w.forCall tape i)))
  (contract : ∀ (W : World) (base : Nat) (args : Array Value) (ds gs : List (DataW H)) (before : List MemPlace),
   (∀ (j : Nat) t v,fn.params[j]? = some t → args[j]? = some v → Value.okWide C.prog W .any base t v) →
   DataW.Whole enc C.prog fn.params.toList s.vars apart W args.toList ds gs before →
   conds.all (PathCond.test C.prog ⟨fn.params.toList,ds,s.plain.varTypes C.prog,gs⟩) = true →
   (DataW.weightsEach C.prog (fn.params.toList ++ s.plain.varTypes C.prog) (ds ++ gs)).all (· ≤ reachBytes) = true → X W args → W.ShapedOpen C.prog →
   a.holds C.prog (lone (Frame.enter C.prog f args .normal) [] W) →
   Calls C.prog f args W fun e W' => ∃ v,e = .returned v ∧ s.post enc C.prog fn apart fresh handsOn again W args v W') :
  ReturnsInHanded a C os f .any (fun w args => (s.pre enc C.prog fn conds apart w args ∧ X w args) ∧ sizedMet enc C.prog fn (OpenSpec.ofChange s) apart w args) (s.post enc C.prog fn apart fresh handsOn again) :=
 returnsInHanded_of_calls own started noInit witness (fun w tape i _ shape _ ok before holds => by
  have value := ok.2.2.2
  obtain ⟨fn2,h2,_,_,_,_,value⟩ := value
  cases hfn.symm.trans h2
  obtain ⟨⟨⟨ds,gs,places,whole,conds⟩,x⟩,sized⟩ := before
  exact (contract _ w.heap.size i.args ds gs places value (DataW.Whole.of_heap (w := (w.forCall tape i).memory) (w' := w.forCall tape i) rfl whole) conds (sized.weights whole) (hX (w.forCall tape i).memory (w.forCall tape i) _ rfl x) shape holds).mono (fun e W' h => by
   obtain ⟨v,e1,post⟩ := h
   cases e1
   exact ChangeSpec.post_blind post))
end Go.By
namespace Go.Proofs.YtccaiiigdfieoaaGreatDoor
open Go.RowKit Go.By
theorem maxI_of {W : World} (h : W.ShapedOpen Tryz.prog) : MaxI W :=
 Go.Proofs.cell_of_shapedOpen_int (zero := #[.int .i64 0]) (t := 3) h (of_decide_eq_true (by kernel_rfl)) (by kernel_rfl) rfl (by kernel_rfl) (by kernel_rfl) Tryz.underlying3
theorem row_errS (u : TypeId) (h : Tryz.prog.typeName? 3 u = some "*errors.errorString") : u = 350 :=
 typeName_ptr_named (nm := "errors.errorString") (by rw [show "*" ++ "errors.errorString" = "*errors.errorString" by decide]; kernel_rfl) (by kernel_rfl) (by decide) u (by rw [show "*" ++ "errors.errorString" = "*errors.errorString" by decide]; exact h)
theorem errI_of {a b c d : String × DataW Unit} {rest : List (String × DataW Unit)} {W : World} (h : laidMet Tryz.prog (a :: b :: c :: d :: ("strconv.ErrRange", Rows.laid_strconv_ErrRange) :: rest) W) : ErrI W := by
 have h2 := laidMet.tail (laidMet.tail (laidMet.tail (laidMet.tail h)))
 obtain ⟨p,s,hv,_⟩ := laid_sentinel (g := 6) (ti := 137) (tp := 350) (te := 352) (ts := 9) h2 (by kernel_rfl) (by kernel_rfl) Tryz.underlying137 row_errS Tryz.underlying350 Tryz.underlying352 rfl rfl Tryz.underlying9 (by kernel_rfl) (by kernel_rfl)
 exact ⟨_,World.var?_cell (by kernel_rfl) hv 0,.inr ⟨_,_,rfl⟩⟩
end Go.Proofs.YtccaiiigdfieoaaGreatDoor
namespace Go.Proofs.YtccaiiigdfieoaaGreatDoor
open Go.RowKit Go.By
theorem halves_of {rest : List (String × DataW Unit)} {W : World} (h : laidMet Tryz.prog (("wellspring/sum.halves", Rows.laid_wellspring_sum_halves) :: rest) W) : HalfT W := by
 obtain ⟨zs,hz,hzl,hzc⟩ : ∃ zs : List Int,(Rows.laid_wellspring_sum_halves : DataW Unit) = Lib.tabData .u32 zs ∧ zs.length = 16 ∧ ∀ i,i < 16 → zs.getD i 0 = ((crcTab.getD i 0 : Nat) : Int) := ⟨[0,498536548,997073096,651767980,1994146192,1802195444,1303535960,1342533948,3988292384,4027552580,3604390888,3412177804,2607071920,2262029012,2685067896,3183342108],rfl,rfl,by decide⟩
 rw [hz] at h
 have h3 := Lib.tabIs_of_head (g := 0) (t := 304) (e := 23) (n := 16) (by kernel_rfl) (by kernel_rfl) (by kernel_rfl) (by kernel_rfl) (by kernel_rfl) (by kernel_rfl) h
 intro i hi
 have := h3.cell (g := 0) (by kernel_rfl) i (by omega)
 rw [hzc i hi] at this
 exact this
end Go.Proofs.YtccaiiigdfieoaaGreatDoor
namespace Go.Proofs.YtccaiiigdfieoaaGreatDoor
open Go.RowKit Go.By
theorem prs_of {d32 d64 : DataW Unit} {d : String × DataW Unit} {rest : List (String × DataW Unit)} {W : World} (h : laidMet Tryz.prog (("math/bits.deBruijn32tab", d32) :: ("math/bits.deBruijn64tab", d64) :: ("internal/strconv.uint64pow10", Rows.laid_internal_strconv_uint64pow10) :: d :: ("wellspring/sum.halves", Rows.laid_wellspring_sum_halves) :: ("strconv.ErrRange", Rows.laid_strconv_ErrRange) :: rest) W) : Tab10 W ∧ HalfT W ∧ ErrI W := ⟨tab10_of h, halves_of (laidMet.tail (laidMet.tail (laidMet.tail (laidMet.tail h)))), errI_of (laidMet.tail h)⟩
end Go.Proofs.YtccaiiigdfieoaaGreatDoor
namespace Go.Proofs.YtccaiiigdfieoaaGreatDoor
open Go.RowKit Go.By Go.Maps
set_option maxRecDepth 100000 in
set_option maxHeartbeats 4000000 in
theorem AuditNothing_out (l s n d : Int) (p1 : Option Addr) (n1 c1 : Nat) (xss : List (List UInt8)) (w : World) (hl : l ≤ 9223372036854775807) (h1 : Sl2 w p1 n1 c1 xss) (hT : HalfT w) (hX : Tab10 w)
  (hx : ((xss.all (fun y => decide (y.length ≤ 800)) && decide (n1 ≤ 30)) && small19 l s n) = false) :
  Calls Tryz.prog 10 #[.agg #[.int .i64 l,.int .i64 s,.int .i64 n,.int .u32 d],.slice p1 n1 c1] w fun e w' => e = .returned (.bool true) ∧ Below w.heap.size w w' := by
 have HT := Lib.hid hT
 have HTX := Lib.hid hX
 have HFew : Hid (∀ w,Sl2 w p1 n1 c1 xss → Calls Tryz.prog 25 #[.slice p1 n1 c1] w fun e w' => e = .returned (.bool (xss.all (fun y => decide (y.length ≤ 800)) && decide (n1 ≤ 30))) ∧ w = w') := fun w h => Few18_any p1 n1 c1 xss w h
 have HSm := Lib.hid (fun w => Small19_any l s n d w hl)
 generalize (xss.all (fun y => decide (y.length ≤ 800)) && decide (n1 ≤ 30)) = F at *
 generalize small19 l s n = S at *
 have H1 := Lib.hid h1
 clear hT h1 hX
 cases F with
 | false =>
  clear hx
  go_enter Tryz.func10,Tryz.ntmps10
  go_wp2_with fail
  refine Calls.mono (awake28 _) ?_
  rintro e w1 ⟨rfl,hb⟩
  have HB1 := Lib.hid (one_of hb).1
  clear hb
  go_wp2_with fail
  refine Calls.mono (HFew.out _ (H1.out.keep HB1.out)) ?_
  rintro e w2 ⟨rfl,rfl⟩
  go_wp2
  go_ret
  exact ⟨rfl,HB1.out⟩
 | true =>
  cases S with
  | false =>
   clear hx
   go_enter Tryz.func10,Tryz.ntmps10
   go_wp2_with fail
   refine Calls.mono (awake28 _) ?_
   rintro e w1 ⟨rfl,hb⟩
   obtain ⟨hb1,kp,hs1⟩ := one_of hb
   have HB1 := Lib.hid hb1
   clear hb hb1
   go_wp2_with fail
   refine Calls.mono (HFew.out _ (H1.out.keep HB1.out)) ?_
   rintro e w2 ⟨rfl,rfl⟩
   obtain ⟨z0,z1,z2,z3⟩ := cells_four kp
   go_wp2_with fail
   refine Calls.mono (HSm.out _) ?_
   rintro e w3 ⟨rfl,hb⟩
   have HB3 := Lib.hid (bl HB1.out hb HB1.out.size)
   clear hb z0 z1 z2 z3 kp HB1
   go_wp2
   go_ret
   exact ⟨rfl,HB3.out⟩
  | true => cases hx
set_option maxRecDepth 100000 in
set_option maxHeartbeats 4000000 in
theorem AuditNothing_bad (l s n d : Int) (p1 : Option Addr) (n1 c1 : Nat) (xss : List (List UInt8)) (w : World) (hl : l ≤ 9223372036854775807) (h1 : Sl2 w p1 n1 c1 xss) (hT : HalfT w) (hX : Tab10 w)
  (hfew : (xss.all (fun y => decide (y.length ≤ 800)) && decide (n1 ≤ 30)) = true) (hc : checkS l s n ≠ 0) :
  Calls Tryz.prog 10 #[.agg #[.int .i64 l,.int .i64 s,.int .i64 n,.int .u32 d],.slice p1 n1 c1] w fun e w' => e = .returned (.bool true) ∧ Below w.heap.size w w' := by
 have HT := Lib.hid hT
 have HTX := Lib.hid hX
 have HFew : Hid (∀ w,Sl2 w p1 n1 c1 xss → Calls Tryz.prog 25 #[.slice p1 n1 c1] w fun e w' => e = .returned (.bool true) ∧ w = w') := fun w h => by have := Few18_any p1 n1 c1 xss w h; rw [hfew] at this; exact this
 have hsm : small19 l s n = true := by unfold small19; rw [if_neg hc]
 have HSm : Hid (∀ w,Calls Tryz.prog 26 #[.agg #[.int .i64 l,.int .i64 s,.int .i64 n,.int .u32 d]] w fun e w' => e = .returned (.bool true) ∧ Below w.heap.size w w') := fun w => by have := Small19_any l s n d w hl; rw [hsm] at this; exact this
 have HNew := Lib.hid (fun w => TNew_bad l s n d w hl hc)
 have hz : (checkS l s n != 0) = true := bne_iff_ne.2 hc
 generalize checkS l s n = C at *
 have H1 := Lib.hid h1
 clear hT h1 hsm hc hfew hX
 go_enter Tryz.func10,Tryz.ntmps10
 go_wp2_with fail
 refine Calls.mono (awake28 _) ?_
 rintro e w1 ⟨rfl,hb⟩
 obtain ⟨hb1,kp,hs1⟩ := one_of hb
 have HB1 := Lib.hid hb1
 clear hb hb1
 go_wp2_with fail
 refine Calls.mono (HFew.out _ (H1.out.keep HB1.out)) ?_
 rintro e w2 ⟨rfl,rfl⟩
 obtain ⟨z0,z1,z2,z3⟩ := cells_four kp
 go_wp2_with fail
 refine Calls.mono (HSm.out _) ?_
 rintro e w3 ⟨rfl,hb⟩
 have HB3 := Lib.hid (bl HB1.out hb HB1.out.size)
 have kp3 := (hb.block _ (lt_of_block kp)).trans kp
 clear hb z0 z1 z2 z3 kp HB1 hs1
 obtain ⟨z0,z1,z2,z3⟩ := cells_four kp3
 go_wp2_with fail
 refine Calls.mono (HNew.out _) ?_
 rintro e w4 ⟨rfl,hb⟩
 have HB4 := Lib.hid (bl HB3.out hb HB3.out.size)
 clear hb kp3 z0 z1 z2 z3 HB3
 go_wp2
 go_ret
 exact ⟨rfl,HB4.out⟩
theorem AuditNothing_any (l s n d : Int) (p1 : Option Addr) (n1 c1 : Nat) (xss : List (List UInt8)) (w : World) (w0 : (Lit.int .i64 l).wf = true) (_w1 : (Lit.int .i64 s).wf = true) (_w2 : (Lit.int .i64 n).wf = true) (w3 : (Lit.int .u32 d).wf = true) (h1 : Sl2 w p1 n1 c1 xss) (hK : Tab10 w ∧ HalfT w ∧ ErrI w) (hM : MaxI w) :
  Calls Tryz.prog 10 #[.agg #[.int .i64 l,.int .i64 s,.int .i64 n,.int .u32 d],.slice p1 n1 c1] w fun e w' => e = .returned (.bool true) ∧ Below w.heap.size w w' := by
 have hl := (Go.bounds_i64 w0).2
 have hd := Go.bounds_u32 w3
 obtain ⟨hX,hT,hE⟩ := hK
 by_cases hx : ((xss.all (fun y => decide (y.length ≤ 800)) && decide (n1 ≤ 30)) && small19 l s n) = false
 ·exact AuditNothing_out l s n d p1 n1 c1 xss w hl h1 hT hX hx
 ·rw [Bool.not_eq_false,Bool.and_eq_true] at hx
  obtain ⟨hfew,hsm⟩ := hx
  by_cases hc : checkS l s n = 0
  ·obtain ⟨L,t,k,D,rfl,rfl,rfl,rfl,hP⟩ := pok_of hl hc hd.1 (by omega)
   have hsm' := hsm
   unfold small19 at hsm'
   rw [if_pos hc,Bool.and_eq_true] at hsm'
   have h12 := of_decide_eq_true hsm'.1
   have h20 := of_decide_eq_true hsm'.2
   exact AuditNothing_core L t k D p1 n1 c1 xss w hP (by omega) (by omega) hfew hsm h1 hT hX hM hE
  ·exact AuditNothing_bad l s n d p1 n1 c1 xss w hl h1 hT hX hfew hc
end Go.Proofs.YtccaiiigdfieoaaGreatDoor
namespace Go.By
open Go.RowKit
theorem spot_none {w : World} {x : Addr} {v : Value} (h : w.cell? (x.add 0) = some v) : ∃ b o,x = ⟨b,o,none⟩ := by
 obtain ⟨b,off,spot⟩ := x
 have hspot : spot = none := by simpa [Addr.add] using World.cell?_spot h
 subst hspot
 exact ⟨b,off,rfl⟩
theorem sl2_of_rows {w : World} {a : Option Addr} {len cap : Nat} (hl : len ≤ cap) (hm : cap ≤ maxLen) (hn : a = none → len = 0 ∧ cap = 0) (A : Nat → Option Addr) (L C : Nat → Nat) (Z : Nat → List Int)
  (h : ∀ x,a = some x → ∀ r,r < cap → w.cell? (x.add r) = some (.slice (A r) (L r) (C r)) ∧ L r ≤ C r ∧ C r ≤ maxLen ∧ (Z r).length = C r ∧ (∀ n ∈ Z r,(Lit.int .u8 n).wf = true) ∧ (A r = none → C r = 0) ∧
    ∀ a',A r = some a' → ∀ c,c < C r → w.cell? (a'.add c) = some (.int .u8 ((Z r).getD c 0))) : ∃ xss,Sl2 w a len cap xss := by
 have each : ∀ r,∃ xs,r < len → Sl B8 w (A r) (L r) (C r) xs := by
  intro r
  by_cases hr : r < len
  ·cases ha : a with
   | none => have := hn ha; omega
   | some x =>
    obtain ⟨_,h1,h2,h3,h4,h5,h6⟩ := h x ha r (by omega)
    cases hA : A r with
    | none =>
     have := h5 hA
     have hL : L r = 0 := by omega
     exact ⟨[],fun _ => by rw [hL,this]; exact Sl.nil0 _ _⟩
    | some a' =>
     obtain ⟨xs,hx⟩ := sl_of_row (w := w) (a := some a') (len := L r) (cap := C r) (zs := Z r) (.inr ⟨a',rfl,h1,h2,h3,fun i hi => h6 a' hA i (by omega),h4⟩)
     exact ⟨xs,fun _ => hx⟩
  ·exact ⟨[],fun h => absurd h hr⟩
 refine ⟨(List.range len).map fun r => Classical.choose (each r),⟨by simp,hl,hm,hn,?_⟩⟩
 intro i xs hi
 obtain ⟨hi',e⟩ := List.getElem?_eq_some_iff.1 hi
 simp at hi' e
 have hs := Classical.choose_spec (each i) hi'
 rw [e] at hs
 cases ha : a with
 | none => have := hn ha; omega
 | some x =>
  obtain ⟨hc,_⟩ := h x ha i (by omega)
  obtain ⟨b,o,rfl⟩ := spot_none (h x ha 0 (by omega)).1
  rw [Addr.add_lit] at hc
  exact ⟨b,o,A i,C i,rfl,by rw [hs.len]; exact hc,by rw [hs.len]; exact hs⟩
end Go.By
