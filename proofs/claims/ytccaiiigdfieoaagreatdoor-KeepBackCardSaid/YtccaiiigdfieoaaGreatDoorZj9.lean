/- Chapter 24: KeepBack,of a plan that may be. The library's table of powers of ten,out of the row's condition. What the library's variables hold: out of the row's condition,and of the world's shape. The table of the sum,out of the row's condition. What the library's variables hold,for Parse: out of the row's condition. Chapter 24: KeepBack,of any plan. Arguments that came in: slices of byte slices. -/
import Derived.Test.YtccaiiigdfieoaaGreatDoorZj8
import Derived.Test.YtccaiiigdfieoaaGreatDoorRows
import Derived.Lib.LaidTab
import Derived.Stop.LaidErr
import Derived.Shelf.Vars
import Derived.SizedLaws
import Derived.OpenShut
import Derived.Deep.Matrix
namespace Go.By
open Go.RowKit Go.Maps Go.Proofs.YtccaiiigdfieoaaGreatDoor
def IT24 (B L t k D : Nat) (K : List Rw) (st : Nat) (v : Value) (w : World) : Prop := ∃ base gt be N M u C,v = .tuple #[.pointer (some ⟨gt,0,none⟩),.int .i64 0] ∧ B ≤ base ∧ N ≤ 5000 ∧ Tkr w base gt be L t k D N M u C K st
def ShIT24 (B L t k D : Nat) (K : List Rw) (st : Nat) : Shp := ⟨IT24 B L t k D K st,fun _ _ _ ⟨base,gt,be,N,M,u,C,e,h1,h2,h3⟩ hb => ⟨base,gt,be,N,M,u,C,e,h1,h2,h3.keep hb⟩⟩
def PT24 (B L t k D : Nat) (K : List Rw) (st : Nat) (v : Value) (w : World) : Prop := ∃ base gt be N M u C,v = .pointer (some ⟨gt,0,none⟩) ∧ B ≤ base ∧ N ≤ 5000 ∧ Tkr w base gt be L t k D N M u C K st
def ShPT24 (B L t k D : Nat) (K : List Rw) (st : Nat) : Shp := ⟨PT24 B L t k D K st,fun _ _ _ ⟨base,gt,be,N,M,u,C,e,h1,h2,h3⟩ hb => ⟨base,gt,be,N,M,u,C,e,h1,h2,h3.keep hb⟩⟩
structure E24 (wI : World) (L t k D b1 g1 e1 b2 g2 e2 b3 g3 e3 N0 : Nat) (K K' : List Rw) (s s' : Nat) (d10 d16 d24 : Bool) (W : World) : Prop where
 bel : Below wI.heap.size wI W
 tri : ∃ N,N ≤ N0 + (if d10 = true then 1 else 0) + (if d16 = true then 1 else 0) + (if d24 = true then 1 else 0) ∧ TriS W wI.heap.size L t k D b1 g1 e1 b2 g2 e2 b3 g3 e3 N (if d10 = true then K' else K) (if d10 = true then s' else s) (if d16 = true then K' else K) (if d16 = true then s' else s) (if d24 = true then K' else K) (if d24 = true then s' else s)
theorem readC_one (k t D : Nat) (xs : List UInt8) : readC k t D xs ≠ 1 := by
 unfold readC headC modeC
 repeat' split
 all_goals first | decide | (intro h; omega) | skip
end Go.By
namespace Go.Proofs.YtccaiiigdfieoaaGreatDoor
open Go.RowKit Go.By Go.Maps
section
variable {wI W : World} {L t k D b1 g1 e1 b2 g2 e2 b3 g3 e3 N0 : Nat} {K : List Rw} {s : Nat} {d10 d16 d24 : Bool} {p : Option Addr} {n c : Nat} {xs : List UInt8}
theorem E24.s10 (h : E24 wI L t k D b1 g1 e1 b2 g2 e2 b3 g3 e3 N0 K (takeK k t D K s xs) s (takeS k t D K s xs) d10 d16 d24 W) (hd : d10 = false) (hN : N0 ≤ 900000) (hT : HalfT wI) (hs : Sl B8 wI p n c xs) (hr : Room n) :
  Calls Tryz.prog 16 #[.pointer (some ⟨g1,0,none⟩),.slice p n c] W fun e w' => e = .returned (.int .i64 (readC k t D xs)) ∧ E24 wI L t k D b1 g1 e1 b2 g2 e2 b3 g3 e3 N0 K (takeK k t D K s xs) s (takeS k t D K s xs) true d16 d24 w' := by
 obtain ⟨N,hn,tr⟩ := h.tri
 rw [hd] at hn tr
 have b16 : (if d16 = true then 1 else 0) ≤ 1 := by split <;> omega
 have b24 : (if d24 = true then 1 else 0) ≤ 1 := by split <;> omega
 simp only [Bool.false_eq_true,if_false] at hn tr
 refine (TriS.take tr (hT.keep h.bel) (by omega) (hs.keep h.bel) hr).mono ?_
 rintro e w' ⟨he,ht,hb⟩
 refine ⟨he,h.bel.trans hb,N + 1,?_,?_⟩
 ·show N + 1 ≤ N0 + 1 + (if d16 = true then 1 else 0) + (if d24 = true then 1 else 0)
  omega
 ·exact ht
theorem E24.s16 (h : E24 wI L t k D b1 g1 e1 b2 g2 e2 b3 g3 e3 N0 K (takeK k t D K s xs) s (takeS k t D K s xs) d10 d16 d24 W) (hd : d16 = false) (hN : N0 ≤ 900000) (hT : HalfT wI) (hs : Sl B8 wI p n c xs) (hr : Room n) :
  Calls Tryz.prog 16 #[.pointer (some ⟨g2,0,none⟩),.slice p n c] W fun e w' => e = .returned (.int .i64 (readC k t D xs)) ∧ E24 wI L t k D b1 g1 e1 b2 g2 e2 b3 g3 e3 N0 K (takeK k t D K s xs) s (takeS k t D K s xs) d10 true d24 w' := by
 obtain ⟨N,hn,tr⟩ := h.tri
 rw [hd] at hn tr
 have b16 : (if d10 = true then 1 else 0) ≤ 1 := by split <;> omega
 have b24 : (if d24 = true then 1 else 0) ≤ 1 := by split <;> omega
 simp only [Bool.false_eq_true,if_false] at hn tr
 refine (TriS.take tr.swap (hT.keep h.bel) (by omega) (hs.keep h.bel) hr).mono ?_
 rintro e w' ⟨he,ht,hb⟩
 refine ⟨he,h.bel.trans hb,N + 1,?_,?_⟩
 ·show N + 1 ≤ N0 + (if d10 = true then 1 else 0) + 1 + (if d24 = true then 1 else 0)
  omega
 ·exact ht.swap
theorem E24.s24 (h : E24 wI L t k D b1 g1 e1 b2 g2 e2 b3 g3 e3 N0 K (takeK k t D K s xs) s (takeS k t D K s xs) d10 d16 d24 W) (hd : d24 = false) (hN : N0 ≤ 900000) (hT : HalfT wI) (hs : Sl B8 wI p n c xs) (hr : Room n) :
  Calls Tryz.prog 16 #[.pointer (some ⟨g3,0,none⟩),.slice p n c] W fun e w' => e = .returned (.int .i64 (readC k t D xs)) ∧ E24 wI L t k D b1 g1 e1 b2 g2 e2 b3 g3 e3 N0 K (takeK k t D K s xs) s (takeS k t D K s xs) d10 d16 true w' := by
 obtain ⟨N,hn,tr⟩ := h.tri
 rw [hd] at hn tr
 have b16 : (if d10 = true then 1 else 0) ≤ 1 := by split <;> omega
 have b24 : (if d16 = true then 1 else 0) ≤ 1 := by split <;> omega
 simp only [Bool.false_eq_true,if_false] at hn tr
 refine (TriS.take tr.turn (hT.keep h.bel) (by omega) (hs.keep h.bel) hr).mono ?_
 rintro e w' ⟨he,ht,hb⟩
 refine ⟨he,h.bel.trans hb,N + 1,?_,?_⟩
 ·show N + 1 ≤ N0 + (if d10 = true then 1 else 0) + (if d16 = true then 1 else 0) + 1
  omega
 ·exact ht.turn.turn
end
theorem PrsK.back5 {w w' : World} {L t k D st : Nat} {K : List Rw} {e : Ending} (hP : POK L t k D) (hR : Red k t K) (hs : StF k K st) (h : PrsK w (keepT L t k D K st) e w') :
  ∃ base gt be N M v C,e = .returned (.tuple #[.pointer (some ⟨gt,0,none⟩),.int .i64 0]) ∧ w.heap.size ≤ base ∧ N ≤ 5000 ∧ Tkr w' base gt be L t k D N M v C K st ∧ Below w.heap.size w w' := by
 have hKl : K.length ≤ k := Red.le hR
 have hk2 := hP.k2
 have hf : ∀ r,r ∈ expR k t K st → Fit k t r := expR_fit fun r hr => (hR.kept.rows r hr).1
 have hel : (expR k t K st).length ≤ 5000 := by have := expR_len (k := k) (t := t) (st := st) (K := K); omega
 obtain ⟨o,ec,he,hb,hp⟩ := h.parts
 have hI := hp.imp _ _ _ _ _ _ _ (keep_lines L t k D K st) keep_pkts (keep_plan hP)
 obtain ⟨rfl,base,gt,be,M,v,C,rfl,h1,h2⟩ := hI.good (impC_exp hf hP.d (by omega))
 rw [hear_again hR hs hP.k1 hP.t1 hP.d (by omega)] at h2
 exact ⟨base,gt,be,_,M,v,C,he,h1,by rw [expL_len]; exact hel,h2,hb⟩
set_option maxRecDepth 1000000 in
set_option maxHeartbeats 8000000 in
theorem KeepBack_core (L t k D : Nat) (p1 : Option Addr) (n1 c1 : Nat) (xss : List (List UInt8)) (p2 : Option Addr) (n2 c2 : Nat) (yss : List (List UInt8)) (w : World) (hP : POK L t k D) (hk12 : k ≤ 12) (ht20 : t ≤ 20) (hfew : (xss.all (fun y => decide (y.length ≤ 800)) && decide (n1 ≤ 30)) = true) (hfew2 : (yss.all (fun y => decide (y.length ≤ 800)) && decide (n2 ≤ 30)) = true) (hsm : small19 (L : Int) (t : Int) (k : Int) = true) (h1 : Sl2 w p1 n1 c1 xss) (h2 : Sl2 w p2 n2 c2 yss) (hT : HalfT w) (hX : Tab10 w) (hM : MaxI w) (hE : ErrI w) :
  Calls Tryz.prog 8 #[PVal L t k D,.slice p1 n1 c1,.slice p2 n2 c2] w fun e w' => e = .returned (.bool true) ∧ Below w.heap.size w w' := by
 have HT := Lib.hid hT
 have HTX := Lib.hid hX
 have HMx := Lib.hid hM
 have HEr := Lib.hid hE
 have HFew : Hid (∀ w,Sl2 w p1 n1 c1 xss → Calls Tryz.prog 25 #[.slice p1 n1 c1] w fun e w' => e = .returned (.bool true) ∧ w = w') := fun w h => by have := Few18_any p1 n1 c1 xss w h; rw [hfew] at this; exact this
 have HFew2 : Hid (∀ w,Sl2 w p2 n2 c2 yss → Calls Tryz.prog 25 #[.slice p2 n2 c2] w fun e w' => e = .returned (.bool true) ∧ w = w') := fun w h => by have := Few18_any p2 n2 c2 yss w h; rw [hfew2] at this; exact this
 have HSm : Hid (∀ w,Calls Tryz.prog 26 #[PVal L t k D] w fun e w' => e = .returned (.bool true) ∧ Below w.heap.size w w') := fun w => by have := Small19_any L t k D w hP.l; rw [hsm] at this; exact this
 have HNew := Lib.hid (fun w => TNew_ok L t k D w hP)
 have HP := Lib.hid hP
 have H1 := Lib.hid h1
 have H2 := Lib.hid h2
 have HFw2 := Lib.hid hfew2
 have hn230 : n2 ≤ 30 := by
  have := hfew2
  rw [Bool.and_eq_true] at this
  exact of_decide_eq_true this.2
 have HFw := Lib.hid hfew
 have HK12 := Lib.hid hk12
 have HT20 := Lib.hid ht20
 have hb1' := h1.bound
 clear hT hP h1 h2 hfew hfew2 hsm hk12 ht20 hX hM hE
 go_enter Tryz.func8,Tryz.ntmps8
 go_wp2_with fail
 refine Calls.mono (awake24 _ (HTX.out.keep (al (Below.refl _ _) (Nat.le_refl _))) (HT.out.keep (al (Below.refl _ _) (Nat.le_refl _)))) ?_
 rintro e w1 ⟨rfl,hb⟩
 obtain ⟨hb1,kp,hs1⟩ := one_of hb
 have HB1 := Lib.hid hb1
 clear hb hb1
 go_wp2_with fail
 refine Calls.mono (HFew.out _ (H1.out.keep HB1.out)) ?_
 rintro e w2 ⟨rfl,rfl⟩
 go_wp2_with fail
 refine Calls.mono (HFew2.out _ (H2.out.keep HB1.out)) ?_
 rintro e w2 ⟨rfl,rfl⟩
 obtain ⟨z0,z1,z2,z3⟩ := cells_four kp
 go_wp2_with fail
 refine Calls.mono (HSm.out _) ?_
 rintro e w3 ⟨rfl,hb⟩
 have HB3 := Lib.hid (bl HB1.out hb HB1.out.size)
 have kp3 := (hb.block _ (lt_of_block kp)).trans kp
 clear hb z0 z1 z2 z3 kp HB1 hs1
 obtain ⟨z0,z1,z2,z3⟩ := cells_four kp3
 go_wp2_with fail
 refine Calls.mono (HNew.out _) ?_
 rintro e w4 ⟨gt,be,v0,rfl,hr,hb⟩
 have HB4 := Lib.hid (bl HB3.out hb HB3.out.size)
 have HBase : Hid (w.heap.size ≤ w3.heap.size) := HB3.out.size
 obtain ⟨base,hbase⟩ : ∃ base,base = w3.heap.size := ⟨_,rfl⟩
 rw [← hbase] at hr HBase
 have kp4 := (hb.block _ (lt_of_block kp3)).trans kp3
 clear hb kp3 z0 z1 z2 z3 hbase HB3
 obtain ⟨z0,z1,z2,z3⟩ := cells_four kp4
 have HR5 := Lib.hid hr
 have HB5 := HB4
 have KP5 := Lib.hid kp4
 have HK1 : Hid (1 ≤ k) := hr.ok.k1
 clear hr HB4 HFew HFew2 HSm HNew kp4
 go_wp2
 clear z0 z1 z2 z3
 go_loopw [44] (fun iv wr => ∃ (i : Nat) (M v : Value) (C : DataW Unit) (K : List Rw) (st : Nat),i ≤ n1 ∧ iv = .int .i64 (i : Nat) ∧ Hid (Tkr wr base gt be L t k D i M v C K st) ∧ Hid (StF k K st) ∧ Hid (Below w.heap.size w wr) ∧ Hid (wr.heap[w.heap.size]? = some (.cells #[.int .i64 (L : Nat),.int .i64 (t : Nat),.int .i64 (k : Nat),.int .u32 (D : Nat)] 27 (0,0)))) (fun iv _ => n1 - (intOf iv).toNat)
 case atStart => exact ⟨0,_,_,_,_,0,Nat.zero_le _,rfl,HR5.out,StF.nil HK1.out,HB5.out,KP5.out⟩
 case round =>
  obtain ⟨i,M,v,C,K,st,hi,rfl,HR6,HS6,HB6,KP6⟩ := hrel
  clear HR5 HB5 KP5
  by_cases hlt : i < n1
  ·obtain ⟨bb,oo,qx,mx,cx,xs,rfl,hcd,hsd,hxd⟩ := H1.out.at i hlt
   have hcd6 := (HB6.out.cell (lt_of_cell hcd)).trans hcd
   have HXS := Lib.hid hsd
   have hmx : xs.length ≤ 800 := few_len19 HFw.out hxd.out
   have hmb : Room mx := by have := hsd.len; unfold Room; omega
   have hi30 : i < 30 := by
    have := HFw.out
    rw [Bool.and_eq_true] at this
    have := of_decide_eq_true this.2
    omega
   have hlt' : (i : Int) < (n1 : Int) := by omega
   have HLT := Lib.hid hlt
   clear hcd hsd hxd hlt hmx
   go_wp2_with fail
   refine Calls.mono (TTake_any base gt be L t k D i M v C K st qx mx cx xs wr HR6.out (HT.out.keep HB6.out) (by omega) (HXS.out.keep HB6.out) hmb) ?_
   rintro e w4 ⟨rfl,M4,v4,hk4,hch,-⟩
   have HR4 := Lib.hid hk4
   have HW4 := Lib.hid (HB6.out.trans (hch.below HR6.out HBase.out HB6.out.size))
   have KP4 : Hid (w4.heap[w.heap.size]? = some (.cells #[.int .i64 (L : Nat),.int .i64 (t : Nat),.int .i64 (k : Nat),.int .u32 (D : Nat)] 27 (0,0))) := hch.blk HR6.out KP6.out (by decide) (by decide) (by decide)
   have HS4 := Lib.hid (HS6.out.take (t := t) (D := D) xs)
   clear hk4 hch HR6 KP6 HB6 HS6
   generalize takeK k t D K st xs = K5 at *
   generalize takeS k t D K st xs = st5 at *
   generalize bump C (readC k t D xs) = C5 at *
   generalize readC k t D xs = code at *
   go_wp2
   go_roundw
   case rel => exact ⟨i + 1,M4,v4,C5,K5,st5,HLT.out,by go_num,HR4.out,HS4.out,HW4.out,KP4.out⟩
   case measure => simp [intOf]; have := HLT.out; omega
  ·obtain rfl : i = n1 := by omega
   clear hlt
   have hKk : K.length ≤ k := Red.le HR6.out.red
   have hf : ∀ r,r ∈ expR k t K st → Fit k t r := expR_fit fun r hr => (HR6.out.red.kept.rows r hr).1
   have hel : (expR k t K st).length ≤ 5000 := by have := expR_len (k := k) (t := t) (st := st) (K := K); have := HK12.out; omega
   have hEl : (expL D (expR k t K st)).length ≤ 5000 := by rw [expL_len]; exact hel
   have HBI : Hid (impC k t D (expL D (expR k t K st)) = 0) := impC_exp hf HP.out.d (by omega)
   have HAg : Hid (tkR k t D (expL D (expR k t K st)) = (K,st)) := hear_again HR6.out.red HS6.out HP.out.k1 HP.out.t1 HP.out.d (by have := HK12.out; omega)
   have HTx : Hid (∀ W,Below wr.heap.size wr W → Calls Tryz.prog 18 #[.pointer (some ⟨gt,0,none⟩)] W fun e w' => e = .returned (.string (strB (keepT L t k D K st))) ∧ Below W.heap.size W w') := fun W hb => KText19 (HR6.out.keep hb) HK12.out HT20.out (HTX.out.keep (bl HB6.out hb HB6.out.size)) (HT.out.keep (bl HB6.out hb HB6.out.size))
   have HPr : Hid (∀ W,Below wr.heap.size wr W → Calls Tryz.prog 17 #[.string (strB (keepT L t k D K st))] W fun e w' => ∃ base2 gt2 be2 N2 M2 v2 C2,e = .returned (.tuple #[.pointer (some ⟨gt2,0,none⟩),.int .i64 0]) ∧ W.heap.size ≤ base2 ∧ N2 ≤ 5000 ∧ Tkr w' base2 gt2 be2 L t k D N2 M2 v2 C2 K st ∧ Below W.heap.size W w') := fun W hb =>
    (KParse_any (keepT L t k D K st) W (by have := keepT_len (st := st) HP.out HR6.out.red HK12.out HT20.out; omega) (HMx.out.keep (bl HB6.out hb HB6.out.size)) (HEr.out.keep (bl HB6.out hb HB6.out.size)) (HT.out.keep (bl HB6.out hb HB6.out.size))).mono fun e w' hp => hp.back5 HP.out HR6.out.red HS6.out
   have HEx : Hid (∀ W,Below wr.heap.size wr W → Calls Tryz.prog 27 #[.pointer (some ⟨gt,0,none⟩)] W fun e w' => ∃ q2 c2,e = .returned (.slice q2 (expL D (expR k t K st)).length c2) ∧ HdrF 22 5 W.heap.size w' (.slice q2 (expL D (expR k t K st)).length c2) (expL D (expR k t K st)).length (expL D (expR k t K st)) ∧ Below W.heap.size W w') := fun W hW => by
    have := KExport_ok base gt be L t k D i M v C K st W (HR6.out.keep hW) (HT.out.keep (bl HB6.out hW HB6.out.size))
    rw [expL_len]; exact this
   have HIm : Hid (∀ W q c,Below wr.heap.size wr W → Sl2 W q (expL D (expR k t K st)).length c (expL D (expR k t K st)) → Calls Tryz.prog 53 #[PVal L t k D,.slice q (expL D (expR k t K st)).length c] W fun e w' => ∃ base3 gt3 be3 N3 M3 v3 C3,e = .returned (.tuple #[.pointer (some ⟨gt3,0,none⟩),.int .i64 0]) ∧ W.heap.size ≤ base3 ∧ N3 ≤ 5000 ∧ Tkr w' base3 gt3 be3 L t k D N3 M3 v3 C3 K st ∧ Below W.heap.size W w') := fun W q c hW hs => by
    refine (KImport_any L t k D q _ c _ W HP.out (HT.out.keep (bl HB6.out hW HB6.out.size)) hs (by omega) (fun x hx => by have := expL_lens hf HK12.out HT20.out x hx; omega)).mono ?_
    intro e w' hi
    obtain ⟨o,ec,he,hb,hI⟩ := hi.parts
    obtain ⟨rfl,base3,gt3,be3,M3,v3,C3,rfl,h1,h2⟩ := hI.good HBI.out
    rw [HAg.out] at h2
    exact ⟨base3,gt3,be3,_,M3,v3,C3,he,h1,hEl,h2,hb⟩
   obtain ⟨E,hE⟩ : ∃ E,E = expL D (expR k t K st) := ⟨_,rfl⟩
   rw [← hE] at HEx HIm
   obtain ⟨S,hS⟩ : ∃ S,S = strB (keepT L t k D K st) := ⟨_,rfl⟩
   rw [← hS] at HTx HPr
   have HN30 : Hid (i ≤ 30) := by
    have := HFw.out
    rw [Bool.and_eq_true] at this
    have h30 := of_decide_eq_true this.2
    exact h30
   clear hE hS hKk hf hel hEl HBI HAg hi
   go_wp2_with fail
   refine Calls.mono (HTx.out wr (Below.refl _ _)) ?_
   rintro e w7 ⟨rfl,hb⟩
   have HB7 := Lib.hid hb
   clear hb
   go_wp2_with fail
   refine Calls.mono (HPr.out w7 HB7.out) ?_
   rintro e w8 ⟨bu,gu,eu,Nu,Mu,vu,Cu,rfl,hbu,hNu,htu,hb⟩
   have HB8 := Lib.hid (bl HB7.out hb HB7.out.size)
   have HU8 := Lib.hid htu
   have HBU : Hid (w7.heap.size ≤ bu) := hbu
   have HNU := Lib.hid hNu
   clear hb htu hbu hNu
   have KP8 := Lib.hid ((HB8.out.block _ (lt_of_block KP6.out)).trans KP6.out)
   obtain ⟨z0,z1,z2,z3⟩ := cells_four KP8.out
   have HEx8 : Hid (∀ W,Below w8.heap.size w8 W → Calls Tryz.prog 27 #[.pointer (some ⟨gt,0,none⟩)] W fun e w' => ∃ q2 c2,e = .returned (.slice q2 E.length c2) ∧ HdrF 22 5 W.heap.size w' (.slice q2 E.length c2) E.length E ∧ Below W.heap.size W w') := fun W hW => HEx.out W (bl HB8.out hW HB8.out.size)
   have HIm8 : Hid (∀ W q c,Below w8.heap.size w8 W → Sl2 W q E.length c E → Calls Tryz.prog 53 #[PVal L t k D,.slice q E.length c] W fun e w' => ∃ base3 gt3 be3 N3 M3 v3 C3,e = .returned (.tuple #[.pointer (some ⟨gt3,0,none⟩),.int .i64 0]) ∧ W.heap.size ≤ base3 ∧ N3 ≤ 5000 ∧ Tkr w' base3 gt3 be3 L t k D N3 M3 v3 C3 K st ∧ Below W.heap.size W w') := fun W q c hW hs => HIm.out W q c (bl HB8.out hW HB8.out.size) hs
   clear HEx HIm HTx HPr
   go_upto_region 14 with (fail)
   refine wp_region_shapes (fun ix => ([.val (.agg #[.int .i64 (L : Nat),.int .i64 (t : Nat),.int .i64 (k : Nat),.int .u32 (D : Nat)]),.val (.pointer (some ⟨gt,0,none⟩)),(ShHd4 w8.heap.size E),(ShIT24 w8.heap.size L t k D K st),(ShIT24 w8.heap.size L t k D K st),(ShPT24 w8.heap.size L t k D K st),.val (.int .i64 0),(ShPT24 w8.heap.size L t k D K st),.val (.int .i64 0)][ix]?).getD (.any)) 153 rfl (by kernel_rfl) (by decide +kernel) (by decide +kernel) (by decide +kernel) ?_ ?_
   ·refine ⟨?_,?_,?_,?_,?_,?_,?_,?_,?_,trivial⟩
    ·intro a W hb0 hs hp hi; have hb := undrew hb0; clear hb0
     have tt : sl a 3 = .pointer (some ⟨w.heap.size,0,none⟩) := hi 3 (by decide)
     have dd0 := (hb.cell (p := ⟨w.heap.size,0,none⟩) (lt_of_cell z0)).trans z0
     have dd1 := (hb.cell (p := ⟨w.heap.size,1,none⟩) (lt_of_cell z1)).trans z1
     have dd2 := (hb.cell (p := ⟨w.heap.size,2,none⟩) (lt_of_cell z2)).trans z2
     have dd3 := (hb.cell (p := ⟨w.heap.size,3,none⟩) (lt_of_cell z3)).trans z3
     refine ite_y rfl (wp_val (.agg #[.int .i64 (L : Nat),.int .i64 (t : Nat),.int .i64 (k : Nat),.int .u32 (D : Nat)]) ?_ ?_)
     ·simp only [execOp,eval_tmp,tt]; simp [go_sem,dd0,dd1,dd2,dd3]
     ·exact ⟨_,rfl,Below.refl _ _,rfl⟩
    ·intro a W hb0 hs hp hi; have hb := undrew hb0; clear hb0
     have t7 : sl a 7 = .pointer (some ⟨gt,0,none⟩) := hi 7 (by decide)
     exact ite_y rfl (wp_val (sl a 7) rfl ⟨_,rfl,Below.refl _ _,t7⟩)
    ·intro a W hb0 hs hp hi; have hb := undrew hb0; clear hb0
     have t60 : sl a 60 = .pointer (some ⟨gt,0,none⟩) := hp 1 (by decide)
     refine ite_y rfl (wp_enter 27 #[.pointer (some ⟨gt,0,none⟩)] ?_ (HEx8.out W hb) ?_)
     ·simp only [execOp,resolve,List.map_toArray,List.map,eval_tmp,eval_func,eval_const,t60]; simp [go_sem]
     ·rintro e W' ⟨q6,g6,rfl,hz,hw⟩; exact ⟨_,rfl,_,rfl,hw,q6,g6,rfl,hdrF_mono hz hb.size⟩
    ·intro a W hb0 hs hp hi; have hb := undrew hb0; clear hb0
     have t59 : sl a 59 = .agg #[.int .i64 (L : Nat),.int .i64 (t : Nat),.int .i64 (k : Nat),.int .u32 (D : Nat)] := hp 0 (by decide)
     have t61 : HdT4 w8.heap.size E (sl a 61) W := hp 2 (by decide)
     obtain ⟨q5,g5,t61,z61⟩ := t61
     refine ite_y rfl (wp_enter 53 #[.agg #[.int .i64 (L : Nat),.int .i64 (t : Nat),.int .i64 (k : Nat),.int .u32 (D : Nat)],.slice q5 E.length g5] ?_ (HIm8.out W q5 g5 hb z61.sl2) ?_)
     ·simp only [execOp,resolve,List.map_toArray,List.map,eval_tmp,eval_func,eval_const,t59,t61]; simp [go_sem]
     ·rintro e W' ⟨bx,gx,ex,Nx,Mx,vx,Cx,rfl,h1,h2,h3,hw⟩; exact ⟨_,rfl,_,rfl,hw,bx,gx,ex,Nx,Mx,vx,Cx,rfl,Nat.le_trans hb.size h1,h2,h3⟩
    ·intro a W hb0 hs hp hi; have hb := undrew hb0; clear hb0
     exact ite_y rfl (wp_val (sl a 62) rfl ⟨_,rfl,Below.refl _ _,hp 3 (by decide)⟩)
    ·intro a W hb0 hs hp hi; have hb := undrew hb0; clear hb0
     have t58 : IT24 w8.heap.size L t k D K st (sl a 58) W := hp 4 (by decide)
     obtain ⟨bx,gx,ex,Nx,Mx,vx,Cx,t58,h1,h2,h3⟩ := t58
     refine ite_y rfl (wp_val (.pointer (some ⟨gx,0,none⟩)) ?_ ?_)
     ·simp only [execOp,eval_tmp,t58]; rfl
     ·exact ⟨_,rfl,Below.refl _ _,bx,gx,ex,Nx,Mx,vx,Cx,rfl,h1,h2,h3⟩
    ·intro a W hb0 hs hp hi; have hb := undrew hb0; clear hb0
     have t58 : IT24 w8.heap.size L t k D K st (sl a 58) W := hp 4 (by decide)
     obtain ⟨bx,gx,ex,Nx,Mx,vx,Cx,t58,h1,h2,h3⟩ := t58
     refine ite_y rfl (wp_val (.int .i64 0) ?_ ?_)
     ·simp only [execOp,eval_tmp,t58]; rfl
     ·exact ⟨_,rfl,Below.refl _ _,rfl⟩
    ·intro a W hb0 hs hp hi; have hb := undrew hb0; clear hb0
     exact ite_y rfl (wp_val (sl a 63) rfl ⟨_,rfl,Below.refl _ _,hp 5 (by decide)⟩)
    ·intro a W hb0 hs hp hi; have hb := undrew hb0; clear hb0
     have t64 : sl a 64 = .int .i64 0 := hp 6 (by decide)
     exact ite_y rfl (wp_val (sl a 64) rfl ⟨_,rfl,Below.refl _ _,t64⟩)
   intro a w9 hb hs hd hI ht
   have ha := act_is [59,60,61,62,58,63,64,13,14] hs hd ht (by decide)
   have t14 : sl a 14 = .int .i64 0 := hI 8 (by decide)
   have y13 : (ShPT24 w8.heap.size L t k D K st).ok (sl a 13) w9 := hI 7 (by decide)
   obtain ⟨bv,gv,ev,Nv,Mv,vv,Cv,t13,hbv,hNv,htv⟩ := y13
   simp only [List.foldl,t14,t13] at ha
   generalize sl a 59 = u59 at ha
   generalize sl a 60 = u60 at ha
   generalize sl a 61 = u61 at ha
   generalize sl a 62 = u62 at ha
   generalize sl a 58 = u58 at ha
   generalize sl a 63 = u63 at ha
   generalize sl a 64 = u64 at ha
   simp only [Act.put,List.setIfInBounds_toArray,List.set_cons_zero,List.set_cons_succ] at ha
   rw [ha]
   clear ha hI ht
   have T1 : TkB w9 base gt be L t k D 5000 v K st := ⟨i,M,C,by have := HN30.out; omega,HR6.out.keep (bl HB8.out hb HB8.out.size)⟩
   have T2 : TkB w9 bu gu eu L t k D 5000 vu K st := ⟨Nu,Mu,Cu,HNU.out,HU8.out.keep hb⟩
   have T3 : TkB w9 bv gv ev L t k D 5000 vv K st := ⟨Nv,Mv,Cv,hNv,htv⟩
   have T1w : TkB w7 base gt be L t k D 5000 v K st := ⟨i,M,C,by have := HN30.out; omega,HR6.out.keep HB7.out⟩
   have T1x : TkB w8 base gt be L t k D 5000 v K st := ⟨i,M,C,by have := HN30.out; omega,HR6.out.keep HB8.out⟩
   have T2x : TkB w8 bu gu eu L t k D 5000 vu K st := ⟨Nu,Mu,Cu,HNU.out,HU8.out⟩
   have hB9 : Below w.heap.size w w9 := bl HB6.out (bl HB8.out hb HB8.out.size) HB6.out.size
   have hw8 : w.heap.size ≤ w8.heap.size := Nat.le_trans HB6.out.size HB8.out.size
   have hw7 : w.heap.size ≤ w7.heap.size := Nat.le_trans HB6.out.size HB7.out.size
   have HTr : Hid (TriS w9 w.heap.size L t k D base gt be bu gu eu bv gv ev 5000 K st K st K st) :=
    ⟨HBase.out,Nat.le_trans hw7 HBU.out,Nat.le_trans hw8 hbv,hB9.size,v,vu,vv,T1,T2,T3,TApart.late T1w T2 HBU.out,TApart.late T1x T3 hbv,TApart.late T2x T3 hbv⟩
   have HB9 := Lib.hid hB9
   clear T1 T2 T3 T1w T1x T2x hB9 hw8 hw7 hb HR6 HB6 HU8 KP6 KP8 z0 z1 z2 z3 HB7 HB8 htv hbv hNv HBU HNU HEx8 HIm8
   go_wp2
   go_loopw [74] (fun iv wr => ∃ (j N : Nat) (K : List Rw) (st : Nat),j ≤ n2 + 1 ∧ iv = .int .i64 (j : Nat) ∧ N ≤ 5000 + 3 * j ∧ Hid (TriS wr w.heap.size L t k D base gt be bu gu eu bv gv ev N K st K st K st) ∧ Hid (StF k K st) ∧ Hid (Below w.heap.size w wr)) (fun iv _ => n2 + 1 - (intOf iv).toNat)
   case atStart => exact ⟨0,5000,K,st,Nat.zero_le _,rfl,by omega,HTr.out,HS6.out,HB9.out⟩
   case round =>
    clear HTr HB9 HS6
    obtain ⟨j,N,K,st,hj,rfl,hNN,HTr,HS,HB⟩ := hrel
    by_cases hlt : j < n2 + 1
    ·obtain ⟨Na,Ma,va,Ca,T1⟩ := HTr.out.fst
     obtain ⟨Nb,Mb,vb,Cb,T2⟩ := HTr.out.snd
     obtain ⟨Nc,Mc,vc,Cc,T3⟩ := HTr.out.trd
     have HO1 : Hid (∀ W,Below wr.heap.size wr W → Calls Tryz.prog 19 #[.pointer (some ⟨gt,0,none⟩)] W (RetL W (objX L t k K st) (objC st))) := fun W hb => TObj_any (T1.keep hb) HS.out
     have HO2 : Hid (∀ W,Below wr.heap.size wr W → Calls Tryz.prog 19 #[.pointer (some ⟨gu,0,none⟩)] W (RetL W (objX L t k K st) (objC st))) := fun W hb => TObj_any (T2.keep hb) HS.out
     have HX1 : Hid (∀ W,Below wr.heap.size wr W → Calls Tryz.prog 18 #[.pointer (some ⟨gt,0,none⟩)] W fun e w' => e = .returned (.string (strB (keepT L t k D K st))) ∧ Below W.heap.size W w') := fun W hb => KText19 (T1.keep hb) HK12.out HT20.out (HTX.out.keep (bl HB.out hb HB.out.size)) (HT.out.keep (bl HB.out hb HB.out.size))
     have HX2 : Hid (∀ W,Below wr.heap.size wr W → Calls Tryz.prog 18 #[.pointer (some ⟨gu,0,none⟩)] W fun e w' => e = .returned (.string (strB (keepT L t k D K st))) ∧ Below W.heap.size W w') := fun W hb => KText19 (T2.keep hb) HK12.out HT20.out (HTX.out.keep (bl HB.out hb HB.out.size)) (HT.out.keep (bl HB.out hb HB.out.size))
     have HX3 : Hid (∀ W,Below wr.heap.size wr W → Calls Tryz.prog 18 #[.pointer (some ⟨gv,0,none⟩)] W fun e w' => e = .returned (.string (strB (keepT L t k D K st))) ∧ Below W.heap.size W w') := fun W hb => KText19 (T3.keep hb) HK12.out HT20.out (HTX.out.keep (bl HB.out hb HB.out.size)) (HT.out.keep (bl HB.out hb HB.out.size))
     have HS1 : Hid (∀ W,Below wr.heap.size wr W → Calls Tryz.prog 22 #[.pointer (some ⟨gt,0,none⟩)] W fun e w' => e = .returned (.int .i64 (st : Nat)) ∧ W = w') := fun W hb => TStatus_any _ _ _ _ _ _ _ _ _ _ _ _ _ W (T1.keep hb)
     have HS2 : Hid (∀ W,Below wr.heap.size wr W → Calls Tryz.prog 22 #[.pointer (some ⟨gu,0,none⟩)] W fun e w' => e = .returned (.int .i64 (st : Nat)) ∧ W = w') := fun W hb => TStatus_any _ _ _ _ _ _ _ _ _ _ _ _ _ W (T2.keep hb)
     have HR1 : Hid (∀ W,Below wr.heap.size wr W → Calls Tryz.prog 47 #[.pointer (some ⟨gt,0,none⟩)] W fun e w' => e = .returned (.int .i64 (K.length : Nat)) ∧ W = w') := fun W hb => TRank_any _ _ _ _ _ _ _ _ _ _ _ _ _ W (T1.keep hb)
     have HR2 : Hid (∀ W,Below wr.heap.size wr W → Calls Tryz.prog 47 #[.pointer (some ⟨gu,0,none⟩)] W fun e w' => e = .returned (.int .i64 (K.length : Nat)) ∧ W = w') := fun W hb => TRank_any _ _ _ _ _ _ _ _ _ _ _ _ _ W (T2.keep hb)
     clear T1 T2 T3
     have hst : ((st : Int) != (st : Int)) = false := by simp
     have hkl : ((K.length : Int) != (K.length : Int)) = false := by simp
     have hcc : (objC st != objC st) = false := by simp
     obtain ⟨CX,hCX⟩ : ∃ c,c = objC st := ⟨_,rfl⟩
     obtain ⟨OX,hOX⟩ : ∃ c,c = objX L t k K st := ⟨_,rfl⟩
     obtain ⟨Z,hZ⟩ : ∃ c,c = strB (keepT L t k D K st) := ⟨_,rfl⟩
     rw [← hCX,← hOX] at HO1 HO2
     rw [← hCX] at hcc
     rw [← hZ] at HX1 HX2 HX3
     have hzz : (Z.toList == Z.toList) = true := beq_self_eq_true _
     have hzn : (Z.toList != Z.toList) = false := by simp
     have hlt' : (j : Int) < (n2 : Int) + 1 := by omega
     have HLT := Lib.hid hlt
     clear hCX hOX hZ
     go_wp2_with fail
     refine Calls.mono (HO1.out wr (Below.refl _ _)) ?_
     rintro e wa ⟨qa,ma,da,rfl,sa,hb⟩
     have HBa := Lib.hid hb
     have SA := Lib.hid sa
     clear hb sa HO1
     go_wp2_with fail
     refine Calls.mono (HO2.out wa HBa.out) ?_
     rintro e wb ⟨qb,mb,db,rfl,sb,hb⟩
     have HBb := Lib.hid (bl HBa.out hb HBa.out.size)
     have SAb := Lib.hid (SA.out.keep hb)
     have SB := Lib.hid sb
     clear hb sb SA HBa HO2
     go_wp2_with fail
     refine Calls.mono (HX1.out wb HBb.out) ?_
     rintro e wc ⟨rfl,hb⟩
     have HBc := Lib.hid (bl HBb.out hb HBb.out.size)
     have SAc := Lib.hid (SAb.out.keep hb)
     have SBc := Lib.hid (SB.out.keep hb)
     clear hb SAb SB HBb
     go_wp2_with fail
     refine Calls.mono (HX2.out wc HBc.out) ?_
     rintro e wd ⟨rfl,hb⟩
     have HBd := Lib.hid (bl HBc.out hb HBc.out.size)
     have SAd := Lib.hid (SAc.out.keep hb)
     have SBd := Lib.hid (SBc.out.keep hb)
     clear hb SAc SBc HBc
     go_wp2_with fail
     refine Calls.mono (HX3.out wd HBd.out) ?_
     rintro e we ⟨rfl,hb⟩
     have HBe := Lib.hid (bl HBd.out hb HBd.out.size)
     have SAe := Lib.hid (SAd.out.keep hb)
     have SBe := Lib.hid (SBd.out.keep hb)
     clear hb SAd SBd HBd
     go_wp2_with fail
     refine Calls.mono (HX1.out we HBe.out) ?_
     rintro e wf ⟨rfl,hb⟩
     have HBf := Lib.hid (bl HBe.out hb HBe.out.size)
     have SAf := Lib.hid (SAe.out.keep hb)
     have SBf := Lib.hid (SBe.out.keep hb)
     clear hb SAe SBe HBe
     go_wp2_with fail
     refine Calls.mono (HS1.out wf HBf.out) ?_
     rintro e wg ⟨rfl,rfl⟩
     go_wp2_with fail
     refine Calls.mono (HS2.out wf HBf.out) ?_
     rintro e wg ⟨rfl,rfl⟩
     go_wp2_with fail
     refine Calls.mono (Same_eq qa qb ma mb da db OX wf SAf.out SBf.out) ?_
     rintro e wg ⟨rfl,hb⟩
     have HBg := Lib.hid (bl HBf.out hb HBf.out.size)
     clear hb SAf SBf HBf
     go_wp2_with fail
     refine Calls.mono (HR1.out wg HBg.out) ?_
     rintro e wh ⟨rfl,rfl⟩
     go_wp2_with fail
     refine Calls.mono (HR2.out wg HBg.out) ?_
     rintro e wh ⟨rfl,rfl⟩
     have HTg := Lib.hid (HTr.out.keep HBg.out)
     have HBI := Lib.hid (bl HB.out HBg.out HB.out.size)
     clear HTr HB HBg HX1 HX2 HX3 HS1 HS2 HR1 HR2 hzz hzn hst hkl hcc hlt'
     by_cases hjn : j < n2
     ·obtain ⟨bb,oo,qx,mx,cx,ys,rfl,hcd,hsd,hyd⟩ := H2.out.at j hjn
      have hmx : ys.length ≤ 800 := few_len19 HFw2.out hyd.out
      have hmb : Room mx := by have := hsd.len; unfold Room; omega
      have hlt2 : (j : Int) < (n2 : Int) := by omega
      have hj30 : j < 30 := by
       have := HFw2.out
       rw [Bool.and_eq_true] at this
       have := of_decide_eq_true this.2
       omega
      have HS2 := Lib.hid (HS.out.take (t := t) (D := D) ys)
      have hc1 : (readC k t D ys == 1) = false := beq_eq_false_iff_ne.2 (readC_one k t D ys)
      have hcc : (readC k t D ys != readC k t D ys) = false := by simp
      have HSD := Lib.hid hsd
      have HCD := Lib.hid hcd
      have HC1 := Lib.hid hc1
      have HCC := Lib.hid hcc
      clear hmx hc1 hcc hyd hsd hcd
      go_upto_region 24 with (fail)
      have hcd := HCD.out
      have hc1 := HC1.out
      have hcc := HCC.out
      refine wp_region_vals (fun ix => ([.int .i64 (j : Nat),.slice (some ⟨bb,oo,none⟩) n2 c2,.int .i64 (n2 : Nat),.bool true,.bool true,.pointer (some ⟨gt,0,none⟩),.slice (some ⟨bb,oo,none⟩) n2 c2,.int .i64 (j : Nat),.pointer (some ⟨bb,oo + j,none⟩),.slice qx mx cx,.int .i64 (readC k t D ys),.pointer (some ⟨gu,0,none⟩),.slice (some ⟨bb,oo,none⟩) n2 c2,.int .i64 (j : Nat),.pointer (some ⟨bb,oo + j,none⟩),.slice qx mx cx,.int .i64 (readC k t D ys),.bool false,.bool false,.pointer (some ⟨gv,0,none⟩),.slice (some ⟨bb,oo,none⟩) n2 c2,.int .i64 (j : Nat),.pointer (some ⟨bb,oo + j,none⟩),.slice qx mx cx,.int .i64 (readC k t D ys),.bool false,.bool false,.bool false][ix]?).getD undef) (fun dn W => E24 w L t k D base gt be bu gu eu bv gv ev N K (takeK k t D K st ys) st (takeS k t D K st ys) (dn 10) (dn 16) (dn 24) W) 153 rfl (by kernel_rfl) (by decide +kernel) (by decide +kernel) (by decide +kernel) (⟨bl HBI.out (undrew (Below.refl _ _)) HBI.out.size,N,by simp,HTg.out.keep (undrew (Below.refl _ _))⟩) ?_ ?_
      ·refine ⟨?_,?_,?_,?_,?_,?_,?_,?_,?_,?_,?_,?_,?_,?_,?_,?_,?_,?_,?_,?_,?_,?_,?_,?_,?_,?_,?_,?_,trivial⟩
       ·intro a W dn hdn hE hs hp hq hi
        have t15 : sl a 15 = .int .i64 (j : Nat) := hi 15 (by decide)
        exact ite_y rfl (wp_val (sl a 15) rfl ⟨by rw [t15]; rfl,hE⟩)
       ·intro a W dn hdn hE hs hp hq hi
        have t2 : sl a 2 = .slice (some ⟨bb,oo,none⟩) n2 c2 := hi 2 (by decide)
        exact ite_y rfl (wp_val (sl a 2) rfl ⟨by rw [t2]; rfl,hE⟩)
       ·intro a W dn hdn hE hs hp hq hi
        have t125 : sl a 125 = .slice (some ⟨bb,oo,none⟩) n2 c2 := hp 1 125 (by decide) rfl
        have v125 : a.tmps[125]?.getD undef = sl a 125 := by simp [sl]
        rw [t125] at v125
        refine ite_y rfl (wp_val (.int .i64 (n2 : Nat)) ?_ ⟨rfl,hE⟩)
        simp only [execOp,resolve,List.map_toArray,List.map,eval_tmp,eval_func,eval_const,t125]; simp [go_sem,v125]
       ·intro a W dn hdn hE hs hp hq hi
        have t124 : sl a 124 = .int .i64 (j : Nat) := hp 0 124 (by decide) rfl
        have t126 : sl a 126 = .int .i64 (n2 : Nat) := hp 2 126 (by decide) rfl
        have v124 : a.tmps[124]?.getD undef = sl a 124 := by simp [sl]
        rw [t124] at v124
        have v126 : a.tmps[126]?.getD undef = sl a 126 := by simp [sl]
        rw [t126] at v126
        refine ite_y rfl (wp_val (.bool true) ?_ ⟨rfl,hE⟩)
        simp only [execOp,resolve,List.map_toArray,List.map,eval_tmp,eval_func,eval_const,t124,t126]; simp [go_sem,v124,v126,hlt2]
       ·intro a W dn hdn hE hs hp hq hi
        have t127 : sl a 127 = .bool true := hp 3 127 (by decide) rfl
        exact ite_y rfl (wp_val (sl a 127) rfl ⟨by rw [t127]; rfl,hE⟩)
       ·intro a W dn hdn hE hs hp hq hi
        have tg : sl a 128 = .bool true := hp 4 128 (by decide) rfl
        have t7 : sl a 7 = .pointer (some ⟨gt,0,none⟩) := hi 7 (by decide)
        exact ite_y (wanted_yes rfl rfl (by have hz : a.tmps.size = 153 := hs; rw [hz]; decide) tg) (wp_val (sl a 7) rfl ⟨by rw [t7]; rfl,hE⟩)
       ·intro a W dn hdn hE hs hp hq hi
        have tg : sl a 128 = .bool true := hp 4 128 (by decide) rfl
        have t2 : sl a 2 = .slice (some ⟨bb,oo,none⟩) n2 c2 := hi 2 (by decide)
        exact ite_y (wanted_yes rfl rfl (by have hz : a.tmps.size = 153 := hs; rw [hz]; decide) tg) (wp_val (sl a 2) rfl ⟨by rw [t2]; rfl,hE⟩)
       ·intro a W dn hdn hE hs hp hq hi
        have tg : sl a 128 = .bool true := hp 4 128 (by decide) rfl
        have t15 : sl a 15 = .int .i64 (j : Nat) := hi 15 (by decide)
        exact ite_y (wanted_yes rfl rfl (by have hz : a.tmps.size = 153 := hs; rw [hz]; decide) tg) (wp_val (sl a 15) rfl ⟨by rw [t15]; rfl,hE⟩)
       ·intro a W dn hdn hE hs hp hq hi
        have tg : sl a 128 = .bool true := hp 4 128 (by decide) rfl
        have t130 : sl a 130 = .slice (some ⟨bb,oo,none⟩) n2 c2 := hp 6 130 (by decide) rfl
        have t131 : sl a 131 = .int .i64 (j : Nat) := hp 7 131 (by decide) rfl
        have v130 : a.tmps[130]?.getD undef = sl a 130 := by simp [sl]
        rw [t130] at v130
        have v131 : a.tmps[131]?.getD undef = sl a 131 := by simp [sl]
        rw [t131] at v131
        refine ite_y (wanted_yes rfl rfl (by have hz : a.tmps.size = 153 := hs; rw [hz]; decide) tg) (wp_val (.pointer (some ⟨bb,oo + j,none⟩)) ?_ ⟨rfl,hE⟩)
        simp only [execOp,resolve,List.map_toArray,List.map,eval_tmp,eval_func,eval_const,t130,t131]; simp [go_sem,v130,v131,hlt2]
       ·intro a W dn hdn hE hs hp hq hi
        have tg : sl a 128 = .bool true := hp 4 128 (by decide) rfl
        have t132 : sl a 132 = .pointer (some ⟨bb,oo + j,none⟩) := hp 8 132 (by decide) rfl
        have dd : W.cell? ⟨bb,oo + j,none⟩ = some (.slice qx mx cx) := (hE.bel.cell (p := ⟨bb,oo + j,none⟩) (lt_of_cell hcd)).trans hcd
        refine ite_y (wanted_yes rfl rfl (by have hz : a.tmps.size = 153 := hs; rw [hz]; decide) tg) (wp_val (.slice qx mx cx) ?_ ⟨rfl,hE⟩)
        simp only [execOp,eval_tmp,t132]; simp [go_sem,dd]
       ·intro a W dn hdn hE hs hp hq hi
        have tg : sl a 128 = .bool true := hp 4 128 (by decide) rfl
        have t129 : sl a 129 = .pointer (some ⟨gt,0,none⟩) := hp 5 129 (by decide) rfl
        have t133 : sl a 133 = .slice qx mx cx := hp 9 133 (by decide) rfl
        refine ite_y (wanted_yes rfl rfl (by have hz : a.tmps.size = 153 := hs; rw [hz]; decide) tg) (wp_enter 16 #[.pointer (some ⟨gt,0,none⟩),.slice qx mx cx] ?_ (E24.s10 hE hdn (by omega) HT.out HSD.out hmb) ?_)
        ·simp only [execOp,resolve,List.map_toArray,List.map,eval_tmp,eval_func,eval_const,t129,t133]; simp [go_sem]
        ·rintro e W' ⟨rfl,h⟩; exact ⟨_,rfl,rfl,h⟩
       ·intro a W dn hdn hE hs hp hq hi
        have tg : sl a 128 = .bool true := hp 4 128 (by decide) rfl
        have t11 : sl a 11 = .pointer (some ⟨gu,0,none⟩) := hi 11 (by decide)
        exact ite_y (wanted_yes rfl rfl (by have hz : a.tmps.size = 153 := hs; rw [hz]; decide) tg) (wp_val (sl a 11) rfl ⟨by rw [t11]; rfl,hE⟩)
       ·intro a W dn hdn hE hs hp hq hi
        have tg : sl a 128 = .bool true := hp 4 128 (by decide) rfl
        have t2 : sl a 2 = .slice (some ⟨bb,oo,none⟩) n2 c2 := hi 2 (by decide)
        exact ite_y (wanted_yes rfl rfl (by have hz : a.tmps.size = 153 := hs; rw [hz]; decide) tg) (wp_val (sl a 2) rfl ⟨by rw [t2]; rfl,hE⟩)
       ·intro a W dn hdn hE hs hp hq hi
        have tg : sl a 128 = .bool true := hp 4 128 (by decide) rfl
        have t15 : sl a 15 = .int .i64 (j : Nat) := hi 15 (by decide)
        exact ite_y (wanted_yes rfl rfl (by have hz : a.tmps.size = 153 := hs; rw [hz]; decide) tg) (wp_val (sl a 15) rfl ⟨by rw [t15]; rfl,hE⟩)
       ·intro a W dn hdn hE hs hp hq hi
        have tg : sl a 128 = .bool true := hp 4 128 (by decide) rfl
        have t136 : sl a 136 = .slice (some ⟨bb,oo,none⟩) n2 c2 := hp 12 136 (by decide) rfl
        have t137 : sl a 137 = .int .i64 (j : Nat) := hp 13 137 (by decide) rfl
        have v136 : a.tmps[136]?.getD undef = sl a 136 := by simp [sl]
        rw [t136] at v136
        have v137 : a.tmps[137]?.getD undef = sl a 137 := by simp [sl]
        rw [t137] at v137
        refine ite_y (wanted_yes rfl rfl (by have hz : a.tmps.size = 153 := hs; rw [hz]; decide) tg) (wp_val (.pointer (some ⟨bb,oo + j,none⟩)) ?_ ⟨rfl,hE⟩)
        simp only [execOp,resolve,List.map_toArray,List.map,eval_tmp,eval_func,eval_const,t136,t137]; simp [go_sem,v136,v137,hlt2]
       ·intro a W dn hdn hE hs hp hq hi
        have tg : sl a 128 = .bool true := hp 4 128 (by decide) rfl
        have t138 : sl a 138 = .pointer (some ⟨bb,oo + j,none⟩) := hp 14 138 (by decide) rfl
        have dd : W.cell? ⟨bb,oo + j,none⟩ = some (.slice qx mx cx) := (hE.bel.cell (p := ⟨bb,oo + j,none⟩) (lt_of_cell hcd)).trans hcd
        refine ite_y (wanted_yes rfl rfl (by have hz : a.tmps.size = 153 := hs; rw [hz]; decide) tg) (wp_val (.slice qx mx cx) ?_ ⟨rfl,hE⟩)
        simp only [execOp,eval_tmp,t138]; simp [go_sem,dd]
       ·intro a W dn hdn hE hs hp hq hi
        have tg : sl a 128 = .bool true := hp 4 128 (by decide) rfl
        have t135 : sl a 135 = .pointer (some ⟨gu,0,none⟩) := hp 11 135 (by decide) rfl
        have t139 : sl a 139 = .slice qx mx cx := hp 15 139 (by decide) rfl
        refine ite_y (wanted_yes rfl rfl (by have hz : a.tmps.size = 153 := hs; rw [hz]; decide) tg) (wp_enter 16 #[.pointer (some ⟨gu,0,none⟩),.slice qx mx cx] ?_ (E24.s16 hE hdn (by omega) HT.out HSD.out hmb) ?_)
        ·simp only [execOp,resolve,List.map_toArray,List.map,eval_tmp,eval_func,eval_const,t135,t139]; simp [go_sem]
        ·rintro e W' ⟨rfl,h⟩; exact ⟨_,rfl,rfl,h⟩
       ·intro a W dn hdn hE hs hp hq hi
        have tg : sl a 128 = .bool true := hp 4 128 (by decide) rfl
        have t134 : sl a 134 = .int .i64 (readC k t D ys) := hp 10 134 (by decide) rfl
        have t140 : sl a 140 = .int .i64 (readC k t D ys) := hp 16 140 (by decide) rfl
        have v134 : a.tmps[134]?.getD undef = sl a 134 := by simp [sl]
        rw [t134] at v134
        have v140 : a.tmps[140]?.getD undef = sl a 140 := by simp [sl]
        rw [t140] at v140
        refine ite_y (wanted_yes rfl rfl (by have hz : a.tmps.size = 153 := hs; rw [hz]; decide) tg) (wp_val (.bool false) ?_ ⟨rfl,hE⟩)
        simp only [execOp,resolve,List.map_toArray,List.map,eval_tmp,eval_func,eval_const,t134,t140]; simp [go_sem,v134,v140,hcc]
       ·intro a W dn hdn hE hs hp hq hi
        have tg : sl a 128 = .bool true := hp 4 128 (by decide) rfl
        have t141 : sl a 141 = .bool false := hp 17 141 (by decide) rfl
        exact ite_y (wanted_yes rfl rfl (by have hz : a.tmps.size = 153 := hs; rw [hz]; decide) tg) (wp_val (sl a 141) rfl ⟨by rw [t141]; rfl,hE⟩)
       ·intro a W dn hdn hE hs hp hq hi
        have tg : sl a 142 = .bool false := hp 18 142 (by decide) rfl
        have t13 : sl a 13 = .pointer (some ⟨gv,0,none⟩) := hi 13 (by decide)
        exact ite_y (wanted_yes rfl rfl (by have hz : a.tmps.size = 153 := hs; rw [hz]; decide) tg) (wp_val (sl a 13) rfl ⟨by rw [t13]; rfl,hE⟩)
       ·intro a W dn hdn hE hs hp hq hi
        have tg : sl a 142 = .bool false := hp 18 142 (by decide) rfl
        have t2 : sl a 2 = .slice (some ⟨bb,oo,none⟩) n2 c2 := hi 2 (by decide)
        exact ite_y (wanted_yes rfl rfl (by have hz : a.tmps.size = 153 := hs; rw [hz]; decide) tg) (wp_val (sl a 2) rfl ⟨by rw [t2]; rfl,hE⟩)
       ·intro a W dn hdn hE hs hp hq hi
        have tg : sl a 142 = .bool false := hp 18 142 (by decide) rfl
        have t15 : sl a 15 = .int .i64 (j : Nat) := hi 15 (by decide)
        exact ite_y (wanted_yes rfl rfl (by have hz : a.tmps.size = 153 := hs; rw [hz]; decide) tg) (wp_val (sl a 15) rfl ⟨by rw [t15]; rfl,hE⟩)
       ·intro a W dn hdn hE hs hp hq hi
        have tg : sl a 142 = .bool false := hp 18 142 (by decide) rfl
        have t144 : sl a 144 = .slice (some ⟨bb,oo,none⟩) n2 c2 := hp 20 144 (by decide) rfl
        have t145 : sl a 145 = .int .i64 (j : Nat) := hp 21 145 (by decide) rfl
        have v144 : a.tmps[144]?.getD undef = sl a 144 := by simp [sl]
        rw [t144] at v144
        have v145 : a.tmps[145]?.getD undef = sl a 145 := by simp [sl]
        rw [t145] at v145
        refine ite_y (wanted_yes rfl rfl (by have hz : a.tmps.size = 153 := hs; rw [hz]; decide) tg) (wp_val (.pointer (some ⟨bb,oo + j,none⟩)) ?_ ⟨rfl,hE⟩)
        simp only [execOp,resolve,List.map_toArray,List.map,eval_tmp,eval_func,eval_const,t144,t145]; simp [go_sem,v144,v145,hlt2]
       ·intro a W dn hdn hE hs hp hq hi
        have tg : sl a 142 = .bool false := hp 18 142 (by decide) rfl
        have t146 : sl a 146 = .pointer (some ⟨bb,oo + j,none⟩) := hp 22 146 (by decide) rfl
        have dd : W.cell? ⟨bb,oo + j,none⟩ = some (.slice qx mx cx) := (hE.bel.cell (p := ⟨bb,oo + j,none⟩) (lt_of_cell hcd)).trans hcd
        refine ite_y (wanted_yes rfl rfl (by have hz : a.tmps.size = 153 := hs; rw [hz]; decide) tg) (wp_val (.slice qx mx cx) ?_ ⟨rfl,hE⟩)
        simp only [execOp,eval_tmp,t146]; simp [go_sem,dd]
       ·intro a W dn hdn hE hs hp hq hi
        have tg : sl a 142 = .bool false := hp 18 142 (by decide) rfl
        have t143 : sl a 143 = .pointer (some ⟨gv,0,none⟩) := hp 19 143 (by decide) rfl
        have t147 : sl a 147 = .slice qx mx cx := hp 23 147 (by decide) rfl
        refine ite_y (wanted_yes rfl rfl (by have hz : a.tmps.size = 153 := hs; rw [hz]; decide) tg) (wp_enter 16 #[.pointer (some ⟨gv,0,none⟩),.slice qx mx cx] ?_ (E24.s24 hE hdn (by omega) HT.out HSD.out hmb) ?_)
        ·simp only [execOp,resolve,List.map_toArray,List.map,eval_tmp,eval_func,eval_const,t143,t147]; simp [go_sem]
        ·rintro e W' ⟨rfl,h⟩; exact ⟨_,rfl,rfl,h⟩
       ·intro a W dn hdn hE hs hp hq hi
        have tg : sl a 142 = .bool false := hp 18 142 (by decide) rfl
        have t148 : sl a 148 = .int .i64 (readC k t D ys) := hp 24 148 (by decide) rfl
        have v148 : a.tmps[148]?.getD undef = sl a 148 := by simp [sl]
        rw [t148] at v148
        refine ite_y (wanted_yes rfl rfl (by have hz : a.tmps.size = 153 := hs; rw [hz]; decide) tg) (wp_val (.bool false) ?_ ⟨rfl,hE⟩)
        simp only [execOp,resolve,List.map_toArray,List.map,eval_tmp,eval_func,eval_const,t148]; simp [go_sem,v148,hc1]
       ·intro a W dn hdn hE hs hp hq hi
        have tg : sl a 128 = .bool true := hp 4 128 (by decide) rfl
        have t142 : sl a 142 = .bool false := hp 18 142 (by decide) rfl
        have t149 : sl a 149 = .bool false := hp 25 149 (by decide) rfl
        have v142 : a.tmps[142]?.getD undef = sl a 142 := by simp [sl]
        rw [t142] at v142
        have v149 : a.tmps[149]?.getD undef = sl a 149 := by simp [sl]
        rw [t149] at v149
        refine ite_y (wanted_yes rfl rfl (by have hz : a.tmps.size = 153 := hs; rw [hz]; decide) tg) (wp_val (.bool false) ?_ ⟨rfl,hE⟩)
        simp only [execOp,resolve,List.map_toArray,List.map,eval_tmp,eval_func,eval_const,t142,t149]; simp [go_sem,v142,v149]
       ·intro a W dn hdn hE hs hp hq hi
        have t128 : sl a 128 = .bool true := hp 4 128 (by decide) rfl
        have t150 : sl a 150 = .bool false := hp 26 150 (by decide) rfl
        have v128 : a.tmps[128]?.getD undef = sl a 128 := by simp [sl]
        rw [t128] at v128
        have v150 : a.tmps[150]?.getD undef = sl a 150 := by simp [sl]
        rw [t150] at v150
        refine ite_y rfl (wp_val (.bool false) ?_ ⟨rfl,hE⟩)
        simp only [execOp,resolve,List.map_toArray,List.map,eval_tmp,eval_func,eval_const,t128,t150]; simp [go_sem,v128,v150]
      intro a wq dn hall hE hs hd hI ht
      have ha := act_is [124,125,126,127,128,129,130,131,132,133,134,135,136,137,138,139,140,141,142,143,144,145,146,147,148,149,150,151] hs hd ht (by decide)
      have t151 : sl a 151 = .bool false := hI 27 151 (by decide) rfl
      simp only [List.foldl,t151] at ha
      generalize sl a 124 = u124 at ha
      generalize sl a 125 = u125 at ha
      generalize sl a 126 = u126 at ha
      generalize sl a 127 = u127 at ha
      generalize sl a 128 = u128 at ha
      generalize sl a 129 = u129 at ha
      generalize sl a 130 = u130 at ha
      generalize sl a 131 = u131 at ha
      generalize sl a 132 = u132 at ha
      generalize sl a 133 = u133 at ha
      generalize sl a 134 = u134 at ha
      generalize sl a 135 = u135 at ha
      generalize sl a 136 = u136 at ha
      generalize sl a 137 = u137 at ha
      generalize sl a 138 = u138 at ha
      generalize sl a 139 = u139 at ha
      generalize sl a 140 = u140 at ha
      generalize sl a 141 = u141 at ha
      generalize sl a 142 = u142 at ha
      generalize sl a 143 = u143 at ha
      generalize sl a 144 = u144 at ha
      generalize sl a 145 = u145 at ha
      generalize sl a 146 = u146 at ha
      generalize sl a 147 = u147 at ha
      generalize sl a 148 = u148 at ha
      generalize sl a 149 = u149 at ha
      generalize sl a 150 = u150 at ha
      simp only [Act.put,List.setIfInBounds_toArray,List.set_cons_zero,List.set_cons_succ] at ha
      rw [ha]
      clear ha hI ht hs hd t151
      have hTri := hE.tri
      rw [hall 10 (by decide),hall 16 (by decide),hall 24 (by decide)] at hTri
      obtain ⟨N',hN',tr⟩ := hTri
      simp only [if_true] at hN' tr
      have HTq := Lib.hid tr
      have HBq := Lib.hid hE.bel
      have hNq : N' ≤ 5000 + 3 * (j + 1) := by omega
      clear hE hall tr hN' hcd hc1 hcc HTg HBI HS HSD HCD HC1 HCC
      generalize takeK k t D K st ys = K5 at *
      generalize takeS k t D K st ys = st5 at *
      go_wp2
      go_roundw
      case rel => exact ⟨j + 1,N',K5,st5,HLT.out,by go_num,hNq,HTq.out,HS2.out,HBq.out⟩
      case measure => simp [intOf]; have := HLT.out; omega
     ·have hlt2 : ¬ (j : Int) < (n2 : Int) := by omega
      have hlt3 : n2 ≤ j := by omega
      go_upto_region 24 with (fail)
      refine wp_region_shapes (fun ix => ([.val (.int .i64 (j : Nat)),.val (.slice p2 n2 c2),.val (.int .i64 (n2 : Nat)),.val (.bool false),.val (.bool false),.val (undef),.val (undef),.val (undef),.val (undef),.val (undef),.val (undef),.val (undef),.val (undef),.val (undef),.val (undef),.val (undef),.val (undef),.val (undef),.val (undef),.val (undef),.val (undef),.val (undef),.val (undef),.val (undef),.val (undef),.val (undef),.val (undef),.val (.bool false)][ix]?).getD (.any)) 153 rfl (by kernel_rfl) (by decide +kernel) (by decide +kernel) (by decide +kernel) ?_ ?_
      ·refine ⟨?_,?_,?_,?_,?_,?_,?_,?_,?_,?_,?_,?_,?_,?_,?_,?_,?_,?_,?_,?_,?_,?_,?_,?_,?_,?_,?_,?_,trivial⟩
       ·intro a W hb0 hs hp hi; have hb := undrew hb0; clear hb0
        have t15 : sl a 15 = .int .i64 (j : Nat) := hi 15 (by decide)
        exact ite_y rfl (wp_val (sl a 15) rfl ⟨_,rfl,Below.refl _ _,t15⟩)
       ·intro a W hb0 hs hp hi; have hb := undrew hb0; clear hb0
        have t2 : sl a 2 = .slice p2 n2 c2 := hi 2 (by decide)
        exact ite_y rfl (wp_val (sl a 2) rfl ⟨_,rfl,Below.refl _ _,t2⟩)
       ·intro a W hb0 hs hp hi; have hb := undrew hb0; clear hb0
        have t125 : sl a 125 = .slice p2 n2 c2 := hp 1 (by decide)
        refine ite_y rfl (wp_val (.int .i64 (n2 : Nat)) ?_ ?_)
        ·simp only [execOp,resolve,List.map_toArray,List.map,eval_tmp,eval_func,eval_const,t125]; simp [go_sem]
        ·exact ⟨_,rfl,Below.refl _ _,rfl⟩
       ·intro a W hb0 hs hp hi; have hb := undrew hb0; clear hb0
        have t124 : sl a 124 = .int .i64 (j : Nat) := hp 0 (by decide)
        have t126 : sl a 126 = .int .i64 (n2 : Nat) := hp 2 (by decide)
        refine ite_y rfl (wp_val (.bool false) ?_ ?_)
        ·simp only [execOp,eval_tmp,eval_const,t124,t126]; simp [go_sem,hlt2,hlt3]
        ·exact ⟨_,rfl,Below.refl _ _,rfl⟩
       ·intro a W hb0 hs hp hi; have hb := undrew hb0; clear hb0
        have t127 : sl a 127 = .bool false := hp 3 (by decide)
        exact ite_y rfl (wp_val (sl a 127) rfl ⟨_,rfl,Below.refl _ _,t127⟩)
       ·intro a W hb0 hs hp hi; have hb := undrew hb0; clear hb0
        have tg : sl a 128 = .bool false := hp 4 (by decide)
        exact ite_n (wanted_no rfl rfl (by have hz : a.tmps.size = 153 := hs; rw [hz]; decide) tg (by decide)) rfl
       ·intro a W hb0 hs hp hi; have hb := undrew hb0; clear hb0
        have tg : sl a 128 = .bool false := hp 4 (by decide)
        exact ite_n (wanted_no rfl rfl (by have hz : a.tmps.size = 153 := hs; rw [hz]; decide) tg (by decide)) rfl
       ·intro a W hb0 hs hp hi; have hb := undrew hb0; clear hb0
        have tg : sl a 128 = .bool false := hp 4 (by decide)
        exact ite_n (wanted_no rfl rfl (by have hz : a.tmps.size = 153 := hs; rw [hz]; decide) tg (by decide)) rfl
       ·intro a W hb0 hs hp hi; have hb := undrew hb0; clear hb0
        have tg : sl a 128 = .bool false := hp 4 (by decide)
        exact ite_n (wanted_no rfl rfl (by have hz : a.tmps.size = 153 := hs; rw [hz]; decide) tg (by decide)) rfl
       ·intro a W hb0 hs hp hi; have hb := undrew hb0; clear hb0
        have tg : sl a 128 = .bool false := hp 4 (by decide)
        exact ite_n (wanted_no rfl rfl (by have hz : a.tmps.size = 153 := hs; rw [hz]; decide) tg (by decide)) rfl
       ·intro a W hb0 hs hp hi; have hb := undrew hb0; clear hb0
        have tg : sl a 128 = .bool false := hp 4 (by decide)
        exact ite_n (wanted_no rfl rfl (by have hz : a.tmps.size = 153 := hs; rw [hz]; decide) tg (by decide)) rfl
       ·intro a W hb0 hs hp hi; have hb := undrew hb0; clear hb0
        have tg : sl a 128 = .bool false := hp 4 (by decide)
        exact ite_n (wanted_no rfl rfl (by have hz : a.tmps.size = 153 := hs; rw [hz]; decide) tg (by decide)) rfl
       ·intro a W hb0 hs hp hi; have hb := undrew hb0; clear hb0
        have tg : sl a 128 = .bool false := hp 4 (by decide)
        exact ite_n (wanted_no rfl rfl (by have hz : a.tmps.size = 153 := hs; rw [hz]; decide) tg (by decide)) rfl
       ·intro a W hb0 hs hp hi; have hb := undrew hb0; clear hb0
        have tg : sl a 128 = .bool false := hp 4 (by decide)
        exact ite_n (wanted_no rfl rfl (by have hz : a.tmps.size = 153 := hs; rw [hz]; decide) tg (by decide)) rfl
       ·intro a W hb0 hs hp hi; have hb := undrew hb0; clear hb0
        have tg : sl a 128 = .bool false := hp 4 (by decide)
        exact ite_n (wanted_no rfl rfl (by have hz : a.tmps.size = 153 := hs; rw [hz]; decide) tg (by decide)) rfl
       ·intro a W hb0 hs hp hi; have hb := undrew hb0; clear hb0
        have tg : sl a 128 = .bool false := hp 4 (by decide)
        exact ite_n (wanted_no rfl rfl (by have hz : a.tmps.size = 153 := hs; rw [hz]; decide) tg (by decide)) rfl
       ·intro a W hb0 hs hp hi; have hb := undrew hb0; clear hb0
        have tg : sl a 128 = .bool false := hp 4 (by decide)
        exact ite_n (wanted_no rfl rfl (by have hz : a.tmps.size = 153 := hs; rw [hz]; decide) tg (by decide)) rfl
       ·intro a W hb0 hs hp hi; have hb := undrew hb0; clear hb0
        have tg : sl a 128 = .bool false := hp 4 (by decide)
        exact ite_n (wanted_no rfl rfl (by have hz : a.tmps.size = 153 := hs; rw [hz]; decide) tg (by decide)) rfl
       ·intro a W hb0 hs hp hi; have hb := undrew hb0; clear hb0
        have tg : sl a 128 = .bool false := hp 4 (by decide)
        exact ite_n (wanted_no rfl rfl (by have hz : a.tmps.size = 153 := hs; rw [hz]; decide) tg (by decide)) rfl
       ·intro a W hb0 hs hp hi; have hb := undrew hb0; clear hb0
        have tg : sl a 142 = undef := hp 18 (by decide)
        exact ite_n (wanted_undef rfl rfl (by have hz : a.tmps.size = 153 := hs; rw [hz]; decide) tg) rfl
       ·intro a W hb0 hs hp hi; have hb := undrew hb0; clear hb0
        have tg : sl a 142 = undef := hp 18 (by decide)
        exact ite_n (wanted_undef rfl rfl (by have hz : a.tmps.size = 153 := hs; rw [hz]; decide) tg) rfl
       ·intro a W hb0 hs hp hi; have hb := undrew hb0; clear hb0
        have tg : sl a 142 = undef := hp 18 (by decide)
        exact ite_n (wanted_undef rfl rfl (by have hz : a.tmps.size = 153 := hs; rw [hz]; decide) tg) rfl
       ·intro a W hb0 hs hp hi; have hb := undrew hb0; clear hb0
        have tg : sl a 142 = undef := hp 18 (by decide)
        exact ite_n (wanted_undef rfl rfl (by have hz : a.tmps.size = 153 := hs; rw [hz]; decide) tg) rfl
       ·intro a W hb0 hs hp hi; have hb := undrew hb0; clear hb0
        have tg : sl a 142 = undef := hp 18 (by decide)
        exact ite_n (wanted_undef rfl rfl (by have hz : a.tmps.size = 153 := hs; rw [hz]; decide) tg) rfl
       ·intro a W hb0 hs hp hi; have hb := undrew hb0; clear hb0
        have tg : sl a 142 = undef := hp 18 (by decide)
        exact ite_n (wanted_undef rfl rfl (by have hz : a.tmps.size = 153 := hs; rw [hz]; decide) tg) rfl
       ·intro a W hb0 hs hp hi; have hb := undrew hb0; clear hb0
        have tg : sl a 142 = undef := hp 18 (by decide)
        exact ite_n (wanted_undef rfl rfl (by have hz : a.tmps.size = 153 := hs; rw [hz]; decide) tg) rfl
       ·intro a W hb0 hs hp hi; have hb := undrew hb0; clear hb0
        have tg : sl a 128 = .bool false := hp 4 (by decide)
        exact ite_n (wanted_no rfl rfl (by have hz : a.tmps.size = 153 := hs; rw [hz]; decide) tg (by decide)) rfl
       ·intro a W hb0 hs hp hi; have hb := undrew hb0; clear hb0
        have t128 : sl a 128 = .bool false := hp 4 (by decide)
        have t150 : sl a 150 = undef := hp 26 (by decide)
        refine ite_y rfl (wp_val (.bool false) ?_ ?_)
        ·simp only [execOp,eval_tmp,eval_const,t128,t150]; simp [go_sem]
        ·exact ⟨_,rfl,Below.refl _ _,rfl⟩
      intro a wq hb hs hd hI ht
      have ha := act_is [124,125,126,127,128,129,130,131,132,133,134,135,136,137,138,139,140,141,142,143,144,145,146,147,148,149,150,151] hs hd ht (by decide)
      have t151 : sl a 151 = .bool false := hI 27 (by decide)
      simp only [List.foldl,t151] at ha
      generalize sl a 124 = u124 at ha
      generalize sl a 125 = u125 at ha
      generalize sl a 126 = u126 at ha
      generalize sl a 127 = u127 at ha
      generalize sl a 128 = u128 at ha
      generalize sl a 129 = u129 at ha
      generalize sl a 130 = u130 at ha
      generalize sl a 131 = u131 at ha
      generalize sl a 132 = u132 at ha
      generalize sl a 133 = u133 at ha
      generalize sl a 134 = u134 at ha
      generalize sl a 135 = u135 at ha
      generalize sl a 136 = u136 at ha
      generalize sl a 137 = u137 at ha
      generalize sl a 138 = u138 at ha
      generalize sl a 139 = u139 at ha
      generalize sl a 140 = u140 at ha
      generalize sl a 141 = u141 at ha
      generalize sl a 142 = u142 at ha
      generalize sl a 143 = u143 at ha
      generalize sl a 144 = u144 at ha
      generalize sl a 145 = u145 at ha
      generalize sl a 146 = u146 at ha
      generalize sl a 147 = u147 at ha
      generalize sl a 148 = u148 at ha
      generalize sl a 149 = u149 at ha
      generalize sl a 150 = u150 at ha
      simp only [Act.put,List.setIfInBounds_toArray,List.set_cons_zero,List.set_cons_succ] at ha
      rw [ha]
      clear ha hI ht
      have HTq := Lib.hid (HTg.out.keep hb)
      have HBq := Lib.hid (bl HBI.out hb HBI.out.size)
      have hNq : N ≤ 5000 + 3 * (j + 1) := by omega
      clear hb HTg HBI
      go_wp2
      go_roundw
      case rel => exact ⟨j + 1,N,K,st,HLT.out,by go_num,hNq,HTq.out,HS.out,HBq.out⟩
      case measure => simp [intOf]; have := HLT.out; omega
    ·have hge : ¬ (j : Int) < (n2 : Int) + 1 := by omega
     clear hlt
     go_wp2
     go_ret
     exact ⟨rfl,HB.out⟩
end Go.Proofs.YtccaiiigdfieoaaGreatDoor
namespace Go.Proofs.YtccaiiigdfieoaaGreatDoor
open Go.RowKit Go.By
theorem tab10_of {d32 d64 : DataW Unit} {rest : List (String × DataW Unit)} {W : World} (h : laidMet Tryz.prog (("math/bits.deBruijn32tab", d32) :: ("math/bits.deBruijn64tab", d64) :: ("internal/strconv.uint64pow10", Rows.laid_internal_strconv_uint64pow10) :: rest) W) : Tab10 W := by
 have hz : (Rows.laid_internal_strconv_uint64pow10 : DataW Unit) = Lib.tabData .u64 Lib.pow10Tab := rfl
 have h2 := laidMet.tail (laidMet.tail h)
 rw [hz] at h2
 exact Lib.tabIs_of_head (g := 2) (t := 323) (e := 81) (n := 20) (by kernel_rfl) (by kernel_rfl) (by kernel_rfl) (by kernel_rfl) (by kernel_rfl) (by kernel_rfl) h2
end Go.Proofs.YtccaiiigdfieoaaGreatDoor
namespace Go.By
open Go.RowKit
theorem handed_shaped_and {H : Type} {enc : TypeId × Value → H} {a : Assume} {C : Checked} {os : Os} {f : FuncId} {fn : Func} {s : ChangeSpec} {conds : List PathCond} {apart fresh handsOn again : Bool} {X : World → Array Value → Prop}
  (hX : ∀ (w w' : World) (args : Array Value),w.heap = w'.heap → X w args → X w' args)
  (own : ownKnob C.prog.godebug = none) (started : os.Started) (noInit : C.prog.inits.idxOf? f = none) (hfn : C.prog.funcs[f]? = some fn)
  (witness : ∃ (w : World) (tape : Tape) (i : Input),w.os = os ∧ (w.forCall tape i).Shaped C.prog ∧ i.vars = [] ∧ Input.okWide C.prog (w.forCall tape i) .any w.heap.size f i ∧
   ((s.pre enc C.prog fn conds apart (w.forCall tape i).memory i.args ∧ X (w.forCall tape i).memory i.args) ∧ sizedMet enc C.prog fn (OpenSpec.ofChange s) apart (w.forCall tape i).memory i.args) ∧ a.holds C.prog (lone (Frame.enter C.prog f i.args .normal) [] (w.forCall tape i)))
  (contract : ∀ (W : World) (base : Nat) (args : Array Value) (ds gs : List (DataW H)) (before : List MemPlace),
   (∀ (j : Nat) t v,fn.params[j]? = some t → args[j]? = some v → Value.okWide C.prog W .any base t v) →
   DataW.Whole enc C.prog fn.params.toList s.vars apart W args.toList ds gs before →
   conds.all (PathCond.test C.prog ⟨fn.params.toList,ds,s.plain.varTypes C.prog,gs⟩) = true →
   (DataW.weightsEach C.prog (fn.params.toList ++ s.plain.varTypes C.prog) (ds ++ gs)).all (· ≤ reachBytes) = true → X W args → W.ShapedOpen C.prog →
   a.holds C.prog (lone (Frame.enter C.prog f args .normal) [] W) →
   Calls C.prog f args W fun e W' => ∃ v,e = .returned v ∧ s.post enc C.prog fn apart fresh handsOn again W args v W') :
  ReturnsInHanded a C os f .any (fun w args => (s.pre enc C.prog fn conds apart w args ∧ X w args) ∧ sizedMet enc C.prog fn (OpenSpec.ofChange s) apart w args) (s.post enc C.prog fn apart fresh handsOn again) :=
 returnsInHanded_of_calls own started noInit witness (fun w tape i _ shape _ ok before holds => by
  have value := ok.2.2.2
  obtain ⟨fn2,h2,_,_,_,_,value⟩ := value
  cases hfn.symm.trans h2
  obtain ⟨⟨⟨ds,gs,places,whole,conds⟩,x⟩,sized⟩ := before
  exact (contract _ w.heap.size i.args ds gs places value (DataW.Whole.of_heap (w := (w.forCall tape i).memory) (w' := w.forCall tape i) rfl whole) conds (sized.weights whole) (hX (w.forCall tape i).memory (w.forCall tape i) _ rfl x) shape holds).mono (fun e W' h => by
   obtain ⟨v,e1,post⟩ := h
   cases e1
   exact ChangeSpec.post_blind post))
end Go.By
namespace Go.Proofs.YtccaiiigdfieoaaGreatDoor
open Go.RowKit Go.By
theorem maxI_of {W : World} (h : W.ShapedOpen Tryz.prog) : MaxI W :=
 Go.Proofs.cell_of_shapedOpen_int (zero := #[.int .i64 0]) (t := 3) h (of_decide_eq_true (by kernel_rfl)) (by kernel_rfl) rfl (by kernel_rfl) (by kernel_rfl) Tryz.underlying3
theorem row_errS (u : TypeId) (h : Tryz.prog.typeName? 3 u = some "*errors.errorString") : u = 350 :=
 typeName_ptr_named (nm := "errors.errorString") (by rw [show "*" ++ "errors.errorString" = "*errors.errorString" by decide]; kernel_rfl) (by kernel_rfl) (by decide) u (by rw [show "*" ++ "errors.errorString" = "*errors.errorString" by decide]; exact h)
theorem errI_of {a b c d : String × DataW Unit} {rest : List (String × DataW Unit)} {W : World} (h : laidMet Tryz.prog (a :: b :: c :: d :: ("strconv.ErrRange", Rows.laid_strconv_ErrRange) :: rest) W) : ErrI W := by
 have h2 := laidMet.tail (laidMet.tail (laidMet.tail (laidMet.tail h)))
 obtain ⟨p,s,hv,_⟩ := laid_sentinel (g := 6) (ti := 137) (tp := 350) (te := 352) (ts := 9) h2 (by kernel_rfl) (by kernel_rfl) Tryz.underlying137 row_errS Tryz.underlying350 Tryz.underlying352 rfl rfl Tryz.underlying9 (by kernel_rfl) (by kernel_rfl)
 exact ⟨_,World.var?_cell (by kernel_rfl) hv 0,.inr ⟨_,_,rfl⟩⟩
end Go.Proofs.YtccaiiigdfieoaaGreatDoor
namespace Go.Proofs.YtccaiiigdfieoaaGreatDoor
open Go.RowKit Go.By
theorem halves_of {rest : List (String × DataW Unit)} {W : World} (h : laidMet Tryz.prog (("wellspring/sum.halves", Rows.laid_wellspring_sum_halves) :: rest) W) : HalfT W := by
 obtain ⟨zs,hz,hzl,hzc⟩ : ∃ zs : List Int,(Rows.laid_wellspring_sum_halves : DataW Unit) = Lib.tabData .u32 zs ∧ zs.length = 16 ∧ ∀ i,i < 16 → zs.getD i 0 = ((crcTab.getD i 0 : Nat) : Int) := ⟨[0,498536548,997073096,651767980,1994146192,1802195444,1303535960,1342533948,3988292384,4027552580,3604390888,3412177804,2607071920,2262029012,2685067896,3183342108],rfl,rfl,by decide⟩
 rw [hz] at h
 have h3 := Lib.tabIs_of_head (g := 0) (t := 304) (e := 23) (n := 16) (by kernel_rfl) (by kernel_rfl) (by kernel_rfl) (by kernel_rfl) (by kernel_rfl) (by kernel_rfl) h
 intro i hi
 have := h3.cell (g := 0) (by kernel_rfl) i (by omega)
 rw [hzc i hi] at this
 exact this
end Go.Proofs.YtccaiiigdfieoaaGreatDoor
namespace Go.Proofs.YtccaiiigdfieoaaGreatDoor
open Go.RowKit Go.By
theorem prs_of {d32 d64 : DataW Unit} {d : String × DataW Unit} {rest : List (String × DataW Unit)} {W : World} (h : laidMet Tryz.prog (("math/bits.deBruijn32tab", d32) :: ("math/bits.deBruijn64tab", d64) :: ("internal/strconv.uint64pow10", Rows.laid_internal_strconv_uint64pow10) :: d :: ("wellspring/sum.halves", Rows.laid_wellspring_sum_halves) :: ("strconv.ErrRange", Rows.laid_strconv_ErrRange) :: rest) W) : Tab10 W ∧ HalfT W ∧ ErrI W := ⟨tab10_of h, halves_of (laidMet.tail (laidMet.tail (laidMet.tail (laidMet.tail h)))), errI_of (laidMet.tail h)⟩
end Go.Proofs.YtccaiiigdfieoaaGreatDoor
namespace Go.Proofs.YtccaiiigdfieoaaGreatDoor
open Go.RowKit Go.By Go.Maps
set_option maxRecDepth 100000 in
set_option maxHeartbeats 4000000 in
theorem KeepBack_out (l s n d : Int) (p1 : Option Addr) (n1 c1 : Nat) (xss : List (List UInt8)) (p2 : Option Addr) (n2 c2 : Nat) (yss : List (List UInt8)) (w : World) (hl : l ≤ 9223372036854775807) (h1 : Sl2 w p1 n1 c1 xss) (h2 : Sl2 w p2 n2 c2 yss) (hT : HalfT w) (hX : Tab10 w)
  (hx : (((xss.all (fun y => decide (y.length ≤ 800)) && decide (n1 ≤ 30)) && (yss.all (fun y => decide (y.length ≤ 800)) && decide (n2 ≤ 30))) && small19 l s n) = false) :
  Calls Tryz.prog 8 #[.agg #[.int .i64 l,.int .i64 s,.int .i64 n,.int .u32 d],.slice p1 n1 c1,.slice p2 n2 c2] w fun e w' => e = .returned (.bool true) ∧ Below w.heap.size w w' := by
 have HT := Lib.hid hT
 have HTX := Lib.hid hX
 have HFew : Hid (∀ w,Sl2 w p1 n1 c1 xss → Calls Tryz.prog 25 #[.slice p1 n1 c1] w fun e w' => e = .returned (.bool (xss.all (fun y => decide (y.length ≤ 800)) && decide (n1 ≤ 30))) ∧ w = w') := fun w h => Few18_any p1 n1 c1 xss w h
 have HFew2 : Hid (∀ w,Sl2 w p2 n2 c2 yss → Calls Tryz.prog 25 #[.slice p2 n2 c2] w fun e w' => e = .returned (.bool (yss.all (fun y => decide (y.length ≤ 800)) && decide (n2 ≤ 30))) ∧ w = w') := fun w h => Few18_any p2 n2 c2 yss w h
 have HSm := Lib.hid (fun w => Small19_any l s n d w hl)
 generalize (xss.all (fun y => decide (y.length ≤ 800)) && decide (n1 ≤ 30)) = F at *
 generalize (yss.all (fun y => decide (y.length ≤ 800)) && decide (n2 ≤ 30)) = G at *
 generalize small19 l s n = S at *
 have H1 := Lib.hid h1
 have H2 := Lib.hid h2
 clear hT h1 h2 hX
 cases F with
 | false =>
  clear hx
  go_enter Tryz.func8,Tryz.ntmps8
  go_wp2_with fail
  refine Calls.mono (awake24 _ (HTX.out.keep (al (Below.refl _ _) (Nat.le_refl _))) (HT.out.keep (al (Below.refl _ _) (Nat.le_refl _)))) ?_
  rintro e w1 ⟨rfl,hb⟩
  have HB1 := Lib.hid (one_of hb).1
  clear hb
  go_wp2_with fail
  refine Calls.mono (HFew.out _ (H1.out.keep HB1.out)) ?_
  rintro e w2 ⟨rfl,rfl⟩
  go_wp2
  go_ret
  exact ⟨rfl,HB1.out⟩
 | true =>
  cases G with
  | false =>
   clear hx
   go_enter Tryz.func8,Tryz.ntmps8
   go_wp2_with fail
   refine Calls.mono (awake24 _ (HTX.out.keep (al (Below.refl _ _) (Nat.le_refl _))) (HT.out.keep (al (Below.refl _ _) (Nat.le_refl _)))) ?_
   rintro e w1 ⟨rfl,hb⟩
   have HB1 := Lib.hid (one_of hb).1
   clear hb
   go_wp2_with fail
   refine Calls.mono (HFew.out _ (H1.out.keep HB1.out)) ?_
   rintro e w2 ⟨rfl,rfl⟩
   go_wp2_with fail
   refine Calls.mono (HFew2.out _ (H2.out.keep HB1.out)) ?_
   rintro e w2 ⟨rfl,rfl⟩
   go_wp2
   go_ret
   exact ⟨rfl,HB1.out⟩
  | true =>
   cases S with
   | false =>
    clear hx
    go_enter Tryz.func8,Tryz.ntmps8
    go_wp2_with fail
    refine Calls.mono (awake24 _ (HTX.out.keep (al (Below.refl _ _) (Nat.le_refl _))) (HT.out.keep (al (Below.refl _ _) (Nat.le_refl _)))) ?_
    rintro e w1 ⟨rfl,hb⟩
    obtain ⟨hb1,kp,hs1⟩ := one_of hb
    have HB1 := Lib.hid hb1
    clear hb hb1
    go_wp2_with fail
    refine Calls.mono (HFew.out _ (H1.out.keep HB1.out)) ?_
    rintro e w2 ⟨rfl,rfl⟩
    go_wp2_with fail
    refine Calls.mono (HFew2.out _ (H2.out.keep HB1.out)) ?_
    rintro e w2 ⟨rfl,rfl⟩
    obtain ⟨z0,z1,z2,z3⟩ := cells_four kp
    go_wp2_with fail
    refine Calls.mono (HSm.out _) ?_
    rintro e w3 ⟨rfl,hb⟩
    have HB3 := Lib.hid (bl HB1.out hb HB1.out.size)
    clear hb z0 z1 z2 z3 kp HB1
    go_wp2
    go_ret
    exact ⟨rfl,HB3.out⟩
   | true => cases hx
set_option maxRecDepth 100000 in
set_option maxHeartbeats 4000000 in
theorem KeepBack_bad (l s n d : Int) (p1 : Option Addr) (n1 c1 : Nat) (xss : List (List UInt8)) (p2 : Option Addr) (n2 c2 : Nat) (yss : List (List UInt8)) (w : World) (hl : l ≤ 9223372036854775807) (h1 : Sl2 w p1 n1 c1 xss) (h2 : Sl2 w p2 n2 c2 yss) (hT : HalfT w) (hX : Tab10 w)
  (hfew : (xss.all (fun y => decide (y.length ≤ 800)) && decide (n1 ≤ 30)) = true) (hfew2 : (yss.all (fun y => decide (y.length ≤ 800)) && decide (n2 ≤ 30)) = true) (hc : checkS l s n ≠ 0) :
  Calls Tryz.prog 8 #[.agg #[.int .i64 l,.int .i64 s,.int .i64 n,.int .u32 d],.slice p1 n1 c1,.slice p2 n2 c2] w fun e w' => e = .returned (.bool true) ∧ Below w.heap.size w w' := by
 have HT := Lib.hid hT
 have HTX := Lib.hid hX
 have HFew : Hid (∀ w,Sl2 w p1 n1 c1 xss → Calls Tryz.prog 25 #[.slice p1 n1 c1] w fun e w' => e = .returned (.bool true) ∧ w = w') := fun w h => by have := Few18_any p1 n1 c1 xss w h; rw [hfew] at this; exact this
 have HFew2 : Hid (∀ w,Sl2 w p2 n2 c2 yss → Calls Tryz.prog 25 #[.slice p2 n2 c2] w fun e w' => e = .returned (.bool true) ∧ w = w') := fun w h => by have := Few18_any p2 n2 c2 yss w h; rw [hfew2] at this; exact this
 have hsm : small19 l s n = true := by unfold small19; rw [if_neg hc]
 have HSm : Hid (∀ w,Calls Tryz.prog 26 #[.agg #[.int .i64 l,.int .i64 s,.int .i64 n,.int .u32 d]] w fun e w' => e = .returned (.bool true) ∧ Below w.heap.size w w') := fun w => by have := Small19_any l s n d w hl; rw [hsm] at this; exact this
 have HNew := Lib.hid (fun w => TNew_bad l s n d w hl hc)
 have hz : (checkS l s n != 0) = true := bne_iff_ne.2 hc
 generalize checkS l s n = C at *
 have H1 := Lib.hid h1
 have H2 := Lib.hid h2
 clear hT h1 h2 hsm hc hfew hfew2 hX
 go_enter Tryz.func8,Tryz.ntmps8
 go_wp2_with fail
 refine Calls.mono (awake24 _ (HTX.out.keep (al (Below.refl _ _) (Nat.le_refl _))) (HT.out.keep (al (Below.refl _ _) (Nat.le_refl _)))) ?_
 rintro e w1 ⟨rfl,hb⟩
 obtain ⟨hb1,kp,hs1⟩ := one_of hb
 have HB1 := Lib.hid hb1
 clear hb hb1
 go_wp2_with fail
 refine Calls.mono (HFew.out _ (H1.out.keep HB1.out)) ?_
 rintro e w2 ⟨rfl,rfl⟩
 go_wp2_with fail
 refine Calls.mono (HFew2.out _ (H2.out.keep HB1.out)) ?_
 rintro e w2 ⟨rfl,rfl⟩
 obtain ⟨z0,z1,z2,z3⟩ := cells_four kp
 go_wp2_with fail
 refine Calls.mono (HSm.out _) ?_
 rintro e w3 ⟨rfl,hb⟩
 have HB3 := Lib.hid (bl HB1.out hb HB1.out.size)
 have kp3 := (hb.block _ (lt_of_block kp)).trans kp
 clear hb z0 z1 z2 z3 kp HB1 hs1
 obtain ⟨z0,z1,z2,z3⟩ := cells_four kp3
 go_wp2_with fail
 refine Calls.mono (HNew.out _) ?_
 rintro e w4 ⟨rfl,hb⟩
 have HB4 := Lib.hid (bl HB3.out hb HB3.out.size)
 clear hb kp3 z0 z1 z2 z3 HB3
 go_wp2
 go_ret
 exact ⟨rfl,HB4.out⟩
theorem KeepBack_any (l s n d : Int) (p1 : Option Addr) (n1 c1 : Nat) (xss : List (List UInt8)) (p2 : Option Addr) (n2 c2 : Nat) (yss : List (List UInt8)) (w : World) (w0 : (Lit.int .i64 l).wf = true) (_w1 : (Lit.int .i64 s).wf = true) (_w2 : (Lit.int .i64 n).wf = true) (w3 : (Lit.int .u32 d).wf = true) (h1 : Sl2 w p1 n1 c1 xss) (h2 : Sl2 w p2 n2 c2 yss) (hK : Tab10 w ∧ HalfT w ∧ ErrI w) (hM : MaxI w) :
  Calls Tryz.prog 8 #[.agg #[.int .i64 l,.int .i64 s,.int .i64 n,.int .u32 d],.slice p1 n1 c1,.slice p2 n2 c2] w fun e w' => e = .returned (.bool true) ∧ Below w.heap.size w w' := by
 have hl := (Go.bounds_i64 w0).2
 have hd := Go.bounds_u32 w3
 obtain ⟨hX,hT,hE⟩ := hK
 by_cases hx : (((xss.all (fun y => decide (y.length ≤ 800)) && decide (n1 ≤ 30)) && (yss.all (fun y => decide (y.length ≤ 800)) && decide (n2 ≤ 30))) && small19 l s n) = false
 ·exact KeepBack_out l s n d p1 n1 c1 xss p2 n2 c2 yss w hl h1 h2 hT hX hx
 ·rw [Bool.not_eq_false,Bool.and_eq_true,Bool.and_eq_true] at hx
  obtain ⟨⟨hfew,hfew2⟩,hsm⟩ := hx
  by_cases hc : checkS l s n = 0
  ·obtain ⟨L,t,k,D,rfl,rfl,rfl,rfl,hP⟩ := pok_of hl hc hd.1 (by omega)
   have hsm' := hsm
   unfold small19 at hsm'
   rw [if_pos hc,Bool.and_eq_true] at hsm'
   have h12 := of_decide_eq_true hsm'.1
   have h20 := of_decide_eq_true hsm'.2
   exact KeepBack_core L t k D p1 n1 c1 xss p2 n2 c2 yss w hP (by omega) (by omega) hfew hfew2 hsm h1 h2 hT hX hM hE
  ·exact KeepBack_bad l s n d p1 n1 c1 xss p2 n2 c2 yss w hl h1 h2 hT hX hfew hfew2 hc
end Go.Proofs.YtccaiiigdfieoaaGreatDoor
namespace Go.By
open Go.RowKit
theorem spot_none {w : World} {x : Addr} {v : Value} (h : w.cell? (x.add 0) = some v) : ∃ b o,x = ⟨b,o,none⟩ := by
 obtain ⟨b,off,spot⟩ := x
 have hspot : spot = none := by simpa [Addr.add] using World.cell?_spot h
 subst hspot
 exact ⟨b,off,rfl⟩
theorem sl2_of_rows {w : World} {a : Option Addr} {len cap : Nat} (hl : len ≤ cap) (hm : cap ≤ maxLen) (hn : a = none → len = 0 ∧ cap = 0) (A : Nat → Option Addr) (L C : Nat → Nat) (Z : Nat → List Int)
  (h : ∀ x,a = some x → ∀ r,r < cap → w.cell? (x.add r) = some (.slice (A r) (L r) (C r)) ∧ L r ≤ C r ∧ C r ≤ maxLen ∧ (Z r).length = C r ∧ (∀ n ∈ Z r,(Lit.int .u8 n).wf = true) ∧ (A r = none → C r = 0) ∧
    ∀ a',A r = some a' → ∀ c,c < C r → w.cell? (a'.add c) = some (.int .u8 ((Z r).getD c 0))) : ∃ xss,Sl2 w a len cap xss := by
 have each : ∀ r,∃ xs,r < len → Sl B8 w (A r) (L r) (C r) xs := by
  intro r
  by_cases hr : r < len
  ·cases ha : a with
   | none => have := hn ha; omega
   | some x =>
    obtain ⟨_,h1,h2,h3,h4,h5,h6⟩ := h x ha r (by omega)
    cases hA : A r with
    | none =>
     have := h5 hA
     have hL : L r = 0 := by omega
     exact ⟨[],fun _ => by rw [hL,this]; exact Sl.nil0 _ _⟩
    | some a' =>
     obtain ⟨xs,hx⟩ := sl_of_row (w := w) (a := some a') (len := L r) (cap := C r) (zs := Z r) (.inr ⟨a',rfl,h1,h2,h3,fun i hi => h6 a' hA i (by omega),h4⟩)
     exact ⟨xs,fun _ => hx⟩
  ·exact ⟨[],fun h => absurd h hr⟩
 refine ⟨(List.range len).map fun r => Classical.choose (each r),⟨by simp,hl,hm,hn,?_⟩⟩
 intro i xs hi
 obtain ⟨hi',e⟩ := List.getElem?_eq_some_iff.1 hi
 simp at hi' e
 have hs := Classical.choose_spec (each i) hi'
 rw [e] at hs
 cases ha : a with
 | none => have := hn ha; omega
 | some x =>
  obtain ⟨hc,_⟩ := h x ha i (by omega)
  obtain ⟨b,o,rfl⟩ := spot_none (h x ha 0 (by omega)).1
  rw [Addr.add_lit] at hc
  exact ⟨b,o,A i,C i,rfl,by rw [hs.len]; exact hc,by rw [hs.len]; exact hs⟩
end Go.By
