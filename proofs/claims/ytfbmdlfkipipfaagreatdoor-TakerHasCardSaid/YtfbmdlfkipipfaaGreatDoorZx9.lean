/- Chapter 19: TakerHas, of an object that the plan fits. Chapter 19: TakerHas, of whatever comes. Arguments that came in: slices of byte slices. The table of the sum, out of the row's condition. -/
import Derived.Test.YtfbmdlfkipipfaaGreatDoorZx8
import Derived.Deep.DeepCutAuto
import Derived.OpenShut
import Derived.Deep.Matrix
import Derived.Test.YtfbmdlfkipipfaaGreatDoorRows
import Derived.Lib.LaidTab
namespace Go.Proofs.YtfbmdlfkipipfaaGreatDoor
open Go.RowKit Go.By Gf Go.Maps
abbrev U16 (z : Int) : Value := .int .u16 z
theorem read_roomT {L t k D : Nat} {xs : List UInt8} (hP : POK L t k D) (h : readC k t D xs = 0) : xs.length ≤ 140737488355328 := by
  unfold readC at h
  split at h
  · rename_i hh; exact absurd h hh
  · split at h
    · cases h
    · rename_i hl
      have hl : xs.length = lenP (xs.getD 1 0) k t := by
        rcases Nat.lt_trichotomy xs.length (lenP (xs.getD 1 0) k t) with g | g | g
        · exact absurd (Nat.ne_of_lt g) hl
        · exact g
        · exact absurd (Nat.ne_of_gt g) hl
      rw [hl]
      unfold lenP widS
      have := hP.k2; have := hP.t2
      split
      · omega
      · split <;> omega
theorem readC_nil (k t D : Nat) : readC k t D [] = 6 := by
  have : headC [] = 6 := by unfold headC; rw [if_pos (by decide)]
  unfold readC; rw [this, if_pos (by decide)]
theorem SentV.room {L t k D : Nat} {FX : List (List UInt8)} {x y : List UInt8} (h : SentV k t D FX x y) (hP : POK L t k D) : x.length ≤ 140737488355328 := by
  rcases h with ⟨e, _⟩ | ⟨e, _⟩
  · rw [e]; simp
  · exact read_roomT hP e
theorem or_one_ne (x : UInt8) : x ||| 1 ≠ 0 := fun h => by
  have e := congrArg (fun u : UInt8 => u.toNat.testBit 0) h
  simp [UInt8.toNat_or, Nat.testBit_or] at e
def SentL (k t D : Nat) (FX XS YS : List (List UInt8)) : Prop := ∀ (j : Nat) (x y : List UInt8), XS[j]? = some x → YS[j]? = some y → SentV k t D FX x y
theorem SentL.nil (k t D : Nat) (FX : List (List UInt8)) : SentL k t D FX [] [] := fun j x y h => by simp at h
theorem SentL.push {k t D i : Nat} {FX XS YS : List (List UInt8)} {x y : List UInt8} (h : SentL k t D FX XS YS) (l1 : XS.length = i) (l2 : YS.length = i) (hv : SentV k t D FX x y) : SentL k t D FX (XS ++ [x]) (YS ++ [y]) := fun j a b h1 h2 => by
  rcases Nat.lt_trichotomy j i with g | g | g
  · rw [List.getElem?_append_left (by omega)] at h1 h2
    exact h j a b h1 h2
  · subst g
    rw [List.getElem?_append_right (by omega), show j - XS.length = 0 by omega] at h1
    rw [List.getElem?_append_right (by omega), show j - YS.length = 0 by omega] at h2
    simp at h1 h2
    subst h1 h2
    exact hv
  · rw [List.getElem?_eq_none (by simp; omega)] at h1; cases h1
/-- what is delivered: a packet as it was sent, or a turned one -/
def CameL (k t D : Nat) (bad : Bool) (xs ys : List UInt8) : Prop := ys.length = xs.length ∧ ((bad = false ∧ ys = xs) ∨ (bad = true ∧ (readC k t D xs = 0 → readC k t D ys ≠ 0) ∧ 0 < xs.length))
theorem came_in {k t D : Nat} {FX : List (List UInt8)} {bad : Bool} {xs ys zs : List UInt8} (h : CameL k t D bad xs zs) (hv : SentV k t D FX xs ys) (hr : readC k t D zs = 0) : bad = false ∧ zs = xs ∧ readC k t D xs = 0 ∧ eqX k t xs = rowC t FX ys ∧ ys.length = k ∧ xs.length ≠ 0 := by
  have hz : ∀ l, readC k t D l = 0 → l.length ≠ 0 := fun l hl e => by
    rw [List.eq_nil_of_length_eq_zero e, readC_nil] at hl; cases hl
  rcases h.2 with ⟨e1, e2⟩ | ⟨e1, e2, e3⟩
  · rcases hv with ⟨e4, _⟩ | ⟨e4, e5, e6⟩
    · rw [e2] at hr; exact absurd (by rw [e4]; rfl) (hz _ hr)
    · exact ⟨e1, e2, e4, e5, e6, hz _ e4⟩
  · rcases hv with ⟨e4, _⟩ | ⟨e4, e5, e6⟩
    · rw [e4] at e3; cases e3
    · exact absurd hr (e2 e4)
theorem came_out {k t D : Nat} {FX : List (List UInt8)} {bad : Bool} {xs ys zs : List UInt8} (h : CameL k t D bad xs zs) (hv : SentV k t D FX xs ys) (hr : readC k t D zs ≠ 0) : bad = true ∨ (bad = false ∧ xs.length = 0) := by
  rcases h.2 with ⟨e1, e2⟩ | ⟨e1, e2, e3⟩
  · rcases hv with ⟨e4, _⟩ | ⟨e4, e5, e6⟩
    · exact .inr ⟨e1, by rw [e4]; rfl⟩
    · rw [e2] at hr; exact absurd e4 hr
  · exact .inl e1
set_option maxRecDepth 100000 in
set_option maxHeartbeats 8000000 in
theorem TakerHas_core (L t k D : Nat) (q0 : Option Addr) (c0 : Nat) (o : List UInt8) (p1 : Option Addr) (n1 c1 : Nat) (srcs : List SrcD) (p2 : Option Addr) (n2 c2 : Nat) (ord : List UInt8) (p3 : Option Addr) (n3 c3 : Nat) (sp : List Int) (w : World) (hO : ObjP L t k D) (h0 : Sl B8 w q0 L c0 o) (h1 : SlS w p1 n1 c1 srcs) (h2 : Sl B8 w p2 n2 c2 ord) (h3 : Sl U16 w p3 n3 c3 sp) (hsp : ∀ z, z ∈ sp → 0 ≤ z ∧ z < 65536) (hT : HalfT w)
    (hk12 : k ≤ 12) (hn1 : n1 ≤ 20) (hn10 : 1 ≤ n1) (hn2 : n2 ≤ 40) (hof : ofS (L : Int) (t : Int) (D : Int) = .tuple #[PVal L t k D, .int .i64 0]) (hsm : small19 L t k = true) :
    Calls Tryz.prog 5 #[.slice q0 L c0, .int .i64 (t : Nat), .int .u32 (D : Nat), .slice p1 n1 c1, .slice p2 n2 c2, .slice p3 n3 c3] w fun e w' => e = .returned (.bool true) ∧ Below w.heap.size w w' := by
  have HT := Lib.hid hT
  have HOB := Lib.hid hO
  have H0 := Lib.hid h0
  have H1 := Lib.hid h1
  have H2 := Lib.hid h2
  have H3 := Lib.hid h3
  have HSP := Lib.hid hsp
  have HOf : Hid (∀ w, Calls Tryz.prog 24 #[.int .i64 (L : Nat), .int .i64 (t : Nat), .int .u32 (D : Nat)] w fun e w' => e = .returned (.tuple #[PVal L t k D, .int .i64 0]) ∧ Below w.heap.size w w') := fun w => by
    have := POf_any (L : Int) (t : Int) (D : Int) w hO.ok.l
    rw [hof] at this; exact this
  have HSm : Hid (∀ w, Calls Tryz.prog 29 #[PVal L t k D] w fun e w' => e = .returned (.bool true) ∧ Below w.heap.size w w') := fun w => by have := Small19_any L t k D w hO.ok.l; rw [hsm] at this; exact this
  have hn1' : ¬ (20 : Int) < (n1 : Int) := by omega
  have hn2' : ¬ (40 : Int) < (n2 : Int) := by omega
  have hn1z : ((n1 : Int) == 0) = false := beq_eq_false_iff_ne.2 (by omega)
  have ht2 := hO.ok.t2
  have hk1 := hO.ok.k1
  have hLb := h0.bound
  have hn3b := h3.bound
  clear hT hO h0 h1 h2 h3 hsp hof hsm
  go_enter Tryz.func5, Tryz.ntmps5
  go_wp2_with fail
  refine Calls.mono (awake19 _ HT.out) ?_
  rintro e wa ⟨rfl, hb⟩
  have HBa := Lib.hid hb
  clear hb
  go_wp2_with fail
  refine Calls.mono (HOf.out _) ?_
  rintro e wb ⟨rfl, hb⟩
  have HBb := Lib.hid (bl HBa.out hb HBa.out.size)
  clear hb HBa
  go_wp2_with fail
  refine Calls.mono (HSm.out _) ?_
  rintro e wc ⟨rfl, hb⟩
  obtain ⟨hb1, kp, hs1⟩ := one_of hb
  have HBc := Lib.hid (bl HBb.out hb1 HBb.out.size)
  clear hb hb1 hs1 HBb
  obtain ⟨z0, z1, z2, z3⟩ := cells_four kp
  obtain ⟨gp, hgp⟩ : ∃ gp, gp = wb.heap.size := ⟨_, rfl⟩
  rw [← hgp] at kp z0 z1 z2 z3 ⊢
  clear hgp
  go_wp2_with fail
  refine Calls.mono (SNew_ok L t k D q0 L c0 o wc HOB.out.ok (H0.out.keep HBc.out) HOB.out.fit rfl) ?_
  rintro e w0 ⟨gs, rfl, hgs, hsn, hb⟩
  have HSn := Lib.hid hsn
  have HB0 := Lib.hid (bl HBc.out hb HBc.out.size)
  have HGS : Hid (w.heap.size ≤ gs) := Nat.le_trans HBc.out.size hgs
  have kp0 := (hb.block _ (lt_of_block kp)).trans kp
  clear hb hgs hsn kp z0 z1 z2 z3 HBc
  obtain ⟨z0, z1, z2, z3⟩ := cells_four kp0
  go_wp2_with fail
  refine Calls.mono (TNew_ok L t k D w0 HOB.out.ok) ?_
  rintro e w1 ⟨gt, be, v0, rfl, ht, hb⟩
  have hst := ST.start HB0.out HGS.out HSn.out ht hb
  obtain ⟨base, hbase⟩ : ∃ base, base = w0.heap.size := ⟨_, rfl⟩
  rw [← hbase] at hst
  obtain ⟨FX, hFX⟩ : ∃ FX, FX = (List.range k).map (pieceS o t) := ⟨_, rfl⟩
  have HJO : Hid (joinS (L : Int) (t : Int) (k : Int) FX = (o, 0)) := by
    show _ = _
    rw [hFX]; exact join_pieces H0.out.len.symm HOB.out.ok.chk (by rw [H0.out.len]; exact HOB.out.fit) (by rw [H0.out.len]; exact HOB.out.le)
  have HFl : Hid (∀ x, x ∈ FX → x.length = t) := by rw [hFX]; exact pieces_len.1
  have HFk : Hid (FX.length = k) := by rw [hFX]; exact pieces_len.2
  rw [← hFX] at hst
  have HS1 := Lib.hid hst
  have HP1 := Lib.hid ((hb.block _ (lt_of_block kp0)).trans kp0)
  clear hb ht hst HSn kp0 HB0 HGS hFX hbase HOf HSm z0 z1 z2 z3
  go_wp2
  go_loopw [18, 19, 87] (fun sv vv iv wr => ∃ (i nx : Nat) (XS YS : List (List UInt8)), i ≤ n1 ∧ iv = .int .i64 (i : Nat) ∧ nx ≤ i ∧ Hid (ST w w0 wr gs gt be base L t k D FX nx 0 v0 [] 0) ∧ Hid (HdrF 22 5 w0.heap.size wr sv i XS) ∧ Hid (HdrF 22 5 w0.heap.size wr vv i YS) ∧ Hid (Dj sv vv) ∧ Hid (SentL k t D FX XS YS) ∧ Hid (wr.heap[gp]? = some (.cells #[.int .i64 (L : Nat), .int .i64 (t : Nat), .int .i64 (k : Nat), .int .u32 (D : Nat)] 27 (0, 0)))) (fun _ _ iv _ => n1 - (intOf iv).toNat)
  case atStart => exact ⟨0, 0, [], [], Nat.zero_le _, rfl, Nat.le_refl _, HS1.out, HdrF.nil _ _ _ _, HdrF.nil _ _ _ _, Dj.nil _, SentL.nil _ _ _ _, HP1.out⟩
  case round =>
    obtain ⟨i, nx, XS, YS, hi, rfl, hnx, HR, HX, HY, HD, HV, HP⟩ := hrel
    clear HS1 HP1
    obtain ⟨qs, cs, rfl⟩ := HX.out.shape
    obtain ⟨qv, cv', rfl⟩ := HY.out.shape
    by_cases hlt : i < n1
    · obtain ⟨b, ob, q, j, c', a, rfl, hga, f0, f1, f2, hs, hs64⟩ := H1.out.at hlt
      have x0 := (HR.out.bel.cell (p := ⟨b, ob + i * 3, none⟩) (lt_of_cell f0)).trans f0
      have x1 := (HR.out.bel.cell (p := ⟨b, ob + i * 3 + 1, none⟩) (lt_of_cell f1)).trans f1
      have x2 := (HR.out.bel.cell (p := ⟨b, ob + i * 3 + 2, none⟩) (lt_of_cell f2)).trans f2
      have hlt' : (i : Int) < (n1 : Int) := by omega
      have HSX := Lib.hid hs
      have hjl := hs.len
      have hjb := hs.bound
      clear f0 f1 f2 hs hlt
      by_cases hj : j ≤ 100
      · have hj' : ¬ (100 : Int) < (j : Int) := by omega
        have ba : Below wr.heap.size wr (wr.alloc (.cells #[B8 a.m, .slice q j c', .int .u64 (a.s : Nat)] 66 (0, 0))) := al (Below.refl _ _) (Nat.le_refl _)
        have HRa := Lib.hid (HR.out.keep ba)
        have HSV := Lib.hid (sentX_ok (nx := nx) HFl.out HFk.out hk1 hjl hs64 HOB.out.ok.d (by omega) (m := a.m))
        have hsend := ST_sendA HRa.out HT.out (by omega) ((HSX.out.keep HR.out.bel).keep ba) (show j ≤ 140737488355328 by omega) (m := a.m) (s := a.s)
        have hvec := fun w h => SVector_anyF a.m q j c' a.s k a.xs hk1 (by omega) w h (show j ≤ 140737488355328 by omega)
        have hnx2 := nextX_le nx k a.m j
        rw [show (if srcC a.m j k = 0 then vecS a.m a.xs a.s k else []) = vecX k a.m j a.s a.xs from rfl] at hvec
        generalize sentX D nx k FX a.m j a.s a.xs = xa at *
        generalize vecX k a.m j a.s a.xs = ya at *
        generalize nextX nx k a.m j = nx' at *
        generalize srcC a.m j k = R at *
        have HSD := Lib.hid hsend
        have HVC := Lib.hid hvec
        have HXa := Lib.hid (HX.out.keep ba)
        have HYa := Lib.hid (HY.out.keep ba)
        have HPa : Hid ((wr.alloc (.cells #[B8 a.m, .slice q j c', .int .u64 (a.s : Nat)] 66 (0, 0))).heap[gp]? = some (.cells #[.int .i64 (L : Nat), .int .i64 (t : Nat), .int .i64 (k : Nat), .int .u32 (D : Nat)] 27 (0, 0))) := (ba.block _ (lt_of_block HP.out)).trans HP.out
        have HLE := Lib.hid HR.out.le
        clear ba hsend hvec
        go_wp2_with fail
        refine Calls.mono HSD.out ?_
        rintro e wd ⟨ql, nl, cl, rfl, hf, hS, hK⟩
        have HSd := Lib.hid hS
        have FL : Hid (Fresh 5 w0.heap.size wd ql nl cl xa) := hf.mono (by have := HLE.out; simp; omega)
        have HXd := Lib.hid (hK.hdr os_rows os_u8 HXa.out)
        have HYd := Lib.hid (hK.hdr os_rows os_u8 HYa.out)
        have kpd := hK.blk os_plan HPa.out
        have kbd := hK.blk os_src (hnew rfl : (wr.alloc (.cells #[B8 a.m, .slice q j c', .int .u64 (a.s : Nat)] 66 (0, 0))).heap[wr.heap.size]? = _)
        have HSQ := Lib.hid (HSX.out.keep hS.bel)
        clear hf hS hK x0 x1 x2 HR HRa HSD HXa HYa HPa HX HY HP
        obtain ⟨z0, z1, z2, z3⟩ := cells_four kpd
        obtain ⟨b0, b1, b2⟩ := cells_three kbd
        go_wp2_with fail
        refine Calls.mono (HVC.out _ HSQ.out) ?_
        rintro e we ⟨qy, ny, cy, rfl, hf, hb⟩
        have HSe := Lib.hid (HSd.out.keep hb)
        have FLe := Lib.hid (FL.out.keep hb)
        have FYe : Hid (Fresh 5 w0.heap.size we qy ny cy ya) := hf.mono HSd.out.le
        have HXe := Lib.hid (HXd.out.keep hb)
        have HYe := Lib.hid (HYd.out.keep hb)
        have HPe := Lib.hid ((hb.block _ (lt_of_block kpd)).trans kpd)
        have hRR : (R != R) = false := bne_self_eq_false R
        clear hb hf kpd kbd z0 z1 z2 z3 b0 b1 b2 HSd FL HXd HYd HSQ HVC
        have ba : Below we.heap.size we (we.alloc (.cells #[.slice ql nl cl] 22 (0, 0))) := al (Below.refl _ _) (Nat.le_refl _)
        have HSf := Lib.hid (HSe.out.keep ba)
        have HYf := Lib.hid (HYe.out.keep ba)
        have HPf : Hid ((we.alloc (.cells #[.slice ql nl cl] 22 (0, 0))).heap[gp]? = some (.cells #[.int .i64 (L : Nat), .int .i64 (t : Nat), .int .i64 (k : Nat), .int .u32 (D : Nat)] 27 (0, 0))) := (ba.block _ (lt_of_block HPe.out)).trans HPe.out
        have FYf := Lib.hid (FYe.out.keep ba)
        have HXf := Lib.hid (HXe.out.keep ba)
        have FLf := Lib.hid (FLe.out.keep ba)
        clear ba HSe HYe HPe FYe HXe FLe
        go_wp2_with (first | (at_builtin; refine wpList_hdr rfl _ _ rfl w0.heap.size i (.slice qs i cs) XS rfl HXf.out (by omega) HSf.out.le we.heap.size rfl ql nl cl (0, 0) xa (hnew rfl) FLf.out ?_) | fail)
        rintro sA wA hA1 ⟨ys, hA2⟩ hA3 hA4
        obtain ⟨hSA, hsm⟩ := HSf.out.grown hA2 hA3 (by decide) (by decide) (by decide) (by decide)
        have HYA0 := HYf.out.other hA3 (fun g h1 h2 => HD.out g h2 h1) (hsm _ (by decide))
        have hDA : Dj sA (.slice qv i cv') := HD.out.grew hA4 (fun g h => by have := HYf.out.lt g h; simp at this; omega)
        have FYA0 := fresh_same FYf.out (hsm _ (by decide))
        have HPA0 := (hsm _ (by decide) _ _ _ HPf.out).trans HPf.out
        clear hsm hA2 hA3 hA4 HSf HYf HPf FYf HXf FLf HD
        have ba : Below wA.heap.size wA (wA.alloc (.cells #[.slice qy ny cy] 22 (0, 0))) := al (Below.refl _ _) (Nat.le_refl _)
        have HSf := Lib.hid (hSA.keep ba)
        have HYf := Lib.hid (HYA0.keep ba)
        have HXf := Lib.hid (hA1.keep ba)
        have HPf : Hid ((wA.alloc (.cells #[.slice qy ny cy] 22 (0, 0))).heap[gp]? = some (.cells #[.int .i64 (L : Nat), .int .i64 (t : Nat), .int .i64 (k : Nat), .int .u32 (D : Nat)] 27 (0, 0))) := (ba.block _ (lt_of_block HPA0)).trans HPA0
        have FYf := Lib.hid (FYA0.keep ba)
        have HD2 := Lib.hid hDA
        clear ba hSA HYA0 hA1 HPA0 FYA0 hDA
        go_wp2_with (first | (at_builtin; refine wpList_hdr rfl _ _ rfl w0.heap.size i (.slice qv i cv') YS rfl HYf.out (by omega) HSf.out.le wA.heap.size rfl qy ny cy (0, 0) ya (hnew rfl) FYf.out ?_) | fail)
        rintro sB wB hB1 ⟨ys, hB2⟩ hB3 hB4
        obtain ⟨hSB, hsm⟩ := HSf.out.grown hB2 hB3 (by decide) (by decide) (by decide) (by decide)
        have HXB0 := Lib.hid (HXf.out.other hB3 (fun g h1 h2 => HD2.out g h1 h2) (hsm _ (by decide)))
        have HDB : Hid (Dj sA sB) := (HD2.out.symm.grew hB4 (fun g h => by have := HXf.out.lt g h; simp at this; omega)).symm
        have HPB0 := Lib.hid ((hsm _ (by decide) _ _ _ HPf.out).trans HPf.out)
        have HYB0 := Lib.hid hB1
        have HSB := Lib.hid hSB
        have HVB : Hid (SentL k t D FX (XS ++ [xa]) (YS ++ [ya])) := HV.out.push (by have := HXB0.out.len; simpa using this) (HYf.out.len) HSV.out
        clear hsm hB1 hB2 hB3 hB4 hSB HSf HYf HPf FYf HXf HD2 HV
        go_wp2
        go_roundw
        case rel => exact ⟨i + 1, nx', XS ++ [xa], YS ++ [ya], by omega, by go_num, by omega, HSB.out, HXB0.out, HYB0.out, HDB.out, HVB.out, HPB0.out⟩
        case measure => simp [intOf]; omega
      · have hj' : (100 : Int) < (j : Int) := by omega
        go_wp2
        go_ret
        exact ⟨rfl, al HR.out.bel HR.out.bel.size⟩
    · obtain rfl : n1 = i := by omega
      clear hlt hi
      have hXn := HX.out.len
      have hYn := HY.out.len
      go_wp2
      go_loopw [26, 122] (fun cv iv wq => ∃ (i : Nat) (v : Value) (X K : List Rw), i ≤ n2 ∧ iv = .int .i64 (i : Nat) ∧ X.length ≤ i ∧ Hid (ST w w0 wq gs gt be base L t k D FX nx i v K (stF K k)) ∧ Hid (OneObj k t FX X K) ∧ Hid (HdrF 22 5 w0.heap.size wq (.slice qs n1 cs) n1 XS) ∧ Hid (HdrF 22 5 w0.heap.size wq (.slice qv n1 cv') n1 YS) ∧ Hid (HdrF 22 5 w0.heap.size wq cv X.length (X.map (fun x : Rw => x.1))) ∧ Hid (Dj cv (.slice qs n1 cs)) ∧ Hid (Dj cv (.slice qv n1 cv')) ∧ Hid (wq.heap[gp]? = some (.cells #[.int .i64 (L : Nat), .int .i64 (t : Nat), .int .i64 (k : Nat), .int .u32 (D : Nat)] 27 (0, 0)))) (fun _ iv _ => n2 - (intOf iv).toNat)
      case atStart => exact ⟨0, _, [], [], Nat.zero_le _, rfl, Nat.le_refl _, by rw [show stF ([] : List Rw) k = 0 from if_neg (by show ¬ 0 = k; omega)]; exact HR.out, OneObj.nil _ _ _, HX.out, HY.out, HdrF.nil _ _ _ _, Dj.nil _, Dj.nil _, HP.out⟩
      case round =>
        obtain ⟨i, v, X, K, hi, rfl, hXi, HR2, HO2, HX2, HY2, HC2, HD1, HD2, HP2⟩ := hrel
        clear HR HX HY HD HP hnx
        obtain ⟨qc, cc, rfl⟩ := HC2.out.shape
        by_cases hlt : i < n2
        · obtain ⟨bo, oo, ob, rfl, hco, hxo⟩ := H2.out.at i hlt
          have hlt' : (i : Int) < (n2 : Int) := by omega
          have d0 := (HR2.out.bel.cell (p := ⟨bo, oo + i, none⟩) (lt_of_cell hco)).trans hco
          have hob := ob.toNat_lt
          obtain ⟨kk, hkk⟩ : ∃ kk, kk = ob.toNat % n1 := ⟨_, rfl⟩
          have hkl : kk < n1 := by rw [hkk]; exact Nat.mod_lt _ (by omega)
          have e1 : ((ob.toNat : Int) % (n1 : Int)) = (kk : Int) := by rw [hkk]; exact (Int.natCast_emod _ _).symm
          have e2 : (ob.toNat : Int).tmod (n1 : Int) = (kk : Int) := by rw [Int.tmod_eq_emod_of_nonneg (Int.natCast_nonneg _), e1]
          obtain ⟨bs, os, ql, m, cl, xs, rfl, hcs, hxs, hfx⟩ := HX2.out.at hkl
          obtain ⟨bv, ov, qy, my, cy, ys, rfl, hcy, hys, hfy⟩ := HY2.out.at hkl
          have hV := HV.out kk xs ys hxs.out hys.out
          have hm : xs.length = m := hfx.sl.len
          have hmr : m ≤ 140737488355328 := by rw [← hm]; exact hV.room HOB.out.ok
          have HVV := Lib.hid hV
          have HXS : Hid (XS[kk]? = some xs) := hxs
          have HYS : Hid (YS[kk]? = some ys) := hys
          have HFX := Lib.hid hfx
          have HFY := Lib.hid hfy
          have HM := Lib.hid hm
          clear hco hxo hkk hxs hys hfx hfy hV hm hlt
          obtain ⟨u0, hu0, uz0, uz1, uz2⟩ := info_parts info_u8
          have hn1q : (n1 : Int) ≠ 0 := by omega
          have kk' : (kk : Int) < (n1 : Int) := by omega
          have hcs1 : ∀ o', (wr.alloc o').cell? ⟨bs, os + kk, none⟩ = _ := fun _ => calloc hcs
          go_wp2_with (first | (at_builtin; refine wpList_append_rs _ rfl _ _ 22 rfl wr.heap.size 5 u0 (.int .u8 0) 1 Tryz.underlying22 hu0 uz0 uz1 uz2 rfl (.slice (some ⟨wr.heap.size, 0, none⟩) 0 0) 0 [] rfl (World.ownsRow_lit wr #[] 0 (Nat.le_refl _) (by simp [maxLen]) rfl) B8 ql m cl xs (fun _ _ => rfl) rfl (HFX.out.sl.keep (al (Below.refl _ _) (Nat.le_refl _))) (by unfold maxLen; omega) (by omega) (by simp) ?_) | fail)
          intro lv w4 hl1 hl2
          obtain ⟨q4, c4, rfl⟩ := owns_shape hl1
          have hb4 : Below wr.heap.size wr w4 := (al (o := .cells #[] 5) (Below.refl wr.heap.size wr) (Nat.le_refl _)).grown hl2 (by simp) (fun r hr => by cases hr; exact Nat.le_refl _)
          have HL4 := Lib.hid hl1
          have HB4 := Lib.hid hb4
          clear hl1 hl2 hcs1 hn1q e1 e2 hu0 uz0 uz1 uz2
          obtain ⟨badB, hbad⟩ : ∃ badB : Bool, badB = (decide (i < n3) && (decide (sp.getD i 0 % 3 = 0) && decide (0 < m))) := ⟨_, rfl⟩
          have HBAD := Lib.hid hbad
          clear hbad
          go_upto_region 28 with (fail)
          go_cut [31] (fun s31 wx => s31 = .bool badB ∧ wx = w4)
          case first =>
            as_aux_lemma =>
              have hB4w := bl HR2.out.bel HB4.out HR2.out.bel.size
              by_cases hi3 : i < n3
              · obtain ⟨b3, o3, z, rfl, hc3, hz3⟩ := H3.out.at i hi3
                obtain ⟨hz0, hz1⟩ := HSP.out z (List.mem_of_getElem? hz3.out)
                have HGD : Hid (sp.getD i 0 = z) := by show _ = _; rw [List.getD_eq_getElem?_getD, hz3.out]; rfl
                have c3' := (hB4w.cell (p := ⟨b3, o3 + i, none⟩) (lt_of_cell hc3)).trans hc3
                have hi3' : (i : Int) < (n3 : Int) := by omega
                clear hc3 hz3 hB4w
                by_cases hz : z % 3 = 0
                · have hzb : (z % 3 == 0) = true := beq_iff_eq.2 hz
                  by_cases hm0 : 0 < m
                  · have hm0' : (0 : Int) < (m : Int) := by omega
                    have hbt : badB = true := by rw [HBAD.out, HGD.out, decide_eq_true hi3, decide_eq_true hz, decide_eq_true hm0]; rfl
                    have HBT := Lib.hid hbt
                    clear hbt hz hm0 hi3
                    go_wp2_with fail
                    go_meet
                    exact ⟨by rw [HBT.out]; simp; omega, rfl⟩
                  · have hm0' : ¬ (0 : Int) < (m : Int) := by omega
                    have hbt : badB = false := by rw [HBAD.out, decide_eq_false hm0]; simp
                    have HBT := Lib.hid hbt
                    clear hbt hz hm0 hi3
                    go_wp2_with fail
                    go_meet
                    exact ⟨by rw [HBT.out]; simp; omega, rfl⟩
                · have hzb : (z % 3 == 0) = false := beq_eq_false_iff_ne.2 hz
                  have hbt : badB = false := by rw [HBAD.out, HGD.out, decide_eq_false hz]; simp
                  have HBT := Lib.hid hbt
                  clear hbt hz hi3
                  go_wp2_with fail
                  go_meet
                  exact ⟨by rw [HBT.out], rfl⟩
              · have hi3' : ¬ (i : Int) < (n3 : Int) := by omega
                have hbt : badB = false := by rw [HBAD.out, decide_eq_false hi3]; rfl
                have HBT := Lib.hid hbt
                clear hbt hi3 hB4w
                go_wp2_with fail
                go_meet
                exact ⟨by rw [HBT.out], rfl⟩
          case rest =>
            obtain ⟨rfl, rfl⟩ := hcut
            go_upto_if 155 with (fail)
            go_cut [] (fun wx => ∃ zs, Hid (Sl B8 wx q4 m c4 zs) ∧ Hid (Below wr.heap.size wr wx) ∧ Hid (CameL k t D badB xs zs))
            case first =>
              as_aux_lemma =>
                by_cases hb : badB = true
                · have hbt := HBAD.out
                  rw [hb] at hbt
                  simp only [Bool.true_eq, Bool.and_eq_true, decide_eq_true_eq] at hbt
                  obtain ⟨hi3, -, hm0⟩ := hbt
                  obtain ⟨b3, o3, z, rfl, hc3, hz3⟩ := H3.out.at i hi3
                  obtain ⟨hz0, hz1⟩ := HSP.out z (List.mem_of_getElem? hz3.out)
                  have hB4w := bl HR2.out.bel HB4.out HR2.out.bel.size
                  have c3' := (hB4w.cell (p := ⟨b3, o3 + i, none⟩) (lt_of_cell hc3)).trans hc3
                  have hi3' : (i : Int) < (n3 : Int) := by omega
                  obtain ⟨g4, rfl, hg4, hg4l⟩ := owns_at HL4.out hm0
                  obtain ⟨at_, hat⟩ : ∃ at_ : Nat, at_ = z.toNat % m := ⟨_, rfl⟩
                  have hatl : at_ < m := by rw [hat]; exact Nat.mod_lt _ hm0
                  have hrem : z % (m : Int) = (at_ : Int) := by rw [hat, Int.natCast_emod]; rw [Int.toNat_of_nonneg hz0]
                  have hrem2 : z.tmod (m : Int) = (at_ : Int) := by rw [Int.tmod_eq_emod_of_nonneg hz0, hrem]
                  obtain ⟨zh, hzh⟩ : ∃ zh : Nat, (zh : Int) = z / 256 := ⟨(z / 256).toNat, by omega⟩
                  have hzh8 : zh < 256 := by omega
                  obtain ⟨xb, hxb⟩ : ∃ xb, xb = xs.getD at_ 0 := ⟨_, rfl⟩
                  obtain ⟨cb, hcb⟩ : ∃ cb : UInt8, cb = UInt8.ofNat zh ||| 1 := ⟨_, rfl⟩
                  obtain ⟨x0, z0, hset, -⟩ := own_set HL4.out hatl (xb ^^^ cb)
                  rw [← hxb] at x0
                  have hor : bits .or .u8 (zh : Int) 1 = (cb.toNat : Int) := by
                    have e := bits_or (UInt8.ofNat zh) 1
                    rw [show (UInt8.ofNat zh).toNat = zh by simp; omega] at e
                    rw [hcb]; exact e
                  have hxor := bits_xor xb cb
                  have hwz : IntKind.i64.wrap z = z := by rw [IntKind.wrap_i64]; omega
                  have hwh : IntKind.u8.wrap (zh : Int) = (zh : Int) := by rw [IntKind.wrap_u8]; omega
                  have hat' : (at_ : Int) < (m : Int) := by omega
                  have hmz : ((m : Int) == 0) = false := beq_eq_false_iff_ne.2 (by omega)
                  have hmz2 : ¬ m = 0 := by omega
                  have hzh' : z / 256 = (zh : Int) := hzh.symm
                  have HCL : Hid (CameL k t D true xs (xs.set at_ (xb ^^^ cb))) := by
                    refine ⟨by simp, .inr ⟨rfl, fun h => ?_, by rw [HM.out]; exact hm0⟩⟩
                    have hl : at_ < xs.length := by rw [HM.out]; exact hatl
                    have e : xb = xs[at_] := by rw [hxb, List.getD_eq_getElem?_getD, List.getElem?_eq_getElem hl]; rfl
                    rw [e]
                    refine turned_found hl (fun e0 => ?_) h
                    rw [hcb] at e0
                    exact or_one_ne _ e0
                  have HXB := Lib.hid hxb
                  clear hc3 hz3 hB4w hm0 hat hzh hxb hcb hset hi3
                  subst hb
                  go_wp2_with fail
                  refine wp_region_tail (fun ix => ([.val (.slice (some ⟨g4, 0, none⟩) m c4), .val (.slice (some ⟨b3, o3, none⟩) n3 c3), .val (.int .i64 (i : Nat)), .val (.pointer (some ⟨b3, o3 + i, none⟩)), .val (.int .u16 z), .val (.int .i64 z), .val (.slice (some ⟨g4, 0, none⟩) m c4), .val (.int .i64 (m : Nat)), .val (.int .i64 (at_ : Nat)), .val (.pointer (some ⟨g4, at_, none⟩)), .val (B8 xb), .val (.slice (some ⟨b3, o3, none⟩) n3 c3), .val (.int .i64 (i : Nat)), .val (.pointer (some ⟨b3, o3 + i, none⟩)), .val (.int .u16 z), .val (.int .u16 (zh : Nat)), .val (.int .u8 (zh : Nat)), .val (B8 cb), .val (B8 (xb ^^^ cb)), .any, .any][ix]?).getD (.any)) 265 19 rfl (by kernel_rfl) (by decide +kernel) (by decide +kernel) (by decide +kernel) (by decide +kernel) ?_ ?_
                  · refine ⟨?_, ?_, ?_, ?_, ?_, ?_, ?_, ?_, ?_, ?_, ?_, ?_, ?_, ?_, ?_, ?_, ?_, ?_, ?_, trivial⟩
                    · intro a W hb0 hs hp hi; have hb := undrew hb0; clear hb0
                      have t30 : sl a 30 = .slice (some ⟨g4, 0, none⟩) m c4 := hi 30 (by decide)
                      exact ite_y rfl (wp_val (sl a 30) rfl ⟨_, rfl, Below.refl _ _, t30⟩)
                    · intro a W hb0 hs hp hi; have hb := undrew hb0; clear hb0
                      have t5 : sl a 5 = .slice (some ⟨b3, o3, none⟩) n3 c3 := hi 5 (by decide)
                      exact ite_y rfl (wp_val (sl a 5) rfl ⟨_, rfl, Below.refl _ _, t5⟩)
                    · intro a W hb0 hs hp hi; have hb := undrew hb0; clear hb0
                      have t27 : sl a 27 = .int .i64 (i : Nat) := hi 27 (by decide)
                      exact ite_y rfl (wp_val (sl a 27) rfl ⟨_, rfl, Below.refl _ _, t27⟩)
                    · intro a W hb0 hs hp hi; have hb := undrew hb0; clear hb0
                      have ti0 : sl a 157 = .slice (some ⟨b3, o3, none⟩) n3 c3 := hp 1 (by decide)
                      have ti1 : sl a 158 = .int .i64 (i : Nat) := hp 2 (by decide)
                      refine ite_y rfl (wp_val (.pointer (some ⟨b3, o3 + i, none⟩)) ?_ ?_)
                      · simp only [execOp, eval_tmp, eval_const, ti0, ti1]; simp [go_sem, hi3']
                      · exact ⟨_, rfl, Below.refl _ _, rfl⟩
                    · intro a W hb0 hs hp hi; have hb := undrew hb0; clear hb0
                      have tt : sl a 159 = .pointer (some ⟨b3, o3 + i, none⟩) := hp 3 (by decide)
                      have dd := (hb.cell (p := ⟨b3, o3 + i, none⟩) (lt_of_cell c3')).trans c3'
                      refine ite_y rfl (wp_val (.int .u16 z) ?_ ?_)
                      · simp only [execOp, eval_tmp, tt]; simp [go_sem, dd]
                      · exact ⟨_, rfl, Below.refl _ _, rfl⟩
                    · intro a W hb0 hs hp hi; have hb := undrew hb0; clear hb0
                      have tt : sl a 160 = .int .u16 z := hp 4 (by decide)
                      refine ite_y rfl (wp_val (.int .i64 z) ?_ ?_)
                      · simp only [execOp, eval_tmp, tt]; simp [go_sem, Tryz.underlying72, Tryz.underlying3, hwz]
                      · exact ⟨_, rfl, Below.refl _ _, rfl⟩
                    · intro a W hb0 hs hp hi; have hb := undrew hb0; clear hb0
                      have t30 : sl a 30 = .slice (some ⟨g4, 0, none⟩) m c4 := hi 30 (by decide)
                      exact ite_y rfl (wp_val (sl a 30) rfl ⟨_, rfl, Below.refl _ _, t30⟩)
                    · intro a W hb0 hs hp hi; have hb := undrew hb0; clear hb0
                      have t162 : sl a 162 = .slice (some ⟨g4, 0, none⟩) m c4 := hp 6 (by decide)
                      refine ite_y rfl (wp_val (.int .i64 (m : Nat)) ?_ ?_)
                      · simp only [execOp, resolve, List.map_toArray, List.map, eval_tmp, eval_func, eval_const, t162]; simp [go_sem]
                      · exact ⟨_, rfl, Below.refl _ _, rfl⟩
                    · intro a W hb0 hs hp hi; have hb := undrew hb0; clear hb0
                      have t161 : sl a 161 = .int .i64 z := hp 5 (by decide)
                      have t163 : sl a 163 = .int .i64 (m : Nat) := hp 7 (by decide)
                      refine ite_y rfl (wp_val (.int .i64 (at_ : Nat)) ?_ ?_)
                      · simp only [execOp, eval_tmp, eval_const, t161, t163]; simp [go_sem, hmz2, hrem2]
                      · exact ⟨_, rfl, Below.refl _ _, rfl⟩
                    · intro a W hb0 hs hp hi; have hb := undrew hb0; clear hb0
                      have ti0 : sl a 156 = .slice (some ⟨g4, 0, none⟩) m c4 := hp 0 (by decide)
                      have ti1 : sl a 164 = .int .i64 (at_ : Nat) := hp 8 (by decide)
                      refine ite_y rfl (wp_val (.pointer (some ⟨g4, at_, none⟩)) ?_ ?_)
                      · simp only [execOp, eval_tmp, eval_const, ti0, ti1]; simp [go_sem, hat']
                      · exact ⟨_, rfl, Below.refl _ _, rfl⟩
                    · intro a W hb0 hs hp hi; have hb := undrew hb0; clear hb0
                      have tt : sl a 165 = .pointer (some ⟨g4, at_, none⟩) := hp 9 (by decide)
                      have dd := (hb.cell (p := ⟨g4, at_, none⟩) (lt_of_cell x0)).trans x0
                      refine ite_y rfl (wp_val (B8 xb) ?_ ?_)
                      · simp only [execOp, eval_tmp, tt]; simp [go_sem, dd]
                      · exact ⟨_, rfl, Below.refl _ _, rfl⟩
                    · intro a W hb0 hs hp hi; have hb := undrew hb0; clear hb0
                      have t5 : sl a 5 = .slice (some ⟨b3, o3, none⟩) n3 c3 := hi 5 (by decide)
                      exact ite_y rfl (wp_val (sl a 5) rfl ⟨_, rfl, Below.refl _ _, t5⟩)
                    · intro a W hb0 hs hp hi; have hb := undrew hb0; clear hb0
                      have t27 : sl a 27 = .int .i64 (i : Nat) := hi 27 (by decide)
                      exact ite_y rfl (wp_val (sl a 27) rfl ⟨_, rfl, Below.refl _ _, t27⟩)
                    · intro a W hb0 hs hp hi; have hb := undrew hb0; clear hb0
                      have ti0 : sl a 167 = .slice (some ⟨b3, o3, none⟩) n3 c3 := hp 11 (by decide)
                      have ti1 : sl a 168 = .int .i64 (i : Nat) := hp 12 (by decide)
                      refine ite_y rfl (wp_val (.pointer (some ⟨b3, o3 + i, none⟩)) ?_ ?_)
                      · simp only [execOp, eval_tmp, eval_const, ti0, ti1]; simp [go_sem, hi3']
                      · exact ⟨_, rfl, Below.refl _ _, rfl⟩
                    · intro a W hb0 hs hp hi; have hb := undrew hb0; clear hb0
                      have tt : sl a 169 = .pointer (some ⟨b3, o3 + i, none⟩) := hp 13 (by decide)
                      have dd := (hb.cell (p := ⟨b3, o3 + i, none⟩) (lt_of_cell c3')).trans c3'
                      refine ite_y rfl (wp_val (.int .u16 z) ?_ ?_)
                      · simp only [execOp, eval_tmp, tt]; simp [go_sem, dd]
                      · exact ⟨_, rfl, Below.refl _ _, rfl⟩
                    · intro a W hb0 hs hp hi; have hb := undrew hb0; clear hb0
                      have t170 : sl a 170 = .int .u16 z := hp 14 (by decide)
                      refine ite_y rfl (wp_val (.int .u16 (zh : Nat)) ?_ ?_)
                      · simp only [execOp, eval_tmp, eval_const, t170]; simp [go_sem, hzh']
                      · exact ⟨_, rfl, Below.refl _ _, rfl⟩
                    · intro a W hb0 hs hp hi; have hb := undrew hb0; clear hb0
                      have tt : sl a 171 = .int .u16 (zh : Nat) := hp 15 (by decide)
                      refine ite_y rfl (wp_val (.int .u8 (zh : Nat)) ?_ ?_)
                      · simp only [execOp, eval_tmp, tt]; simp [go_sem, Tryz.underlying72, Tryz.underlying5, hwh]
                      · exact ⟨_, rfl, Below.refl _ _, rfl⟩
                    · intro a W hb0 hs hp hi; have hb := undrew hb0; clear hb0
                      have t172 : sl a 172 = .int .u8 (zh : Nat) := hp 16 (by decide)
                      refine ite_y rfl (wp_val (B8 cb) ?_ ?_)
                      · simp only [execOp, eval_tmp, eval_const, t172]; simp [go_sem, hor]
                      · exact ⟨_, rfl, Below.refl _ _, rfl⟩
                    · intro a W hb0 hs hp hi; have hb := undrew hb0; clear hb0
                      have t166 : sl a 166 = B8 xb := hp 10 (by decide)
                      have t173 : sl a 173 = B8 cb := hp 17 (by decide)
                      refine ite_y rfl (wp_val (B8 (xb ^^^ cb)) ?_ ?_)
                      · simp only [execOp, eval_tmp, eval_const, t166, t173]; simp [go_sem, hxor]
                      · exact ⟨_, rfl, Below.refl _ _, rfl⟩
                  intro a w5 hb hs hd hI ht
                  have ha := act_is [156, 157, 158, 159, 160, 161, 162, 163, 164, 165, 166, 167, 168, 169, 170, 171, 172, 173, 174, 175] hs hd ht (by decide)
                  have t156 : sl a 156 = .slice (some ⟨g4, 0, none⟩) m c4 := hI 0 (by decide)
                  have t164 : sl a 164 = .int .i64 (at_ : Nat) := hI 8 (by decide)
                  have t174 : sl a 174 = B8 (xb ^^^ cb) := hI 18 (by decide)
                  simp only [List.foldl, t156, t164, t174] at ha
                  generalize sl a 157 = u157 at ha
                  generalize sl a 158 = u158 at ha
                  generalize sl a 159 = u159 at ha
                  generalize sl a 160 = u160 at ha
                  generalize sl a 161 = u161 at ha
                  generalize sl a 162 = u162 at ha
                  generalize sl a 163 = u163 at ha
                  generalize sl a 165 = u165 at ha
                  generalize sl a 166 = u166 at ha
                  generalize sl a 167 = u167 at ha
                  generalize sl a 168 = u168 at ha
                  generalize sl a 169 = u169 at ha
                  generalize sl a 170 = u170 at ha
                  generalize sl a 171 = u171 at ha
                  generalize sl a 172 = u172 at ha
                  generalize sl a 173 = u173 at ha
                  generalize sl a 175 = u175 at ha
                  simp only [Act.put, List.setIfInBounds_toArray, List.set_cons_zero, List.set_cons_succ] at ha
                  rw [ha]; clear ha hI ht hs hd
                  simp only [List.drop_succ_cons, List.drop_zero]
                  have hb5 := bl HB4.out hb HB4.out.size
                  obtain ⟨x5, z5, hset, -⟩ := own_set (owns_keep HL4.out hb) hatl (xb ^^^ cb)
                  have HSE := Lib.hid hset
                  have HBW := Lib.hid (hb5.setCell (p := ⟨g4, at_, none⟩) hg4 (B8 (xb ^^^ cb)))
                  rw [show xs.getD at_ 0 = xb from HXB.out.symm] at x5
                  clear hb hb5 hset x0 z0 c3'
                  go_wp2_with fail
                  go_meet
                  exact ⟨_, HSE.out, HBW.out, HCL.out⟩
                · have hb0 : badB = false := by simpa using hb
                  have HSE := Lib.hid (Sl.of_owns HL4.out)
                  clear hb
                  subst hb0
                  go_wp2_with fail
                  go_meet
                  exact ⟨xs, HSE.out, HB4.out, rfl, .inl ⟨rfl, rfl⟩⟩
            case rest =>
              obtain ⟨zs, HZS, HBC, HCL⟩ := hcut
              have HSc := Lib.hid (HR2.out.keep HBC.out)
              have HXc := Lib.hid (HX2.out.keep HBC.out)
              have HYc := Lib.hid (HY2.out.keep HBC.out)
              have HCc := Lib.hid (HC2.out.keep HBC.out)
              have HPc := Lib.hid ((HBC.out.block _ (lt_of_block HP2.out)).trans HP2.out)
              have hzr : m ≤ 140737488355328 := hmr
              clear HR2 HX2 HY2 HC2 HP2 HBC HL4 HB4 HFX HFY hcs hcy d0
              go_wp2_with fail
              refine Calls.mono (ST_take HSc.out HT.out (by omega) HZS.out hzr) ?_
              rintro e wd ⟨rfl, v', hS, hK⟩
              have HSd := Lib.hid hS
              have HXd := Lib.hid (hK.hdr os_rows os_u8 HXc.out)
              have HYd := Lib.hid (hK.hdr os_rows os_u8 HYc.out)
              have HCd := Lib.hid (hK.hdr os_rows os_u8 HCc.out)
              have HPd := Lib.hid (hK.blk os_plan HPc.out)
              clear hS hK HSc HXc HYc HCc HPc HZS
              obtain ⟨E, hE⟩ : ∃ E, E = readC k t D zs := ⟨_, rfl⟩
              rw [← hE]
              have HE := Lib.hid hE
              clear hE
              go_upto_if 179 with (fail)
              go_cut [26] (fun cv wx => ∃ X2 K2, Hid (ST w w0 wx gs gt be base L t k D FX nx (i + 1) v' K2 (stF K2 k)) ∧ Hid (OneObj k t FX X2 K2) ∧ X2.length ≤ i + 1 ∧ Hid (HdrF 22 5 w0.heap.size wx (.slice (some ⟨bs, os, none⟩) n1 cs) n1 XS) ∧ Hid (HdrF 22 5 w0.heap.size wx (.slice (some ⟨bv, ov, none⟩) n1 cv') n1 YS) ∧ Hid (HdrF 22 5 w0.heap.size wx cv X2.length (X2.map (fun x : Rw => x.1))) ∧ Hid (Dj cv (.slice (some ⟨bs, os, none⟩) n1 cs)) ∧ Hid (Dj cv (.slice (some ⟨bv, ov, none⟩) n1 cv')) ∧ Hid (wx.heap[gp]? = some (.cells #[.int .i64 (L : Nat), .int .i64 (t : Nat), .int .i64 (k : Nat), .int .u32 (D : Nat)] 27 (0, 0))))
              case first =>
                as_aux_lemma =>
                  obtain ⟨b6, o6, q6, m6, d6, xs6, e6, hc6, hx6, hf6⟩ := HXd.out.at hkl
                  cases e6
                  have hxx : xs6 = xs := by have := HXS.out; rw [hx6.out] at this; injection this
                  have hm6 : m6 = m := by rw [← HM.out, ← hxx]; exact hf6.sl.len.symm
                  subst hm6
                  clear hx6 hf6 hxx
                  by_cases hE0 : E = 0
                  · obtain ⟨hb0, hzx, hr0, heq, hyl, hx0⟩ := came_in HCL.out HVV.out (HE.out ▸ hE0)
                    have hst := HSd.out
                    rw [hzx] at hst
                    obtain ⟨ho2, hs2⟩ := HO2.out.takeV HFl.out HFk.out hr0 heq hyl
                    rw [hs2] at hst
                    have HSt := Lib.hid hst
                    have HOt := Lib.hid ho2
                    have hm0 : ((m6 : Int) == 0) = false := beq_eq_false_iff_ne.2 (by rw [← HM.out]; omega)
                    obtain ⟨b7, o7, q7, m7, d7, ys7, e7, hc7, hy7, hf7⟩ := HYd.out.at hkl
                    cases e7
                    have hyy : ys7 = ys := by have := HYS.out; rw [hy7.out] at this; injection this
                    subst hyy
                    generalize takeK k t D K (stF K k) xs = K2 at *
                    have hc7a : ∀ o', (wd.alloc o').cell? ⟨bv, ov + kk, none⟩ = _ := fun _ => calloc hc7
                    have ba : Below wd.heap.size wd (wd.alloc (.cells #[.slice q7 m7 d7] 22 (0, 0))) := al (Below.refl _ _) (Nat.le_refl _)
                    have HSf := Lib.hid (HSt.out.keep ba)
                    have HXf := Lib.hid (HXd.out.keep ba)
                    have HYf := Lib.hid (HYd.out.keep ba)
                    have HCf := Lib.hid (HCd.out.keep ba)
                    have HPf : Hid ((wd.alloc (.cells #[.slice q7 m7 d7] 22 (0, 0))).heap[gp]? = some (.cells #[.int .i64 (L : Nat), .int .i64 (t : Nat), .int .i64 (k : Nat), .int .u32 (D : Nat)] 27 (0, 0))) := (ba.block _ (lt_of_block HPd.out)).trans HPd.out
                    have FYf := Lib.hid (hf7.keep ba)
                    clear hr0 heq hyl hx0 hst ho2 hs2 hy7 hf7 ba hzx HSd HSt HXd HYd HCd HPd
                    subst hE0 hb0
                    go_wp2_with (first | (at_builtin; refine wpList_hdr rfl _ _ rfl w0.heap.size X.length (.slice qc X.length cc) (X.map (fun x : Rw => x.1)) rfl HCf.out (by omega) HSf.out.le wd.heap.size rfl q7 m7 d7 (0, 0) ys7 (hnew rfl) FYf.out ?_) | fail)
                    rintro sA wA hA1 ⟨vs, hA2⟩ hA3 hA4
                    obtain ⟨hSA, hsm⟩ := HSf.out.grown hA2 hA3 (by decide) (by decide) (by decide) (by decide)
                    have R1 := Lib.hid hSA
                    have R2 := Lib.hid (HXf.out.other hA3 (fun g h1 h2 => HD1.out g h2 h1) (hsm _ (by decide)))
                    have R3 := Lib.hid (HYf.out.other hA3 (fun g h1 h2 => HD2.out g h2 h1) (hsm _ (by decide)))
                    have R4 : Hid (HdrF 22 5 w0.heap.size wA sA (X ++ [rowC t FX ys7]).length ((X ++ [rowC t FX ys7]).map (fun x : Rw => x.1))) := by
                      rw [List.map_append, List.length_append]; exact hA1
                    have R5 : Hid (Dj sA (.slice (some ⟨bs, os, none⟩) n1 cs)) := HD1.out.grew hA4 (fun g h => by have := HXf.out.lt g h; simp at this; omega)
                    have R6 : Hid (Dj sA (.slice (some ⟨bv, ov, none⟩) n1 cv')) := HD2.out.grew hA4 (fun g h => by have := HYf.out.lt g h; simp at this; omega)
                    have R7 := Lib.hid ((hsm _ (by decide) _ _ _ HPf.out).trans HPf.out)
                    clear hA1 hA2 hA3 hA4 hSA hsm HSf HXf HYf HCf HPf FYf
                    go_wp2_with fail
                    go_meet
                    exact ⟨X ++ [rowC t FX ys7], K2, R1.out, HOt.out, by rw [List.length_append]; simp; omega, R2.out, R3.out, R4.out, R5.out, R6.out, R7.out⟩
                  · have hE1 : ((E : Int) == 0) = false := beq_eq_false_iff_ne.2 hE0
                    obtain ⟨hk1', hk2'⟩ := take_bad (K := K) (st := stF K k) (fun h => hE0 (HE.out.trans h) : readC k t D zs ≠ 0)
                    have hst := HSd.out
                    rw [hk1', hk2'] at hst
                    have HSt := Lib.hid hst
                    have hco := came_out HCL.out HVV.out (fun h => hE0 (HE.out.trans h))
                    clear hst hk1' hk2' hE0 HSd
                    rcases hco with hb | ⟨hb, hx0⟩
                    · subst hb
                      go_wp2_with fail
                      go_meet
                      exact ⟨X, K, HSt.out, HO2.out, by omega, HXd.out, HYd.out, HCd.out, HD1.out, HD2.out, HPd.out⟩
                    · have hm0 : ¬ (0 : Int) < (m6 : Int) := by rw [← HM.out]; omega
                      clear hx0
                      subst hb
                      go_wp2_with fail
                      go_meet
                      exact ⟨X, K, HSt.out, HO2.out, by omega, HXd.out, HYd.out, HCd.out, HD1.out, HD2.out, HPd.out⟩
              case rest =>
                obtain ⟨X2, K2, HSe, HOe, hX2, HXe, HYe, HCe, HDe1, HDe2, HPe⟩ := hcut
                obtain ⟨q8, c8, rfl⟩ := HCe.out.shape
                have HXL : Hid (∀ z, z ∈ X2.map (fun x : Rw => x.1) → z.length = k) := fun z hz => by
                  obtain ⟨x, hx, rfl⟩ := List.mem_map.1 hz
                  exact (HOe.out.fit x hx).1.1
                have HRK : Hid ((kF k (X2.map (fun x : Rw => x.1)).flatten X2.length).length = K2.length) := by
                  show _ = _
                  rw [kF_rank HXL.out (by simp), ← HOe.out.rank]
                obtain ⟨j3, hj3⟩ : ∃ j3, j3 = X2.length := ⟨_, rfl⟩
                obtain ⟨S3, hS3⟩ : ∃ S3, S3 = X2.map (fun x : Rw => x.1) := ⟨_, rfl⟩
                have hj40 : j3 ≤ 40 := by omega
                rw [← hj3, ← hS3] at HRK HCe
                rw [← hS3] at HXL
                rw [← hj3] at HDe1 HDe2
                rw [← hj3]
                have HJ3 := Lib.hid hj3
                have HS3 := Lib.hid hS3
                have HGO : Hid (Calls Tryz.prog 33 #[.int .i64 (k : Nat), .slice q8 j3 c8] wc (RetG2 5 wc j3 k S3.flatten 0)) := by
                  have hb : j3 * k ≤ 40 * 12 := Nat.mul_le_mul (by omega) (by omega)
                  exact GOf_good k q8 j3 c8 S3 wc HCe.out.sl2 (by omega) (by omega) (by omega) (by rw [List.all_eq_true]; exact fun z hz => decide_eq_true (HXL.out z hz))
                have hpe := HPe.out
                obtain ⟨z0, z1, z2, z3⟩ := cells_four hpe
                clear hj3 hS3 HCL HVV HE HSd HXd HYd HCd HPd HD1 HD2 HO2 HXS HYS hpe
                go_wp2_with fail
                refine Calls.mono HGO.out ?_
                rintro e wB ⟨qg, ng, cg, hng, rfl, og, hb⟩
                have HNG := Lib.hid hng
                have HSB := Lib.hid (HSe.out.keep hb)
                have HXB := Lib.hid (HXe.out.keep hb)
                have HYB := Lib.hid (HYe.out.keep hb)
                have HCB := Lib.hid (HCe.out.keep hb)
                have HPB := Lib.hid ((hb.block _ (lt_of_block HPe.out)).trans HPe.out)
                have GB := Lib.hid (Sl.of_owns og)
                clear hng og hb HSe HXe HYe HCe HPe HGO z0 z1 z2 z3
                have ba : Below wB.heap.size wB (wB.alloc (.cells #[.int .i64 (j3 : Nat), .int .i64 (k : Nat), .slice qg ng cg] 75 (0, 0))) := al (Below.refl _ _) (Nat.le_refl _)
                have HSC := Lib.hid (HSB.out.keep ba)
                have HXC := Lib.hid (HXB.out.keep ba)
                have HYC := Lib.hid (HYB.out.keep ba)
                have HCC := Lib.hid (HCB.out.keep ba)
                have HPC : Hid ((wB.alloc (.cells #[.int .i64 (j3 : Nat), .int .i64 (k : Nat), .slice qg ng cg] 75 (0, 0))).heap[gp]? = some (.cells #[.int .i64 (L : Nat), .int .i64 (t : Nat), .int .i64 (k : Nat), .int .u32 (D : Nat)] 27 (0, 0))) := (ba.block _ (lt_of_block HPB.out)).trans HPB.out
                have GC := Lib.hid (GB.out.keep ba)
                have hb32 : (wB.alloc (.cells #[.int .i64 (j3 : Nat), .int .i64 (k : Nat), .slice qg ng cg] 75 (0, 0))).heap[wB.heap.size]? = some (.cells #[.int .i64 (j3 : Nat), .int .i64 (k : Nat), .slice qg ng cg] 75 (0, 0)) := hnew rfl
                clear ba HSB HXB HYB HCB HPB GB
                go_wp2_with fail
                generalize hwC : wB.alloc (.cells #[.int .i64 (j3 : Nat), .int .i64 (k : Nat), .slice qg ng cg] 75 (0, 0)) = wC at *
                obtain ⟨g32, hg32⟩ : ∃ g32, g32 = wB.heap.size := ⟨_, rfl⟩
                rw [← hg32] at hb32 ⊢
                clear hwC hg32
                obtain ⟨b0, b1, b2⟩ := cells_three hb32
                have hpc := HPC.out
                obtain ⟨z0, z1, z2, z3⟩ := cells_four hpc
                obtain ⟨r2, hr2⟩ : ∃ r2, r2 = K2.length := ⟨_, rfl⟩
                obtain ⟨s2, hs2⟩ : ∃ s2, s2 = stF K2 k := ⟨_, rfl⟩
                have HRk : Hid (∀ W, Below wC.heap.size wC W → Calls Tryz.prog 18 #[.pointer (some ⟨gt, 0, none⟩)] W fun e w' => e = .returned (.int .i64 (r2 : Nat)) ∧ W = w') := fun W hb => by
                  rw [hr2]; exact ST_rank (HSC.out.keep hb)
                have HSs : Hid (∀ W, Below wC.heap.size wC W → Calls Tryz.prog 23 #[.pointer (some ⟨gt, 0, none⟩)] W fun e w' => e = .returned (.int .i64 (s2 : Nat)) ∧ W = w') := fun W hb => by
                  rw [hs2]; exact ST_status (HSC.out.keep hb)
                have HRw : Hid (∀ W, Below wC.heap.size wC W → Calls Tryz.prog 20 #[.pointer (some ⟨gt, 0, none⟩)] W fun e w' => ∃ q c, e = .returned (.slice q r2 c) ∧ Below W.heap.size W w') := fun W hb => by
                  rw [hr2]
                  refine Calls.mono (ST_rows (HSC.out.keep hb)) ?_
                  rintro e w' ⟨v5, rfl, hr5, hw⟩
                  obtain ⟨q5, c5, rfl⟩ := hr5.shape
                  exact ⟨q5, c5, rfl, hw⟩
                have HGR : Hid (∀ W, Below wC.heap.size wC W → Calls Tryz.prog 34 #[.agg #[.int .i64 (j3 : Nat), .int .i64 (k : Nat), .slice qg ng cg]] W fun e w' => e = .returned (.int .i64 (r2 : Nat)) ∧ Below W.heap.size W w') := fun W hb => by
                  have := Rank_any j3 k qg ng cg S3.flatten W (GC.out.keep hb) HNG.out (by show k ≤ 140737488355328; omega) (by omega)
                  rw [HRK.out, ← hr2] at this; exact this
                have hne2 : ((r2 : Int) != (r2 : Int)) = false := bne_self_eq_false _
                have hle2 : ¬ (k : Int) < (r2 : Int) := by have := Red.le HOe.out.red; omega
                have hst2 : ((s2 : Int) == 2) = false := beq_eq_false_iff_ne.2 (by rw [hs2]; unfold stF; split <;> omega)
                obtain ⟨ee, hee⟩ : ∃ ee : Bool, ee = decide (K2.length = k) := ⟨_, rfl⟩
                have hee1 : ((s2 : Int) == 1) = ee := by
                  rw [hee, hs2]; unfold stF
                  by_cases h : K2.length = k
                  · rw [if_pos h, decide_eq_true h]; rfl
                  · rw [if_neg h, decide_eq_false h]; rfl
                have hee2 : ((r2 : Int) == (k : Int)) = ee := by
                  rw [hee, hr2]
                  by_cases h : K2.length = k
                  · rw [decide_eq_true h, h]; exact beq_self_eq_true _
                  · rw [decide_eq_false h]; exact beq_eq_false_iff_ne.2 (by omega)
                have HS2 := Lib.hid hs2
                clear hpc hr2 hs2 hee hb32
                refine wp_region_shapes (fun ix => ([.val (.int .i64 0), .val (.bool false), .val (.bool false), .val (.pointer (some ⟨gt, 0, none⟩)), .val (.int .i64 (s2 : Nat)), .val (.bool false), .val (.bool false), .val (.bool false), .val (.pointer (some ⟨gt, 0, none⟩)), .val (.int .i64 (r2 : Nat)), .val (.agg #[.int .i64 (j3 : Nat), .int .i64 (k : Nat), .slice qg ng cg]), .val (.int .i64 (r2 : Nat)), .val (.bool false), .val (.bool false), .val (.bool false), .val (.pointer (some ⟨gt, 0, none⟩)), .val (.int .i64 (s2 : Nat)), .val (.bool ee), .val (.agg #[.int .i64 (j3 : Nat), .int .i64 (k : Nat), .slice qg ng cg]), .val (.int .i64 (r2 : Nat)), .val (.pointer (some ⟨gp, 2, none⟩)), .val (.int .i64 (k : Nat)), .val (.bool ee), .val (.bool false), .val (.bool false), .val (.bool false), .val (.pointer (some ⟨gt, 0, none⟩)), (ShLen r2), .val (.int .i64 (r2 : Nat)), .val (.pointer (some ⟨gp, 2, none⟩)), .val (.int .i64 (k : Nat)), .val (.bool false), .val (.bool false)][ix]?).getD (.any)) 265 rfl (by kernel_rfl) (by decide +kernel) (by decide +kernel) (by decide +kernel) ?_ ?_
                · refine ⟨?_, ?_, ?_, ?_, ?_, ?_, ?_, ?_, ?_, ?_, ?_, ?_, ?_, ?_, ?_, ?_, ?_, ?_, ?_, ?_, ?_, ?_, ?_, ?_, ?_, ?_, ?_, ?_, ?_, ?_, ?_, ?_, ?_, trivial⟩
                  · intro a W hb0 hs hp hi; have hb := undrew hb0; clear hb0
                    have t33 : sl a 33 = .int .i64 0 := hi 33 (by decide)
                    exact ite_y rfl (wp_val (sl a 33) rfl ⟨_, rfl, Below.refl _ _, t33⟩)
                  · intro a W hb0 hs hp hi; have hb := undrew hb0; clear hb0
                    have t213 : sl a 213 = .int .i64 0 := hp 0 (by decide)
                    refine ite_y rfl (wp_val (.bool false) ?_ ?_)
                    · simp only [execOp, eval_tmp, eval_const, t213]; simp [go_sem]
                    · exact ⟨_, rfl, Below.refl _ _, rfl⟩
                  · intro a W hb0 hs hp hi; have hb := undrew hb0; clear hb0
                    have t214 : sl a 214 = .bool false := hp 1 (by decide)
                    exact ite_y rfl (wp_val (sl a 214) rfl ⟨_, rfl, Below.refl _ _, t214⟩)
                  · intro a W hb0 hs hp hi; have hb := undrew hb0; clear hb0
                    have tg : sl a 215 = .bool false := hp 2 (by decide)
                    have t16 : sl a 16 = .pointer (some ⟨gt, 0, none⟩) := hi 16 (by decide)
                    exact ite_y (wanted_yes rfl rfl (by have hz : a.tmps.size = 265 := hs; rw [hz]; decide) tg) (wp_val (sl a 16) rfl ⟨_, rfl, Below.refl _ _, t16⟩)
                  · intro a W hb0 hs hp hi; have hb := undrew hb0; clear hb0
                    have tg : sl a 215 = .bool false := hp 2 (by decide)
                    have t216 : sl a 216 = .pointer (some ⟨gt, 0, none⟩) := hp 3 (by decide)
                    refine ite_y (wanted_yes rfl rfl (by have hz : a.tmps.size = 265 := hs; rw [hz]; decide) tg) (wp_enter 23 #[.pointer (some ⟨gt, 0, none⟩)] ?_ (HSs.out _ hb) ?_)
                    · simp only [execOp, resolve, List.map_toArray, List.map, eval_tmp, eval_func, eval_const, t216]; simp [go_sem]
                    · rintro e W' ⟨rfl, rfl⟩; exact ⟨_, rfl, _, rfl, Below.refl _ _, rfl⟩
                  · intro a W hb0 hs hp hi; have hb := undrew hb0; clear hb0
                    have tg : sl a 215 = .bool false := hp 2 (by decide)
                    have t217 : sl a 217 = .int .i64 (s2 : Nat) := hp 4 (by decide)
                    refine ite_y (wanted_yes rfl rfl (by have hz : a.tmps.size = 265 := hs; rw [hz]; decide) tg) (wp_val (.bool false) ?_ ?_)
                    · simp only [execOp, eval_tmp, eval_const, t217]; simp [go_sem, hst2]
                    · exact ⟨_, rfl, Below.refl _ _, rfl⟩
                  · intro a W hb0 hs hp hi; have hb := undrew hb0; clear hb0
                    have t215 : sl a 215 = .bool false := hp 2 (by decide)
                    have t218 : sl a 218 = .bool false := hp 5 (by decide)
                    refine ite_y rfl (wp_val (.bool false) ?_ ?_)
                    · simp only [execOp, eval_tmp, eval_const, t215, t218]; simp [go_sem]
                    · exact ⟨_, rfl, Below.refl _ _, rfl⟩
                  · intro a W hb0 hs hp hi; have hb := undrew hb0; clear hb0
                    have t219 : sl a 219 = .bool false := hp 6 (by decide)
                    exact ite_y rfl (wp_val (sl a 219) rfl ⟨_, rfl, Below.refl _ _, t219⟩)
                  · intro a W hb0 hs hp hi; have hb := undrew hb0; clear hb0
                    have tg : sl a 220 = .bool false := hp 7 (by decide)
                    have t16 : sl a 16 = .pointer (some ⟨gt, 0, none⟩) := hi 16 (by decide)
                    exact ite_y (wanted_yes rfl rfl (by have hz : a.tmps.size = 265 := hs; rw [hz]; decide) tg) (wp_val (sl a 16) rfl ⟨_, rfl, Below.refl _ _, t16⟩)
                  · intro a W hb0 hs hp hi; have hb := undrew hb0; clear hb0
                    have tg : sl a 220 = .bool false := hp 7 (by decide)
                    have t221 : sl a 221 = .pointer (some ⟨gt, 0, none⟩) := hp 8 (by decide)
                    refine ite_y (wanted_yes rfl rfl (by have hz : a.tmps.size = 265 := hs; rw [hz]; decide) tg) (wp_enter 18 #[.pointer (some ⟨gt, 0, none⟩)] ?_ (HRk.out _ hb) ?_)
                    · simp only [execOp, resolve, List.map_toArray, List.map, eval_tmp, eval_func, eval_const, t221]; simp [go_sem]
                    · rintro e W' ⟨rfl, rfl⟩; exact ⟨_, rfl, _, rfl, Below.refl _ _, rfl⟩
                  · intro a W hb0 hs hp hi; have hb := undrew hb0; clear hb0
                    have tg : sl a 220 = .bool false := hp 7 (by decide)
                    have tt : sl a 32 = .pointer (some ⟨g32, 0, none⟩) := hi 32 (by decide)
                    have dd0 := (hb.cell (p := ⟨g32, 0, none⟩) (lt_of_cell b0)).trans b0
                    have dd1 := (hb.cell (p := ⟨g32, 1, none⟩) (lt_of_cell b1)).trans b1
                    have dd2 := (hb.cell (p := ⟨g32, 2, none⟩) (lt_of_cell b2)).trans b2
                    refine ite_y (wanted_yes rfl rfl (by have hz : a.tmps.size = 265 := hs; rw [hz]; decide) tg) (wp_val (.agg #[.int .i64 (j3 : Nat), .int .i64 (k : Nat), .slice qg ng cg]) ?_ ?_)
                    · simp only [execOp, eval_tmp, tt]; simp [go_sem, dd0, dd1, dd2]
                    · exact ⟨_, rfl, Below.refl _ _, rfl⟩
                  · intro a W hb0 hs hp hi; have hb := undrew hb0; clear hb0
                    have tg : sl a 220 = .bool false := hp 7 (by decide)
                    have t223 : sl a 223 = .agg #[.int .i64 (j3 : Nat), .int .i64 (k : Nat), .slice qg ng cg] := hp 10 (by decide)
                    refine ite_y (wanted_yes rfl rfl (by have hz : a.tmps.size = 265 := hs; rw [hz]; decide) tg) (wp_enter 34 #[.agg #[.int .i64 (j3 : Nat), .int .i64 (k : Nat), .slice qg ng cg]] ?_ (HGR.out _ hb) ?_)
                    · simp only [execOp, resolve, List.map_toArray, List.map, eval_tmp, eval_func, eval_const, t223]; simp [go_sem]
                    · rintro e W' ⟨rfl, hw⟩; exact ⟨_, rfl, _, rfl, hw, rfl⟩
                  · intro a W hb0 hs hp hi; have hb := undrew hb0; clear hb0
                    have tg : sl a 220 = .bool false := hp 7 (by decide)
                    have t222 : sl a 222 = .int .i64 (r2 : Nat) := hp 9 (by decide)
                    have t224 : sl a 224 = .int .i64 (r2 : Nat) := hp 11 (by decide)
                    refine ite_y (wanted_yes rfl rfl (by have hz : a.tmps.size = 265 := hs; rw [hz]; decide) tg) (wp_val (.bool false) ?_ ?_)
                    · simp only [execOp, eval_tmp, eval_const, t222, t224]; simp [go_sem, hne2]
                    · exact ⟨_, rfl, Below.refl _ _, rfl⟩
                  · intro a W hb0 hs hp hi; have hb := undrew hb0; clear hb0
                    have t220 : sl a 220 = .bool false := hp 7 (by decide)
                    have t225 : sl a 225 = .bool false := hp 12 (by decide)
                    refine ite_y rfl (wp_val (.bool false) ?_ ?_)
                    · simp only [execOp, eval_tmp, eval_const, t220, t225]; simp [go_sem]
                    · exact ⟨_, rfl, Below.refl _ _, rfl⟩
                  · intro a W hb0 hs hp hi; have hb := undrew hb0; clear hb0
                    have t226 : sl a 226 = .bool false := hp 13 (by decide)
                    exact ite_y rfl (wp_val (sl a 226) rfl ⟨_, rfl, Below.refl _ _, t226⟩)
                  · intro a W hb0 hs hp hi; have hb := undrew hb0; clear hb0
                    have tg : sl a 227 = .bool false := hp 14 (by decide)
                    have t16 : sl a 16 = .pointer (some ⟨gt, 0, none⟩) := hi 16 (by decide)
                    exact ite_y (wanted_yes rfl rfl (by have hz : a.tmps.size = 265 := hs; rw [hz]; decide) tg) (wp_val (sl a 16) rfl ⟨_, rfl, Below.refl _ _, t16⟩)
                  · intro a W hb0 hs hp hi; have hb := undrew hb0; clear hb0
                    have tg : sl a 227 = .bool false := hp 14 (by decide)
                    have t228 : sl a 228 = .pointer (some ⟨gt, 0, none⟩) := hp 15 (by decide)
                    refine ite_y (wanted_yes rfl rfl (by have hz : a.tmps.size = 265 := hs; rw [hz]; decide) tg) (wp_enter 23 #[.pointer (some ⟨gt, 0, none⟩)] ?_ (HSs.out _ hb) ?_)
                    · simp only [execOp, resolve, List.map_toArray, List.map, eval_tmp, eval_func, eval_const, t228]; simp [go_sem]
                    · rintro e W' ⟨rfl, rfl⟩; exact ⟨_, rfl, _, rfl, Below.refl _ _, rfl⟩
                  · intro a W hb0 hs hp hi; have hb := undrew hb0; clear hb0
                    have tg : sl a 227 = .bool false := hp 14 (by decide)
                    have t229 : sl a 229 = .int .i64 (s2 : Nat) := hp 16 (by decide)
                    refine ite_y (wanted_yes rfl rfl (by have hz : a.tmps.size = 265 := hs; rw [hz]; decide) tg) (wp_val (.bool ee) ?_ ?_)
                    · simp only [execOp, eval_tmp, eval_const, t229]; simp [go_sem, hee1]
                    · exact ⟨_, rfl, Below.refl _ _, rfl⟩
                  · intro a W hb0 hs hp hi; have hb := undrew hb0; clear hb0
                    have tg : sl a 227 = .bool false := hp 14 (by decide)
                    have tt : sl a 32 = .pointer (some ⟨g32, 0, none⟩) := hi 32 (by decide)
                    have dd0 := (hb.cell (p := ⟨g32, 0, none⟩) (lt_of_cell b0)).trans b0
                    have dd1 := (hb.cell (p := ⟨g32, 1, none⟩) (lt_of_cell b1)).trans b1
                    have dd2 := (hb.cell (p := ⟨g32, 2, none⟩) (lt_of_cell b2)).trans b2
                    refine ite_y (wanted_yes rfl rfl (by have hz : a.tmps.size = 265 := hs; rw [hz]; decide) tg) (wp_val (.agg #[.int .i64 (j3 : Nat), .int .i64 (k : Nat), .slice qg ng cg]) ?_ ?_)
                    · simp only [execOp, eval_tmp, tt]; simp [go_sem, dd0, dd1, dd2]
                    · exact ⟨_, rfl, Below.refl _ _, rfl⟩
                  · intro a W hb0 hs hp hi; have hb := undrew hb0; clear hb0
                    have tg : sl a 227 = .bool false := hp 14 (by decide)
                    have t231 : sl a 231 = .agg #[.int .i64 (j3 : Nat), .int .i64 (k : Nat), .slice qg ng cg] := hp 18 (by decide)
                    refine ite_y (wanted_yes rfl rfl (by have hz : a.tmps.size = 265 := hs; rw [hz]; decide) tg) (wp_enter 34 #[.agg #[.int .i64 (j3 : Nat), .int .i64 (k : Nat), .slice qg ng cg]] ?_ (HGR.out _ hb) ?_)
                    · simp only [execOp, resolve, List.map_toArray, List.map, eval_tmp, eval_func, eval_const, t231]; simp [go_sem]
                    · rintro e W' ⟨rfl, hw⟩; exact ⟨_, rfl, _, rfl, hw, rfl⟩
                  · intro a W hb0 hs hp hi; have hb := undrew hb0; clear hb0
                    have tg : sl a 227 = .bool false := hp 14 (by decide)
                    have t13 : sl a 13 = .pointer (some ⟨gp, 0, none⟩) := hi 13 (by decide)
                    refine ite_y (wanted_yes rfl rfl (by have hz : a.tmps.size = 265 := hs; rw [hz]; decide) tg) (wp_val (.pointer (some ⟨gp, 2, none⟩)) ?_ ?_)
                    · simp only [execOp, eval_tmp, eval_const, t13]; simp [go_sem]
                    · exact ⟨_, rfl, Below.refl _ _, rfl⟩
                  · intro a W hb0 hs hp hi; have hb := undrew hb0; clear hb0
                    have tg : sl a 227 = .bool false := hp 14 (by decide)
                    have tt : sl a 233 = .pointer (some ⟨gp, 2, none⟩) := hp 20 (by decide)
                    have dd := (hb.cell (p := ⟨gp, 2, none⟩) (lt_of_cell z2)).trans z2
                    refine ite_y (wanted_yes rfl rfl (by have hz : a.tmps.size = 265 := hs; rw [hz]; decide) tg) (wp_val (.int .i64 (k : Nat)) ?_ ?_)
                    · simp only [execOp, eval_tmp, tt]; simp [go_sem, dd]
                    · exact ⟨_, rfl, Below.refl _ _, rfl⟩
                  · intro a W hb0 hs hp hi; have hb := undrew hb0; clear hb0
                    have tg : sl a 227 = .bool false := hp 14 (by decide)
                    have t232 : sl a 232 = .int .i64 (r2 : Nat) := hp 19 (by decide)
                    have t234 : sl a 234 = .int .i64 (k : Nat) := hp 21 (by decide)
                    refine ite_y (wanted_yes rfl rfl (by have hz : a.tmps.size = 265 := hs; rw [hz]; decide) tg) (wp_val (.bool ee) ?_ ?_)
                    · simp only [execOp, eval_tmp, eval_const, t232, t234]; simp [go_sem, hee2]
                    · exact ⟨_, rfl, Below.refl _ _, rfl⟩
                  · intro a W hb0 hs hp hi; have hb := undrew hb0; clear hb0
                    have tg : sl a 227 = .bool false := hp 14 (by decide)
                    have t230 : sl a 230 = .bool ee := hp 17 (by decide)
                    have t235 : sl a 235 = .bool ee := hp 22 (by decide)
                    refine ite_y (wanted_yes rfl rfl (by have hz : a.tmps.size = 265 := hs; rw [hz]; decide) tg) (wp_val (.bool false) ?_ ?_)
                    · simp only [execOp, eval_tmp, eval_const, t230, t235]; simp [go_sem]
                    · exact ⟨_, rfl, Below.refl _ _, rfl⟩
                  · intro a W hb0 hs hp hi; have hb := undrew hb0; clear hb0
                    have t227 : sl a 227 = .bool false := hp 14 (by decide)
                    have t236 : sl a 236 = .bool false := hp 23 (by decide)
                    refine ite_y rfl (wp_val (.bool false) ?_ ?_)
                    · simp only [execOp, eval_tmp, eval_const, t227, t236]; simp [go_sem]
                    · exact ⟨_, rfl, Below.refl _ _, rfl⟩
                  · intro a W hb0 hs hp hi; have hb := undrew hb0; clear hb0
                    have t237 : sl a 237 = .bool false := hp 24 (by decide)
                    exact ite_y rfl (wp_val (sl a 237) rfl ⟨_, rfl, Below.refl _ _, t237⟩)
                  · intro a W hb0 hs hp hi; have hb := undrew hb0; clear hb0
                    have tg : sl a 238 = .bool false := hp 25 (by decide)
                    have t16 : sl a 16 = .pointer (some ⟨gt, 0, none⟩) := hi 16 (by decide)
                    exact ite_y (wanted_yes rfl rfl (by have hz : a.tmps.size = 265 := hs; rw [hz]; decide) tg) (wp_val (sl a 16) rfl ⟨_, rfl, Below.refl _ _, t16⟩)
                  · intro a W hb0 hs hp hi; have hb := undrew hb0; clear hb0
                    have tg : sl a 238 = .bool false := hp 25 (by decide)
                    have t239 : sl a 239 = .pointer (some ⟨gt, 0, none⟩) := hp 26 (by decide)
                    refine ite_y (wanted_yes rfl rfl (by have hz : a.tmps.size = 265 := hs; rw [hz]; decide) tg) (wp_enter 20 #[.pointer (some ⟨gt, 0, none⟩)] ?_ (HRw.out _ hb) ?_)
                    · simp only [execOp, resolve, List.map_toArray, List.map, eval_tmp, eval_func, eval_const, t239]; simp [go_sem]
                    · rintro e W' ⟨q5, c5, rfl, hw⟩; exact ⟨_, rfl, _, rfl, hw, q5, c5, rfl⟩
                  · intro a W hb0 hs hp hi; have hb := undrew hb0; clear hb0
                    have tg : sl a 238 = .bool false := hp 25 (by decide)
                    have t240 : LenIs r2 (sl a 240) W := hp 27 (by decide)
                    obtain ⟨q5, c5, t240⟩ := t240
                    refine ite_y (wanted_yes rfl rfl (by have hz : a.tmps.size = 265 := hs; rw [hz]; decide) tg) (wp_val (.int .i64 (r2 : Nat)) ?_ ?_)
                    · simp only [execOp, resolve, List.map_toArray, List.map, eval_tmp, t240]; simp [go_sem]
                    · exact ⟨_, rfl, Below.refl _ _, rfl⟩
                  · intro a W hb0 hs hp hi; have hb := undrew hb0; clear hb0
                    have tg : sl a 238 = .bool false := hp 25 (by decide)
                    have t13 : sl a 13 = .pointer (some ⟨gp, 0, none⟩) := hi 13 (by decide)
                    refine ite_y (wanted_yes rfl rfl (by have hz : a.tmps.size = 265 := hs; rw [hz]; decide) tg) (wp_val (.pointer (some ⟨gp, 2, none⟩)) ?_ ?_)
                    · simp only [execOp, eval_tmp, eval_const, t13]; simp [go_sem]
                    · exact ⟨_, rfl, Below.refl _ _, rfl⟩
                  · intro a W hb0 hs hp hi; have hb := undrew hb0; clear hb0
                    have tg : sl a 238 = .bool false := hp 25 (by decide)
                    have tt : sl a 242 = .pointer (some ⟨gp, 2, none⟩) := hp 29 (by decide)
                    have dd := (hb.cell (p := ⟨gp, 2, none⟩) (lt_of_cell z2)).trans z2
                    refine ite_y (wanted_yes rfl rfl (by have hz : a.tmps.size = 265 := hs; rw [hz]; decide) tg) (wp_val (.int .i64 (k : Nat)) ?_ ?_)
                    · simp only [execOp, eval_tmp, tt]; simp [go_sem, dd]
                    · exact ⟨_, rfl, Below.refl _ _, rfl⟩
                  · intro a W hb0 hs hp hi; have hb := undrew hb0; clear hb0
                    have tg : sl a 238 = .bool false := hp 25 (by decide)
                    have t241 : sl a 241 = .int .i64 (r2 : Nat) := hp 28 (by decide)
                    have t243 : sl a 243 = .int .i64 (k : Nat) := hp 30 (by decide)
                    refine ite_y (wanted_yes rfl rfl (by have hz : a.tmps.size = 265 := hs; rw [hz]; decide) tg) (wp_val (.bool false) ?_ ?_)
                    · simp only [execOp, eval_tmp, eval_const, t241, t243]; simp [go_sem, hle2]
                    · exact ⟨_, rfl, Below.refl _ _, rfl⟩
                  · intro a W hb0 hs hp hi; have hb := undrew hb0; clear hb0
                    have t238 : sl a 238 = .bool false := hp 25 (by decide)
                    have t244 : sl a 244 = .bool false := hp 31 (by decide)
                    refine ite_y rfl (wp_val (.bool false) ?_ ?_)
                    · simp only [execOp, eval_tmp, eval_const, t238, t244]; simp [go_sem]
                    · exact ⟨_, rfl, Below.refl _ _, rfl⟩
                intro a wD hb hs hd hI ht
                have ha := act_is [213, 214, 215, 216, 217, 218, 219, 220, 221, 222, 223, 224, 225, 226, 227, 228, 229, 230, 231, 232, 233, 234, 235, 236, 237, 238, 239, 240, 241, 242, 243, 244, 245] hs hd ht (by decide)
                have t245 : sl a 245 = .bool false := hI 32 (by decide)
                simp only [List.foldl, t245] at ha
                generalize sl a 213 = u213 at ha
                generalize sl a 214 = u214 at ha
                generalize sl a 215 = u215 at ha
                generalize sl a 216 = u216 at ha
                generalize sl a 217 = u217 at ha
                generalize sl a 218 = u218 at ha
                generalize sl a 219 = u219 at ha
                generalize sl a 220 = u220 at ha
                generalize sl a 221 = u221 at ha
                generalize sl a 222 = u222 at ha
                generalize sl a 223 = u223 at ha
                generalize sl a 224 = u224 at ha
                generalize sl a 225 = u225 at ha
                generalize sl a 226 = u226 at ha
                generalize sl a 227 = u227 at ha
                generalize sl a 228 = u228 at ha
                generalize sl a 229 = u229 at ha
                generalize sl a 230 = u230 at ha
                generalize sl a 231 = u231 at ha
                generalize sl a 232 = u232 at ha
                generalize sl a 233 = u233 at ha
                generalize sl a 234 = u234 at ha
                generalize sl a 235 = u235 at ha
                generalize sl a 236 = u236 at ha
                generalize sl a 237 = u237 at ha
                generalize sl a 238 = u238 at ha
                generalize sl a 239 = u239 at ha
                generalize sl a 240 = u240 at ha
                generalize sl a 241 = u241 at ha
                generalize sl a 242 = u242 at ha
                generalize sl a 243 = u243 at ha
                generalize sl a 244 = u244 at ha
                simp only [Act.put, List.setIfInBounds_toArray, List.set_cons_zero, List.set_cons_succ] at ha
                rw [ha]
                clear ha hI ht
                have HSD := Lib.hid (HSC.out.keep hb)
                have HXD := Lib.hid (HXC.out.keep hb)
                have HYD := Lib.hid (HYC.out.keep hb)
                have HCD := Lib.hid (HCC.out.keep hb)
                have HPD := Lib.hid ((hb.block _ (lt_of_block HPC.out)).trans HPC.out)
                clear hb HSC HXC HYC HCC HPC GC HRk HSs HRw HGR HRK hne2 hle2 hst2 b0 b1 b2 z0 z1 z2 z3 hee2 hee1
                by_cases hfull : K2.length = k
                · have hs1 : s2 = 1 := by rw [HS2.out]; exact if_pos hfull
                  have hee1 : ((s2 : Int) == 1) = true := by rw [hs1]; rfl
                  have HFU := Lib.hid hfull
                  have HS1 := Lib.hid hs1
                  clear hs1 hfull
                  have hobj : Calls Tryz.prog 35 #[.pointer (some ⟨gt, 0, none⟩)] wD (RetL wD o 0) := by
                    obtain ⟨M, C, h⟩ := HSD.out.tk
                    rw [← HS2.out, HS1.out] at h
                    have := TObject_done _ _ _ _ _ _ _ _ _ _ _ _ wD h HFU.out
                    rw [HOe.out.data HFl.out HFk.out HFU.out, HJO.out] at this
                    exact this
                  have HOJ := Lib.hid hobj
                  clear hobj
                  go_wp2_with fail
                  refine Calls.mono HOJ.out ?_
                  rintro e wE ⟨qo, no, co, rfl, ho, hb⟩
                  have HSE := Lib.hid (HSD.out.keep hb)
                  have HXE := Lib.hid (HXD.out.keep hb)
                  have HYE := Lib.hid (HYD.out.keep hb)
                  have HCE := Lib.hid (HCD.out.keep hb)
                  have HPE := Lib.hid ((hb.block _ (lt_of_block HPD.out)).trans HPD.out)
                  have hss := ST_status HSE.out
                  rw [← HS2.out] at hss
                  have hsame := Same_any qo q0 no L co c0 o o wE ho (H0.out.keep HSE.out.bel)
                  rw [decide_eq_true rfl] at hsame
                  have HSS := Lib.hid hss
                  have HSA := Lib.hid hsame
                  clear hb ho hsame hss HSD HXD HYD HCD HPD HOJ
                  go_wp2_with fail
                  refine Calls.mono HSS.out ?_
                  rintro e wF ⟨rfl, rfl⟩
                  go_wp2_with fail
                  refine Calls.mono HSA.out ?_
                  rintro e wF ⟨rfl, hb⟩
                  have HSZ := Lib.hid (HSE.out.keep hb)
                  have HXZ := Lib.hid (HXE.out.keep hb)
                  have HYZ := Lib.hid (HYE.out.keep hb)
                  have HCZ := Lib.hid (HCE.out.keep hb)
                  have HPZ := Lib.hid ((hb.block _ (lt_of_block HPE.out)).trans HPE.out)
                  clear hb HSE HXE HYE HCE HPE HSA HSS
                  go_wp2
                  go_roundw
                  case rel =>
                    refine ⟨i + 1, v', X2, K2, by omega, by go_num, hX2, HSZ.out, HOe.out, HXZ.out, HYZ.out, ?_, HDe1.out, HDe2.out, HPZ.out⟩
                    rw [← HJ3.out, ← HS3.out]; exact HCZ.out
                  case measure => simp [intOf]; omega
                · have hs0 : s2 = 0 := by rw [HS2.out]; exact if_neg hfull
                  have hee1 : ((s2 : Int) == 1) = false := by rw [hs0]; rfl
                  have HFU := Lib.hid hfull
                  have HS0 := Lib.hid hs0
                  clear hs0 hfull
                  have hobj : Calls Tryz.prog 35 #[.pointer (some ⟨gt, 0, none⟩)] wD fun e w' => e = .returned (.tuple #[.slice none 0 0, .int .i64 12]) ∧ wD = w' := by
                    obtain ⟨M, C, h⟩ := HSD.out.tk
                    rw [← HS2.out, HS0.out] at h
                    exact TObject_none _ _ _ _ _ _ _ _ _ _ _ _ 0 wD h (.inl rfl)
                  have HOJ := Lib.hid hobj
                  have hss := ST_status HSD.out
                  rw [← HS2.out] at hss
                  have HSS := Lib.hid hss
                  clear hobj hss
                  go_wp2_with fail
                  refine Calls.mono HOJ.out ?_
                  rintro e wE ⟨rfl, rfl⟩
                  go_wp2_with fail
                  refine Calls.mono HSS.out ?_
                  rintro e wF ⟨rfl, rfl⟩
                  have HSZ := HSD
                  have HXZ := HXD
                  have HYZ := HYD
                  have HCZ := HCD
                  have HPZ := HPD
                  clear HSS HOJ
                  go_wp2
                  go_roundw
                  case rel =>
                    refine ⟨i + 1, v', X2, K2, by omega, by go_num, hX2, HSZ.out, HOe.out, HXZ.out, HYZ.out, ?_, HDe1.out, HDe2.out, HPZ.out⟩
                    rw [← HJ3.out, ← HS3.out]; exact HCZ.out
                  case measure => simp [intOf]; omega
        · have hlt' : ¬ (i : Int) < (n2 : Int) := by omega
          go_wp2
          go_ret
          exact ⟨rfl, HR2.out.bel⟩
end Go.Proofs.YtfbmdlfkipipfaaGreatDoor
namespace Go.Proofs.YtfbmdlfkipipfaaGreatDoor
open Go.RowKit Go.By Go.Maps
set_option maxRecDepth 100000 in
set_option maxHeartbeats 4000000 in
/-- an object that no plan fits, or a plan that is too large, or too much: nothing is asked -/
theorem TakerHas_out (q0 : Option Addr) (n0 c0 : Nat) (o : List UInt8) (s d : Int) (p1 : Option Addr) (n1 c1 : Nat) (p2 : Option Addr) (n2 c2 : Nat) (p3 : Option Addr) (n3 c3 : Nat) (w : World) (h0 : Sl B8 w q0 n0 c0 o) (hT : HalfT w)
    (b1 : n1 ≤ 9223372036854775807) (b2 : n2 ≤ 9223372036854775807) (hx : ¬ (fitS n0 s = 0 ∧ small19 n0 s (needS n0 s) = true ∧ 1 ≤ n1 ∧ n1 ≤ 20 ∧ n2 ≤ 40)) :
    Calls Tryz.prog 5 #[.slice q0 n0 c0, .int .i64 s, .int .u32 d, .slice p1 n1 c1, .slice p2 n2 c2, .slice p3 n3 c3] w fun e w' => e = .returned (.bool true) ∧ Below w.heap.size w w' := by
  have hn0 := h0.bound
  have HT := Lib.hid hT
  have HOf := Lib.hid (fun w => POf_any (n0 : Int) s d w (by omega))
  have HSm := Lib.hid (fun w => Small19_any (n0 : Int) s (needS n0 s) d w (by omega))
  clear hT h0
  by_cases hf : fitS n0 s = 0
  · have hof : ofS (n0 : Int) s d = .tuple #[.agg #[.int .i64 n0, .int .i64 s, .int .i64 (needS n0 s), .int .u32 d], .int .i64 0] := by unfold ofS; rw [if_pos hf]
    rw [hof] at HOf
    generalize small19 n0 s (needS n0 s) = S at *
    generalize needS n0 s = k at *
    cases S with
    | false =>
      clear hx hf hof
      go_enter Tryz.func5, Tryz.ntmps5
      go_wp2_with fail
      refine Calls.mono (awake19 _ HT.out) ?_
      rintro e wa ⟨rfl, hb⟩
      have HBa := Lib.hid hb
      clear hb
      go_wp2_with fail
      refine Calls.mono (HOf.out _) ?_
      rintro e wb ⟨rfl, hb⟩
      have HBb := Lib.hid (bl HBa.out hb HBa.out.size)
      clear hb HBa
      go_wp2_with fail
      refine Calls.mono (HSm.out _) ?_
      rintro e wc ⟨rfl, hb⟩
      have HBc := Lib.hid (bl HBb.out (one_of hb).1 HBb.out.size)
      clear hb HBb
      go_wp2
      go_ret
      exact ⟨rfl, HBc.out⟩
    | true =>
      by_cases h0 : n1 = 0
      · subst h0
        clear hx hf hof
        go_enter Tryz.func5, Tryz.ntmps5
        go_wp2_with fail
        refine Calls.mono (awake19 _ HT.out) ?_
        rintro e wa ⟨rfl, hb⟩
        have HBa := Lib.hid hb
        clear hb
        go_wp2_with fail
        refine Calls.mono (HOf.out _) ?_
        rintro e wb ⟨rfl, hb⟩
        have HBb := Lib.hid (bl HBa.out hb HBa.out.size)
        clear hb HBa
        go_wp2_with fail
        refine Calls.mono (HSm.out _) ?_
        rintro e wc ⟨rfl, hb⟩
        have HBc := Lib.hid (bl HBb.out (one_of hb).1 HBb.out.size)
        clear hb HBb
        go_wp2
        go_ret
        exact ⟨rfl, HBc.out⟩
      · have hz1 : ((n1 : Int) == 0) = false := beq_eq_false_iff_ne.2 (by omega)
        by_cases h1 : n1 ≤ 20
        · have h2 : (40 : Int) < (n2 : Int) := by
            have : ¬ n2 ≤ 40 := fun h => hx ⟨hf, rfl, by omega, h1, h⟩
            omega
          have h1' : ¬ (20 : Int) < (n1 : Int) := by omega
          clear hx hf hof h0 h1
          go_enter Tryz.func5, Tryz.ntmps5
          go_wp2_with fail
          refine Calls.mono (awake19 _ HT.out) ?_
          rintro e wa ⟨rfl, hb⟩
          have HBa := Lib.hid hb
          clear hb
          go_wp2_with fail
          refine Calls.mono (HOf.out _) ?_
          rintro e wb ⟨rfl, hb⟩
          have HBb := Lib.hid (bl HBa.out hb HBa.out.size)
          clear hb HBa
          go_wp2_with fail
          refine Calls.mono (HSm.out _) ?_
          rintro e wc ⟨rfl, hb⟩
          have HBc := Lib.hid (bl HBb.out (one_of hb).1 HBb.out.size)
          clear hb HBb
          go_wp2
          go_ret
          exact ⟨rfl, HBc.out⟩
        · have h1' : (20 : Int) < (n1 : Int) := by omega
          clear hx hf hof h0 h1
          go_enter Tryz.func5, Tryz.ntmps5
          go_wp2_with fail
          refine Calls.mono (awake19 _ HT.out) ?_
          rintro e wa ⟨rfl, hb⟩
          have HBa := Lib.hid hb
          clear hb
          go_wp2_with fail
          refine Calls.mono (HOf.out _) ?_
          rintro e wb ⟨rfl, hb⟩
          have HBb := Lib.hid (bl HBa.out hb HBa.out.size)
          clear hb HBa
          go_wp2_with fail
          refine Calls.mono (HSm.out _) ?_
          rintro e wc ⟨rfl, hb⟩
          have HBc := Lib.hid (bl HBb.out (one_of hb).1 HBb.out.size)
          clear hb HBb
          go_wp2
          go_ret
          exact ⟨rfl, HBc.out⟩
  · have hz : (fitS n0 s != 0) = true := bne_iff_ne.2 hf
    rw [of_none hf] at HOf
    clear hx hf HSm
    generalize fitS n0 s = F at *
    go_enter Tryz.func5, Tryz.ntmps5
    go_wp2_with fail
    refine Calls.mono (awake19 _ HT.out) ?_
    rintro e wa ⟨rfl, hb⟩
    have HBa := Lib.hid hb
    clear hb
    go_wp2_with fail
    refine Calls.mono (HOf.out _) ?_
    rintro e wb ⟨rfl, hb⟩
    have HBb := Lib.hid (bl HBa.out hb HBa.out.size)
    clear hb HBa
    go_wp2
    go_ret
    exact ⟨rfl, al HBb.out HBb.out.size⟩
theorem TakerHas_any (q0 : Option Addr) (n0 c0 : Nat) (o : List UInt8) (s d : Int) (p1 : Option Addr) (n1 c1 : Nat) (srcs : List SrcD) (p2 : Option Addr) (n2 c2 : Nat) (ord : List UInt8) (p3 : Option Addr) (n3 c3 : Nat) (sp : List Int) (w : World) (h0 : Sl B8 w q0 n0 c0 o) (_w1 : (Lit.int .i64 s).wf = true) (w2 : (Lit.int .u32 d).wf = true) (h1 : SlS w p1 n1 c1 srcs) (h2 : Sl B8 w p2 n2 c2 ord) (h3 : Sl U16 w p3 n3 c3 sp ∧ ∀ z, z ∈ sp → 0 ≤ z ∧ z < 65536) (hT : HalfT w) :
    Calls Tryz.prog 5 #[.slice q0 n0 c0, .int .i64 s, .int .u32 d, .slice p1 n1 c1, .slice p2 n2 c2, .slice p3 n3 c3] w fun e w' => e = .returned (.bool true) ∧ Below w.heap.size w w' := by
  have hd := Go.bounds_u32 w2
  by_cases hx : fitS n0 s = 0 ∧ small19 n0 s (needS n0 s) = true ∧ 1 ≤ n1 ∧ n1 ≤ 20 ∧ n2 ≤ 40
  · obtain ⟨hf, hsm, hn10, hn1, hn2⟩ := hx
    obtain ⟨t, k, D, rfl, rfl, hO, hof⟩ := of_obj (n := n0) hf (by have := h0.bound; omega) hd.1 (by omega)
    have hk : needS (n0 : Int) (t : Int) = (k : Int) := by
      have := hO.ok.chk
      unfold checkS at this
      rw [if_pos hf] at this
      by_cases h : (k : Int) = needS n0 t
      · exact h.symm
      · rw [if_neg h] at this; cases this
    rw [hk] at hsm
    have hk12 : k ≤ 12 := by
      have h := hsm
      unfold small19 at h
      rw [if_pos hO.ok.chk, Bool.and_eq_true] at h
      have := of_decide_eq_true h.1
      omega
    exact TakerHas_core n0 t k D q0 c0 o p1 n1 c1 srcs p2 n2 c2 ord p3 n3 c3 sp w hO h0 h1 h2 h3.1 h3.2 hT hk12 hn1 hn10 hn2 hof hsm
  · exact TakerHas_out q0 n0 c0 o s d p1 n1 c1 p2 n2 c2 p3 n3 c3 w h0 hT h1.bound h2.bound hx
theorem u16_of_row {w : World} {a : Option Addr} {len cap : Nat} {zs : List Int}
    (h : (a = none ∧ len = 0 ∧ cap = 0 ∧ zs = []) ∨ ∃ x, a = some x ∧ len ≤ cap ∧ cap ≤ maxLen ∧ zs.length = cap ∧ (∀ i, i < zs.length → w.cell? (x.add i) = some (.int .u16 (zs.getD i 0))) ∧ ∀ n ∈ zs, (Lit.int .u16 n).wf = true) :
    ∃ xs : List Int, Sl U16 w a len cap xs ∧ ∀ z, z ∈ xs → 0 ≤ z ∧ z < 65536 := by
  rcases h with ⟨rfl, rfl, rfl, _⟩ | ⟨x, rfl, hl, hm, hz, hc, hw⟩
  · exact ⟨[], Sl.nil0 _ _, fun z h => by simp at h⟩
  · refine ⟨zs.take len, ⟨by simp; omega, hl, hm, fun h => by simp at h, ?_⟩, fun z h => ?_⟩
    · intro i hi
      have hi' : i < zs.length := by simp at hi; omega
      obtain ⟨b, o, hx, hc'⟩ := ints_at hc (by omega)
      refine ⟨b, o, by rw [hx], ?_⟩
      have hh := hc i hi'
      rw [hx, Addr.add_lit] at hh
      rw [hh]
      have e : zs.getD i 0 = zs[i] := by simp [hi']
      rw [e]
      simp
    · have := hw z (List.mem_of_mem_take h)
      simp [Lit.wf, IntKind.min, IntKind.max, IntKind.signed, IntKind.bits] at this
      omega
end Go.Proofs.YtfbmdlfkipipfaaGreatDoor
namespace Go.By
open Go.RowKit
end Go.By
namespace Go.Proofs.YtfbmdlfkipipfaaGreatDoor
open Go.RowKit Go.By
theorem halves_of {rest : List (String × DataW Unit)} {W : World} (h : laidMet Tryz.prog (("wellspring/sum.halves", Rows.laid_wellspring_sum_halves) :: rest) W) : HalfT W := by
  obtain ⟨zs, hz, hzl, hzc⟩ : ∃ zs : List Int, (Rows.laid_wellspring_sum_halves : DataW Unit) = Lib.tabData .u32 zs ∧ zs.length = 16 ∧ ∀ i, i < 16 → zs.getD i 0 = ((crcTab.getD i 0 : Nat) : Int) := ⟨[0, 498536548, 997073096, 651767980, 1994146192, 1802195444, 1303535960, 1342533948, 3988292384, 4027552580, 3604390888, 3412177804, 2607071920, 2262029012, 2685067896, 3183342108], rfl, rfl, by decide⟩
  rw [hz] at h
  have h3 := Lib.tabIs_of_head (g := 0) (t := 291) (e := 23) (n := 16) (by kernel_rfl) (by kernel_rfl) (by kernel_rfl) (by kernel_rfl) (by kernel_rfl) (by kernel_rfl) h
  intro i hi
  have := h3.cell (g := 0) (by kernel_rfl) i (by omega)
  rw [hzc i hi] at this
  exact this
end Go.Proofs.YtfbmdlfkipipfaaGreatDoor
