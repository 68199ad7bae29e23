/- Chapter 21: RelayHolds, of an object that the plan fits. Chapter 21: RelayHolds, of whatever comes. Arguments that came in: slices of byte slices. The table of the sum, out of the row's condition. Rows of bytes that came in, with the reach of each. -/
import Derived.Test.YtcfdopiponlboaaGreatDoorZi8
import Derived.OpenShut
import Derived.Deep.Matrix
import Derived.Test.YtcfdopiponlboaaGreatDoorRows
import Derived.Lib.LaidTab
import Derived.SizedLaws
import Derived.WideShapes
namespace Go.Proofs.YtcfdopiponlboaaGreatDoor
open Go.RowKit Go.By Gf Go.Maps
theorem read_room {L t k D : Nat} {xs : List UInt8} (hP : POK L t k D) (h : readC k t D xs = 0) : xs.length ≤ 140737488355328 := by
  unfold readC at h
  split at h
  · rename_i hh; exact absurd h hh
  · split at h
    · cases h
    · rename_i hl
      have hl : xs.length = lenP (xs.getD 1 0) k t := by
        rcases Nat.lt_trichotomy xs.length (lenP (xs.getD 1 0) k t) with g | g | g
        · exact absurd (Nat.ne_of_lt g) hl
        · exact g
        · exact absurd (Nat.ne_of_gt g) hl
      rw [hl]
      unfold lenP widS
      have := hP.k2; have := hP.t2
      split
      · omega
      · split <;> omega
set_option maxRecDepth 100000 in
set_option maxHeartbeats 8000000 in
theorem RelayHolds_core (L t k D : Nat) (q0 : Option Addr) (c0 : Nat) (o : List UInt8) (p1 : Option Addr) (n1 c1 : Nat) (srcs : List SrcD) (p2 : Option Addr) (n2 c2 : Nat) (dss : List (List UInt8)) (w : World) (hO : ObjP L t k D) (h0 : Sl B8 w q0 L c0 o) (h1 : SlS w p1 n1 c1 srcs) (h2 : Sl2 w p2 n2 c2 dss) (hT : HalfT w)
    (hk12 : k ≤ 12) (hn1 : n1 ≤ 20) (hn2 : n2 ≤ 20) (hz : ∀ x, x ∈ dss → x.length ≤ 140737488351232) (hof : ofS (L : Int) (t : Int) (D : Int) = .tuple #[PVal L t k D, .int .i64 0]) (hsm : small19 L t k = true) :
    Calls Tryz.prog 4 #[.slice q0 L c0, .int .i64 (t : Nat), .int .u32 (D : Nat), .slice p1 n1 c1, .slice p2 n2 c2] w fun e w' => e = .returned (.bool true) ∧ Below w.heap.size w w' := by
  obtain ⟨i0, hi0, hz0, hz1, hz2⟩ := info_parts info_bytesC
  have HT := Lib.hid hT
  have HOB := Lib.hid hO
  have H0 := Lib.hid h0
  have H1 := Lib.hid h1
  have H2 := Lib.hid h2
  have HZ := Lib.hid hz
  have HOf : Hid (∀ w, Calls Tryz.prog 17 #[.int .i64 (L : Nat), .int .i64 (t : Nat), .int .u32 (D : Nat)] w fun e w' => e = .returned (.tuple #[PVal L t k D, .int .i64 0]) ∧ Below w.heap.size w w') := fun w => by
    have := POf_any (L : Int) (t : Int) (D : Int) w hO.ok.l
    rw [hof] at this; exact this
  have HSm : Hid (∀ w, Calls Tryz.prog 7 #[PVal L t k D] w fun e w' => e = .returned (.bool true) ∧ Below w.heap.size w w') := fun w => by have := Small19_any L t k D w hO.ok.l; rw [hsm] at this; exact this
  have hn1' : ¬ (20 : Int) < (n1 : Int) := by omega
  have hn2' : ¬ (20 : Int) < (n2 : Int) := by omega
  have ht2 := hO.ok.t2
  have hk1 := hO.ok.k1
  have hLb := h0.bound
  have hn2b := h2.bound
  clear hT hO h0 h1 h2 hz hof hsm
  go_enter Tryz.func4, Tryz.ntmps4
  go_wp2_with fail
  refine Calls.mono (awake21 _ HT.out) ?_
  rintro e wa ⟨rfl, hb⟩
  have HBa := Lib.hid hb
  clear hb
  go_wp2_with fail
  refine Calls.mono (HOf.out _) ?_
  rintro e wb ⟨rfl, hb⟩
  have HBb := Lib.hid (bl HBa.out hb HBa.out.size)
  clear hb HBa
  go_wp2_with fail
  refine Calls.mono (HSm.out _) ?_
  rintro e wc ⟨rfl, hb⟩
  obtain ⟨hb1, kp, hs1⟩ := one_of hb
  have HBc := Lib.hid (bl HBb.out hb1 HBb.out.size)
  clear hb hb1 hs1 HBb
  obtain ⟨z0, z1, z2, z3⟩ := cells_four kp
  obtain ⟨gp, hgp⟩ : ∃ gp, gp = wb.heap.size := ⟨_, rfl⟩
  rw [← hgp] at kp z0 z1 z2 z3 ⊢
  clear hgp
  go_wp2_with fail
  refine Calls.mono (SNew_ok L t k D q0 L c0 o wc HOB.out.ok (H0.out.keep HBc.out) HOB.out.fit rfl) ?_
  rintro e w0 ⟨gs, rfl, hgs, hsn, hb⟩
  have HS0 := Lib.hid (SndO.start hsn)
  have HB0 := Lib.hid (bl HBc.out hb HBc.out.size)
  have HGS : Hid (w.heap.size ≤ gs) := Nat.le_trans HBc.out.size hgs
  have kp0 := (hb.block _ (lt_of_block kp)).trans kp
  clear hb hgs hsn kp z0 z1 z2 z3 HBc
  obtain ⟨z0, z1, z2, z3⟩ := cells_four kp0
  go_wp2_with fail
  refine Calls.mono (YNew_ok L t k D 0 w0 HOB.out.ok (by decide)) ?_
  rintro e w1 ⟨gr, gt, be, v0, rfl, hr, hb⟩
  have HR1 := Lib.hid hr
  have HB1 := Lib.hid (bl HB0.out hb HB0.out.size)
  have HS1 := Lib.hid (HS0.out.keep hb (Nat.le_refl _))
  have kp1 := (hb.block _ (lt_of_block kp0)).trans kp0
  have HZ1 := Lib.hid hb.size
  clear hb hr kp0 z0 z1 z2 z3 HS0
  obtain ⟨z0, z1, z2, z3⟩ := cells_four kp1
  go_wp2_with fail
  refine Calls.mono (TNew_ok L t k D w1 HOB.out.ok) ?_
  rintro e w2 ⟨gt2, be2, v2, rfl, ht, hb⟩
  have HH : Hid (H21 w w0 w2 gp gs gr gt be gt2 be2 w0.heap.size w1.heap.size L t k D ((List.range k).map (pieceS o t)) 0 0 0 0 v0 v2 [] [] [] []) := by
    refine ⟨bl HB1.out hb HB1.out.size, HB0.out.size, Nat.le_trans HZ1.out hb.size, Nat.le_refl _, HZ1.out, HGS.out, (hb.block _ (lt_of_block kp1)).trans kp1, HS1.out.keep hb HZ1.out, ⟨.map none, .map [], ?_⟩, ⟨.map none, .map [], ?_⟩, ⟨?_, ?_, fun g hg e => ?_⟩, OneObj.nil _ _ _, OneObj.nil _ _ _⟩
    · have e : stF ([] : List Rw) k = 0 := if_neg (by show ¬ 0 = k; omega)
      rw [e]; exact HR1.out.keep hb
    · have e : stF ([] : List Rw) k = 0 := if_neg (by show ¬ 0 = k; omega)
      rw [e]; exact ht
    · have h1 := lt_of_block HR1.out.tk.box; have h2 := ht.old; omega
    · have h1 := lt_of_block HR1.out.tk.elm.box; have h2 := ht.elm.old; omega
    · have h1 := (HR1.out.tk.elm.rows.lt _ e).2; have h2 := (ht.elm.rows.lt _ hg).1; omega
  obtain ⟨base, hbase⟩ : ∃ base, base = w0.heap.size := ⟨_, rfl⟩
  obtain ⟨base2, hbase2⟩ : ∃ base2, base2 = w1.heap.size := ⟨_, rfl⟩
  obtain ⟨FX, hFX⟩ : ∃ FX, FX = (List.range k).map (pieceS o t) := ⟨_, rfl⟩
  have HJO : Hid (joinS (L : Int) (t : Int) (k : Int) FX = (o, 0)) := by
    show _ = _
    rw [hFX]; exact join_pieces H0.out.len.symm HOB.out.ok.chk (by rw [H0.out.len]; exact HOB.out.fit) (by rw [H0.out.len]; exact HOB.out.le)
  have HFl : Hid (∀ x, x ∈ FX → x.length = t) := by rw [hFX]; exact pieces_len.1
  have HFk : Hid (FX.length = k) := by rw [hFX]; exact pieces_len.2
  rw [← hFX, ← hbase, ← hbase2] at HH
  clear hb ht HR1 HB1 HS1 HZ1 kp1 HB0 HGS hFX hbase hbase2 HOf HSm z0 z1 z2 z3
  go_wp2
  go_loopw [90] (fun iv wr => ∃ (i nx m1 : Nat) (v : Value) (X K : List Rw), i ≤ n1 ∧ iv = .int .i64 (i : Nat) ∧ nx ≤ i ∧ m1 ≤ i ∧ Hid (H21 w w0 wr gp gs gr gt be gt2 be2 base base2 L t k D FX nx 0 m1 0 v v2 X K [] [])) (fun iv _ => n1 - (intOf iv).toNat)
  case atStart => exact ⟨0, 0, 0, _, _, _, Nat.zero_le _, rfl, Nat.le_refl _, Nat.le_refl _, HH.out⟩
  case round =>
    obtain ⟨i, nx, m1, v, X, K, hi, rfl, hnx, hm1, HR⟩ := hrel
    by_cases hlt : i < n1
    · obtain ⟨b, ob, q, j, c', a, rfl, hga, f0, f1, f2, hs, hs64⟩ := H1.out.at hlt
      have x0 := (HR.out.bel.cell (p := ⟨b, ob + i * 3, none⟩) (lt_of_cell f0)).trans f0
      have x1 := (HR.out.bel.cell (p := ⟨b, ob + i * 3 + 1, none⟩) (lt_of_cell f1)).trans f1
      have x2 := (HR.out.bel.cell (p := ⟨b, ob + i * 3 + 2, none⟩) (lt_of_cell f2)).trans f2
      have hlt' : (i : Int) < (n1 : Int) := by omega
      have hjl := hs.len
      have HSX := Lib.hid hs
      have hjb := hs.bound
      clear f0 f1 f2 hs hlt
      by_cases hj : j ≤ 100
      · have hj' : ¬ (100 : Int) < (j : Int) := by omega
        have ba : Below wr.heap.size wr (wr.alloc (.cells #[B8 a.m, .slice q j c', .int .u64 (a.s : Nat)] 67 (0, 0))) := al (Below.refl _ _) (Nat.le_refl _)
        have HRa := Lib.hid (HR.out.keep ba)
        have hbx := HRa.out.rbox
        by_cases hm : srcC a.m j k = 0
        · obtain ⟨e1, e2⟩ := sent_eq (k := k) (t := t) (D := D) (n := nx) (s := a.s) (m := a.m) (xs := a.xs) HFl.out HFk.out hk1 (by rw [hjl]; exact hm) hs64 HOB.out.ok.d (by omega)
          obtain ⟨e3, e4⟩ := rowC_ok (k := k) HFl.out HFk.out (vecS_len (s := a.s) hm hjl)
          rw [← e2] at e3 e4
          have hrm := read_room HOB.out.ok e1
          have HE1 := Lib.hid e1
          have HE3 := Lib.hid e3
          have HE4 := Lib.hid e4
          have hsend := H21_send HRa.out HT.out (by omega) hm ((HSX.out.keep HR.out.bel).keep ba) (show j ≤ 140737488355328 by omega) (s := a.s)
          have HSD := Lib.hid hsend
          generalize pktB a.m D nx a.xs a.s (combS (vecS a.m a.xs a.s k) FX).1 = pk at *
          clear e1 e2 e3 e4 ba hm hsend
          go_wp2_with fail
          refine Calls.mono HSD.out ?_
          rintro e wd ⟨ql, nl, cl, rfl, hl, hH, hK⟩
          have HRd := Lib.hid hH
          have HL := Lib.hid hl
          have hnl := hl.len
          have hbx := hH.rbox
          clear hl hH hK x0 x1 x2 HR HRa HSD
          obtain ⟨r0, r1⟩ := cells2 hbx
          go_wp2_with fail
          refine Calls.mono (H21_take1 HRd.out HT.out (by omega) HL.out (by rw [← hnl]; exact hrm) HE1.out HE3.out HE4.out) ?_
          rintro e we ⟨rfl, v', hH, -⟩
          have HRe := Lib.hid hH
          clear hH hbx r0 r1 HL hrm hnl HRd HE1 HE3 HE4
          go_wp2
          go_roundw
          case rel => exact ⟨i + 1, nx + 1, m1 + 1, _, _, _, by omega, by go_num, by omega, by omega, HRe.out⟩
          case measure => simp [intOf]; omega
        · have hz5 : (srcC a.m j k == 0) = false := beq_eq_false_iff_ne.2 hm
          have hsend := SSend_bad gs L t k D nx FX a.m q j c' a.s a.xs _ HRa.out.snd.snd (by omega) hm ((HSX.out.keep HR.out.bel).keep ba) (show j ≤ 140737488355328 by omega)
          have HSD := Lib.hid hsend
          generalize srcC a.m j k = R at *
          clear ba hm hsend
          go_wp2_with fail
          refine Calls.mono HSD.out ?_
          rintro e wd ⟨rfl, hb⟩
          have HRd := Lib.hid (HRa.out.keep hb)
          clear hb x0 x1 x2 HR HRa HSD
          go_wp2
          go_roundw
          case rel => exact ⟨i + 1, nx, m1, _, _, _, by omega, by go_num, by omega, by omega, HRd.out⟩
          case measure => simp [intOf]; omega
      · have hj' : (100 : Int) < (j : Int) := by omega
        go_wp2
        go_ret
        exact ⟨rfl, al HR.out.bel HR.out.bel.size⟩
    · have hlt' : ¬ (i : Int) < (n1 : Int) := by omega
      clear hlt hi
      have hKk : K.length ≤ k := Red.le HR.out.o1.red
      have hKV : ∀ x, x ∈ K.map (fun x : Rw => x.1) → x.length = k := fun x hx => by obtain ⟨r, hr, rfl⟩ := List.mem_map.1 hx; exact (HR.out.o1.rows r hr).1.1
      have HKV := Lib.hid hKV
      clear hKV
      go_wp2
      go_loopw [22, 118] (fun sv iv wq => ∃ (i2 nr m2 : Nat) (v2' : Value) (X2 K2 : List Rw), i2 ≤ n2 ∧ iv = .int .i64 (i2 : Nat) ∧ nr ≤ i2 ∧ m2 ≤ i2 ∧ Hid (H21 w w0 wq gp gs gr gt be gt2 be2 base base2 L t k D FX nx nr m1 m2 v v2' X K X2 K2) ∧ Hid (HdrF 36 5 w0.heap.size wq sv i2 (X2.map (fun x : Rw => x.1))) ∧ Hid (∀ x, x ∈ X2 → Sp ((K.map (fun x : Rw => x.1)).map vf) (vf x.1))) (fun _ iv _ => n2 - (intOf iv).toNat)
      case atStart => exact ⟨0, 0, 0, _, _, _, Nat.zero_le _, rfl, Nat.le_refl _, Nat.le_refl _, HR.out, HdrF.nil _ _ _ _, fun x hx => by simp at hx⟩
      case round =>
        obtain ⟨i2, nr, m2, v2', X2, K2, hi2, rfl, hnr, hm2, HQ, HSd, HSp⟩ := hrel
        clear HR hnx hm1 HH hn1' hlt'
        obtain ⟨qs, cs, rfl⟩ := HSd.out.shape
        by_cases hlt2 : i2 < n2
        · obtain ⟨bb, oo, qw, m, cw, ws, rfl, hcd, hsd, hxd⟩ := H2.out.at i2 hlt2
          have hcd6 := (HQ.out.bel.cell (p := ⟨bb, oo + i2, none⟩) (lt_of_cell hcd)).trans hcd
          have hWS := hsd.keep HQ.out.bel
          have HWS := Lib.hid hWS
          have hwl := hsd.len
          have hm47 : m ≤ 140737488351232 := by rw [← hwl]; exact HZ.out ws (List.mem_of_getElem? hxd.out)
          have hlt2' : (i2 : Int) < (n2 : Int) := by omega
          have hbp := HQ.out.pbox
          have hbr := HQ.out.rbox
          clear hcd hsd hxd hlt2 hwl hWS
          go_wp2
          obtain ⟨u0, hu0, uz0, uz1, uz2⟩ := info_parts info_u8
          obtain ⟨B, hB⟩ : ∃ B, B = wr.heap.size := ⟨_, rfl⟩
          refine wp_region_ties (fun _ W => Below B wr W) (R24 B m) (sh24 B m k K.length gp gr gt ws (.slice qw m cw)) (fun _ _ => True) (fun _ => []) 237 rfl (by kernel_rfl) (by decide +kernel) (by decide +kernel) (by decide +kernel) (by decide +kernel) (fun _ _ _ _ h => h) ⟨rfl, rfl, rfl, Nat.le_refl _, fun _ _ => rfl⟩ (fun dn i w1 w2 _ hE hR => hE.trans (hR.below (by rw [hB]; exact hE.size))) ?_ ⟨?_, ?_, ?_, ?_, ?_, ?_, ?_, ?_, ?_, ?_, ?_, ?_, ?_, trivial⟩ ?_
          · intro i j v w1 w2 hij hp hs hR
            exact hs.keep rfl hR (fun e => by subst e; refine ⟨fun e => hij e.symm, ?_, ?_⟩ <;> (intro e; subst e; exact absurd hp (by decide)))
          · intro a W2 dn hdn hE hs hp hx hi
            refine ite_y rfl (wp_val' (w' := W2.alloc (.cells #[] 5)) (.slice (some ⟨W2.heap.size, 0, none⟩) 0 0) ?_ ⟨_, rfl, R24.other (by decide) (al (Below.refl _ _) (Nat.le_refl _)), ⟨_, rfl, World.ownsRow_lit W2 #[] 0 (by rw [hB]; exact hE.size) (by simp [maxLen]) rfl⟩, trivial⟩)
            simp only [execOp, List.map_toArray, List.map, eval_tmp]; simp [go_sem]
          · intro a W2 dn hdn hE hs hp hx hi
            exact ite_y rfl (wp_val (sl a 24) rfl ⟨_, rfl, R24.other (by decide) (Below.refl _ _), hi 24 (by decide), trivial⟩)
          · intro a W2 dn hdn hE hs hp hx hi
            have t0' : ∃ g, sl a 122 = .slice (some ⟨g, 0, none⟩) 0 0 ∧ W2.ownsRow B 5 1 (sl a 122) 0 [] := hp 0 (by decide)
            obtain ⟨g0, tg0, t0⟩ := t0'
            have t1 : sl a 123 = .slice qw m cw := hp 1 (by decide)
            refine ite_y rfl (wp_append_bytes W2 (.tmp 122) (.tmp 123) 36 rfl B 5 u0 (.int .u8 0) Tryz.underlying36 hu0 uz0 uz1 uz2 rfl (sl a 122) 0 [] rfl t0 qw m cw ws t1 (HWS.out.keep (by rw [hB] at hE; exact hE)) (by omega) (by rw [hB]; exact hE.size) ?_)
            intro v' w' ho hb hr hb0
            rw [Nat.zero_add, List.nil_append] at ho
            exact ⟨v', rfl, R24.other (by decide) (hb0 g0 tg0), ho, trivial⟩
          · intro a W2 dn hdn hE hs hp hx hi
            have tt : sl a 11 = .pointer (some ⟨gp, 0, none⟩) := hi 11 (by decide)
            refine ite_y rfl (wp_val (.pointer (some ⟨gp, 2, none⟩)) ?_ ⟨_, rfl, R24.other (by decide) (Below.refl _ _), rfl, trivial⟩)
            simp only [execOp, eval_tmp, tt]; simp [go_sem]
          · intro a W2 dn hdn hE hs hp hx hi
            have tt : sl a 125 = .pointer (some ⟨gp, 2, none⟩) := hp 3 (by decide)
            have hbb := (hE.block gp (by rw [hB]; exact lt_of_block hbp)).trans hbp
            obtain ⟨y0, y1, y2, y3⟩ := cells_four hbb
            refine ite_y rfl (wp_val (.int .i64 (k : Nat)) ?_ ⟨_, rfl, R24.other (by decide) (Below.refl _ _), rfl, trivial⟩)
            simp only [execOp, eval_tmp, tt]; simp [go_sem, y2]
          · intro a W2 dn hdn hE hs hp hx hi
            have t0 : W2.ownsRow B 5 1 (sl a 124) m (ws.map B8) := hp 2 (by decide)
            have t1 : sl a 126 = .int .i64 (k : Nat) := hp 4 (by decide)
            refine ite_y rfl (wp_append_zeros W2 (.tmp 124) (.tmp 126) 36 3 rfl B 5 u0 .i64 .i64 Tryz.underlying36 Tryz.underlying3 hu0 uz0 uz1 uz2 (sl a 124) m (ws.map B8) rfl t0 k t1 (by omega) (by omega) (by rw [hB]; exact hE.size) ?_)
            intro v' w' ho hb hr
            exact ⟨v', rfl, .inl ⟨rfl, hb, hr⟩, ho, trivial⟩
          · intro a W2 dn hdn hE hs hp hx hi
            exact ite_y rfl (wp_val (sl a 14) rfl ⟨_, rfl, R24.other (by decide) (Below.refl _ _), hi 14 (by decide), trivial⟩)
          · intro a W2 dn hdn hE hs hp hx hi
            have tt : sl a 128 = .pointer (some ⟨gr, 0, none⟩) := hp 6 (by decide)
            refine ite_y rfl (wp_val (.pointer (some ⟨gr, 0, none⟩)) ?_ ⟨_, rfl, R24.other (by decide) (Below.refl _ _), rfl, trivial⟩)
            simp only [execOp, eval_tmp, tt]; simp [go_sem]
          · intro a W2 dn hdn hE hs hp hx hi
            have tt : sl a 129 = .pointer (some ⟨gr, 0, none⟩) := hp 7 (by decide)
            refine ite_y rfl (wp_val (.pointer (some ⟨gr, 0, none⟩)) ?_ ⟨_, rfl, R24.other (by decide) (Below.refl _ _), rfl, trivial⟩)
            simp only [execOp, eval_tmp, tt]; simp [go_sem]
          · intro a W2 dn hdn hE hs hp hx hi
            have tt : sl a 130 = .pointer (some ⟨gr, 0, none⟩) := hp 8 (by decide)
            have hbb := (hE.block gr (by rw [hB]; exact lt_of_block hbr)).trans hbr
            obtain ⟨y0, y1⟩ := cells2 hbb
            refine ite_y rfl (wp_val (.pointer (some ⟨gt, 0, none⟩)) ?_ ⟨_, rfl, R24.other (by decide) (Below.refl _ _), rfl, trivial⟩)
            simp only [execOp, eval_tmp, tt]; simp [go_sem, y0]
          · intro a W2 dn hdn hE hs hp hx hi
            have tt : sl a 131 = .pointer (some ⟨gt, 0, none⟩) := hp 9 (by decide)
            have hb2 : Below wr.heap.size wr W2 := by rw [hB] at hE; exact hE
            obtain ⟨M, C, hrl⟩ := (HQ.out.keep hb2).rl
            refine ite_y rfl (wp_enter 21 #[.pointer (some ⟨gt, 0, none⟩)] ?_ (TRank_any base gt be L t k D m1 M v C K (stF K k) W2 hrl.tk) ?_)
            · simp only [execOp, resolve, List.map_toArray, List.map, eval_tmp, eval_func, eval_const, tt]; simp [go_sem]
            · rintro e W' ⟨rfl, rfl⟩
              exact ⟨_, rfl, _, rfl, R24.other (by decide) (Below.refl _ _), rfl, trivial⟩
          · intro a W2 dn hdn hE hs hp hx hi
            have t0 : W2.ownsRow B 5 1 (sl a 127) (m + k) (ws.map B8 ++ List.replicate k (.int .u8 0)) := hp 5 (by decide)
            have t1 : sl a 132 = .int .i64 (K.length : Nat) := hp 10 (by decide)
            obtain ⟨q7, c7, t7⟩ := owns_shape t0
            rw [t7, zeros_map, ← List.map_append] at t0
            have hSl := Sl.of_owns t0
            have hmc := hSl.le
            have hq : ∃ b o, q7 = some ⟨b, o, none⟩ := by
              rcases t0.2 with ⟨_, e⟩ | ⟨g', cap, cur, e, _⟩
              · omega
              · cases e; exact ⟨_, _, rfl⟩
            obtain ⟨b7, o7, rfl⟩ := hq
            have hKm : (K.length : Int) ≤ ((c7 : Nat) : Int) := by omega
            refine ite_y rfl (wp_val (.slice (some ⟨b7, o7, none⟩) K.length c7) ?_ ⟨_, rfl, R24.other (by decide) (Below.refl _ _), ⟨_, _, rfl, Sl.take hSl (by omega) (by omega) (Nat.le_refl _)⟩, trivial⟩)
            have v132 : a.tmps[132]?.getD undef = sl a 132 := by simp [sl]
            rw [t1] at v132
            simp only [execOp, eval_tmp, t7, t1]; simp [go_sem, hKm, v132]
          · intro a W2 dn hdn hE hs hp hx hi
            exact ite_y rfl (wp_val (sl a 133) rfl ⟨_, rfl, R24.other (by decide) (Below.refl _ _), hp 11 (by decide), trivial⟩)
          intro a w3 dn hE hs hd hI hX ht
          have ha := act_is [122, 123, 124, 125, 126, 127, 128, 129, 130, 131, 132, 133, 24] hs hd ht (by decide)
          have h24 : ∃ q c, sl a 24 = .slice q K.length c ∧ Sl B8 w3 q K.length c ((ws ++ List.replicate k 0).take K.length) := hI 12 (by decide)
          obtain ⟨q3, c3, t24, s3⟩ := h24
          rw [hB] at hE
          have hE3 : Below wr.heap.size wr w3 := hE
          have H3 := Lib.hid (HQ.out.keep hE3)
          have S3 := Lib.hid s3
          have D3 := Lib.hid (HSd.out.keep hE3)
          obtain ⟨u, hu⟩ : ∃ u, u = (ws ++ List.replicate k 0).take K.length := ⟨_, rfl⟩
          have hul : u.length = K.length := s3.len ▸ (by rw [hu])
          rw [← hu] at S3
          simp only [List.foldl, t24] at ha
          clear hI hX ht hE s3 t24 HQ HSd HWS hbp hbr hcd6 hE3 hu hB
          generalize sl a 122 = u122 at ha
          generalize sl a 123 = u123 at ha
          generalize sl a 124 = u124 at ha
          generalize sl a 125 = u125 at ha
          generalize sl a 126 = u126 at ha
          generalize sl a 127 = u127 at ha
          generalize sl a 128 = u128 at ha
          generalize sl a 129 = u129 at ha
          generalize sl a 130 = u130 at ha
          generalize sl a 131 = u131 at ha
          generalize sl a 132 = u132 at ha
          generalize sl a 133 = u133 at ha
          simp only [Act.put, List.setIfInBounds_toArray, List.set_cons_zero, List.set_cons_succ] at ha
          rw [ha]
          clear ha hs hd hu0 uz0 uz1 uz2
          by_cases hK0 : K.length = 0
          · have hz0 : ((K.length : Int) == 0) = true := by rw [hK0]; rfl
            obtain ⟨M, C, hrl⟩ := H3.out.rl
            have hsc : sayC K nr K.length = 15 := by unfold sayC; rw [if_pos hK0]
            have HY := Lib.hid (YSay_none base gr gt be L t k D m1 nr M v C K (stF K k) q3 K.length c3 w3 hrl (by omega) (by rw [hsc]; decide))
            rw [hsc] at HY
            clear hsc hrl hK0
            go_wp2_with fail
            refine Calls.mono HY.out ?_
            rintro e w4 ⟨qx, nx', cx, rfl, -, hb⟩
            have H4 := Lib.hid (H3.out.keep hb)
            have hbr := (H3.out.keep hb).rbox
            clear hb HY H3 S3 D3
            obtain ⟨r0, r1⟩ := cells2 hbr
            obtain ⟨M, C, hrl⟩ := H4.out.rl
            have HRk := Lib.hid (TRank_any base gt be L t k D m1 M v C K (stF K k) w4 hrl.tk)
            clear hrl hbr
            go_wp2_with fail
            refine Calls.mono HRk.out ?_
            rintro e w5 ⟨rfl, rfl⟩
            go_wp2
            go_ret
            exact ⟨by rfl, H4.out.bel⟩
          obtain ⟨y, e1, e2, hy, hcy, -⟩ := rowsC_ok H3.out.o1 (by omega) hul
          have hsp := comb_sp HKV.out (by rw [List.length_map]; omega) (by rw [List.length_map]; exact hul) e1
          have HSY := Lib.hid hsp
          obtain ⟨M, C, hrl⟩ := H3.out.rl
          have hsay := YSay_ok base gr gt be L t k D m1 nr M v C K (stF K k) q3 K.length c3 u w3 hrl S3.out (HT.out.keep H3.out.bel) hK0 (by omega) rfl
          rw [show (combS u (K.map (·.1))).1 = y.1 from congrArg Prod.fst e1, show (combS u (K.map (·.2))).1 = y.2 from congrArg Prod.fst e2] at hsay
          have HSay := Lib.hid hsay
          obtain ⟨g1, g2, g3, g4, g5, g6⟩ := read_write (m := 0) (D := D) (n := nr) (s := 0) (k := k) (t := t) (xs := y.1) (ys := y.2) rfl (fun _ => hy.1) hy.2 HOB.out.ok.d (by omega)
          have hrm := read_room HOB.out.ok g1
          have heq : eqX k t (pktB 0 D nr y.1 0 y.2) = y := by
            unfold eqX
            rw [g2, g4, g6]; rfl
          have hfy := hy
          have hcy' := hcy
          rw [← heq] at hfy hcy'
          have HFY := Lib.hid hfy
          have HCY := Lib.hid hcy'
          have HEQ := Lib.hid heq
          have HG1 := Lib.hid g1
          have HRd : Hid (∀ w p n c, HalfT w → Sl B8 w p n c (pktB 0 D nr y.1 0 y.2) → Calls Tryz.prog 22 #[PVal L t k D, .slice p n c] w (PRet w 0 D nr y.1 0 y.2)) := fun w p n c hT hs => by
            have hn := hs.len
            have := PRead_any L t k D p n c _ w HOB.out.ok hT hs (by rw [← hn]; exact hrm)
            rw [g1, if_pos rfl, g2, g3, g4, g5, g6] at this
            exact this
          obtain ⟨pk, hpk⟩ : ∃ pk, pk = pktB 0 D nr y.1 0 y.2 := ⟨_, rfl⟩
          rw [← hpk] at HSay HRd HEQ HG1 HFY HCY hrm
          have hy1 := hy.1
          have hy2 := hy.2
          clear e1 e2 hy hcy hsp hrl hsay g1 g2 g3 g4 g5 g6 heq hfy hcy' hpk hul
          go_wp2_with fail
          refine Calls.mono HSay.out ?_
          rintro e w4 ⟨qx, nx', cx, rfl, hx, hr4, hg4⟩
          obtain ⟨h4, k4⟩ := H3.out.said hr4 hg4
          have H4 := Lib.hid h4
          have X4 := Lib.hid hx
          have D4 := Lib.hid (k4.hdr oth_rows oth_u8 D3.out)
          have hnx := hx.len
          have hbp := h4.pbox
          clear hx hr4 hg4 h4 k4 H3 S3 D3 HSay
          obtain ⟨z0, z1, z2, z3⟩ := cells_four hbp
          go_wp2_with fail
          refine Calls.mono (HRd.out _ _ _ _ (HT.out.keep H4.out.bel) X4.out) ?_
          rintro e w5 ⟨qa, na, ca, qb, nb, cb, rfl, fa, fb, hb⟩
          have hna : k = na := by rw [← fa.sl.len]; exact hy1.symm
          have hnb : t = nb := by rw [← fb.sl.len]; exact hy2.symm
          subst hna hnb
          have H5 := Lib.hid (H4.out.keep hb)
          have X5 := Lib.hid (X4.out.keep hb)
          have D5 := Lib.hid (D4.out.keep hb)
          have FA := Lib.hid fa.sl
          have FB := Lib.hid fb.sl
          have hbp := (H4.out.keep hb).pbox
          clear hb fa fb H4 X4 D4 HRd z0 z1 z2 z3
          obtain ⟨z0, z1, z2, z3⟩ := cells_four hbp
          have a0 : ∀ o', (w5.alloc o').cell? ⟨gp, 0, none⟩ = _ := fun _ => calloc z0
          have a1 : ∀ o', (w5.alloc o').cell? ⟨gp, 1, none⟩ = _ := fun _ => calloc z1
          have a2 : ∀ o', (w5.alloc o').cell? ⟨gp, 2, none⟩ = _ := fun _ => calloc z2
          have a3 : ∀ o', (w5.alloc o').cell? ⟨gp, 3, none⟩ = _ := fun _ => calloc z3
          clear hbp z0 z1 z2 z3
          have ba5 := fun o => al (o := o) (Below.refl w5.heap.size w5) (Nat.le_refl _)
          go_wp2_with fail
          refine Calls.mono (PEquation_ok L t k D nr 0 qa k ca 0 qb cb y.1 y.2 _ HOB.out.ok rfl (fun _ => rfl) (by show k ≤ 140737488355328; omega) (FA.out.keep (ba5 _)) (FB.out.keep (ba5 _))) ?_
          rintro e w6 ⟨qv, nv, cv, qd, nd, cd, rfl, fv, fd, hb⟩
          rw [show vecS 0 y.1 0 k = y.1 from rfl] at fv
          have hnv : k = nv := by rw [← fv.sl.len]; exact hy1.symm
          subst hnv
          have hb6 : Below w5.heap.size w5 w6 := bl (ba5 _) hb (ba5 _).size
          have H6 := Lib.hid (H5.out.keep hb6)
          have X6 := Lib.hid (X5.out.keep hb6)
          have D6 := Lib.hid (D5.out.keep hb6)
          have hfw0 : w0.heap.size ≤ (w5.alloc (.cells #[B8 0, .int .u32 (D : Nat), .int .u32 (nr : Nat), B8 0, .slice qa k ca, .int .u64 (0 : Nat), .slice qb t cb] 72 (0, 0))).heap.size := by have := H5.out.le; simp; omega
          have V6 : Hid (Fresh 5 w0.heap.size w6 qv k cv y.1) := fv.mono (by have := H5.out.le; simp; omega)
          clear hb hb6 fv fd H5 X5 D5 FA FB a0 a1 a2 a3 ba5 hfw0
          have ba6 : Below w6.heap.size w6 (w6.alloc (.cells #[.slice qv k cv, .slice qd nd cd] 47 (0, 0))) := al (Below.refl _ _) (Nat.le_refl _)
          have H7 := Lib.hid (H6.out.keep ba6)
          have X7 := Lib.hid (X6.out.keep ba6)
          have D7 := Lib.hid (D6.out.keep ba6)
          have V7 := Lib.hid (V6.out.keep ba6)
          have hb29 : (w6.alloc (.cells #[.slice qv k cv, .slice qd nd cd] 47 (0, 0))).heap[w6.heap.size]? = some (.cells #[.slice qv k cv, .slice qd nd cd] 47 (0, 0)) := hnew rfl
          have HNE : Hid (v2'.ownBlock ≠ some w6.heap.size) := fun e => by
            obtain ⟨M2, C2, h2⟩ := H6.out.tk
            have := (h2.elm.rows.lt _ e).2
            omega
          have HSPN : Hid (decide ((iK (likeL k K)).length = (iK (likeL k K ++ [y.1])).length) = true) := by
            have hl : likeL k K = K.map (fun x : Rw => x.1) := by
              unfold likeL vecsL
              exact List.filter_eq_self.2 (fun x hx => decide_eq_true (HKV.out x hx))
            show _ = _
            rw [hl]; exact decide_eq_true (iK_same HKV.out hy1 HSY.out)
          go_wp2
          generalize hw7 : w6.alloc (.cells #[.slice qv k cv, .slice qd nd cd] 47 (0, 0)) = w7 at *
          obtain ⟨g29, hg29⟩ : ∃ g29, g29 = w6.heap.size := ⟨_, rfl⟩
          rw [← hg29] at hb29 HNE ⊢
          clear hw7 hg29 H6 X6 D6 V6 ba6
          have hbr := H7.out.rbox
          obtain ⟨r0, r1⟩ := cells2 hbr
          obtain ⟨b0, b1⟩ := cells2 hb29
          obtain ⟨M7, C7, hrl7⟩ := H7.out.rl
          have HRL7 := Lib.hid hrl7
          clear hrl7
          refine wp_region_tail (fun ix => ([.val (.int .i64 0), .val (.bool false), .val (.bool false), .val (.int .i64 0), .val (.bool false), .val (.bool false), .val (.bool false), .val (.pointer (some ⟨g29, 0, none⟩)), .val (.slice qv k cv), .val (.pointer (some ⟨gr, 0, none⟩)), .val (.pointer (some ⟨gr, 0, none⟩)), .val (.pointer (some ⟨gr, 0, none⟩)), .val (.pointer (some ⟨gt, 0, none⟩)), (ShRows K), .val (.bool true), .val (.bool false), .val (.bool false), .val (.bool false), .val (.pointer (some ⟨gt2, 0, none⟩)), .val (.slice qx nx' cx), .any, .any, .any][ix]?).getD (.any)) 237 20 rfl (by kernel_rfl) (by decide +kernel) (by decide +kernel) (by decide +kernel) (by decide +kernel) ?_ ?_
          · refine ⟨?_, ?_, ?_, ?_, ?_, ?_, ?_, ?_, ?_, ?_, ?_, ?_, ?_, ?_, ?_, ?_, ?_, ?_, ?_, ?_, trivial⟩
            · intro a W hb0 hs hp hi; have hb := undrew hb0; clear hb0
              have t28 : sl a 28 = .int .i64 0 := hi 28 (by decide)
              exact ite_y rfl (wp_val (sl a 28) rfl ⟨_, rfl, Below.refl _ _, t28⟩)
            · intro a W hb0 hs hp hi; have hb := undrew hb0; clear hb0
              have t164 : sl a 164 = .int .i64 0 := hp 0 (by decide)
              refine ite_y rfl (wp_val (.bool false) ?_ ?_)
              · simp only [execOp, eval_tmp, eval_const, t164]; simp [go_sem]
              · exact ⟨_, rfl, Below.refl _ _, rfl⟩
            · intro a W hb0 hs hp hi; have hb := undrew hb0; clear hb0
              have t165 : sl a 165 = .bool false := hp 1 (by decide)
              exact ite_y rfl (wp_val (sl a 165) rfl ⟨_, rfl, Below.refl _ _, t165⟩)
            · intro a W hb0 hs hp hi; have hb := undrew hb0; clear hb0
              have tg : sl a 166 = .bool false := hp 2 (by decide)
              have t30 : sl a 30 = .int .i64 0 := hi 30 (by decide)
              exact ite_y (wanted_yes rfl rfl (by have hz : a.tmps.size = 237 := hs; rw [hz]; decide) tg) (wp_val (sl a 30) rfl ⟨_, rfl, Below.refl _ _, t30⟩)
            · intro a W hb0 hs hp hi; have hb := undrew hb0; clear hb0
              have tg : sl a 166 = .bool false := hp 2 (by decide)
              have t167 : sl a 167 = .int .i64 0 := hp 3 (by decide)
              refine ite_y (wanted_yes rfl rfl (by have hz : a.tmps.size = 237 := hs; rw [hz]; decide) tg) (wp_val (.bool false) ?_ ?_)
              · simp only [execOp, eval_tmp, eval_const, t167]; simp [go_sem]
              · exact ⟨_, rfl, Below.refl _ _, rfl⟩
            · intro a W hb0 hs hp hi; have hb := undrew hb0; clear hb0
              have t166 : sl a 166 = .bool false := hp 2 (by decide)
              have t168 : sl a 168 = .bool false := hp 4 (by decide)
              refine ite_y rfl (wp_val (.bool false) ?_ ?_)
              · simp only [execOp, eval_tmp, eval_const, t166, t168]; simp [go_sem]
              · exact ⟨_, rfl, Below.refl _ _, rfl⟩
            · intro a W hb0 hs hp hi; have hb := undrew hb0; clear hb0
              have t169 : sl a 169 = .bool false := hp 5 (by decide)
              exact ite_y rfl (wp_val (sl a 169) rfl ⟨_, rfl, Below.refl _ _, t169⟩)
            · intro a W hb0 hs hp hi; have hb := undrew hb0; clear hb0
              have tg : sl a 170 = .bool false := hp 6 (by decide)
              have t29 : sl a 29 = .pointer (some ⟨g29, 0, none⟩) := hi 29 (by decide)
              refine ite_y (wanted_yes rfl rfl (by have hz : a.tmps.size = 237 := hs; rw [hz]; decide) tg) (wp_val (.pointer (some ⟨g29, 0, none⟩)) ?_ ?_)
              · simp only [execOp, eval_tmp, eval_const, t29]; simp [go_sem]
              · exact ⟨_, rfl, Below.refl _ _, rfl⟩
            · intro a W hb0 hs hp hi; have hb := undrew hb0; clear hb0
              have tg : sl a 170 = .bool false := hp 6 (by decide)
              have tt : sl a 171 = .pointer (some ⟨g29, 0, none⟩) := hp 7 (by decide)
              have dd := (hb.cell (p := ⟨g29, 0, none⟩) (lt_of_cell b0)).trans b0
              refine ite_y (wanted_yes rfl rfl (by have hz : a.tmps.size = 237 := hs; rw [hz]; decide) tg) (wp_val (.slice qv k cv) ?_ ?_)
              · simp only [execOp, eval_tmp, tt]; simp [go_sem, dd]
              · exact ⟨_, rfl, Below.refl _ _, rfl⟩
            · intro a W hb0 hs hp hi; have hb := undrew hb0; clear hb0
              have tg : sl a 170 = .bool false := hp 6 (by decide)
              have t14 : sl a 14 = .pointer (some ⟨gr, 0, none⟩) := hi 14 (by decide)
              exact ite_y (wanted_yes rfl rfl (by have hz : a.tmps.size = 237 := hs; rw [hz]; decide) tg) (wp_val (sl a 14) rfl ⟨_, rfl, Below.refl _ _, t14⟩)
            · intro a W hb0 hs hp hi; have hb := undrew hb0; clear hb0
              have tg : sl a 170 = .bool false := hp 6 (by decide)
              have tt : sl a 173 = .pointer (some ⟨gr, 0, none⟩) := hp 9 (by decide)
              refine ite_y (wanted_yes rfl rfl (by have hz : a.tmps.size = 237 := hs; rw [hz]; decide) tg) (wp_val (.pointer (some ⟨gr, 0, none⟩)) ?_ ?_)
              · simp only [execOp, eval_tmp, tt]; simp [go_sem]
              · exact ⟨_, rfl, Below.refl _ _, rfl⟩
            · intro a W hb0 hs hp hi; have hb := undrew hb0; clear hb0
              have tg : sl a 170 = .bool false := hp 6 (by decide)
              have t174 : sl a 174 = .pointer (some ⟨gr, 0, none⟩) := hp 10 (by decide)
              refine ite_y (wanted_yes rfl rfl (by have hz : a.tmps.size = 237 := hs; rw [hz]; decide) tg) (wp_val (.pointer (some ⟨gr, 0, none⟩)) ?_ ?_)
              · simp only [execOp, eval_tmp, eval_const, t174]; simp [go_sem]
              · exact ⟨_, rfl, Below.refl _ _, rfl⟩
            · intro a W hb0 hs hp hi; have hb := undrew hb0; clear hb0
              have tg : sl a 170 = .bool false := hp 6 (by decide)
              have tt : sl a 175 = .pointer (some ⟨gr, 0, none⟩) := hp 11 (by decide)
              have dd := (hb.cell (p := ⟨gr, 0, none⟩) (lt_of_cell r0)).trans r0
              refine ite_y (wanted_yes rfl rfl (by have hz : a.tmps.size = 237 := hs; rw [hz]; decide) tg) (wp_val (.pointer (some ⟨gt, 0, none⟩)) ?_ ?_)
              · simp only [execOp, eval_tmp, tt]; simp [go_sem, dd]
              · exact ⟨_, rfl, Below.refl _ _, rfl⟩
            · intro a W hb0 hs hp hi; have hb := undrew hb0; clear hb0
              have tg : sl a 170 = .bool false := hp 6 (by decide)
              have t176 : sl a 176 = .pointer (some ⟨gt, 0, none⟩) := hp 12 (by decide)
              refine ite_y (wanted_yes rfl rfl (by have hz : a.tmps.size = 237 := hs; rw [hz]; decide) tg) (wp_enter 11 #[.pointer (some ⟨gt, 0, none⟩)] ?_ (TRows_any base gt be L t k D m1 M7 v C7 K (stF K k) W (HRL7.out.tk.keep hb)) ?_)
              · simp only [execOp, resolve, List.map_toArray, List.map, eval_tmp, eval_func, eval_const, t176]; simp [go_sem]
              · rintro e W' ⟨v5, rfl, hr5, hw⟩; obtain ⟨q5, c5, rfl⟩ := hr5.shape; exact ⟨_, rfl, _, rfl, hw, q5, c5, rfl, hr5.rwS⟩
            · intro a W hb0 hs hp hi; have hb := undrew hb0; clear hb0
              have tg : sl a 170 = .bool false := hp 6 (by decide)
              have tt : sl a 172 = .slice qv k cv := hp 8 (by decide)
              have t177 : RowsS K (sl a 177) W := hp 13 (by decide)
              obtain ⟨q5, c5, t177, z5⟩ := t177
              refine ite_y (wanted_yes rfl rfl (by have hz : a.tmps.size = 237 := hs; rw [hz]; decide) tg) (wp_enter 24 #[.slice qv k cv, .slice q5 K.length c5] ?_ (Span_any qv q5 k cv K.length c5 y.1 K W (V7.out.sl.keep hb) z5 (by omega) (by omega)) ?_)
              · simp only [execOp, resolve, List.map_toArray, List.map, eval_tmp, eval_func, eval_const, tt, t177]; simp [go_sem]
              · rintro e W' ⟨rfl, hw⟩; rw [HSPN.out]; exact ⟨_, rfl, _, rfl, hw, rfl⟩
            · intro a W hb0 hs hp hi; have hb := undrew hb0; clear hb0
              have tg : sl a 170 = .bool false := hp 6 (by decide)
              have t178 : sl a 178 = .bool true := hp 14 (by decide)
              refine ite_y (wanted_yes rfl rfl (by have hz : a.tmps.size = 237 := hs; rw [hz]; decide) tg) (wp_val (.bool false) ?_ ?_)
              · simp only [execOp, eval_tmp, eval_const, t178]; simp [go_sem]
              · exact ⟨_, rfl, Below.refl _ _, rfl⟩
            · intro a W hb0 hs hp hi; have hb := undrew hb0; clear hb0
              have t170 : sl a 170 = .bool false := hp 6 (by decide)
              have t179 : sl a 179 = .bool false := hp 15 (by decide)
              refine ite_y rfl (wp_val (.bool false) ?_ ?_)
              · simp only [execOp, eval_tmp, eval_const, t170, t179]; simp [go_sem]
              · exact ⟨_, rfl, Below.refl _ _, rfl⟩
            · intro a W hb0 hs hp hi; have hb := undrew hb0; clear hb0
              have t180 : sl a 180 = .bool false := hp 16 (by decide)
              exact ite_y rfl (wp_val (sl a 180) rfl ⟨_, rfl, Below.refl _ _, t180⟩)
            · intro a W hb0 hs hp hi; have hb := undrew hb0; clear hb0
              have tg : sl a 181 = .bool false := hp 17 (by decide)
              have t16 : sl a 16 = .pointer (some ⟨gt2, 0, none⟩) := hi 16 (by decide)
              exact ite_y (wanted_yes rfl rfl (by have hz : a.tmps.size = 237 := hs; rw [hz]; decide) tg) (wp_val (sl a 16) rfl ⟨_, rfl, Below.refl _ _, t16⟩)
            · intro a W hb0 hs hp hi; have hb := undrew hb0; clear hb0
              have tg : sl a 181 = .bool false := hp 17 (by decide)
              have t25 : sl a 25 = .slice qx nx' cx := hi 25 (by decide)
              exact ite_y (wanted_yes rfl rfl (by have hz : a.tmps.size = 237 := hs; rw [hz]; decide) tg) (wp_val (sl a 25) rfl ⟨_, rfl, Below.refl _ _, t25⟩)
          intro a w8 hb hs hd hI ht
          have ha := act_is [164, 165, 166, 167, 168, 169, 170, 171, 172, 173, 174, 175, 176, 177, 178, 179, 180, 181, 182, 183, 184, 185, 186] hs hd ht (by decide)
          have t181 : sl a 181 = .bool false := hI 17 (by decide)
          have t182 : sl a 182 = .pointer (some ⟨gt2, 0, none⟩) := hI 18 (by decide)
          have t183 : sl a 183 = .slice qx nx' cx := hI 19 (by decide)
          simp only [List.foldl, t181, t182, t183] at ha
          generalize sl a 164 = u164 at ha
          generalize sl a 165 = u165 at ha
          generalize sl a 166 = u166 at ha
          generalize sl a 167 = u167 at ha
          generalize sl a 168 = u168 at ha
          generalize sl a 169 = u169 at ha
          generalize sl a 170 = u170 at ha
          generalize sl a 171 = u171 at ha
          generalize sl a 172 = u172 at ha
          generalize sl a 173 = u173 at ha
          generalize sl a 174 = u174 at ha
          generalize sl a 175 = u175 at ha
          generalize sl a 176 = u176 at ha
          generalize sl a 177 = u177 at ha
          generalize sl a 178 = u178 at ha
          generalize sl a 179 = u179 at ha
          generalize sl a 180 = u180 at ha
          generalize sl a 184 = u184 at ha
          generalize sl a 185 = u185 at ha
          generalize sl a 186 = u186 at ha
          simp only [Act.put, List.setIfInBounds_toArray, List.set_cons_zero, List.set_cons_succ] at ha
          rw [ha]; clear ha hI ht hs hd
          simp only [List.drop_succ_cons, List.drop_zero]
          have H8 := Lib.hid (H7.out.keep hb)
          have X8 := Lib.hid (X7.out.keep hb)
          have D8 := Lib.hid (D7.out.keep hb)
          have V8 := Lib.hid (V7.out.keep hb)
          have hb8 := (hb.block _ (lt_of_block hb29)).trans hb29
          clear hb H7 X7 D7 V7 hb29 hbr r0 r1 b0 b1 HRL7 HSPN
          go_wp2_with fail
          refine Calls.mono (H21_take2 H8.out HT.out (by omega) X8.out (by rw [← hnx]; exact hrm) HG1.out HFY.out HCY.out) ?_
          rintro e w9 ⟨rfl, v3, hH, hK, hc9⟩
          rw [HEQ.out] at hH
          have H9 := Lib.hid hH
          have D9 := Lib.hid (hK.hdr oth_rows oth_u8 D8.out)
          have V9 := Lib.hid (hK.fresh oth_u8 V8.out)
          obtain ⟨M2, C2, h2⟩ := H8.out.tk
          have hb9 := hc9.rowbox h2 hb8 HNE.out
          clear hH hK hc9 h2 hb8 HNE H8 X8 D8 V8 HG1 HFY HCY HEQ hnx hrm
          obtain ⟨b0, b1⟩ := cells2 hb9
          obtain ⟨vsS, oS, lS, rS⟩ := D9.out
          have OS := Lib.hid oS
          have RS := Lib.hid rS
          have hvl : vsS.length = i2 := owns_len oS
          have LS := Lib.hid lS
          clear oS rS lS
          go_wp2_with (first | (at_builtin; refine wpList_append_where _ rfl _ _ 25 rfl w0.heap.size 36 i0 (.slice none 0 0) 1 24 Tryz.underlying25 hi0 hz0 hz1 hz2 rfl (by decide) (.slice qs i2 cs) i2 vsS rfl (owns_keep OS.out (al (Below.refl _ _) (Nat.le_refl _))) ⟨w9.heap.size, 0, none⟩ 1 1 [.slice qv k cv] rfl rfl (news_one (hnew rfl)) ones_one (by unfold maxLen; omega) (by omega) (by have := H9.out.le; simp; omega) (by decide) ?_) | fail)
          intro vA wA hoA hgA hwA
          have ba9 : Below w9.heap.size w9 (w9.alloc (.cells #[.slice qv k cv] 36 (0, 0))) := al (Below.refl _ _) (Nat.le_refl _)
          obtain ⟨hHA, hpA⟩ := (H9.out.keep ba9).grown (owns_keep OS.out ba9) hgA
          have HA := Lib.hid hHA
          have DA : Hid (HdrF 36 5 w0.heap.size wA vA (i2 + 1) ((X2 ++ [y]).map (fun x : Rw => x.1))) := by
            rw [List.map_append]
            refine HdrF.push (v := .slice qs i2 cs) (w := w9.alloc (.cells #[.slice qv k cv] 36 (0, 0))) hoA hvl LS.out (fun j u hj => ?_) (V9.out.keep ba9) hpA
            obtain ⟨q, m, c, xs, e, hx, hf⟩ := RS.out j u hj
            exact ⟨q, m, c, xs, e, hx, hf.keep ba9⟩
          obtain ⟨j3, hj3⟩ : ∃ j3, j3 = i2 + 1 := ⟨_, rfl⟩
          rw [← hj3] at DA
          have HJ3 := Lib.hid hj3
          have hj20 : j3 ≤ 20 := by omega
          obtain ⟨qA, cA, rfl⟩ := DA.out.shape
          have hbp := hHA.pbox
          have HXL : Hid (∀ z, z ∈ (X2 ++ [y]).map (fun x : Rw => x.1) → z.length = k) := fun z hz => by
            obtain ⟨x, hx, rfl⟩ := List.mem_map.1 hz
            exact (HA.out.o2.fit x hx).1.1
          have HRK : Hid ((kF k ((X2 ++ [y]).map (fun x : Rw => x.1)).flatten j3).length = (putK K2 y).length) := by
            show _ = _
            rw [kF_rank HXL.out DA.out.len, ← HA.out.o2.rank]
          have HSpn : Hid (∀ x, x ∈ X2 ++ [y] → Sp ((K.map (fun x : Rw => x.1)).map vf) (vf x.1)) := fun x hx => by
            rcases List.mem_append.1 hx with h | h
            · exact HSp.out x h
            · rw [List.mem_singleton.1 h]; exact HSY.out
          have hrk : (putK K2 y).length ≤ K.length := by
            rw [HA.out.o2.rank]
            have := iK_le (n := k) HXL.out (W := (K.map (fun x : Rw => x.1)).map vf) (fun r hr => by obtain ⟨x, hx, rfl⟩ := List.mem_map.1 hr; exact HSpn.out x hx)
            simpa using this
          have hXn : ((X2 ++ [y]).map (fun x : Rw => x.1)).length = j3 := DA.out.len
          generalize hXX : X2 ++ [y] = X3 at *
          generalize hKK : putK K2 y = K3 at *
          obtain ⟨S3', hS3⟩ : ∃ S3', S3' = X3.map (fun x : Rw => x.1) := ⟨_, rfl⟩
          have DS := Lib.hid DA.out.sl2
          rw [← hS3] at DS HXL HRK hXn
          have HGO : Hid (Calls Tryz.prog 25 #[.int .i64 (k : Nat), .slice qA j3 cA] wA (RetG2 5 wA j3 k S3'.flatten 0)) := by
            have hb : j3 * k ≤ 20 * 12 := Nat.mul_le_mul (by omega) (by omega)
            exact GOf_good k qA j3 cA S3' wA DS.out (by omega) (by omega) (by omega) (by rw [List.all_eq_true]; exact fun z hz => decide_eq_true (HXL.out z hz))
          clear hj3 hoA hgA hwA ba9 hHA hpA H9 D9 V9 OS RS LS hvl hb9 b0 b1 HSp HSY hXX hKK hS3 DS HXL
          obtain ⟨z0, z1, z2, z3⟩ := cells_four hbp
          go_wp2_with fail
          refine Calls.mono HGO.out ?_
          rintro e wB ⟨qg, ng, cg, hng, rfl, og, hb⟩
          have HNG := Lib.hid hng
          clear hng
          have HB := Lib.hid (HA.out.keep hb)
          have DB := Lib.hid (DA.out.keep hb)
          have GB := Lib.hid (Sl.of_owns og)
          clear hb og HA DA HGO hbp z0 z1 z2 z3
          have baB : Below wB.heap.size wB (wB.alloc (.cells #[.int .i64 (j3 : Nat), .int .i64 (k : Nat), .slice qg ng cg] 79 (0, 0))) := al (Below.refl _ _) (Nat.le_refl _)
          have HC := Lib.hid (HB.out.keep baB)
          have DC := Lib.hid (DB.out.keep baB)
          have GC := Lib.hid (GB.out.keep baB)
          have hb31 : (wB.alloc (.cells #[.int .i64 (j3 : Nat), .int .i64 (k : Nat), .slice qg ng cg] 79 (0, 0))).heap[wB.heap.size]? = some (.cells #[.int .i64 (j3 : Nat), .int .i64 (k : Nat), .slice qg ng cg] 79 (0, 0)) := hnew rfl
          go_wp2
          generalize hwC : wB.alloc (.cells #[.int .i64 (j3 : Nat), .int .i64 (k : Nat), .slice qg ng cg] 79 (0, 0)) = wC at *
          obtain ⟨g31, hg31⟩ : ∃ g31, g31 = wB.heap.size := ⟨_, rfl⟩
          rw [← hg31] at hb31 ⊢
          have hbr := HC.out.rbox
          obtain ⟨r0, r1⟩ := cells2 hbr
          obtain ⟨b0, b1, b2⟩ := cells_three hb31
          obtain ⟨r2, hr2⟩ : ∃ r2, r2 = K3.length := ⟨_, rfl⟩
          obtain ⟨r1n, hr1n⟩ : ∃ r1n, r1n = K.length := ⟨_, rfl⟩
          obtain ⟨s2, hs2⟩ : ∃ s2, s2 = stF K3 k := ⟨_, rfl⟩
          have hst01 : s2 = 0 ∨ s2 = 1 := by rw [hs2]; unfold stF; split <;> simp
          have HTk2 : Hid (∀ W, Below wC.heap.size wC W → Calls Tryz.prog 21 #[.pointer (some ⟨gt2, 0, none⟩)] W fun e w' => e = .returned (.int .i64 (r2 : Nat)) ∧ W = w') := fun W hb => by
            obtain ⟨M, C, h⟩ := (HC.out.keep hb).tk
            rw [hr2]; exact TRank_any _ _ _ _ _ _ _ _ _ _ _ _ _ W h
          have HTk1 : Hid (∀ W, Below wC.heap.size wC W → Calls Tryz.prog 21 #[.pointer (some ⟨gt, 0, none⟩)] W fun e w' => e = .returned (.int .i64 (r1n : Nat)) ∧ W = w') := fun W hb => by
            obtain ⟨M, C, h⟩ := (HC.out.keep hb).rl
            rw [hr1n]; exact TRank_any _ _ _ _ _ _ _ _ _ _ _ _ _ W h.tk
          have HSt2 : Hid (∀ W, Below wC.heap.size wC W → Calls Tryz.prog 27 #[.pointer (some ⟨gt2, 0, none⟩)] W fun e w' => e = .returned (.int .i64 (s2 : Nat)) ∧ W = w') := fun W hb => by
            obtain ⟨M, C, h⟩ := (HC.out.keep hb).tk
            rw [hs2]; exact TStatus_any _ _ _ _ _ _ _ _ _ _ _ _ _ W h
          have HGR : Hid (∀ W, Below wC.heap.size wC W → Calls Tryz.prog 26 #[.agg #[.int .i64 (j3 : Nat), .int .i64 (k : Nat), .slice qg ng cg]] W fun e w' => e = .returned (.int .i64 (r2 : Nat)) ∧ Below W.heap.size W w') := fun W hb => by
            have := Rank_any j3 k qg ng cg S3'.flatten W (GC.out.keep hb) HNG.out (by show k ≤ 140737488355328; omega) (by omega)
            rw [HRK.out, ← hr2] at this; exact this
          have hne2 : ((r2 : Int) != (r2 : Int)) = false := by simp
          have hle2 : r2 ≤ r1n := by omega
          have hst2 : ((s2 : Int) == 2) = false := beq_eq_false_iff_ne.2 (by omega)
          clear hwC hg31 HB DB GB baB hb31 hbr
          refine wp_region_shapes (fun ix => ([.val (.int .i64 0), .val (.bool false), .val (.bool false), .val (.pointer (some ⟨gt2, 0, none⟩)), .val (.int .i64 (r2 : Nat)), .val (.agg #[.int .i64 (j3 : Nat), .int .i64 (k : Nat), .slice qg ng cg]), .val (.int .i64 (r2 : Nat)), .val (.bool false), .val (.bool false), .val (.bool false), .val (.pointer (some ⟨gt2, 0, none⟩)), .val (.int .i64 (r2 : Nat)), .val (.pointer (some ⟨gr, 0, none⟩)), .val (.pointer (some ⟨gr, 0, none⟩)), .val (.pointer (some ⟨gr, 0, none⟩)), .val (.pointer (some ⟨gt, 0, none⟩)), .val (.int .i64 (r1n : Nat)), .val (.bool false), .val (.bool false), .val (.bool false), .val (.pointer (some ⟨gt2, 0, none⟩)), .val (.int .i64 (s2 : Nat)), .val (.bool false), .val (.bool false)][ix]?).getD (.any)) 237 rfl (by kernel_rfl) (by decide +kernel) (by decide +kernel) (by decide +kernel) ?_ ?_
          · refine ⟨?_, ?_, ?_, ?_, ?_, ?_, ?_, ?_, ?_, ?_, ?_, ?_, ?_, ?_, ?_, ?_, ?_, ?_, ?_, ?_, ?_, ?_, ?_, ?_, trivial⟩
            · intro a W hb0 hs hp hi; have hb := undrew hb0; clear hb0
              have t32 : sl a 32 = .int .i64 0 := hi 32 (by decide)
              exact ite_y rfl (wp_val (sl a 32) rfl ⟨_, rfl, Below.refl _ _, t32⟩)
            · intro a W hb0 hs hp hi; have hb := undrew hb0; clear hb0
              have t199 : sl a 199 = .int .i64 0 := hp 0 (by decide)
              refine ite_y rfl (wp_val (.bool false) ?_ ?_)
              · simp only [execOp, eval_tmp, eval_const, t199]; simp [go_sem]
              · exact ⟨_, rfl, Below.refl _ _, rfl⟩
            · intro a W hb0 hs hp hi; have hb := undrew hb0; clear hb0
              have t200 : sl a 200 = .bool false := hp 1 (by decide)
              exact ite_y rfl (wp_val (sl a 200) rfl ⟨_, rfl, Below.refl _ _, t200⟩)
            · intro a W hb0 hs hp hi; have hb := undrew hb0; clear hb0
              have tg : sl a 201 = .bool false := hp 2 (by decide)
              have t16 : sl a 16 = .pointer (some ⟨gt2, 0, none⟩) := hi 16 (by decide)
              exact ite_y (wanted_yes rfl rfl (by have hz : a.tmps.size = 237 := hs; rw [hz]; decide) tg) (wp_val (sl a 16) rfl ⟨_, rfl, Below.refl _ _, t16⟩)
            · intro a W hb0 hs hp hi; have hb := undrew hb0; clear hb0
              have tg : sl a 201 = .bool false := hp 2 (by decide)
              have t202 : sl a 202 = .pointer (some ⟨gt2, 0, none⟩) := hp 3 (by decide)
              refine ite_y (wanted_yes rfl rfl (by have hz : a.tmps.size = 237 := hs; rw [hz]; decide) tg) (wp_enter 21 #[.pointer (some ⟨gt2, 0, none⟩)] ?_ (HTk2.out _ hb) ?_)
              · simp only [execOp, resolve, List.map_toArray, List.map, eval_tmp, eval_func, eval_const, t202]; simp [go_sem]
              · rintro e W' ⟨rfl, rfl⟩; exact ⟨_, rfl, _, rfl, Below.refl _ _, rfl⟩
            · intro a W hb0 hs hp hi; have hb := undrew hb0; clear hb0
              have tg : sl a 201 = .bool false := hp 2 (by decide)
              have tt : sl a 31 = .pointer (some ⟨g31, 0, none⟩) := hi 31 (by decide)
              have dd0 := (hb.cell (p := ⟨g31, 0, none⟩) (lt_of_cell b0)).trans b0
              have dd1 := (hb.cell (p := ⟨g31, 1, none⟩) (lt_of_cell b1)).trans b1
              have dd2 := (hb.cell (p := ⟨g31, 2, none⟩) (lt_of_cell b2)).trans b2
              refine ite_y (wanted_yes rfl rfl (by have hz : a.tmps.size = 237 := hs; rw [hz]; decide) tg) (wp_val (.agg #[.int .i64 (j3 : Nat), .int .i64 (k : Nat), .slice qg ng cg]) ?_ ?_)
              · simp only [execOp, eval_tmp, tt]; simp [go_sem, dd0, dd1, dd2]
              · exact ⟨_, rfl, Below.refl _ _, rfl⟩
            · intro a W hb0 hs hp hi; have hb := undrew hb0; clear hb0
              have tg : sl a 201 = .bool false := hp 2 (by decide)
              have t204 : sl a 204 = .agg #[.int .i64 (j3 : Nat), .int .i64 (k : Nat), .slice qg ng cg] := hp 5 (by decide)
              refine ite_y (wanted_yes rfl rfl (by have hz : a.tmps.size = 237 := hs; rw [hz]; decide) tg) (wp_enter 26 #[.agg #[.int .i64 (j3 : Nat), .int .i64 (k : Nat), .slice qg ng cg]] ?_ (HGR.out _ hb) ?_)
              · simp only [execOp, resolve, List.map_toArray, List.map, eval_tmp, eval_func, eval_const, t204]; simp [go_sem]
              · rintro e W' ⟨rfl, hw⟩; exact ⟨_, rfl, _, rfl, hw, rfl⟩
            · intro a W hb0 hs hp hi; have hb := undrew hb0; clear hb0
              have tg : sl a 201 = .bool false := hp 2 (by decide)
              have t203 : sl a 203 = .int .i64 (r2 : Nat) := hp 4 (by decide)
              have t205 : sl a 205 = .int .i64 (r2 : Nat) := hp 6 (by decide)
              refine ite_y (wanted_yes rfl rfl (by have hz : a.tmps.size = 237 := hs; rw [hz]; decide) tg) (wp_val (.bool false) ?_ ?_)
              · simp only [execOp, eval_tmp, eval_const, t203, t205]; simp [go_sem, hne2]
              · exact ⟨_, rfl, Below.refl _ _, rfl⟩
            · intro a W hb0 hs hp hi; have hb := undrew hb0; clear hb0
              have t201 : sl a 201 = .bool false := hp 2 (by decide)
              have t206 : sl a 206 = .bool false := hp 7 (by decide)
              refine ite_y rfl (wp_val (.bool false) ?_ ?_)
              · simp only [execOp, eval_tmp, eval_const, t201, t206]; simp [go_sem]
              · exact ⟨_, rfl, Below.refl _ _, rfl⟩
            · intro a W hb0 hs hp hi; have hb := undrew hb0; clear hb0
              have t207 : sl a 207 = .bool false := hp 8 (by decide)
              exact ite_y rfl (wp_val (sl a 207) rfl ⟨_, rfl, Below.refl _ _, t207⟩)
            · intro a W hb0 hs hp hi; have hb := undrew hb0; clear hb0
              have tg : sl a 208 = .bool false := hp 9 (by decide)
              have t16 : sl a 16 = .pointer (some ⟨gt2, 0, none⟩) := hi 16 (by decide)
              exact ite_y (wanted_yes rfl rfl (by have hz : a.tmps.size = 237 := hs; rw [hz]; decide) tg) (wp_val (sl a 16) rfl ⟨_, rfl, Below.refl _ _, t16⟩)
            · intro a W hb0 hs hp hi; have hb := undrew hb0; clear hb0
              have tg : sl a 208 = .bool false := hp 9 (by decide)
              have t209 : sl a 209 = .pointer (some ⟨gt2, 0, none⟩) := hp 10 (by decide)
              refine ite_y (wanted_yes rfl rfl (by have hz : a.tmps.size = 237 := hs; rw [hz]; decide) tg) (wp_enter 21 #[.pointer (some ⟨gt2, 0, none⟩)] ?_ (HTk2.out _ hb) ?_)
              · simp only [execOp, resolve, List.map_toArray, List.map, eval_tmp, eval_func, eval_const, t209]; simp [go_sem]
              · rintro e W' ⟨rfl, rfl⟩; exact ⟨_, rfl, _, rfl, Below.refl _ _, rfl⟩
            · intro a W hb0 hs hp hi; have hb := undrew hb0; clear hb0
              have tg : sl a 208 = .bool false := hp 9 (by decide)
              have t14 : sl a 14 = .pointer (some ⟨gr, 0, none⟩) := hi 14 (by decide)
              exact ite_y (wanted_yes rfl rfl (by have hz : a.tmps.size = 237 := hs; rw [hz]; decide) tg) (wp_val (sl a 14) rfl ⟨_, rfl, Below.refl _ _, t14⟩)
            · intro a W hb0 hs hp hi; have hb := undrew hb0; clear hb0
              have tg : sl a 208 = .bool false := hp 9 (by decide)
              have tt : sl a 211 = .pointer (some ⟨gr, 0, none⟩) := hp 12 (by decide)
              refine ite_y (wanted_yes rfl rfl (by have hz : a.tmps.size = 237 := hs; rw [hz]; decide) tg) (wp_val (.pointer (some ⟨gr, 0, none⟩)) ?_ ?_)
              · simp only [execOp, eval_tmp, tt]; simp [go_sem]
              · exact ⟨_, rfl, Below.refl _ _, rfl⟩
            · intro a W hb0 hs hp hi; have hb := undrew hb0; clear hb0
              have tg : sl a 208 = .bool false := hp 9 (by decide)
              have t212 : sl a 212 = .pointer (some ⟨gr, 0, none⟩) := hp 13 (by decide)
              refine ite_y (wanted_yes rfl rfl (by have hz : a.tmps.size = 237 := hs; rw [hz]; decide) tg) (wp_val (.pointer (some ⟨gr, 0, none⟩)) ?_ ?_)
              · simp only [execOp, eval_tmp, eval_const, t212]; simp [go_sem]
              · exact ⟨_, rfl, Below.refl _ _, rfl⟩
            · intro a W hb0 hs hp hi; have hb := undrew hb0; clear hb0
              have tg : sl a 208 = .bool false := hp 9 (by decide)
              have tt : sl a 213 = .pointer (some ⟨gr, 0, none⟩) := hp 14 (by decide)
              have dd := (hb.cell (p := ⟨gr, 0, none⟩) (lt_of_cell r0)).trans r0
              refine ite_y (wanted_yes rfl rfl (by have hz : a.tmps.size = 237 := hs; rw [hz]; decide) tg) (wp_val (.pointer (some ⟨gt, 0, none⟩)) ?_ ?_)
              · simp only [execOp, eval_tmp, tt]; simp [go_sem, dd]
              · exact ⟨_, rfl, Below.refl _ _, rfl⟩
            · intro a W hb0 hs hp hi; have hb := undrew hb0; clear hb0
              have tg : sl a 208 = .bool false := hp 9 (by decide)
              have t214 : sl a 214 = .pointer (some ⟨gt, 0, none⟩) := hp 15 (by decide)
              refine ite_y (wanted_yes rfl rfl (by have hz : a.tmps.size = 237 := hs; rw [hz]; decide) tg) (wp_enter 21 #[.pointer (some ⟨gt, 0, none⟩)] ?_ (HTk1.out _ hb) ?_)
              · simp only [execOp, resolve, List.map_toArray, List.map, eval_tmp, eval_func, eval_const, t214]; simp [go_sem]
              · rintro e W' ⟨rfl, rfl⟩; exact ⟨_, rfl, _, rfl, Below.refl _ _, rfl⟩
            · intro a W hb0 hs hp hi; have hb := undrew hb0; clear hb0
              have tg : sl a 208 = .bool false := hp 9 (by decide)
              have t210 : sl a 210 = .int .i64 (r2 : Nat) := hp 11 (by decide)
              have t215 : sl a 215 = .int .i64 (r1n : Nat) := hp 16 (by decide)
              refine ite_y (wanted_yes rfl rfl (by have hz : a.tmps.size = 237 := hs; rw [hz]; decide) tg) (wp_val (.bool false) ?_ ?_)
              · simp only [execOp, eval_tmp, eval_const, t210, t215]; simp [go_sem, hle2]
              · exact ⟨_, rfl, Below.refl _ _, rfl⟩
            · intro a W hb0 hs hp hi; have hb := undrew hb0; clear hb0
              have t208 : sl a 208 = .bool false := hp 9 (by decide)
              have t216 : sl a 216 = .bool false := hp 17 (by decide)
              refine ite_y rfl (wp_val (.bool false) ?_ ?_)
              · simp only [execOp, eval_tmp, eval_const, t208, t216]; simp [go_sem]
              · exact ⟨_, rfl, Below.refl _ _, rfl⟩
            · intro a W hb0 hs hp hi; have hb := undrew hb0; clear hb0
              have t217 : sl a 217 = .bool false := hp 18 (by decide)
              exact ite_y rfl (wp_val (sl a 217) rfl ⟨_, rfl, Below.refl _ _, t217⟩)
            · intro a W hb0 hs hp hi; have hb := undrew hb0; clear hb0
              have tg : sl a 218 = .bool false := hp 19 (by decide)
              have t16 : sl a 16 = .pointer (some ⟨gt2, 0, none⟩) := hi 16 (by decide)
              exact ite_y (wanted_yes rfl rfl (by have hz : a.tmps.size = 237 := hs; rw [hz]; decide) tg) (wp_val (sl a 16) rfl ⟨_, rfl, Below.refl _ _, t16⟩)
            · intro a W hb0 hs hp hi; have hb := undrew hb0; clear hb0
              have tg : sl a 218 = .bool false := hp 19 (by decide)
              have t219 : sl a 219 = .pointer (some ⟨gt2, 0, none⟩) := hp 20 (by decide)
              refine ite_y (wanted_yes rfl rfl (by have hz : a.tmps.size = 237 := hs; rw [hz]; decide) tg) (wp_enter 27 #[.pointer (some ⟨gt2, 0, none⟩)] ?_ (HSt2.out _ hb) ?_)
              · simp only [execOp, resolve, List.map_toArray, List.map, eval_tmp, eval_func, eval_const, t219]; simp [go_sem]
              · rintro e W' ⟨rfl, rfl⟩; exact ⟨_, rfl, _, rfl, Below.refl _ _, rfl⟩
            · intro a W hb0 hs hp hi; have hb := undrew hb0; clear hb0
              have tg : sl a 218 = .bool false := hp 19 (by decide)
              have t220 : sl a 220 = .int .i64 (s2 : Nat) := hp 21 (by decide)
              refine ite_y (wanted_yes rfl rfl (by have hz : a.tmps.size = 237 := hs; rw [hz]; decide) tg) (wp_val (.bool false) ?_ ?_)
              · simp only [execOp, eval_tmp, eval_const, t220]; simp [go_sem, hst2]
              · exact ⟨_, rfl, Below.refl _ _, rfl⟩
            · intro a W hb0 hs hp hi; have hb := undrew hb0; clear hb0
              have t218 : sl a 218 = .bool false := hp 19 (by decide)
              have t221 : sl a 221 = .bool false := hp 22 (by decide)
              refine ite_y rfl (wp_val (.bool false) ?_ ?_)
              · simp only [execOp, eval_tmp, eval_const, t218, t221]; simp [go_sem]
              · exact ⟨_, rfl, Below.refl _ _, rfl⟩
          intro a wD hb hs hd hI ht
          have ha := act_is [199, 200, 201, 202, 203, 204, 205, 206, 207, 208, 209, 210, 211, 212, 213, 214, 215, 216, 217, 218, 219, 220, 221, 222] hs hd ht (by decide)
          have t222 : sl a 222 = .bool false := hI 23 (by decide)
          simp only [List.foldl, t222] at ha
          generalize sl a 199 = u199 at ha
          generalize sl a 200 = u200 at ha
          generalize sl a 201 = u201 at ha
          generalize sl a 202 = u202 at ha
          generalize sl a 203 = u203 at ha
          generalize sl a 204 = u204 at ha
          generalize sl a 205 = u205 at ha
          generalize sl a 206 = u206 at ha
          generalize sl a 207 = u207 at ha
          generalize sl a 208 = u208 at ha
          generalize sl a 209 = u209 at ha
          generalize sl a 210 = u210 at ha
          generalize sl a 211 = u211 at ha
          generalize sl a 212 = u212 at ha
          generalize sl a 213 = u213 at ha
          generalize sl a 214 = u214 at ha
          generalize sl a 215 = u215 at ha
          generalize sl a 216 = u216 at ha
          generalize sl a 217 = u217 at ha
          generalize sl a 218 = u218 at ha
          generalize sl a 219 = u219 at ha
          generalize sl a 220 = u220 at ha
          generalize sl a 221 = u221 at ha
          simp only [Act.put, List.setIfInBounds_toArray, List.set_cons_zero, List.set_cons_succ] at ha
          rw [ha]
          clear ha hI ht
          have HD := Lib.hid (HC.out.keep hb)
          have DD := Lib.hid (DC.out.keep hb)
          clear hb HC DC GC r0 r1 b0 b1 b2 HTk2 HTk1 HSt2 HGR HRK hne2 hle2 hst2
          rcases hst01 with h0 | h0
          · have hobj : Calls Tryz.prog 28 #[.pointer (some ⟨gt2, 0, none⟩)] wD fun e w' => e = .returned (.tuple #[.slice none 0 0, .int .i64 12]) ∧ wD = w' := by
              obtain ⟨M, C, h⟩ := HD.out.tk
              rw [← hs2, h0] at h
              exact TObject_none _ _ _ _ _ _ _ _ _ _ _ _ 0 wD h (.inl rfl)
            have HOJ := Lib.hid hobj
            clear hobj h0 hs2
            go_wp2_with fail
            refine Calls.mono HOJ.out ?_
            rintro e wE ⟨rfl, rfl⟩
            go_wp2
            go_roundw
            case rel => have hj3 := HJ3.out; exact ⟨j3, nr + 1, m2 + 1, _, _, _, by omega, by rw [hj3]; go_num, by omega, by omega, HD.out, DD.out, HSpn.out⟩
            case measure => simp [intOf]; omega
          · have hobj : Calls Tryz.prog 28 #[.pointer (some ⟨gt2, 0, none⟩)] wD (RetL wD o 0) := by
              have hKk3 : K3.length = k := by
                rw [hs2] at h0; unfold stF at h0
                by_cases hh : K3.length = k
                · exact hh
                · rw [if_neg hh] at h0; cases h0
              obtain ⟨M, C, h⟩ := HD.out.tk
              rw [← hs2, h0] at h
              have := TObject_done _ _ _ _ _ _ _ _ _ _ _ _ wD h hKk3
              rw [HD.out.o2.data HFl.out HFk.out hKk3, HJO.out] at this
              exact this
            have HOJ := Lib.hid hobj
            clear hobj h0 hs2
            go_wp2_with fail
            refine Calls.mono HOJ.out ?_
            rintro e wE ⟨qo, no, co, rfl, ho, hb⟩
            have HE := Lib.hid (HD.out.keep hb)
            have DE := Lib.hid (DD.out.keep hb)
            have hsame := Same_any qo q0 no L co c0 o o wE ho (H0.out.keep HE.out.bel)
            rw [decide_eq_true rfl] at hsame
            have HSA := Lib.hid hsame
            clear hb ho hsame HD DD HOJ
            go_wp2_with fail
            refine Calls.mono HSA.out ?_
            rintro e wF ⟨rfl, hb⟩
            have HF := Lib.hid (HE.out.keep hb)
            have DF := Lib.hid (DE.out.keep hb)
            clear hb HE DE HSA
            go_wp2
            go_roundw
            case rel => have hj3 := HJ3.out; exact ⟨j3, nr + 1, m2 + 1, _, _, _, by omega, by rw [hj3]; go_num, by omega, by omega, HF.out, DF.out, HSpn.out⟩
            case measure => simp [intOf]; omega
        · have hlt2' : ¬ (i2 : Int) < (n2 : Int) := by omega
          go_wp2
          go_ret
          exact ⟨rfl, HQ.out.bel⟩
end Go.Proofs.YtcfdopiponlboaaGreatDoor
namespace Go.Proofs.YtcfdopiponlboaaGreatDoor
open Go.RowKit Go.By Go.Maps
set_option maxRecDepth 100000 in
set_option maxHeartbeats 4000000 in
/-- an object that no plan fits, or a plan that is too large, or too much: nothing is asked -/
theorem RelayHolds_out (q0 : Option Addr) (n0 c0 : Nat) (o : List UInt8) (s d : Int) (p1 : Option Addr) (n1 c1 : Nat) (p2 : Option Addr) (n2 c2 : Nat) (w : World) (h0 : Sl B8 w q0 n0 c0 o) (hT : HalfT w)
    (b1 : n1 ≤ 9223372036854775807) (b2 : n2 ≤ 9223372036854775807) (hx : ¬ (fitS n0 s = 0 ∧ small19 n0 s (needS n0 s) = true ∧ n1 ≤ 20 ∧ n2 ≤ 20)) :
    Calls Tryz.prog 4 #[.slice q0 n0 c0, .int .i64 s, .int .u32 d, .slice p1 n1 c1, .slice p2 n2 c2] w fun e w' => e = .returned (.bool true) ∧ Below w.heap.size w w' := by
  have hn0 := h0.bound
  have HT := Lib.hid hT
  have HOf := Lib.hid (fun w => POf_any (n0 : Int) s d w (by omega))
  have HSm := Lib.hid (fun w => Small19_any (n0 : Int) s (needS n0 s) d w (by omega))
  clear hT h0
  by_cases hf : fitS n0 s = 0
  · have hof : ofS (n0 : Int) s d = .tuple #[.agg #[.int .i64 n0, .int .i64 s, .int .i64 (needS n0 s), .int .u32 d], .int .i64 0] := by unfold ofS; rw [if_pos hf]
    rw [hof] at HOf
    generalize small19 n0 s (needS n0 s) = S at *
    generalize needS n0 s = k at *
    cases S with
    | false =>
      clear hx hf hof
      go_enter Tryz.func4, Tryz.ntmps4
      go_wp2_with fail
      refine Calls.mono (awake21 _ HT.out) ?_
      rintro e wa ⟨rfl, hb⟩
      have HBa := Lib.hid hb
      clear hb
      go_wp2_with fail
      refine Calls.mono (HOf.out _) ?_
      rintro e wb ⟨rfl, hb⟩
      have HBb := Lib.hid (bl HBa.out hb HBa.out.size)
      clear hb HBa
      go_wp2_with fail
      refine Calls.mono (HSm.out _) ?_
      rintro e wc ⟨rfl, hb⟩
      have HBc := Lib.hid (bl HBb.out (one_of hb).1 HBb.out.size)
      clear hb HBb
      go_wp2
      go_ret
      exact ⟨rfl, HBc.out⟩
    | true =>
      by_cases h1 : n1 ≤ 20
      · have h2 : (20 : Int) < (n2 : Int) := by
          have : ¬ n2 ≤ 20 := fun h => hx ⟨hf, rfl, h1, h⟩
          omega
        have h1' : ¬ (20 : Int) < (n1 : Int) := by omega
        clear hx hf hof
        go_enter Tryz.func4, Tryz.ntmps4
        go_wp2_with fail
        refine Calls.mono (awake21 _ HT.out) ?_
        rintro e wa ⟨rfl, hb⟩
        have HBa := Lib.hid hb
        clear hb
        go_wp2_with fail
        refine Calls.mono (HOf.out _) ?_
        rintro e wb ⟨rfl, hb⟩
        have HBb := Lib.hid (bl HBa.out hb HBa.out.size)
        clear hb HBa
        go_wp2_with fail
        refine Calls.mono (HSm.out _) ?_
        rintro e wc ⟨rfl, hb⟩
        have HBc := Lib.hid (bl HBb.out (one_of hb).1 HBb.out.size)
        clear hb HBb
        go_wp2
        go_ret
        exact ⟨rfl, HBc.out⟩
      · have h1' : (20 : Int) < (n1 : Int) := by omega
        clear hx hf hof
        go_enter Tryz.func4, Tryz.ntmps4
        go_wp2_with fail
        refine Calls.mono (awake21 _ HT.out) ?_
        rintro e wa ⟨rfl, hb⟩
        have HBa := Lib.hid hb
        clear hb
        go_wp2_with fail
        refine Calls.mono (HOf.out _) ?_
        rintro e wb ⟨rfl, hb⟩
        have HBb := Lib.hid (bl HBa.out hb HBa.out.size)
        clear hb HBa
        go_wp2_with fail
        refine Calls.mono (HSm.out _) ?_
        rintro e wc ⟨rfl, hb⟩
        have HBc := Lib.hid (bl HBb.out (one_of hb).1 HBb.out.size)
        clear hb HBb
        go_wp2
        go_ret
        exact ⟨rfl, HBc.out⟩
  · have hz : (fitS n0 s != 0) = true := bne_iff_ne.2 hf
    rw [of_none hf] at HOf
    clear hx hf HSm
    generalize fitS n0 s = F at *
    go_enter Tryz.func4, Tryz.ntmps4
    go_wp2_with fail
    refine Calls.mono (awake21 _ HT.out) ?_
    rintro e wa ⟨rfl, hb⟩
    have HBa := Lib.hid hb
    clear hb
    go_wp2_with fail
    refine Calls.mono (HOf.out _) ?_
    rintro e wb ⟨rfl, hb⟩
    have HBb := Lib.hid (bl HBa.out hb HBa.out.size)
    clear hb HBa
    go_wp2
    go_ret
    exact ⟨rfl, al HBb.out HBb.out.size⟩
theorem RelayHolds_any (q0 : Option Addr) (n0 c0 : Nat) (o : List UInt8) (s d : Int) (p1 : Option Addr) (n1 c1 : Nat) (srcs : List SrcD) (p2 : Option Addr) (n2 c2 : Nat) (dss : List (List UInt8)) (w : World) (h0 : Sl B8 w q0 n0 c0 o) (_w1 : (Lit.int .i64 s).wf = true) (w2 : (Lit.int .u32 d).wf = true) (h1 : SlS w p1 n1 c1 srcs) (h2 : Sl2 w p2 n2 c2 dss) (hT : HalfT w) (hz : ∀ x, x ∈ dss → x.length ≤ 140737488351232) :
    Calls Tryz.prog 4 #[.slice q0 n0 c0, .int .i64 s, .int .u32 d, .slice p1 n1 c1, .slice p2 n2 c2] w fun e w' => e = .returned (.bool true) ∧ Below w.heap.size w w' := by
  have hd := Go.bounds_u32 w2
  by_cases hx : fitS n0 s = 0 ∧ small19 n0 s (needS n0 s) = true ∧ n1 ≤ 20 ∧ n2 ≤ 20
  · obtain ⟨hf, hsm, hn1, hn2⟩ := hx
    obtain ⟨t, k, D, rfl, rfl, hO, hof⟩ := of_obj (n := n0) hf (by have := h0.bound; omega) hd.1 (by omega)
    have hk : needS (n0 : Int) (t : Int) = (k : Int) := by
      have := hO.ok.chk
      unfold checkS at this
      rw [if_pos hf] at this
      by_cases h : (k : Int) = needS n0 t
      · exact h.symm
      · rw [if_neg h] at this; cases this
    rw [hk] at hsm
    have hk12 : k ≤ 12 := by
      have h := hsm
      unfold small19 at h
      rw [if_pos hO.ok.chk, Bool.and_eq_true] at h
      have := of_decide_eq_true h.1
      omega
    exact RelayHolds_core n0 t k D q0 c0 o p1 n1 c1 srcs p2 n2 c2 dss w hO h0 h1 h2 hT hk12 hn1 hn2 hz hof hsm
  · exact RelayHolds_out q0 n0 c0 o s d p1 n1 c1 p2 n2 c2 w h0 hT h1.bound h2.bound hx
end Go.Proofs.YtcfdopiponlboaaGreatDoor
namespace Go.By
open Go.RowKit
theorem spot_none {w : World} {x : Addr} {v : Value} (h : w.cell? (x.add 0) = some v) : ∃ b o, x = ⟨b, o, none⟩ := by
  obtain ⟨b, off, spot⟩ := x
  have hspot : spot = none := by simpa [Addr.add] using World.cell?_spot h
  subst hspot
  exact ⟨b, off, rfl⟩
theorem sl2_of_rows {w : World} {a : Option Addr} {len cap : Nat} (hl : len ≤ cap) (hm : cap ≤ maxLen) (hn : a = none → len = 0 ∧ cap = 0) (A : Nat → Option Addr) (L C : Nat → Nat) (Z : Nat → List Int)
    (h : ∀ x, a = some x → ∀ r, r < cap → w.cell? (x.add r) = some (.slice (A r) (L r) (C r)) ∧ L r ≤ C r ∧ C r ≤ maxLen ∧ (Z r).length = C r ∧ (∀ n ∈ Z r, (Lit.int .u8 n).wf = true) ∧ (A r = none → C r = 0) ∧
        ∀ a', A r = some a' → ∀ c, c < C r → w.cell? (a'.add c) = some (.int .u8 ((Z r).getD c 0))) : ∃ xss, Sl2 w a len cap xss := by
  have each : ∀ r, ∃ xs, r < len → Sl B8 w (A r) (L r) (C r) xs := by
    intro r
    by_cases hr : r < len
    · cases ha : a with
      | none => have := hn ha; omega
      | some x =>
        obtain ⟨_, h1, h2, h3, h4, h5, h6⟩ := h x ha r (by omega)
        cases hA : A r with
        | none =>
          have := h5 hA
          have hL : L r = 0 := by omega
          exact ⟨[], fun _ => by rw [hL, this]; exact Sl.nil0 _ _⟩
        | some a' =>
          obtain ⟨xs, hx⟩ := sl_of_row (w := w) (a := some a') (len := L r) (cap := C r) (zs := Z r) (.inr ⟨a', rfl, h1, h2, h3, fun i hi => h6 a' hA i (by omega), h4⟩)
          exact ⟨xs, fun _ => hx⟩
    · exact ⟨[], fun h => absurd h hr⟩
  refine ⟨(List.range len).map fun r => Classical.choose (each r), ⟨by simp, hl, hm, hn, ?_⟩⟩
  intro i xs hi
  obtain ⟨hi', e⟩ := List.getElem?_eq_some_iff.1 hi
  simp at hi' e
  have hs := Classical.choose_spec (each i) hi'
  rw [e] at hs
  cases ha : a with
  | none => have := hn ha; omega
  | some x =>
    obtain ⟨hc, _⟩ := h x ha i (by omega)
    obtain ⟨b, o, rfl⟩ := spot_none (h x ha 0 (by omega)).1
    rw [Addr.add_lit] at hc
    exact ⟨b, o, A i, C i, rfl, by rw [hs.len]; exact hc, by rw [hs.len]; exact hs⟩
end Go.By
namespace Go.Proofs.YtcfdopiponlboaaGreatDoor
open Go.RowKit Go.By
theorem halves_of {rest : List (String × DataW Unit)} {W : World} (h : laidMet Tryz.prog (("wellspring/sum.halves", Rows.laid_wellspring_sum_halves) :: rest) W) : HalfT W := by
  obtain ⟨zs, hz, hzl, hzc⟩ : ∃ zs : List Int, (Rows.laid_wellspring_sum_halves : DataW Unit) = Lib.tabData .u32 zs ∧ zs.length = 16 ∧ ∀ i, i < 16 → zs.getD i 0 = ((crcTab.getD i 0 : Nat) : Int) := ⟨[0, 498536548, 997073096, 651767980, 1994146192, 1802195444, 1303535960, 1342533948, 3988292384, 4027552580, 3604390888, 3412177804, 2607071920, 2262029012, 2685067896, 3183342108], rfl, rfl, by decide⟩
  rw [hz] at h
  have h3 := Lib.tabIs_of_head (g := 0) (t := 183) (e := 22) (n := 16) (by kernel_rfl) (by kernel_rfl) (by kernel_rfl) (by kernel_rfl) (by kernel_rfl) (by kernel_rfl) h
  intro i hi
  have := h3.cell (g := 0) (by kernel_rfl) i (by omega)
  rw [hzc i hi] at this
  exact this
end Go.Proofs.YtcfdopiponlboaaGreatDoor
namespace Go.Proofs.YtcfdopiponlboaaGreatDoor
open Go.RowKit Go.By Go.ChangeShapes Go.WideShapes Go.Deep
section
variable {H : Type} {enc : TypeId × Value → H} {P : Program} {w : World} {base : Nat} {held : Bool}
theorem weightsAll_in {e : TypeId} : ∀ {l : List (DataW H)} {d : DataW H}, d ∈ l → ∀ n ∈ d.weights P e, n ∈ DataW.weightsAll P e l
  | x :: l, d, h, n, hn => by
    simp only [DataW.weightsAll, List.mem_append]
    rcases List.mem_cons.1 h with rfl | h
    · exact Or.inl hn
    · exact Or.inr (weightsAll_in h n hn)
theorem open_rowz {t e q : TypeId} {p : Option Addr} {n c jj : Nat} {d : DataW H} {pl : List MemPlace} {ts : List TypeId} {ds : List (DataW H)} (ht : P.underlying t = some (.slice e)) (he : P.underlying e = some (.slice q)) (hq : P.underlying q = some (.int .u8)) (ce : P.cellsOf e = 1) (cq : P.cellsOf q = 1) (bq : P.bytesOf q = 1)
    (h : DataW.Trod enc P w base (fun _ => true) held t (.slice p n c) d pl) (hsz : (DataW.weightsEach P ts ds).all (· ≤ reachBytes) = true) (hts : ts[jj]? = some t) (hds : ds[jj]? = some d) :
    ∃ xss, Sl2 w p n c xss ∧ ∀ x, x ∈ xss → x.length ≤ 140737488351232 := by
  obtain ⟨fuel, hf⟩ := h
  rcases open_int_rows ht he hq ce cq hf with ⟨hcs, _⟩ | ⟨x, l, c', AA, LL, CC, ZZ, hcs, _, hl, hm, hx, hr⟩
  · simp [Value.cells] at hcs
    obtain ⟨rfl, rfl, rfl⟩ := hcs
    exact ⟨[], Sl2.nil0 _, fun x hx => by simp at hx⟩
  · simp [Value.cells] at hcs
    obtain ⟨rfl, rfl, rfl⟩ := hcs
    obtain ⟨xss, hS⟩ := sl2_of_rows (a := some x) (w := w) hl hm (fun h => by simp at h) AA LL CC ZZ (fun y hy r hr' => by
      cases hy
      obtain ⟨g1, g2, g3, g4, g5, g6, g7⟩ := hr r hr'
      exact ⟨g1, g2, g3, g4, g5, g6, fun a' ha' => (g7 a' ha').2⟩)
    refine ⟨xss, hS, fun y hy => ?_⟩
    obtain ⟨i, hi, rfl⟩ := List.getElem_of_mem hy
    have hin : i < n := by rw [← hS.len]; exact hi
    obtain ⟨b, o, q', c'', e1, hc, hs⟩ := hS.rs i _ (List.getElem?_eq_getElem hi)
    have e1' : x = ⟨b, o, none⟩ := Option.some.inj e1
    subst e1'
    obtain ⟨g1, g2, g3, g4, g5, g6, g7⟩ := hr i (by omega)
    rw [Addr.add_lit] at g1
    rw [hc] at g1
    simp only [Option.some.injEq, Value.slice.injEq] at g1
    obtain ⟨k1, k2, k3⟩ := g1
    simp only [Prod.mk.injEq] at hx
    have hd := hx.1
    cases hA : AA i with
    | none => have := g6 hA; omega
    | some a' =>
      have hmem : intRow (H := H) .u8 (AA i) (LL i) (ZZ i) ∈ (List.range n).map fun r => intRow .u8 (AA r) (LL r) (ZZ r) := List.mem_map.2 ⟨i, List.mem_range.2 hin, rfl⟩
      have hw := List.all_eq_true.1 hsz ((lits (H := H) .u8 ((ZZ i).take (LL i))).length + (lits (H := H) .u8 ((ZZ i).drop (LL i))).length) (DataW.weights_mem_each hts hds _ (by
        rw [hd]
        simp only [DataW.weights, ht]
        refine List.mem_cons_of_mem _ (List.mem_append_left _ (weightsAll_in hmem _ ?_))
        simp [intRow, hA, DataW.weights, he, bq]))
      simp only [lits, List.length_map, List.length_take, List.length_drop, reachBytes, decide_eq_true_eq] at hw
      omega
end
end Go.Proofs.YtcfdopiponlboaaGreatDoor
