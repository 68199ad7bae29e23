/- Chapter 22: TripRuns, of a plan and an object that fit. Chapter 22: TripRuns, of whatever comes. Arguments that came in: slices of byte slices. The table of the sum, out of the row's condition. -/
import Derived.Test.YtfbmdlfkipipfaaGreatDoorZw8
import Derived.OpenShut
import Derived.Deep.Matrix
import Derived.Test.YtfbmdlfkipipfaaGreatDoorRows
import Derived.Lib.LaidTab
namespace Go.Proofs.YtfbmdlfkipipfaaGreatDoor
open Go.RowKit Go.By Gf Go.Maps
/-- a report, in memory -/
def Held (B g m0 m rr ss : Nat) (q : Option Addr) (c : Nat) (q2 : Option Addr) (n2 c2 : Nat) (SV : List Value) (OB : List UInt8) (W : World) : Prop :=
  W.heap[g]? = some (.cells #[.int .i64 (m0 : Nat), .slice q m c, .int .i64 (rr : Nat), .int .i64 (ss : Nat), .slice q2 n2 c2] 85 (0, 0)) ∧ W.ownsRow B 90 3 (.slice q m c) m SV ∧ Fresh 5 B W q2 n2 c2 OB
section
variable {B g m0 m rr ss c n2 c2 : Nat} {q q2 : Option Addr} {SV : List Value} {OB : List UInt8} {w w' : World}
theorem Held.keep (h : Held B g m0 m rr ss q c q2 n2 c2 SV OB w) (hb : Below w.heap.size w w') : Held B g m0 m rr ss q c q2 n2 c2 SV OB w' :=
  ⟨(hb.block _ (lt_of_block h.1)).trans h.1, owns_keepv h.2.1 hb, h.2.2.keep hb⟩
theorem Held.same (h : Held B g m0 m rr ss q c q2 n2 c2 SV OB w) (hs : w.heap.size ≤ w'.heap.size) (h1 : ∀ (b : Nat) (cs : Array Value) (fr : Nat × Nat), w.heap[b]? = some (.cells cs 85 fr) → w'.heap[b]? = w.heap[b]?) (h2 : ∀ (b : Nat) (cs : Array Value) (fr : Nat × Nat), w.heap[b]? = some (.cells cs 90 fr) → w'.heap[b]? = w.heap[b]?) (h3 : ∀ (b : Nat) (cs : Array Value) (fr : Nat × Nat), w.heap[b]? = some (.cells cs 5 fr) → w'.heap[b]? = w.heap[b]?) : Held B g m0 m rr ss q c q2 n2 c2 SV OB w' :=
  ⟨(h1 _ _ _ h.1).trans h.1, KeepR.owns h2 hs h.2.1, fresh_same h.2.2 h3⟩
theorem Held.keepS (h : Held B g m0 m rr ss q c q2 n2 c2 SV OB w) (hk : KeepS w w') : Held B g m0 m rr ss q c q2 n2 c2 SV OB w' :=
  h.same hk.size (hk.same _ os_rep) (hk.same _ os_step) (hk.same _ os_u8)
end
/-- taker.Object -/
theorem TObj_any (base gt be L t k D N : Nat) (M v : Value) (C : DataW Unit) (K : List Rw) (st : Nat) (w : World) (h : Tkr w base gt be L t k D N M v C K st) (hs : st ≤ 2) (hl : st = 1 → K.length = k) :
    Calls Tryz.prog 35 #[.pointer (some ⟨gt, 0, none⟩)] w fun e w' => ∃ q n c code, e = .returned (.tuple #[.slice q n c, .int .i64 code]) ∧ Sl B8 w' q n c (if st = 1 then (joinS (L : Int) (t : Int) (k : Int) (K.map (fun x : Rw => x.2))).1 else []) ∧ Below w.heap.size w w' := by
  by_cases h1 : st = 1
  · subst h1
    refine Calls.mono (TObject_done base gt be L t k D N M v C K w h (hl rfl)) ?_
    rintro e w' ⟨q, n, c, rfl, h2, hb⟩
    exact ⟨q, n, c, _, rfl, by rw [if_pos rfl]; exact h2, hb⟩
  · refine Calls.mono (TObject_none base gt be L t k D N M v C K st w h (by omega)) ?_
    rintro e w' ⟨rfl, rfl⟩
    exact ⟨none, 0, 0, _, rfl, by rw [if_neg h1]; exact Sl.nil0 _ _, Below.refl _ _⟩
set_option maxRecDepth 100000 in
set_option maxHeartbeats 8000000 in
theorem TripRuns_core (L t k D : Nat) (q0 : Option Addr) (c0 : Nat) (o : List UInt8) (p1 : Option Addr) (n1 c1 : Nat) (srcs : List SrcD) (p2 : Option Addr) (n2 c2 : Nat) (acs : List ActD) (w : World) (hP : POK L t k D) (hfit : ∀ i : Nat, i < k → i * t ≤ L) (h0 : Sl B8 w q0 L c0 o) (h1 : SlS w p1 n1 c1 srcs) (h2 : SlA w p2 n2 c2 acs) (hT : HalfT w)
    (hn1 : n1 ≤ 20) (hn2 : n2 ≤ 40) (hsr : ∀ a, a ∈ srcs → a.xs.length ≤ 1000000) (har : ∀ a, a ∈ acs → Room a.bs.length) (hfw : few22 L srcs acs = true) (hsm : small19 L t k = true) :
    Calls Tryz.prog 6 #[PVal L t k D, .slice q0 L c0, .slice p1 n1 c1, .slice p2 n2 c2] w fun e w' => e = .returned (.bool true) ∧ Below w.heap.size w w' := by
  have HT := Lib.hid hT
  have HPK := Lib.hid hP
  have HF := Lib.hid hfit
  have H0 := Lib.hid h0
  have H1 := Lib.hid h1
  have H2 := Lib.hid h2
  have HSR := Lib.hid hsr
  have HAR := Lib.hid har
  have hk1 := hP.k1
  have ht2 := hP.t2
  obtain ⟨FX, hFX⟩ : ∃ FX, FX = (List.range k).map (pieceS o t) := ⟨_, rfl⟩
  have HFl : Hid (∀ x, x ∈ FX → x.length = t) := by rw [hFX]; exact pieces_len.1
  have HFk : Hid (FX.length = k) := by rw [hFX]; exact pieces_len.2
  obtain ⟨came, hcame⟩ : ∃ came, came = (playS (initS (sendsS D k FX srcs)) acs).map (·.1) := ⟨_, rfl⟩
  have HRun : Hid (∀ W, Below w.heap.size w W → Calls Tryz.prog 39 #[PVal L t k D, .slice q0 L c0, .slice p1 n1 c1, .slice p2 n2 c2] W (RunRet W L t k D (sendsS D k FX srcs).length came)) := fun W hb => by
    rw [hcame, hFX]
    exact Run_ok L t k D q0 c0 o p1 n1 c1 srcs p2 n2 c2 acs W hP hfit (h0.keep hb) (h1.keep hb) (h2.keep hb) (hT.keep hb) (by omega) (by omega) hsr har
  have HFew : Hid (∀ W, Below w.heap.size w W → Calls Tryz.prog 38 #[.slice q0 L c0, .slice p1 n1 c1, .slice p2 n2 c2] W fun e w' => e = .returned (.bool true) ∧ Below W.heap.size W w') := fun W hb => by
    have := Few22_any q0 L c0 p1 n1 c1 srcs p2 n2 c2 acs W h0.bound (h1.keep hb) (h2.keep hb)
    rw [hfw] at this; exact this
  have HSm : Hid (∀ w, Calls Tryz.prog 29 #[PVal L t k D] w fun e w' => e = .returned (.bool true) ∧ Below w.heap.size w w') := fun w => by have := Small19_any L t k D w hP.l; rw [hsm] at this; exact this
  have HFX := Lib.hid hFX
  have HCM := Lib.hid hcame
  clear hT hP hfit h0 h1 h2 hsr har hFX hcame hfw hsm
  go_enter Tryz.func6, Tryz.ntmps6
  go_wp2_with fail
  have ba : Below w.heap.size w (w.alloc (.cells #[.int .i64 (L : Nat), .int .i64 (t : Nat), .int .i64 (k : Nat), .int .u32 (D : Nat)] 27 (0, 0))) := al (Below.refl _ _) (Nat.le_refl _)
  have hk4 : (w.alloc (.cells #[.int .i64 (L : Nat), .int .i64 (t : Nat), .int .i64 (k : Nat), .int .u32 (D : Nat)] 27 (0, 0))).heap[w.heap.size]? = some (.cells #[.int .i64 (L : Nat), .int .i64 (t : Nat), .int .i64 (k : Nat), .int .u32 (D : Nat)] 27 (0, 0)) := hnew rfl
  refine Calls.mono (awake22 _ (HT.out.keep ba)) ?_
  rintro e wa ⟨rfl, hb⟩
  have HBa := Lib.hid (bl ba hb ba.size)
  have ka := (hb.block _ (lt_of_block hk4)).trans hk4
  clear hb ba hk4
  go_wp2_with fail
  refine Calls.mono (HFew.out _ HBa.out) ?_
  rintro e wb ⟨rfl, hb⟩
  have HBb := Lib.hid (bl HBa.out hb HBa.out.size)
  have kb := (hb.block _ (lt_of_block ka)).trans ka
  clear hb HBa ka
  obtain ⟨z0, z1, z2, z3⟩ := cells_four kb
  go_wp2_with fail
  refine Calls.mono (HSm.out _) ?_
  rintro e wc ⟨rfl, hb⟩
  have HBc := Lib.hid (bl HBb.out hb HBb.out.size)
  have kc := (hb.block _ (lt_of_block kb)).trans kb
  clear hb HBb kb z0 z1 z2 z3
  obtain ⟨z0, z1, z2, z3⟩ := cells_four kc
  go_wp2_with fail
  refine Calls.mono (HRun.out _ HBc.out) ?_
  rintro e wd ⟨q9, c9, q10, n10, c10, rfl, ho, hf, hb⟩
  have hbd := bl HBc.out hb HBc.out.size
  have kd := (hb.block _ (lt_of_block kc)).trans kc
  obtain ⟨m, hm⟩ : ∃ m, m = came.length := ⟨_, rfl⟩
  obtain ⟨m0, hm0⟩ : ∃ m0, m0 = (sendsS D k FX srcs).length := ⟨_, rfl⟩
  obtain ⟨rr, hrr⟩ : ∃ rr, rr = (tkR k t D came).1.length := ⟨_, rfl⟩
  obtain ⟨ss, hss'⟩ : ∃ ss, ss = (tkR k t D came).2 := ⟨_, rfl⟩
  obtain ⟨OB, hOB⟩ : ∃ OB, OB = (if (tkR k t D came).2 = 1 then (joinS (L : Int) (t : Int) (k : Int) ((tkR k t D came).1.map (fun x : Rw => x.2))).1 else []) := ⟨_, rfl⟩
  obtain ⟨SV, hSV⟩ : ∃ SV, SV = stepsV k t D came came.length := ⟨_, rfl⟩
  rw [← hSV, ← hm] at ho
  rw [← hOB] at hf
  rw [← hm, ← hm0, ← hrr, ← hss']
  have HM := Lib.hid hm
  have HM0 := Lib.hid hm0
  have HRR := Lib.hid hrr
  have HSS := Lib.hid hss'
  have HOB := Lib.hid hOB
  have HSV := Lib.hid hSV
  have ba : Below wd.heap.size wd (wd.alloc (.cells #[.int .i64 (m0 : Nat), .slice q9 m c9, .int .i64 (rr : Nat), .int .i64 (ss : Nat), .slice q10 n10 c10] 85 (0, 0))) := al (Below.refl _ _) (Nat.le_refl _)
  have hd0 : Held w.heap.size wd.heap.size m0 m rr ss q9 c9 q10 n10 c10 SV OB (wd.alloc (.cells #[.int .i64 (m0 : Nat), .slice q9 m c9, .int .i64 (rr : Nat), .int .i64 (ss : Nat), .slice q10 n10 c10] 85 (0, 0))) := ⟨hnew rfl, owns_keepv (owns_mono ho HBc.out.size) ba, (hf.mono HBc.out.size).keep ba⟩
  have hbe := bl hbd ba hbd.size
  have ke := (ba.block _ (lt_of_block kd)).trans kd
  obtain ⟨y0, y1, y2, y3⟩ := cells_four kd
  have a0 : ∀ o', (wd.alloc o').cell? ⟨w.heap.size, 0, none⟩ = _ := fun _ => calloc y0
  have a1 : ∀ o', (wd.alloc o').cell? ⟨w.heap.size, 1, none⟩ = _ := fun _ => calloc y1
  have a2 : ∀ o', (wd.alloc o').cell? ⟨w.heap.size, 2, none⟩ = _ := fun _ => calloc y2
  have a3 : ∀ o', (wd.alloc o').cell? ⟨w.heap.size, 3, none⟩ = _ := fun _ => calloc y3
  clear hm hm0 hrr hss' hOB hSV hb ho hf kc kd ba HBc z0 z1 z2 z3 hbd y0 y1 y2 y3
  obtain ⟨g9, hg9⟩ : ∃ g9, g9 = wd.heap.size := ⟨_, rfl⟩
  rw [← hg9] at hd0
  go_wp2_with fail
  try rw [← hg9]
  clear a0 a1 a2 a3
  generalize wd.alloc (.cells #[.int .i64 (m0 : Nat), .slice q9 m c9, .int .i64 (rr : Nat), .int .i64 (ss : Nat), .slice q10 n10 c10] 85 (0, 0)) = we at *
  have HBe := Lib.hid hbe
  have HD0 := Lib.hid hd0
  clear hbe hd0 hg9 HRun HFew HSm
  obtain ⟨z0, z1, z2, z3⟩ := cells_four ke
  refine Calls.mono (SNew_ok L t k D q0 L c0 o we HPK.out (H0.out.keep HBe.out) HF.out rfl) ?_
  rintro e w0 ⟨gs, rfl, hgs, hsn, hb⟩
  rw [← HFX.out] at hsn
  have HSn := Lib.hid hsn
  have HB0 := Lib.hid (bl HBe.out hb HBe.out.size)
  have HGS : Hid (w.heap.size ≤ gs) := Nat.le_trans HBe.out.size hgs
  have kp0 := (hb.block _ (lt_of_block ke)).trans ke
  have HDa := Lib.hid (HD0.out.keep hb)
  clear hb hgs hsn ke HBe HD0 z0 z1 z2 z3
  obtain ⟨z0, z1, z2, z3⟩ := cells_four kp0
  go_wp2_with fail
  refine Calls.mono (TNew_ok L t k D w0 HPK.out) ?_
  rintro e w1 ⟨gt, be, v0, rfl, ht, hb⟩
  have hst := ST.start HB0.out HGS.out HSn.out ht hb
  obtain ⟨base, hbase⟩ : ∃ base, base = w0.heap.size := ⟨_, rfl⟩
  rw [← hbase] at hst
  have HS1 := Lib.hid hst
  have HK8 := Lib.hid (HDa.out.keep hb)
  clear hb ht hst HSn kp0 HB0 HGS hbase z0 z1 z2 z3 HDa
  go_wp2
  go_loopw [15, 86] (fun sv iv wr => ∃ (i : Nat) (XS : List (List UInt8)), i ≤ n1 ∧ iv = .int .i64 (i : Nat) ∧ XS.length ≤ i ∧ Hid (XS = sendsS D k FX (srcs.take i)) ∧ Hid (∀ x, x ∈ XS → readC k t D x = 0) ∧ Hid (ST w w0 wr gs gt be base L t k D FX XS.length 0 v0 [] 0) ∧ Hid (HdrF 22 5 w0.heap.size wr sv XS.length XS) ∧ Hid (Held w.heap.size g9 m0 m rr ss q9 c9 q10 n10 c10 SV OB wr)) (fun _ iv _ => n1 - (intOf iv).toNat)
  case atStart => exact ⟨0, [], Nat.zero_le _, rfl, Nat.le_refl _, rfl, fun x h => by simp at h, HS1.out, HdrF.nil _ _ _ _, HK8.out⟩
  case round =>
    obtain ⟨i, XS, hi, rfl, hXi, HXS, HRC, HR, HX, HK⟩ := hrel
    clear HS1 HK8
    obtain ⟨qs, cs, rfl⟩ := HX.out.shape
    by_cases hlt : i < n1
    · as_aux_lemma =>
        obtain ⟨b, ob, q, j, c', a, rfl, hga, f0, f1, f2, hs, hs64⟩ := H1.out.at hlt
        have x0 := (HR.out.bel.cell (p := ⟨b, ob + i * 3, none⟩) (lt_of_cell f0)).trans f0
        have x1 := (HR.out.bel.cell (p := ⟨b, ob + i * 3 + 1, none⟩) (lt_of_cell f1)).trans f1
        have x2 := (HR.out.bel.cell (p := ⟨b, ob + i * 3 + 2, none⟩) (lt_of_cell f2)).trans f2
        have hlt' : (i : Int) < (n1 : Int) := by omega
        have HSX := Lib.hid hs
        have hjl := hs.len
        have hj : j ≤ 1000000 := by rw [← hjl]; exact HSR.out a (List.mem_of_getElem? hga.out)
        have HNX : Hid (sendsS D k FX (srcs.take (i + 1)) = sendF D k FX XS a) := by show _ = _; rw [sends_snoc hga.out, ← HXS.out]
        have ba : Below wr.heap.size wr (wr.alloc (.cells #[B8 a.m, .slice q j c', .int .u64 (a.s : Nat)] 66 (0, 0))) := al (Below.refl _ _) (Nat.le_refl _)
        have HRa := Lib.hid (HR.out.keep ba)
        have hsend := ST_sendA HRa.out HT.out (by omega) ((HSX.out.keep HR.out.bel).keep ba) (show j ≤ 140737488355328 by omega) (m := a.m) (s := a.s)
        have HXa := Lib.hid (HX.out.keep ba)
        have HKa := Lib.hid (HK.out.keep ba)
        have HLE := Lib.hid HR.out.le
        have HSD := Lib.hid hsend
        clear f0 f1 f2 hs hlt ba hsend HX HK HR hga
        by_cases hm : srcC a.m j k = 0
        · have hv := (sent_eq (k := k) (t := t) (D := D) (n := XS.length) (s := a.s) (m := a.m) (xs := a.xs) HFl.out HFk.out hk1 (by rw [hjl]; exact hm) hs64 HPK.out.d (by omega)).1
          have HRC2 : Hid (∀ x, x ∈ XS ++ [pktB a.m D XS.length a.xs a.s (combS (vecS a.m a.xs a.s k) FX).1] → readC k t D x = 0) := fun x hx => by
            rcases List.mem_append.1 hx with h | h
            · exact HRC.out x h
            · rw [List.mem_singleton.1 h]; exact hv
          have HNX2 : Hid (XS ++ [pktB a.m D XS.length a.xs a.s (combS (vecS a.m a.xs a.s k) FX).1] = sendsS D k FX (srcs.take (i + 1))) := by
            show _ = _
            rw [HNX.out]; unfold sendF; rw [hjl, if_pos hm]
          unfold sentX nextX at HSD
          rw [if_pos hm, if_pos hm, hm] at HSD
          clear hv hm HNX hjl
          generalize pktB a.m D XS.length a.xs a.s (combS (vecS a.m a.xs a.s k) FX).1 = pk at *
          go_wp2_with fail
          refine Calls.mono HSD.out ?_
          rintro e wd ⟨ql, nl, cl, rfl, hf, hS, hK⟩
          have ba : Below wd.heap.size wd (wd.alloc (.cells #[.slice ql nl cl] 22 (0, 0))) := al (Below.refl _ _) (Nat.le_refl _)
          have HSf := Lib.hid (hS.keep ba)
          have HXf := Lib.hid ((hK.hdr os_rows os_u8 HXa.out).keep ba)
          have HKf := Lib.hid ((HKa.out.keepS hK).keep ba)
          have FLf : Hid (Fresh 5 w0.heap.size (wd.alloc (.cells #[.slice ql nl cl] 22 (0, 0))) ql nl cl pk) := (hf.mono (by have := HLE.out; simp; omega)).keep ba
          clear ba hf hS hK x0 x1 x2 HRa HSD HXa HKa
          go_wp2_with (first | (at_builtin; refine wpList_hdr rfl _ _ rfl w0.heap.size XS.length (.slice qs XS.length cs) XS rfl HXf.out (by omega) HSf.out.le wd.heap.size rfl ql nl cl (0, 0) pk (hnew rfl) FLf.out ?_) | fail)
          rintro sA wA hA1 ⟨ys, hA2⟩ hA3 -
          obtain ⟨hSA, hsm⟩ := HSf.out.grown hA2 hA3 (by decide) (by decide) (by decide) (by decide)
          have HSA : Hid (ST w w0 wA gs gt be base L t k D FX (XS ++ [pk]).length 0 v0 [] 0) := by rw [List.length_append]; exact hSA
          have HXA : Hid (HdrF 22 5 w0.heap.size wA sA (XS ++ [pk]).length (XS ++ [pk])) := by rw [List.length_append]; exact hA1
          have HKA := Lib.hid (HKf.out.same hA3.size (hsm _ (by decide)) (hsm _ (by decide)) (hsm _ (by decide)))
          clear hsm hA1 hA2 hA3 hSA HSf HXf HKf FLf
          go_wp2
          go_roundw
          case rel => exact ⟨i + 1, XS ++ [pk], by omega, by go_num, by rw [List.length_append]; simp; omega, HNX2.out, HRC2.out, HSA.out, HXA.out, HKA.out⟩
          case measure => simp [intOf]; omega
        · have HNX2 : Hid (XS = sendsS D k FX (srcs.take (i + 1))) := by
            show _ = _
            rw [HNX.out]; unfold sendF; rw [hjl, if_neg hm]
          unfold sentX nextX at HSD
          rw [if_neg hm, if_neg hm] at HSD
          have hz5 : (srcC a.m j k == 0) = false := beq_eq_false_iff_ne.2 hm
          generalize srcC a.m j k = R at *
          clear hm HNX hjl
          go_wp2_with fail
          refine Calls.mono HSD.out ?_
          rintro e wd ⟨ql, nl, cl, rfl, -, hS, hK⟩
          have HSA := Lib.hid hS
          have HXA := Lib.hid (hK.hdr os_rows os_u8 HXa.out)
          have HKA := Lib.hid (HKa.out.keepS hK)
          clear hS hK x0 x1 x2 HRa HSD HXa HKa
          go_wp2
          go_roundw
          case rel => exact ⟨i + 1, XS, by omega, by go_num, by omega, HNX2.out, HRC.out, HSA.out, HXA.out, HKA.out⟩
          case measure => simp [intOf]; omega
    · obtain rfl : n1 = i := by omega
      clear hlt hi
      have HXE : Hid (XS = sendsS D k FX srcs) := by show _ = _; rw [HXS.out, ← H1.out.len, List.take_length]
      have hcame : came = (playS (initS XS) acs).map (·.1) := by rw [HXE.out]; exact HCM.out
      have hxr : ∀ x, x ∈ XS → Room x.length := fun x hx => read_roomT HPK.out (HRC.out x hx)
      have HCR : Hid (∀ x, x ∈ came → x.length ≤ 140737488355328) := fun x hx => by
        rw [hcame] at hx
        obtain ⟨p, hp, rfl⟩ := List.mem_map.1 hx
        refine playS_room (fun p hp => ?_) HAR.out p hp
        unfold initS at hp
        obtain ⟨i, hi, rfl⟩ := List.mem_map.1 hp
        have hi := List.mem_range.1 hi
        show Room (XS.getD i []).length
        rw [List.getD_eq_getElem?_getD, List.getElem?_eq_getElem hi]
        exact hxr _ (List.getElem_mem hi)
      have hcl : m ≤ 2000 := by
        rw [HM.out, hcame, List.length_map]
        have := playS_len (initS XS) acs
        rw [initS_len, H2.out.len] at this; omega
      have HAP : Hid (∀ W, Sl2 W qs XS.length cs XS → SlA W p2 n2 c2 acs → Calls Tryz.prog 40 #[.slice qs XS.length cs, .slice p2 n2 c2] W (RetRows W came)) := fun W h3 h4 => by
        rw [hcame]; exact Apply_any qs p2 XS.length cs n2 c2 XS acs W h3 h4 hxr HAR.out (by omega)
      have hmx : XS.length = m0 := by rw [HM0.out, HXE.out]
      rw [hmx] at HAP HR HX hXi ⊢
      clear hcame hxr HXS HRC HXE hmx
      have HLE := Lib.hid HR.out.le
      have HI0 := Lib.hid HR.out.i0
      go_wp2_with fail
      refine Calls.mono (HAP.out _ HX.out.sl2 (H2.out.keep HR.out.bel)) ?_
      rintro e w2 ⟨qc, cc, rfl, ho, hb⟩
      have HSb := Lib.hid (HR.out.keep hb)
      have HCb := Lib.hid (Own2.hdrF (T2 := 22) (T1 := 5) (B := w0.heap.size) ho HR.out.le)
      have HKb := Lib.hid (HK.out.keep hb)
      rw [← HM.out] at HCb ⊢
      obtain ⟨b0, b1, b2, b3, b4⟩ := cells_five HKb.out.1
      clear hb ho HR HX HK HAP
      go_wp2
      clear b0 b1 b2 b3 b4
      go_loopw [129] (fun iv wr => ∃ (i : Nat) (v : Value), i ≤ m ∧ iv = .int .i64 (i : Nat) ∧ Hid (ST w w0 wr gs gt be base L t k D FX m0 i v (tkR k t D (came.take i)).1 (tkR k t D (came.take i)).2) ∧ Hid (HdrF 22 5 w0.heap.size wr (.slice qc m cc) m came) ∧ Hid (Held w.heap.size g9 m0 m rr ss q9 c9 q10 n10 c10 SV OB wr)) (fun iv _ => m - (intOf iv).toNat)
      case atStart => exact ⟨0, v0, Nat.zero_le _, rfl, HSb.out, HCb.out, HKb.out⟩
      case round =>
        obtain ⟨i, v, hi, rfl, HR, HC, HK⟩ := hrel
        clear HSb HCb HKb
        by_cases hlt : i < m
        · as_aux_lemma =>
            obtain ⟨bc, oc, ql, nl, cl, xs, rfl, hcl1, hxs, hf⟩ := HC.out.at hlt
            have hlt' : (i : Int) < (m : Int) := by omega
            have hnr : nl ≤ 140737488355328 := by rw [← hf.sl.len]; exact HCR.out xs (List.mem_of_getElem? hxs.out)
            have hT1 := HR.out
            have HTK : Hid (tkR k t D (came.take (i + 1)) = tkF k t D (tkR k t D (came.take i)) xs) := tkR_snoc hxs.out
            have HGD : Hid (came.getD i [] = xs) := by show _ = _; rw [List.getD_eq_getElem?_getD, hxs.out]; rfl
            have hfx := hf.sl
            clear hxs hf hlt
            go_wp2_with fail
            refine Calls.mono (ST_take hT1 HT.out (by omega) hfx hnr) ?_
            rintro e wd ⟨rfl, v', hS, hK⟩
            rw [show takeK k t D (tkR k t D (came.take i)).1 (tkR k t D (came.take i)).2 xs = (tkR k t D (came.take (i + 1))).1 by rw [HTK.out]; rfl, show takeS k t D (tkR k t D (came.take i)).1 (tkR k t D (came.take i)).2 xs = (tkR k t D (came.take (i + 1))).2 by rw [HTK.out]; rfl] at hS
            have HSd := Lib.hid hS
            have HCd := Lib.hid (hK.hdr os_rows os_u8 HC.out)
            have hkd := HK.out.keepS hK
            have HKd := Lib.hid hkd
            obtain ⟨b0, b1, b2, b3, b4⟩ := cells_five hkd.1
            have hSV : stepV k t D came i = [.int .i64 (readC k t D xs), .int .i64 ((tkR k t D (came.take (i + 1))).1.length : Nat), .int .i64 ((tkR k t D (came.take (i + 1))).2 : Nat)] := by unfold stepV; rw [HGD.out]
            have HRk : Hid (∀ W, Below wd.heap.size wd W → Calls Tryz.prog 18 #[.pointer (some ⟨gt, 0, none⟩)] W fun e w' => e = .returned (.int .i64 ((tkR k t D (came.take (i + 1))).1.length : Nat)) ∧ W = w') := fun W hb => ST_rank (HSd.out.keep hb)
            have HSs : Hid (∀ W, Below wd.heap.size wd W → Calls Tryz.prog 23 #[.pointer (some ⟨gt, 0, none⟩)] W fun e w' => e = .returned (.int .i64 ((tkR k t D (came.take (i + 1))).2 : Nat)) ∧ W = w') := fun W hb => ST_status (HSd.out.keep hb)
            obtain ⟨gq, e9⟩ : ∃ gq, q9 = some ⟨gq, 0, none⟩ := by
              rcases hkd.2.1.2 with ⟨h2, h3⟩ | ⟨g, cap, cur, hv, _⟩
              · omega
              · cases hv; exact ⟨_, rfl⟩
            subst e9
            have hat : ∀ j, j < 3 → wd.cell? ⟨gq, i * 3 + j, none⟩ = (stepV k t D came i)[j]? := fun j hj => by
              rw [hkd.2.1.cellAt (i * 3 + j) (by omega), HSV.out, HM.out.symm]
              exact stepsV_at k t D came (by omega) hj
            rw [hSV] at hat
            have s0 := hat 0 (by decide)
            have s1 := hat 1 (by decide)
            have s2' := hat 2 (by decide)
            simp only [Nat.add_zero, List.getElem?_cons_zero, List.getElem?_cons_succ] at s0 s1 s2'
            obtain ⟨E, hE⟩ : ∃ E, E = readC k t D xs := ⟨_, rfl⟩
            obtain ⟨r2, hr2⟩ : ∃ r2, r2 = (tkR k t D (came.take (i + 1))).1.length := ⟨_, rfl⟩
            obtain ⟨s2, hs2⟩ : ∃ s2, s2 = (tkR k t D (came.take (i + 1))).2 := ⟨_, rfl⟩
            rw [← hE] at s0
            rw [← hr2] at HRk s1
            rw [← hs2] at HSs s2'
            rw [← hE]
            clear hS hK HR HC HK hT1 hfx hcl1 hE hr2 hs2 HTK HGD hkd hSV hat
            go_wp2_with fail
            refine wp_region_shapes (fun ix => ([.val (.pointer (some ⟨g9, 1, none⟩)), .val (.slice (some ⟨gq, 0, none⟩) m c9), .val (.int .i64 (i : Nat)), .val (.pointer (some ⟨gq, i * 3, none⟩)), .val (.agg #[.int .i64 E, .int .i64 (r2 : Nat), .int .i64 (s2 : Nat)]), .val (.int .i64 E), .val (.pointer (some ⟨gt, 0, none⟩)), .val (.int .i64 (r2 : Nat)), .val (.pointer (some ⟨gt, 0, none⟩)), .val (.int .i64 (s2 : Nat)), (.val (.agg #[.int .i64 E, .int .i64 (r2 : Nat), .int .i64 (s2 : Nat)])), .val (.bool false)][ix]?).getD (.any)) 173 rfl (by kernel_rfl) (by decide +kernel) (by decide +kernel) (by decide +kernel) ?_ ?_
            · refine ⟨?_, ?_, ?_, ?_, ?_, ?_, ?_, ?_, ?_, ?_, ?_, ?_, trivial⟩
              · intro a W hb0 hs hp hi; have hb := undrew hb0; clear hb0
                have t9 : sl a 9 = .pointer (some ⟨g9, 0, none⟩) := hi 9 (by decide)
                refine ite_y rfl (wp_val (.pointer (some ⟨g9, 1, none⟩)) ?_ ?_)
                · simp only [execOp, eval_tmp, eval_const, t9]; simp [go_sem]
                · exact ⟨_, rfl, Below.refl _ _, rfl⟩
              · intro a W hb0 hs hp hi; have hb := undrew hb0; clear hb0
                have tt : sl a 137 = .pointer (some ⟨g9, 1, none⟩) := hp 0 (by decide)
                have dd := (hb.cell (p := ⟨g9, 1, none⟩) (lt_of_cell b1)).trans b1
                refine ite_y rfl (wp_val (.slice (some ⟨gq, 0, none⟩) m c9) ?_ ?_)
                · simp only [execOp, eval_tmp, tt]; simp [go_sem, dd]
                · exact ⟨_, rfl, Below.refl _ _, rfl⟩
              · intro a W hb0 hs hp hi; have hb := undrew hb0; clear hb0
                have t21 : sl a 21 = .int .i64 (i : Nat) := hi 21 (by decide)
                exact ite_y rfl (wp_val (sl a 21) rfl ⟨_, rfl, Below.refl _ _, t21⟩)
              · intro a W hb0 hs hp hi; have hb := undrew hb0; clear hb0
                have ti0 : sl a 138 = .slice (some ⟨gq, 0, none⟩) m c9 := hp 1 (by decide)
                have ti1 : sl a 139 = .int .i64 (i : Nat) := hp 2 (by decide)
                refine ite_y rfl (wp_val (.pointer (some ⟨gq, i * 3, none⟩)) ?_ ?_)
                · simp only [execOp, eval_tmp, eval_const, ti0, ti1]; simp [go_sem, hlt']
                · exact ⟨_, rfl, Below.refl _ _, rfl⟩
              · intro a W hb0 hs hp hi; have hb := undrew hb0; clear hb0
                have tt : sl a 140 = .pointer (some ⟨gq, i * 3, none⟩) := hp 3 (by decide)
                have dd0 := (hb.cell (p := ⟨gq, i * 3, none⟩) (lt_of_cell s0)).trans s0
                have dd1 := (hb.cell (p := ⟨gq, i * 3 + 1, none⟩) (lt_of_cell s1)).trans s1
                have dd2 := (hb.cell (p := ⟨gq, i * 3 + 2, none⟩) (lt_of_cell s2')).trans s2'
                refine ite_y rfl (wp_val (.agg #[.int .i64 E, .int .i64 (r2 : Nat), .int .i64 (s2 : Nat)]) ?_ ?_)
                · simp only [execOp, eval_tmp, tt]; simp [go_sem, dd0, dd1, dd2]
                · exact ⟨_, rfl, Below.refl _ _, rfl⟩
              · intro a W hb0 hs hp hi; have hb := undrew hb0; clear hb0
                have t23 : sl a 23 = .int .i64 E := hi 23 (by decide)
                exact ite_y rfl (wp_val (sl a 23) rfl ⟨_, rfl, Below.refl _ _, t23⟩)
              · intro a W hb0 hs hp hi; have hb := undrew hb0; clear hb0
                have t13 : sl a 13 = .pointer (some ⟨gt, 0, none⟩) := hi 13 (by decide)
                exact ite_y rfl (wp_val (sl a 13) rfl ⟨_, rfl, Below.refl _ _, t13⟩)
              · intro a W hb0 hs hp hi; have hb := undrew hb0; clear hb0
                have t143 : sl a 143 = .pointer (some ⟨gt, 0, none⟩) := hp 6 (by decide)
                refine ite_y rfl (wp_enter 18 #[.pointer (some ⟨gt, 0, none⟩)] ?_ (HRk.out _ hb) ?_)
                · simp only [execOp, resolve, List.map_toArray, List.map, eval_tmp, eval_func, eval_const, t143]; simp [go_sem]
                · rintro e W' ⟨rfl, rfl⟩; exact ⟨_, rfl, _, rfl, Below.refl _ _, rfl⟩
              · intro a W hb0 hs hp hi; have hb := undrew hb0; clear hb0
                have t13 : sl a 13 = .pointer (some ⟨gt, 0, none⟩) := hi 13 (by decide)
                exact ite_y rfl (wp_val (sl a 13) rfl ⟨_, rfl, Below.refl _ _, t13⟩)
              · intro a W hb0 hs hp hi; have hb := undrew hb0; clear hb0
                have t145 : sl a 145 = .pointer (some ⟨gt, 0, none⟩) := hp 8 (by decide)
                refine ite_y rfl (wp_enter 23 #[.pointer (some ⟨gt, 0, none⟩)] ?_ (HSs.out _ hb) ?_)
                · simp only [execOp, resolve, List.map_toArray, List.map, eval_tmp, eval_func, eval_const, t145]; simp [go_sem]
                · rintro e W' ⟨rfl, rfl⟩; exact ⟨_, rfl, _, rfl, Below.refl _ _, rfl⟩
              · intro a W hb0 hs hp hi; have hb := undrew hb0; clear hb0
                have t142 : sl a 142 = .int .i64 E := hp 5 (by decide)
                have t144 : sl a 144 = .int .i64 (r2 : Nat) := hp 7 (by decide)
                have t146 : sl a 146 = .int .i64 (s2 : Nat) := hp 9 (by decide)
                have v142 : a.tmps[142]?.getD undef = sl a 142 := by simp [sl]
                rw [t142] at v142
                have v144 : a.tmps[144]?.getD undef = sl a 144 := by simp [sl]
                rw [t144] at v144
                have v146 : a.tmps[146]?.getD undef = sl a 146 := by simp [sl]
                rw [t146] at v146
                refine ite_y rfl (wp_val (.agg #[.int .i64 E, .int .i64 (r2 : Nat), .int .i64 (s2 : Nat)]) ?_ ?_)
                · simp only [execOp, eval_tmp, t142, t144, t146]; simp [go_sem, v142, v144, v146, Tryz.underlying90]
                · exact ⟨_, rfl, Below.refl _ _, rfl⟩
              · intro a W hb0 hs hp hi; have hb := undrew hb0; clear hb0
                have t141 : sl a 141 = .agg #[.int .i64 E, .int .i64 (r2 : Nat), .int .i64 (s2 : Nat)] := hp 4 (by decide)
                have t147 : sl a 147 = .agg #[.int .i64 E, .int .i64 (r2 : Nat), .int .i64 (s2 : Nat)] := hp 10 (by decide)
                refine ite_y rfl (wp_val (.bool false) ?_ ?_)
                · simp only [execOp, eval_tmp, t141, t147]; simp [go_sem, Tryz.underlying90]
                · exact ⟨_, rfl, Below.refl _ _, rfl⟩
            intro a wE hb hs hd hI ht
            have ha := act_is [137, 138, 139, 140, 141, 142, 143, 144, 145, 146, 147, 148] hs hd ht (by decide)
            have t148 : sl a 148 = .bool false := hI 11 (by decide)
            simp only [List.foldl, t148] at ha
            generalize sl a 137 = u137 at ha
            generalize sl a 138 = u138 at ha
            generalize sl a 139 = u139 at ha
            generalize sl a 140 = u140 at ha
            generalize sl a 141 = u141 at ha
            generalize sl a 142 = u142 at ha
            generalize sl a 143 = u143 at ha
            generalize sl a 144 = u144 at ha
            generalize sl a 145 = u145 at ha
            generalize sl a 146 = u146 at ha
            generalize sl a 147 = u147 at ha
            simp only [Act.put, List.setIfInBounds_toArray, List.set_cons_zero, List.set_cons_succ] at ha
            rw [ha]
            clear ha hI ht
            have HSe := Lib.hid (HSd.out.keep hb)
            have HCe := Lib.hid (HCd.out.keep hb)
            have HKe := Lib.hid (HKd.out.keep hb)
            clear hb HSd HCd HKd HRk HSs b0 b1 b2 b3 b4 s0 s1 s2'
            go_wp2
            go_roundw
            case rel => exact ⟨i + 1, v', by omega, by go_num, HSe.out, HCe.out, HKe.out⟩
            case measure => simp [intOf]; omega
        · obtain rfl : m = i := by omega
          have HTC : Hid (came.take m = came) := by show _ = _; rw [HM.out, List.take_length]
          rw [HTC.out] at HR
          have hob : Calls Tryz.prog 35 #[.pointer (some ⟨gt, 0, none⟩)] wr fun e w' => ∃ q n c code, e = .returned (.tuple #[.slice q n c, .int .i64 code]) ∧ Sl B8 w' q n c OB ∧ Below wr.heap.size wr w' := by
            obtain ⟨M, C, h⟩ := HR.out.tk
            have := TObj_any _ _ _ _ _ _ _ _ _ _ _ _ _ _ h (tkR_good came).2 (tkR_good came).1
            rw [← HOB.out] at this
            exact this
          have HOJ := Lib.hid hob
          clear hob hlt hi
          go_wp2_with fail
          refine Calls.mono HOJ.out ?_
          rintro e w5 ⟨q5, n5, c5, code, rfl, ho, hb⟩
          have HSe := Lib.hid (HR.out.keep hb)
          have HKe := Lib.hid (HK.out.keep hb)
          have HO5 := Lib.hid ho
          have HRk : Hid (∀ W, Below w5.heap.size w5 W → Calls Tryz.prog 18 #[.pointer (some ⟨gt, 0, none⟩)] W fun e w' => e = .returned (.int .i64 (rr : Nat)) ∧ W = w') := fun W hb => by rw [HRR.out]; exact ST_rank (HSe.out.keep hb)
          have HSs : Hid (∀ W, Below w5.heap.size w5 W → Calls Tryz.prog 23 #[.pointer (some ⟨gt, 0, none⟩)] W fun e w' => e = .returned (.int .i64 (ss : Nat)) ∧ W = w') := fun W hb => by rw [HSS.out]; exact ST_status (HSe.out.keep hb)
          have HSA : Hid (∀ W, Below w5.heap.size w5 W → Calls Tryz.prog 36 #[.slice q10 n10 c10, .slice q5 n5 c5] W fun e w' => e = .returned (.bool true) ∧ Below W.heap.size W w') := fun W hb => by
            have := Same_any q10 q5 n10 n5 c10 c5 OB OB W (HKe.out.keep hb).2.2.sl (HO5.out.keep hb)
            rw [decide_eq_true rfl] at this; exact this
          obtain ⟨b0, b1, b2, b3, b4⟩ := cells_five HKe.out.1
          have hrr1 : ((rr : Int) == (rr : Int)) = true := beq_self_eq_true _
          have hss1 : ((ss : Int) == (ss : Int)) = true := beq_self_eq_true _
          clear hb ho HR HK HC HOJ HTC
          go_wp2_with fail
          refine wp_region_shapes (fun ix => ([.val (.pointer (some ⟨g9, 2, none⟩)), .val (.int .i64 (rr : Nat)), .val (.pointer (some ⟨gt, 0, none⟩)), .val (.int .i64 (rr : Nat)), .val (.bool true), .val (.bool true), .val (.pointer (some ⟨g9, 3, none⟩)), .val (.int .i64 (ss : Nat)), .val (.pointer (some ⟨gt, 0, none⟩)), .val (.int .i64 (ss : Nat)), .val (.bool true), .val (.bool true), .val (.bool true), .val (.pointer (some ⟨g9, 4, none⟩)), .val (.slice q10 n10 c10), .val (.slice q5 n5 c5), .val (.bool true), .val (.bool true), .val (.bool true)][ix]?).getD (.any)) 173 rfl (by kernel_rfl) (by decide +kernel) (by decide +kernel) (by decide +kernel) ?_ ?_
          · refine ⟨?_, ?_, ?_, ?_, ?_, ?_, ?_, ?_, ?_, ?_, ?_, ?_, ?_, ?_, ?_, ?_, ?_, ?_, ?_, trivial⟩
            · intro a W hb0 hs hp hi; have hb := undrew hb0; clear hb0
              have t9 : sl a 9 = .pointer (some ⟨g9, 0, none⟩) := hi 9 (by decide)
              refine ite_y rfl (wp_val (.pointer (some ⟨g9, 2, none⟩)) ?_ ?_)
              · simp only [execOp, eval_tmp, eval_const, t9]; simp [go_sem]
              · exact ⟨_, rfl, Below.refl _ _, rfl⟩
            · intro a W hb0 hs hp hi; have hb := undrew hb0; clear hb0
              have tt : sl a 155 = .pointer (some ⟨g9, 2, none⟩) := hp 0 (by decide)
              have dd := (hb.cell (p := ⟨g9, 2, none⟩) (lt_of_cell b2)).trans b2
              refine ite_y rfl (wp_val (.int .i64 (rr : Nat)) ?_ ?_)
              · simp only [execOp, eval_tmp, tt]; simp [go_sem, dd]
              · exact ⟨_, rfl, Below.refl _ _, rfl⟩
            · intro a W hb0 hs hp hi; have hb := undrew hb0; clear hb0
              have t13 : sl a 13 = .pointer (some ⟨gt, 0, none⟩) := hi 13 (by decide)
              exact ite_y rfl (wp_val (sl a 13) rfl ⟨_, rfl, Below.refl _ _, t13⟩)
            · intro a W hb0 hs hp hi; have hb := undrew hb0; clear hb0
              have t157 : sl a 157 = .pointer (some ⟨gt, 0, none⟩) := hp 2 (by decide)
              refine ite_y rfl (wp_enter 18 #[.pointer (some ⟨gt, 0, none⟩)] ?_ (HRk.out _ hb) ?_)
              · simp only [execOp, resolve, List.map_toArray, List.map, eval_tmp, eval_func, eval_const, t157]; simp [go_sem]
              · rintro e W' ⟨rfl, rfl⟩; exact ⟨_, rfl, _, rfl, Below.refl _ _, rfl⟩
            · intro a W hb0 hs hp hi; have hb := undrew hb0; clear hb0
              have t156 : sl a 156 = .int .i64 (rr : Nat) := hp 1 (by decide)
              have t158 : sl a 158 = .int .i64 (rr : Nat) := hp 3 (by decide)
              refine ite_y rfl (wp_val (.bool true) ?_ ?_)
              · simp only [execOp, eval_tmp, eval_const, t156, t158]; simp [go_sem, hrr1]
              · exact ⟨_, rfl, Below.refl _ _, rfl⟩
            · intro a W hb0 hs hp hi; have hb := undrew hb0; clear hb0
              have t159 : sl a 159 = .bool true := hp 4 (by decide)
              exact ite_y rfl (wp_val (sl a 159) rfl ⟨_, rfl, Below.refl _ _, t159⟩)
            · intro a W hb0 hs hp hi; have hb := undrew hb0; clear hb0
              have tg : sl a 160 = .bool true := hp 5 (by decide)
              have t9 : sl a 9 = .pointer (some ⟨g9, 0, none⟩) := hi 9 (by decide)
              refine ite_y (wanted_yes rfl rfl (by have hz : a.tmps.size = 173 := hs; rw [hz]; decide) tg) (wp_val (.pointer (some ⟨g9, 3, none⟩)) ?_ ?_)
              · simp only [execOp, eval_tmp, eval_const, t9]; simp [go_sem]
              · exact ⟨_, rfl, Below.refl _ _, rfl⟩
            · intro a W hb0 hs hp hi; have hb := undrew hb0; clear hb0
              have tg : sl a 160 = .bool true := hp 5 (by decide)
              have tt : sl a 161 = .pointer (some ⟨g9, 3, none⟩) := hp 6 (by decide)
              have dd := (hb.cell (p := ⟨g9, 3, none⟩) (lt_of_cell b3)).trans b3
              refine ite_y (wanted_yes rfl rfl (by have hz : a.tmps.size = 173 := hs; rw [hz]; decide) tg) (wp_val (.int .i64 (ss : Nat)) ?_ ?_)
              · simp only [execOp, eval_tmp, tt]; simp [go_sem, dd]
              · exact ⟨_, rfl, Below.refl _ _, rfl⟩
            · intro a W hb0 hs hp hi; have hb := undrew hb0; clear hb0
              have tg : sl a 160 = .bool true := hp 5 (by decide)
              have t13 : sl a 13 = .pointer (some ⟨gt, 0, none⟩) := hi 13 (by decide)
              exact ite_y (wanted_yes rfl rfl (by have hz : a.tmps.size = 173 := hs; rw [hz]; decide) tg) (wp_val (sl a 13) rfl ⟨_, rfl, Below.refl _ _, t13⟩)
            · intro a W hb0 hs hp hi; have hb := undrew hb0; clear hb0
              have tg : sl a 160 = .bool true := hp 5 (by decide)
              have t163 : sl a 163 = .pointer (some ⟨gt, 0, none⟩) := hp 8 (by decide)
              refine ite_y (wanted_yes rfl rfl (by have hz : a.tmps.size = 173 := hs; rw [hz]; decide) tg) (wp_enter 23 #[.pointer (some ⟨gt, 0, none⟩)] ?_ (HSs.out _ hb) ?_)
              · simp only [execOp, resolve, List.map_toArray, List.map, eval_tmp, eval_func, eval_const, t163]; simp [go_sem]
              · rintro e W' ⟨rfl, rfl⟩; exact ⟨_, rfl, _, rfl, Below.refl _ _, rfl⟩
            · intro a W hb0 hs hp hi; have hb := undrew hb0; clear hb0
              have tg : sl a 160 = .bool true := hp 5 (by decide)
              have t162 : sl a 162 = .int .i64 (ss : Nat) := hp 7 (by decide)
              have t164 : sl a 164 = .int .i64 (ss : Nat) := hp 9 (by decide)
              refine ite_y (wanted_yes rfl rfl (by have hz : a.tmps.size = 173 := hs; rw [hz]; decide) tg) (wp_val (.bool true) ?_ ?_)
              · simp only [execOp, eval_tmp, eval_const, t162, t164]; simp [go_sem, hss1]
              · exact ⟨_, rfl, Below.refl _ _, rfl⟩
            · intro a W hb0 hs hp hi; have hb := undrew hb0; clear hb0
              have t160 : sl a 160 = .bool true := hp 5 (by decide)
              have t165 : sl a 165 = .bool true := hp 10 (by decide)
              refine ite_y rfl (wp_val (.bool true) ?_ ?_)
              · simp only [execOp, eval_tmp, eval_const, t160, t165]; simp [go_sem]
              · exact ⟨_, rfl, Below.refl _ _, rfl⟩
            · intro a W hb0 hs hp hi; have hb := undrew hb0; clear hb0
              have t166 : sl a 166 = .bool true := hp 11 (by decide)
              exact ite_y rfl (wp_val (sl a 166) rfl ⟨_, rfl, Below.refl _ _, t166⟩)
            · intro a W hb0 hs hp hi; have hb := undrew hb0; clear hb0
              have tg : sl a 167 = .bool true := hp 12 (by decide)
              have t9 : sl a 9 = .pointer (some ⟨g9, 0, none⟩) := hi 9 (by decide)
              refine ite_y (wanted_yes rfl rfl (by have hz : a.tmps.size = 173 := hs; rw [hz]; decide) tg) (wp_val (.pointer (some ⟨g9, 4, none⟩)) ?_ ?_)
              · simp only [execOp, eval_tmp, eval_const, t9]; simp [go_sem]
              · exact ⟨_, rfl, Below.refl _ _, rfl⟩
            · intro a W hb0 hs hp hi; have hb := undrew hb0; clear hb0
              have tg : sl a 167 = .bool true := hp 12 (by decide)
              have tt : sl a 168 = .pointer (some ⟨g9, 4, none⟩) := hp 13 (by decide)
              have dd := (hb.cell (p := ⟨g9, 4, none⟩) (lt_of_cell b4)).trans b4
              refine ite_y (wanted_yes rfl rfl (by have hz : a.tmps.size = 173 := hs; rw [hz]; decide) tg) (wp_val (.slice q10 n10 c10) ?_ ?_)
              · simp only [execOp, eval_tmp, tt]; simp [go_sem, dd]
              · exact ⟨_, rfl, Below.refl _ _, rfl⟩
            · intro a W hb0 hs hp hi; have hb := undrew hb0; clear hb0
              have tg : sl a 167 = .bool true := hp 12 (by decide)
              have t24 : sl a 24 = .slice q5 n5 c5 := hi 24 (by decide)
              exact ite_y (wanted_yes rfl rfl (by have hz : a.tmps.size = 173 := hs; rw [hz]; decide) tg) (wp_val (sl a 24) rfl ⟨_, rfl, Below.refl _ _, t24⟩)
            · intro a W hb0 hs hp hi; have hb := undrew hb0; clear hb0
              have tg : sl a 167 = .bool true := hp 12 (by decide)
              have t169 : sl a 169 = .slice q10 n10 c10 := hp 14 (by decide)
              have t170 : sl a 170 = .slice q5 n5 c5 := hp 15 (by decide)
              refine ite_y (wanted_yes rfl rfl (by have hz : a.tmps.size = 173 := hs; rw [hz]; decide) tg) (wp_enter 36 #[.slice q10 n10 c10, .slice q5 n5 c5] ?_ (HSA.out _ hb) ?_)
              · simp only [execOp, resolve, List.map_toArray, List.map, eval_tmp, eval_func, eval_const, t169, t170]; simp [go_sem]
              · rintro e W' ⟨rfl, hw⟩; exact ⟨_, rfl, _, rfl, hw, rfl⟩
            · intro a W hb0 hs hp hi; have hb := undrew hb0; clear hb0
              have t167 : sl a 167 = .bool true := hp 12 (by decide)
              have t171 : sl a 171 = .bool true := hp 16 (by decide)
              refine ite_y rfl (wp_val (.bool true) ?_ ?_)
              · simp only [execOp, eval_tmp, eval_const, t167, t171]; simp [go_sem]
              · exact ⟨_, rfl, Below.refl _ _, rfl⟩
            · intro a W hb0 hs hp hi; have hb := undrew hb0; clear hb0
              have t172 : sl a 172 = .bool true := hp 17 (by decide)
              exact ite_y rfl (wp_val (sl a 172) rfl ⟨_, rfl, Below.refl _ _, t172⟩)
          intro a wZ hb hs hd hI ht
          have ha := act_is [155, 156, 157, 158, 159, 160, 161, 162, 163, 164, 165, 166, 167, 168, 169, 170, 171, 172, 8] hs hd ht (by decide)
          have t8 : sl a 8 = .bool true := hI 18 (by decide)
          simp only [List.foldl, t8] at ha
          generalize sl a 155 = u155 at ha
          generalize sl a 156 = u156 at ha
          generalize sl a 157 = u157 at ha
          generalize sl a 158 = u158 at ha
          generalize sl a 159 = u159 at ha
          generalize sl a 160 = u160 at ha
          generalize sl a 161 = u161 at ha
          generalize sl a 162 = u162 at ha
          generalize sl a 163 = u163 at ha
          generalize sl a 164 = u164 at ha
          generalize sl a 165 = u165 at ha
          generalize sl a 166 = u166 at ha
          generalize sl a 167 = u167 at ha
          generalize sl a 168 = u168 at ha
          generalize sl a 169 = u169 at ha
          generalize sl a 170 = u170 at ha
          generalize sl a 171 = u171 at ha
          generalize sl a 172 = u172 at ha
          simp only [Act.put, List.setIfInBounds_toArray, List.set_cons_zero, List.set_cons_succ] at ha
          rw [ha]
          clear ha hI ht
          have HBZ := Lib.hid (bl HSe.out.bel hb HSe.out.bel.size)
          clear hb
          go_wp2
          go_ret
          exact ⟨rfl, HBZ.out⟩
end Go.Proofs.YtfbmdlfkipipfaaGreatDoor
namespace Go.Proofs.YtfbmdlfkipipfaaGreatDoor
open Go.RowKit Go.By Gf Go.Maps
theorem pok_fit {L t k D : Nat} (hP : POK L t k D) : (∀ i : Nat, i < k → i * t ≤ L) ∧ L ≤ k * t := by
  have hc := hP.chk
  unfold checkS at hc
  by_cases hf : fitS (L : Int) (t : Int) = 0
  · rw [if_pos hf] at hc
    obtain ⟨t', k', D', e1, e2, hO, -⟩ := of_obj (n := L) (s := (t : Int)) (d := (D : Int)) hf hP.l (by omega) (by have := hP.d; omega)
    have e1' : t' = t := by omega
    subst e1'
    have hc2 := hO.ok.chk
    unfold checkS at hc2
    rw [if_pos hf] at hc2
    have h1 : (k : Int) = needS L t' := by
      by_cases h : (k : Int) = needS L t'
      · exact h
      · rw [if_neg h] at hc; cases hc
    have h2 : (k' : Int) = needS L t' := by
      by_cases h : (k' : Int) = needS L t'
      · exact h
      · rw [if_neg h] at hc2; cases hc2
    have e3 : k' = k := by omega
    subst e3
    exact ⟨hO.fit, hO.le⟩
  · rw [if_neg hf] at hc; exact absurd hc hf
set_option maxRecDepth 100000 in
set_option maxHeartbeats 4000000 in
/-- too much, a plan that is too large, or a plan and an object that do not fit -/
theorem TripRuns_out (l s m d : Int) (q0 : Option Addr) (n0 c0 : Nat) (p1 : Option Addr) (n1 c1 : Nat) (srcs : List SrcD) (p2 : Option Addr) (n2 c2 : Nat) (acs : List ActD) (w : World) (hl : l ≤ 9223372036854775807) (hn0 : n0 ≤ 9223372036854775807) (h1 : SlS w p1 n1 c1 srcs) (h2 : SlA w p2 n2 c2 acs) (hT : HalfT w)
    (hx : few22 n0 srcs acs = false ∨ small19 l s m = false ∨ cutC l s m n0 ≠ 0) :
    Calls Tryz.prog 6 #[.agg #[.int .i64 l, .int .i64 s, .int .i64 m, .int .u32 d], .slice q0 n0 c0, .slice p1 n1 c1, .slice p2 n2 c2] w fun e w' => e = .returned (.bool true) ∧ Below w.heap.size w w' := by
  have HT := Lib.hid hT
  have HFew : Hid (∀ W, Below w.heap.size w W → Calls Tryz.prog 38 #[.slice q0 n0 c0, .slice p1 n1 c1, .slice p2 n2 c2] W fun e w' => e = .returned (.bool (few22 n0 srcs acs)) ∧ Below W.heap.size W w') := fun W hb => Few22_any q0 n0 c0 p1 n1 c1 srcs p2 n2 c2 acs W hn0 (h1.keep hb) (h2.keep hb)
  have HSm := Lib.hid (fun w => Small19_any l s m d w hl)
  have HR1 := Lib.hid (fun w hk => Run_bad l s m d q0 n0 c0 p1 n1 c1 p2 n2 c2 w hl hk)
  have HS1 := Lib.hid (fun w hk => SNew_bad l s m d q0 n0 c0 w hl hk)
  clear hT h1 h2
  generalize few22 n0 srcs acs = F at *
  generalize small19 l s m = S at *
  cases F with
  | false =>
    clear hx HR1 HS1 HSm
    go_enter Tryz.func6, Tryz.ntmps6
    go_wp2_with fail
    have ba : Below w.heap.size w (w.alloc (.cells #[.int .i64 l, .int .i64 s, .int .i64 m, .int .u32 d] 27 (0, 0))) := al (Below.refl _ _) (Nat.le_refl _)
    have hk4 : (w.alloc (.cells #[.int .i64 l, .int .i64 s, .int .i64 m, .int .u32 d] 27 (0, 0))).heap[w.heap.size]? = some (.cells #[.int .i64 l, .int .i64 s, .int .i64 m, .int .u32 d] 27 (0, 0)) := hnew rfl
    refine Calls.mono (awake22 _ (HT.out.keep ba)) ?_
    rintro e wa ⟨rfl, hb⟩
    have HBa := Lib.hid (bl ba hb ba.size)
    have ka := (hb.block _ (lt_of_block hk4)).trans hk4
    clear hb ba hk4
    go_wp2_with fail
    refine Calls.mono (HFew.out _ HBa.out) ?_
    rintro e wb ⟨rfl, hb⟩
    have HBb := Lib.hid (bl HBa.out hb HBa.out.size)
    have kb := (hb.block _ (lt_of_block ka)).trans ka
    clear hb HBa ka
    go_wp2
    go_ret
    exact ⟨rfl, HBb.out⟩
  | true =>
    cases S with
    | false =>
      clear hx HR1 HS1
      go_enter Tryz.func6, Tryz.ntmps6
      go_wp2_with fail
      have ba : Below w.heap.size w (w.alloc (.cells #[.int .i64 l, .int .i64 s, .int .i64 m, .int .u32 d] 27 (0, 0))) := al (Below.refl _ _) (Nat.le_refl _)
      have hk4 : (w.alloc (.cells #[.int .i64 l, .int .i64 s, .int .i64 m, .int .u32 d] 27 (0, 0))).heap[w.heap.size]? = some (.cells #[.int .i64 l, .int .i64 s, .int .i64 m, .int .u32 d] 27 (0, 0)) := hnew rfl
      refine Calls.mono (awake22 _ (HT.out.keep ba)) ?_
      rintro e wa ⟨rfl, hb⟩
      have HBa := Lib.hid (bl ba hb ba.size)
      have ka := (hb.block _ (lt_of_block hk4)).trans hk4
      clear hb ba hk4
      go_wp2_with fail
      refine Calls.mono (HFew.out _ HBa.out) ?_
      rintro e wb ⟨rfl, hb⟩
      have HBb := Lib.hid (bl HBa.out hb HBa.out.size)
      have kb := (hb.block _ (lt_of_block ka)).trans ka
      clear hb HBa ka
      obtain ⟨z0, z1, z2, z3⟩ := cells_four kb
      go_wp2_with fail
      refine Calls.mono (HSm.out _) ?_
      rintro e wc ⟨rfl, hb⟩
      have HBc := Lib.hid (bl HBb.out hb HBb.out.size)
      have kc := (hb.block _ (lt_of_block kb)).trans kb
      clear hb HBb kb z0 z1 z2 z3
      go_wp2
      go_ret
      exact ⟨rfl, HBc.out⟩
    | true =>
      have hk : cutC l s m n0 ≠ 0 := by
        rcases hx with h | h | h
        · cases h
        · cases h
        · exact h
      have HRun := Lib.hid (fun w => HR1.out w hk)
      have HSN := Lib.hid (fun w => HS1.out w hk)
      have hz : (cutC l s m n0 != 0) = true := bne_iff_ne.2 hk
      have hzz : (cutC l s m n0 == cutC l s m n0) = true := beq_self_eq_true _
      clear hx HR1 HS1 hk
      generalize cutC l s m n0 = C at *
      go_enter Tryz.func6, Tryz.ntmps6
      go_wp2_with fail
      have ba : Below w.heap.size w (w.alloc (.cells #[.int .i64 l, .int .i64 s, .int .i64 m, .int .u32 d] 27 (0, 0))) := al (Below.refl _ _) (Nat.le_refl _)
      have hk4 : (w.alloc (.cells #[.int .i64 l, .int .i64 s, .int .i64 m, .int .u32 d] 27 (0, 0))).heap[w.heap.size]? = some (.cells #[.int .i64 l, .int .i64 s, .int .i64 m, .int .u32 d] 27 (0, 0)) := hnew rfl
      refine Calls.mono (awake22 _ (HT.out.keep ba)) ?_
      rintro e wa ⟨rfl, hb⟩
      have HBa := Lib.hid (bl ba hb ba.size)
      have ka := (hb.block _ (lt_of_block hk4)).trans hk4
      clear hb ba hk4
      go_wp2_with fail
      refine Calls.mono (HFew.out _ HBa.out) ?_
      rintro e wb ⟨rfl, hb⟩
      have HBb := Lib.hid (bl HBa.out hb HBa.out.size)
      have kb := (hb.block _ (lt_of_block ka)).trans ka
      clear hb HBa ka
      obtain ⟨z0, z1, z2, z3⟩ := cells_four kb
      go_wp2_with fail
      refine Calls.mono (HSm.out _) ?_
      rintro e wc ⟨rfl, hb⟩
      have HBc := Lib.hid (bl HBb.out hb HBb.out.size)
      have kc := (hb.block _ (lt_of_block kb)).trans kb
      clear hb HBb kb z0 z1 z2 z3
      obtain ⟨z0, z1, z2, z3⟩ := cells_four kc
      go_wp2_with fail
      refine Calls.mono (HRun.out _) ?_
      rintro e wd ⟨rfl, hb⟩
      have HBd := Lib.hid (bl HBc.out hb HBc.out.size)
      have kd := (hb.block _ (lt_of_block kc)).trans kc
      clear hb HBc kc z0 z1 z2 z3
      obtain ⟨y0, y1, y2, y3⟩ := cells_four kd
      have a0 : ∀ o', (wd.alloc o').cell? ⟨w.heap.size, 0, none⟩ = _ := fun _ => calloc y0
      have a1 : ∀ o', (wd.alloc o').cell? ⟨w.heap.size, 1, none⟩ = _ := fun _ => calloc y1
      have a2 : ∀ o', (wd.alloc o').cell? ⟨w.heap.size, 2, none⟩ = _ := fun _ => calloc y2
      have a3 : ∀ o', (wd.alloc o').cell? ⟨w.heap.size, 3, none⟩ = _ := fun _ => calloc y3
      clear y0 y1 y2 y3 kd
      go_wp2_with fail
      refine Calls.mono (HSN.out _) ?_
      rintro e we ⟨rfl, hb⟩
      obtain ⟨hb1, kr, -⟩ := one_of hb
      have HBe := Lib.hid (bl HBd.out hb1 HBd.out.size)
      clear hb hb1 a0 a1 a2 a3
      obtain ⟨b0, b1, b2, b3, b4⟩ := cells_five kr
      go_wp2
      go_ret
      exact ⟨rfl, HBe.out⟩
theorem TripRuns_any (l s n d : Int) (q0 : Option Addr) (n0 c0 : Nat) (o : List UInt8) (p1 : Option Addr) (n1 c1 : Nat) (srcs : List SrcD) (p2 : Option Addr) (n2 c2 : Nat) (acs : List ActD) (w : World) (w0 : (Lit.int .i64 l).wf = true) (_w1 : (Lit.int .i64 s).wf = true) (_w2 : (Lit.int .i64 n).wf = true) (w3 : (Lit.int .u32 d).wf = true) (h0 : Sl B8 w q0 n0 c0 o) (h1 : SlS w p1 n1 c1 srcs) (h2 : SlA w p2 n2 c2 acs) (hT : HalfT w) :
    Calls Tryz.prog 6 #[.agg #[.int .i64 l, .int .i64 s, .int .i64 n, .int .u32 d], .slice q0 n0 c0, .slice p1 n1 c1, .slice p2 n2 c2] w fun e w' => e = .returned (.bool true) ∧ Below w.heap.size w w' := by
  have hl := (Go.bounds_i64 w0).2
  have hd := Go.bounds_u32 w3
  by_cases hx : few22 n0 srcs acs = false ∨ small19 l s n = false ∨ cutC l s n n0 ≠ 0
  · exact TripRuns_out l s n d q0 n0 c0 p1 n1 c1 srcs p2 n2 c2 acs w hl h0.bound h1 h2 hT hx
  · have hfw : few22 n0 srcs acs = true := by
      cases h : few22 n0 srcs acs with
      | true => rfl
      | false => exact absurd (.inl h) hx
    have hsm : small19 l s n = true := by
      cases h : small19 l s n with
      | true => rfl
      | false => exact absurd (.inr (.inl h)) hx
    have hcu : cutC l s n n0 = 0 := Classical.byContradiction fun h => hx (.inr (.inr h))
    have hc : checkS l s n = 0 := by
      unfold cutC at hcu
      by_cases h : checkS l s n = 0
      · exact h
      · rw [if_pos h] at hcu; exact absurd hcu h
    have hln : (n0 : Int) = l := by
      unfold cutC at hcu
      rw [if_neg (by simp [hc])] at hcu
      by_cases h : (n0 : Int) = l
      · exact h
      · rw [if_pos h] at hcu; cases hcu
    obtain ⟨L, t, k, D, rfl, rfl, rfl, rfl, hP⟩ := pok_of hl hc hd.1 (by omega)
    have e : L = n0 := by omega
    subst e
    have hf := hfw
    unfold few22 at hf
    rw [Bool.and_eq_true, Bool.and_eq_true, Bool.and_eq_true] at hf
    obtain ⟨f1, -, f3, f4⟩ := hf
    unfold few20 at f4
    rw [Bool.and_eq_true, Bool.and_eq_true, Bool.and_eq_true] at f4
    have hn1 : n1 ≤ 20 := by have := of_decide_eq_true f3; rw [h1.len] at this; exact this
    have hn2 : n2 ≤ 40 := by have := of_decide_eq_true f4.2.2; rw [h2.len] at this; exact this
    exact TripRuns_core L t k D q0 c0 o p1 n1 c1 srcs p2 n2 c2 acs w hP (pok_fit hP).1 h0 h1 h2 hT hn1 hn2 (fun a ha => by have := of_decide_eq_true (List.all_eq_true.1 f1 a ha); omega) (fun a ha => by have := of_decide_eq_true (List.all_eq_true.1 f4.1.2 a ha); show _ ≤ _; omega) hfw hsm
end Go.Proofs.YtfbmdlfkipipfaaGreatDoor
namespace Go.By
open Go.RowKit
end Go.By
namespace Go.Proofs.YtfbmdlfkipipfaaGreatDoor
open Go.RowKit Go.By
theorem halves_of {rest : List (String × DataW Unit)} {W : World} (h : laidMet Tryz.prog (("wellspring/sum.halves", Rows.laid_wellspring_sum_halves) :: rest) W) : HalfT W := by
  obtain ⟨zs, hz, hzl, hzc⟩ : ∃ zs : List Int, (Rows.laid_wellspring_sum_halves : DataW Unit) = Lib.tabData .u32 zs ∧ zs.length = 16 ∧ ∀ i, i < 16 → zs.getD i 0 = ((crcTab.getD i 0 : Nat) : Int) := ⟨[0, 498536548, 997073096, 651767980, 1994146192, 1802195444, 1303535960, 1342533948, 3988292384, 4027552580, 3604390888, 3412177804, 2607071920, 2262029012, 2685067896, 3183342108], rfl, rfl, by decide⟩
  rw [hz] at h
  have h3 := Lib.tabIs_of_head (g := 0) (t := 291) (e := 23) (n := 16) (by kernel_rfl) (by kernel_rfl) (by kernel_rfl) (by kernel_rfl) (by kernel_rfl) (by kernel_rfl) h
  intro i hi
  have := h3.cell (g := 0) (by kernel_rfl) i (by omega)
  rw [hzc i hi] at this
  exact this
end Go.Proofs.YtfbmdlfkipipfaaGreatDoor
