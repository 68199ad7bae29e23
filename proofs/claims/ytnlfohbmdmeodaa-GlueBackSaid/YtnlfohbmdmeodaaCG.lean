/- The walk of glue.Fill, where all that is known fits. -/
import Derived.Test.YtnlfohbmdmeodaaCF
import Derived.Test.YtnlfohbmdmeodaaRD
import Derived.Test.YtnlfohbmdmeodaaR4
namespace Go.Proofs.Ytnlfohbmdmeodaa
open Go.RowKit Go.By
theorem wrap_smallC {f : Nat} (h : f ≤ 1000000) : wrap64 (f : Int) = (f : Int) := by unfold wrap64; omega
set_option maxRecDepth 100000 in
theorem slice_atC (g l f : Nat) (hk : f ≤ l) (W : World) : (Instr.sliceAt 28 (.slice (some ⟨g, 0, none⟩) l l) (some (.int .i64 (f : Int))) none none).run Try.prog W = .ok (.slice (if l = f then some ⟨g, 0, none⟩ else some ⟨g, f, none⟩) (l - f) (l - f)) W := by
  have hel : Try.prog.underlying 28 = some (.slice (Try.prog.elem 28)) := by simp [Program.elem, Try.underlying28]
  rw [run_sliceAt_slice (h := hel), run_slice_l (ht := hel) (h0 := by omega) (h1 := by omega)]
  clear hel
  by_cases h : l = f
  · rw [if_pos h]; subst h; go_simp
  · rw [if_neg h]
    have h2 : (l : Nat) ≠ f := h
    go_simp
theorem info_boolC : (Try.prog.info? 4).map (fun i => (i.zero, i.size, i.bytes)) = some (some (.bool false), 1, 1) := by kernel_rfl
/-- the slices that lie there, each of a symbol -/
def VsOk (m s : Nat) (P : Nat → List UInt8) (vs : List Value) (W : World) : Prop := ∀ i, i < m → ∃ ad c, vs.getD i undef = .slice (some ad) s c ∧ Sl B8 W (some ad) s c (P i)
theorem VsOk.keep {m s : Nat} {P : Nat → List UInt8} {vs : List Value} {W W' : World} (h : VsOk m s P vs W) (hb : Below W.heap.size W W') : VsOk m s P vs W' := fun i hi => by
  obtain ⟨ad, c, e, hs⟩ := h i hi
  exact ⟨ad, c, e, hs.keep hb⟩
theorem VsOk.reads {m s : Nat} {P : Nat → List UInt8} {vs : List Value} {W : World} (h : VsOk m s P vs W) (hs : 1 ≤ s) : ∀ j, j < m → ∃ y, slR (vs.getD j undef) = some y := fun j hj => by
  obtain ⟨ad, c, e, hsl⟩ := h j hj
  obtain ⟨b, o, e2, -⟩ := hsl.rs 0 (by have := hsl.len; omega)
  cases e2
  rw [e]; exact ⟨_, rfl⟩
set_option maxRecDepth 100000 in
set_option maxHeartbeats 8000000 in
theorem Fill_any (d : Int) (l s m bm cnt : Nat) (S : Nat → Bool) (P : Nat → List UInt8) (vs : List Value) (w : World) (hl2 : l ≤ 1000000) (hk : checkS l s m = 0) (hfit : ∀ i : Nat, i < m → i * s ≤ l) (hlm : l ≤ m * s) (hc : cnt ≤ 100000) (hM : MapC bm cnt m S vs w) (hV : VsOk m s P vs w) :
    Calls Try.prog 14 #[.agg #[.int .i64 (l : Int), .int .i64 (s : Int), .int .i64 (m : Int), .int .u32 d], .map (some bm)] w fun e w' => ∃ gO gT, e = .returned (.tuple #[.slice (some ⟨gO, 0, none⟩) l l, .slice (some ⟨gT, 0, none⟩) l l, .int .i64 0]) ∧ w.heap.size ≤ gO ∧ w.heap.size ≤ gT ∧ w'.heap[gO]? = some (.cells ((objL l s P S).map B8).toArray 5 (0, 0)) ∧ w'.heap[gT]? = some (.cells ((toldT l (fun a => S (a / s))).map Value.bool).toArray 4 (0, 0)) ∧ Below w.heap.size w w' := by
  obtain ⟨i0, hi0, hz0, hz1, hz2⟩ := info_parts info_u8
  obtain ⟨t0, ht0, htz, ht1, ht2⟩ := info_parts info_boolC
  obtain ⟨-, hs1, hs2, -, hm4⟩ := checkS_okC hk
  have HC := Lib.hid (fun w => Check_any l s m d w (by omega))
  rw [hk] at HC
  have hm5 : m ≤ 4096 := by omega
  have hs3 : 1 ≤ s := by omega
  have hs4 : s ≤ 65535 := by omega
  have HM := Lib.hid hM; have HV := Lib.hid hV; have HFT := Lib.hid hfit; have HLM := Lib.hid hlm
  have HVR := Lib.hid (hV.reads hs3)
  have HM1 : Hid (l ≤ maxLen) := by show l ≤ maxLen; unfold maxLen; omega
  have HM2 : Hid (1 * l ≤ 281474976710656) := by show 1 * l ≤ _; omega
  have HX : Hid (∀ o, (w.alloc o).heap[w.heap.size]? = some o) := fun o => hnew rfl
  have HBA : Hid (∀ (W : World) o, Below W.heap.size W (W.alloc o)) := fun W o => al (Below.refl _ _) (Nat.le_refl _)
  clear hk hfit hs1 hs2 hm4 hM hV hlm
  go_enter Try.func14, Try.ntmps14
  go_wp2_with fail
  refine Calls.mono (HC.out _) ?_
  rintro e w1 ⟨rfl, hb⟩
  have X1 : Hid (w1.heap[w.heap.size]? = some (.cells #[.int .i64 (l : Int), .int .i64 (s : Int), .int .i64 (m : Int), .int .u32 d] 24 (0, 0))) := (hb.block _ (lt_of_blk (HX.out _))).trans (HX.out _)
  have B1 : Hid (Below w.heap.size w w1) := bl (HBA.out _ _) hb (by simp)
  obtain ⟨b0, hb0⟩ : ∃ b0, b0 = w.heap.size := ⟨_, rfl⟩
  have HB0 := Lib.hid hb0
  rw [← hb0] at X1 ⊢
  clear hb HX hb0
  go_wp2_with fail
  refine Calls.mono (KeysC_any bm _) ?_
  rintro e w' ⟨rfl, rfl⟩
  go_wp2_with fail
  refine Calls.mono (SortedC_any bm cnt m _ S vs _ (HM.out.keep (bl B1.out (HBA.out _ _) B1.out.size)) (hnew rfl) hc) ?_
  rintro e w2 ⟨q, n, c, ks, rfl, hks, hmem, hb⟩
  have B2 : Hid (Below w.heap.size w w2) := bl (bl B1.out (HBA.out _ _) B1.out.size) hb (by have := B1.out.size; simp; omega)
  have X2 : Hid (w2.heap[b0]? = some (.cells #[.int .i64 (l : Int), .int .i64 (s : Int), .int .i64 (m : Int), .int .u32 d] 24 (0, 0))) := by
    have h1 := hal (o := .cells #[.map (some bm)] 42) X1.out
    exact (hb.block _ (lt_of_blk h1)).trans h1
  have hnb := hks.bound
  have HKS := Lib.hid hks; have HME := Lib.hid hmem
  have HKN : Hid (ks.length = n) := by have := hks.len; rw [List.length_map] at this; exact this
  clear hb hks hmem X1 B1
  obtain ⟨p0, p1, p2, p3⟩ := cells4 X2.out
  have HLK : Hid (∀ k, k < m → S k = true → ∃ ad c, (∀ W, Below w.heap.size w W → (Instr.lookup 42 (.map (some bm)) (.int .i64 (k : Int)) false).run Try.prog W = .ok (.slice (some ad) s c) W) ∧ Sl B8 w (some ad) s c (P k)) := fun k hk hS => by
    obtain ⟨ad, c, e, hsl⟩ := HV.out k hk
    refine ⟨ad, c, fun W hW => ?_, hsl⟩
    have hr := (HM.out.keep hW).look hk (by omega) HVR.out false
    rw [if_pos hS, if_neg (by decide), e] at hr
    exact hr
  go_wp2
  go_loop [27] (fun i => ∃ j : Nat, j ≤ n ∧ i = .int .i64 (j : Int)) (fun i => n - (intOf i).toNat)
  case atStart => exact ⟨0, Nat.zero_le _, rfl⟩
  case round =>
    obtain ⟨j, hj, rfl⟩ := hrel
    by_cases hlt : j < n
    · obtain ⟨b, o, x, rfl, hcell, hx⟩ := HKS.out.at j hlt
      obtain ⟨k, hk⟩ : ∃ k, ks[j]? = some k := ⟨ks[j]'(by have := HKN.out; omega), List.getElem?_eq_getElem _⟩
      have hxk : x = (k : Int) := by
        have := hx.out
        rw [List.getElem?_map, hk] at this
        exact (Option.some.inj this).symm
      subst hxk
      have hcell' : w2.cell? ⟨b, o + j, none⟩ = some (.int .i64 (k : Int)) := hcell
      obtain ⟨hkm, hkS⟩ := (HME.out k).1 (List.mem_of_getElem? hk)
      obtain ⟨ad, ck, hrun, -⟩ := HLK.out k hkm hkS
      have hlk := hrun w2 B2.out
      have hkm' : ¬ (m : Int) ≤ (k : Int) := by omega
      have hlt' : (j : Int) < (n : Int) := by omega
      clear hcell hrun hkS hk hx hlt hkm
      go_wp2_with (first | simp only [hlk] | fail)
      go_round
      case rel => exact ⟨j + 1, by omega, by go_num⟩
      case measure => simp [intOf]; omega
    · have hge : ¬ (j : Int) < (n : Int) := by omega
      clear hlt
      go_wp2_with (at_make; refine wpList_make_full _ rfl _ _ 28 rfl w2.heap.size 5 i0 (.int .u8 0) 1 Try.underlying28 hi0 hz0 hz1 .i64 .i64 _ _ l rfl rfl rfl rfl (by rw [hz2]; exact HM2.out) HM1.out (Nat.le_refl _) ?_)
      intro w3 ho hg
      have O3 : Hid (w3.heap[w2.heap.size]? = some (.cells ((objL l s P (fun _ => false)).map B8).toArray 5 (0, 0))) := by
        have e : (madeCells #[Value.int .u8 0] l).toList = List.replicate l (B8 0) := toList_madeCells_one _ _
        rw [e] at ho
        have e2 := objL_zero l s P
        show _ = _
        rw [e2]; exact heap_of_ownsC ho
      have B3 : Hid (Below w2.heap.size w2 w3) := (Below.refl _ _).grown hg (Nat.le_refl _) (by simp)
      have X3 : Hid (w3.heap[b0]? = some (.cells #[.int .i64 (l : Int), .int .i64 (s : Int), .int .i64 (m : Int), .int .u32 d] 24 (0, 0))) := (B3.out.block _ (lt_of_blk X2.out)).trans X2.out
      have hgO : w2.heap.size < w3.heap.size := lt_of_blk O3.out
      clear ho hg p0 p1 p2 p3
      obtain ⟨p0, p1, p2, p3⟩ := cells4 X3.out
      go_wp2_with (at_make; refine wpList_make_full _ rfl _ _ 43 rfl w3.heap.size 4 t0 (.bool false) 1 Try.underlying43 ht0 htz ht1 .i64 .i64 _ _ l rfl rfl rfl rfl (by rw [ht2]; exact HM2.out) HM1.out (Nat.le_refl _) ?_)
      intro w4 ho hg
      have T4 : Hid (w4.heap[w3.heap.size]? = some (.cells ((toldT l (fun _ => false)).map Value.bool).toArray 4 (0, 0))) := by
        have e : (madeCells #[Value.bool false] l).toList = List.replicate l (Value.bool false) := toList_madeCells_one _ _
        rw [e] at ho
        have e2 := toldT_zero l
        show _ = _
        rw [e2]; exact heap_of_ownsC ho
      have O4 : Hid (w4.heap[w2.heap.size]? = some (.cells ((objL l s P (fun _ => false)).map B8).toArray 5 (0, 0))) := (hg.block _ (lt_of_blk O3.out) (by simp)).trans O3.out
      have B4 : Hid (Below w2.heap.size w2 w4) := B3.out.grown hg B3.out.size (by simp)
      have hwo : Hid (w.heap.size ≤ w2.heap.size) := B2.out.size
      clear ho hg p0 p1 p2 p3 X3 O3 B3
      obtain ⟨gO, hgOe⟩ : ∃ gO, gO = w2.heap.size := ⟨_, rfl⟩
      obtain ⟨gT, hgTe⟩ : ∃ gT, gT = w3.heap.size := ⟨_, rfl⟩
      rw [← hgOe] at hgO O4 hwo ⊢
      rw [← hgTe] at hgO T4 ⊢
      have HGO := Lib.hid hgOe
      have HB5 : Hid (∀ W, Below w2.heap.size w2 W → Below w.heap.size w W) := fun W h => bl B2.out h B2.out.size
      have HX5 : Hid (∀ W, Below w2.heap.size w2 W → W.heap[b0]? = some (.cells #[.int .i64 (l : Int), .int .i64 (s : Int), .int .i64 (m : Int), .int .u32 d] 24 (0, 0))) := fun W h => (h.block _ (lt_of_blk X2.out)).trans X2.out
      clear hgOe hgTe X2 B2
      go_wp2
      go_loopw [55] (fun i wr => ∃ j : Nat, j ≤ j ∧ j ≤ ks.length ∧ i = .int .i64 (j : Int) ∧ Hid (wr.heap[gO]? = some (.cells ((objL l s P (fun i => (ks.take j).contains i)).map B8).toArray 5 (0, 0))) ∧ Hid (wr.heap[gT]? = some (.cells ((toldT l (fun a => (ks.take j).contains (a / s))).map Value.bool).toArray 4 (0, 0))) ∧ Hid (Below w2.heap.size w2 wr)) (fun i _ => ks.length - (intOf i).toNat)
      case atStart => exact ⟨0, Nat.le_refl _, Nat.zero_le _, rfl, O4.out, T4.out, B4.out⟩
      case round =>
        obtain ⟨j', -, hj', rfl, hO, hT, hB⟩ := hrel
        by_cases hlt : j' < ks.length
        · obtain ⟨b, o, x, rfl, hcell, hx⟩ := (HKS.out.keep hB.out).at j' (by have := HKN.out; omega)
          obtain ⟨k, hk⟩ : ∃ k, ks[j']? = some k := ⟨ks[j'], List.getElem?_eq_getElem _⟩
          have hxk : x = (k : Int) := by
            have := hx.out
            rw [List.getElem?_map, hk] at this
            exact (Option.some.inj this).symm
          subst hxk
          have hcell' : wr.cell? ⟨b, o + j', none⟩ = some (.int .i64 (k : Int)) := hcell
          obtain ⟨hkm, hkS⟩ := (HME.out k).1 (List.mem_of_getElem? hk)
          obtain ⟨ad, ck, hrun, hsl⟩ := HLK.out k hkm hkS
          have HSL := Lib.hid (hsl.keep (HB5.out _ hB.out))
          have HK := Lib.hid hk
          obtain ⟨p0, p1, p2, p3⟩ := cells4 (HX5.out _ hB.out)
          have hfk := HFT.out k hkm
          obtain ⟨f, hf⟩ : ∃ f, f = k * s := ⟨_, rfl⟩
          have hfi : (k : Int) * (s : Int) = (f : Int) := by rw [hf]; simp
          have hfl : f ≤ l := by omega
          have hfl' : (f : Int) ≤ (l : Int) := by omega
          have hlt' : (j' : Int) < (n : Int) := by have := HKN.out; omega
          have HF := Lib.hid hf
          have HRUN := Lib.hid hrun
          have HW3 := Lib.hid (wrap_smallC (show f ≤ 1000000 from Nat.le_trans hfl hl2))
          clear hcell hrun hkS hk hx hlt hsl hf hfk hkm
          go_wp2_with fail
          obtain ⟨dp, hdp⟩ : ∃ dp : Option Addr, dp = if l = f then some ⟨gO, 0, none⟩ else some ⟨gO, f, none⟩ := ⟨_, rfl⟩
          have hsl2 := slice_atC gO l f hfl
          rw [← hdp] at hsl2
          have hdp2 : l - f = 0 ∨ dp = some ⟨gO, f, none⟩ := by
            by_cases h : l = f
            · exact .inl (by rw [h, Nat.sub_self])
            · exact .inr (by rw [hdp, if_neg h])
          obtain ⟨z, hz⟩ : ∃ z, z = ((P k).take (l - f)).length := ⟨_, rfl⟩
          have hBd : Below w2.heap.size w2 wr.drew := ⟨hB.out.os, hB.out.tape, hB.out.output, hB.out.size, hB.out.block⟩
          have HSP := Lib.hid (objL_splice (A := fun i => (ks.take j').contains i) (P := P) hs3 (show k * s ≤ l by rw [← HF.out]; exact hfl) HSL.out.len)
          rw [← HF.out] at HSP
          obtain ⟨OB, hOB⟩ : ∃ OB, OB = objL l s P (fun i => (ks.take j').contains i || decide (i = k)) := ⟨_, rfl⟩
          have HOB := Lib.hid hOB
          rw [← hOB] at HSP
          have hGO := HGO.out
          have hwo2 := HB5
          clear hOB hdp
          refine wp_region_dones (fun dn W => if dn 6 = true then CpC 5 gO OB wr W else W = wr.drew) (fun i W W' => if i = 6 then CpC 5 gO OB wr W' else W' = W) (shC gO l f s bm k z dp ad ck (CpC 5 gO OB wr)) 82 rfl (by kernel_rfl) (by decide) (by decide) (by decide) rfl ?er ?kp ?each ?fin
          case er =>
            intro dn i w5 w6 hdn hE hR
            by_cases h6 : i = 6
            · subst h6; simpa using hR
            · simp only [h6, if_false] at hR
              subst hR
              simp only [h6, if_false]
              exact hE
          case kp =>
            intro i j v w5 w6 hij hp hs hR
            match j, hij, hs with
            | 0, _, hs => exact hs
            | 1, _, hs => exact hs
            | 2, _, hs => exact hs
            | 3, _, hs => exact hs
            | 4, _, hs => exact hs
            | 5, _, hs => exact hs
            | 6, hij, hs =>
              simp only [hij, if_false] at hR
              subst hR; exact hs
            | 7, _, hs => exact hs
            | j + 8, _, _ => exact trivial
          case each =>
            refine ⟨?_, ?_, ?_, ?_, ?_, ?_, ?_, ?_, trivial⟩
            · intro a W dn hdn hE hs hp hi
              exact ite_y rfl (wp_val (sl a 11) rfl ⟨_, rfl, by simp, hi 11 (by decide)⟩)
            · intro a W dn hdn hE hs hp hi
              exact ite_y rfl (wp_val (sl a 15) rfl ⟨_, rfl, by simp, hi 15 (by decide)⟩)
            · intro a W dn hdn hE hs hp hi
              have u0 : sl a 63 = .slice (some ⟨gO, 0, none⟩) l l := hp 0 (by decide)
              have u1 : sl a 64 = .int .i64 (f : Int) := hp 1 (by decide)
              refine ite_y rfl (wp_val (.slice dp (l - f) (l - f)) ?_ ⟨_, rfl, by simp, rfl⟩)
              simp only [execOp, Option.map, eval_tmp, u0, u1, Sem.run_bind]
              rw [hsl2]; rfl
            · intro a W dn hdn hE hs hp hi
              exact ite_y rfl (wp_val (sl a 1) rfl ⟨_, rfl, by simp, hi 1 (by decide)⟩)
            · intro a W dn hdn hE hs hp hi
              exact ite_y rfl (wp_val (sl a 14) rfl ⟨_, rfl, by simp, hi 14 (by decide)⟩)
            · intro a W dn hdn hE hs hp hi
              have u3 : sl a 66 = .map (some bm) := hp 3 (by decide)
              have u4 : sl a 67 = .int .i64 (k : Int) := hp 4 (by decide)
              have hBW : Below w2.heap.size w2 W := by
                by_cases h6 : dn 6 = true
                · rw [if_pos h6] at hE
                  exact hB.out.grown hE.2 hB.out.size (fun r hr => by cases hr; omega)
                · rw [if_neg h6] at hE
                  subst hE; exact hBd
              have hl3 := HRUN.out W (HB5.out _ hBW)
              refine ite_y rfl (wp_val (.slice (some ad) s ck) ?_ ⟨_, rfl, by simp, rfl⟩)
              simp only [execOp, eval_tmp, u3, u4, Sem.run_bind]
              rw [hl3]; rfl
            · intro a W dn hdn hE hs hp hi
              have u2 : sl a 65 = .slice dp (l - f) (l - f) := hp 2 (by decide)
              have u5 : sl a 68 = .slice (some ad) s ck := hp 5 (by decide)
              rw [if_neg (by rw [hdn]; decide)] at hE
              subst hE
              refine ite_y rfl (wp_copy_atC _ (.tmp 65) (.tmp 68) 28 28 rfl 5 Try.underlying28 (by kernel_rfl) gO f (l - f) (l - f) dp ad s ck u2 hdp2 u5 (objL l s P (fun i => (ks.take j').contains i)) (P k) 5 hO.out (by rw [objL_len, Nat.add_sub_cancel' hfl]) ⟨HSL.out.len, HSL.out.le, HSL.out.max, HSL.out.nil, HSL.out.rs⟩ hs3 ?_)
              intro w' hh hg
              rw [HSP.out] at hh
              have hok : CpC 5 gO OB wr w' := ⟨hh, ⟨hg.os, hg.tape, hg.output, hg.size, hg.block⟩⟩
              refine ⟨_, rfl, by simp; exact hok, ?_, hok⟩
              rw [hz]; rfl
            · intro a W dn hdn hE hs hp hi
              exact ite_y rfl (wp_val (.int .i64 0) rfl ⟨_, rfl, by simp, rfl⟩)
          case fin =>
            intro a W dn hE hs hd hI ht
            have ha := act_is [63, 64, 65, 66, 67, 68, 69, 70] hs hd ht (by decide)
            obtain ⟨u6, hok⟩ : sl a 69 = .int .i64 (z : Int) ∧ CpC 5 gO OB wr W := hI 6 (by decide)
            have u7 : sl a 70 = .int .i64 0 := hI 7 (by decide)
            simp only [List.foldl, u6, u7] at ha
            generalize sl a 63 = v63 at ha
            generalize sl a 64 = v64 at ha
            generalize sl a 65 = v65 at ha
            generalize sl a 66 = v66 at ha
            generalize sl a 67 = v67 at ha
            generalize sl a 68 = v68 at ha
            simp only [Act.put, List.setIfInBounds_toArray, List.set_cons_zero, List.set_cons_succ] at ha
            rw [ha]
            have hB5 : Hid (Below w2.heap.size w2 W) := hB.out.grown hok.2 hB.out.size (fun r hr => by cases hr; exact Nat.le_of_eq hGO.symm)
            have hT5 : Hid (W.heap[gT]? = some (.cells ((toldT l (fun a => (ks.take j').contains (a / s))).map Value.bool).toArray 4 (0, 0))) := (hok.2.block _ (lt_of_blk hT.out) (by intro e; cases e; exact Nat.lt_irrefl _ hgO)).trans hT.out
            have hO5 := Lib.hid hok.1
            have hzl : z ≤ l - f := by rw [hz, List.length_take]; exact Nat.min_le_left _ _
            have hzm : Hid (z = min (l - f) s) := by show _ = _; rw [hz, List.length_take, HSL.out.len]
            clear ha hI ht hE hs hd hok hz hO hT hB hBd hdp2 hsl2 u6 u7 hcell' p0 p1 p2 p3 HSP HSL HRUN hwo2
            go_wp2
            go_loopw [70] (fun i wz => ∃ a0 : Nat, a0 ≤ z ∧ i = .int .i64 (a0 : Int) ∧ Hid (wz.heap[gT]? = some (.cells ((toldT l (fun x => (ks.take j').contains (x / s) || decide (f ≤ x ∧ x < f + a0))).map Value.bool).toArray 4 (0, 0))) ∧ Hid (wz.heap[gO]? = some (.cells (OB.map B8).toArray 5 (0, 0))) ∧ Hid (Below w2.heap.size w2 wz)) (fun i _ => z - (intOf i).toNat)
            case atStart => exact ⟨0, Nat.zero_le _, rfl, by have := hT5.out; rw [told_start (f := f)] at this; exact this, hO5.out, hB5.out⟩
            case round =>
              obtain ⟨a0, ha0, rfl, hT6, hO6, hB6⟩ := hrel
              by_cases hlz : a0 < z
              · have hia : f + a0 < l := by omega
                have hlz' : (a0 : Int) < (z : Int) := by omega
                have hil : (f : Int) + (a0 : Int) < (l : Int) := by omega
                have hi0 : (0 : Int) ≤ (f : Int) + (a0 : Int) := by omega
                have hfa : ((f : Int) + (a0 : Int)).toNat = f + a0 := by omega
                obtain ⟨bv, g0⟩ : ∃ bv, wr.cell? ⟨gT, f + a0, none⟩ = some (.bool bv) := ⟨_, by rw [cell_of_row _ _ _ _ _ _ hT6.out]; exact told_cell hia⟩
                have g1 : wr.frozen? ⟨gT, f + a0, none⟩ = false := frozen_of_row _ _ _ _ _ hT6.out
                have T7 : Hid ((wr.setCell ⟨gT, f + a0, none⟩ (.bool true)).heap[gT]? = some (.cells ((toldT l (fun x => (ks.take j').contains (x / s) || decide (f ≤ x ∧ x < f + (a0 + 1)))).map Value.bool).toArray 4 (0, 0))) := by
                  have := hss (i := f + a0) (v := .bool true) hT6.out
                  rw [told_step] at this; exact this
                have O7 : Hid ((wr.setCell ⟨gT, f + a0, none⟩ (.bool true)).heap[gO]? = some (.cells (OB.map B8).toArray 5 (0, 0))) := hsc hO6.out (Nat.ne_of_lt hgO)
                have B7 : Hid (Below w2.heap.size w2 (wr.setCell ⟨gT, f + a0, none⟩ (.bool true))) := hB6.out.setCell (by rw [← hGO]; exact Nat.le_of_lt hgO) _
                clear hT6 hO6 hB6 hlz
                go_wp2
                go_roundw
                case rel => exact ⟨a0 + 1, by omega, by go_num, T7.out, O7.out, B7.out⟩
                case measure => simp [intOf]; omega
              · obtain rfl : a0 = z := by omega
                have O8 : Hid (wr.heap[gO]? = some (.cells ((objL l s P (fun i => (ks.take (j' + 1)).contains i)).map B8).toArray 5 (0, 0))) := by
                  have e : (fun i => (ks.take (j' + 1)).contains i) = fun i => (ks.take j').contains i || decide (i = k) := funext (take_has HK.out)
                  show _ = _
                  rw [e, ← HOB.out]; exact hO6.out
                have T8 : Hid (wr.heap[gT]? = some (.cells ((toldT l (fun a => (ks.take (j' + 1)).contains (a / s))).map Value.bool).toArray 4 (0, 0))) := by
                  have h := hT6.out
                  rw [told_end (T := fun i => (ks.take j').contains i) hs3 HF.out hzm.out] at h
                  have e : (fun a => (ks.take (j' + 1)).contains (a / s)) = fun a => ((ks.take j').contains (a / s) || decide (a / s = k)) := funext (fun a => take_has HK.out (a / s))
                  show _ = _
                  rw [e]; exact h
                have hjl : j' + 1 ≤ ks.length := (List.getElem?_eq_some_iff.1 HK.out).1
                clear hT6 hO6 hlz
                go_wp2
                go_roundw
                case rel => exact ⟨j' + 1, Nat.le_refl _, hjl, by go_num, O8.out, T8.out, hB6.out⟩
                case measure => simp [intOf]; omega
        · have hjk : j' = ks.length := by omega
          have hge2 : ¬ (j' : Int) < (n : Int) := by have := HKN.out; omega
          have hS : ∀ a, a < l → (ks.take j').contains (a / s) = S (a / s) := fun a ha => by
            rw [hjk, List.take_length]
            have hd : a / s < m := (Nat.div_lt_iff_lt_mul (by omega)).2 (Nat.lt_of_lt_of_le ha HLM.out)
            cases hs : S (a / s) with
            | true => exact List.contains_iff_mem.2 ((HME.out _).2 ⟨hd, hs⟩)
            | false =>
              cases hcn : ks.contains (a / s) with
              | false => rfl
              | true =>
                have := ((HME.out _).1 (List.contains_iff_mem.1 hcn)).2
                rw [hs] at this; cases this
          have O9 : Hid (wr.heap[gO]? = some (.cells ((objL l s P S).map B8).toArray 5 (0, 0))) := by
            have h := hO.out
            rw [objL_congr (B := S) hS] at h; exact h
          have T9 : Hid (wr.heap[gT]? = some (.cells ((toldT l (fun a => S (a / s))).map Value.bool).toArray 4 (0, 0))) := by
            have h := hT.out
            rw [toldT_congr hS] at h; exact h
          have hgT2 : w.heap.size ≤ gT := Nat.le_trans hwo.out (Nat.le_of_lt hgO)
          have hB9 := HB5.out _ hB.out
          have HB9 := Lib.hid hB9
          clear hS hO hT hlt hB9
          go_wp2
          go_ret3
          exact ⟨gO, gT, rfl, hwo.out, hgT2, O9.out, T9.out, HB9.out⟩
end Go.Proofs.Ytnlfohbmdmeodaa
