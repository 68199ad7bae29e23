/- Chapter 21: RelaySays. Chapter 21: RelaySays, of any plan. Arguments that came in, as bytes and slices of bytes. Arguments that came in: slices of byte slices. The table of the sum, out of the row's condition. -/
import Derived.Test.YtcfdopiponlboaaGreatDoorZh9
import Derived.OpenShut
import Derived.Deep.Matrix
import Derived.Test.YtcfdopiponlboaaGreatDoorRows
import Derived.Lib.LaidTab
namespace Go.Proofs.YtcfdopiponlboaaGreatDoor
open Go.RowKit Go.By Go.Maps
theorem _root_.Go.By.GChg.rwL {w w' : World} {g base T' T2 T1 n : Nat} {old : Array Value} {fr : Nat × Nat} {v : Value} {K : List Rw} (h : GChg w g w') (hg : w.heap[g]? = some (.cells old T' fr)) (hr : RwL T2 T1 w base v n K) (h2 : T' ≠ T2) (h1 : T' ≠ T1) : RwL T2 T1 w' base v n K := by
  obtain ⟨vs, a, b, o, r⟩ := hr
  refine ⟨vs, a, b, h.owns hg o h2, fun j u hj => ?_⟩
  obtain ⟨k, hk, ⟨q1, m1, c1, e1, l1, o1⟩, ⟨q2, m2, c2, e2, l2, o2⟩⟩ := r j u hj
  exact ⟨k, hk, ⟨q1, m1, c1, e1, l1, h.owns hg o1 h1⟩, ⟨q2, m2, c2, e2, l2, h.owns hg o2 h1⟩⟩
/-- what the operations of the region of two appends give -/
def shY (wz W : World) (b7 : Nat) (x y va vb : Value) (n : Nat) (A B : List (List UInt8)) (j : Nat) (v : Value) (w : World) : Prop := match j with
  | 0 => v = va
  | 1 => v = .pointer (some ⟨b7, 0, none⟩)
  | 2 => v = x
  | 3 => ∃ g, v = .slice (some ⟨g, 0, none⟩) 1 1 ∧ W.heap.size ≤ g ∧ w.heap[g]? = some (.cells #[x] 36 (0, 0))
  | 4 => Hdr 36 wz wz.heap.size w v n A ∧ ∀ b, v.ownBlock = some b → vb.ownBlock ≠ some b
  | 5 => v = vb
  | 6 => v = .pointer (some ⟨b7, 1, none⟩)
  | 7 => v = y
  | 8 => ∃ g, v = .slice (some ⟨g, 0, none⟩) 1 1 ∧ W.heap.size ≤ g ∧ w.heap[g]? = some (.cells #[y] 36 (0, 0))
  | 9 => Hdr 36 wz wz.heap.size w v n B
  | 10 => Hdr 36 wz wz.heap.size w v n A ∧ ∀ b, v.ownBlock = some b → vb.ownBlock ≠ some b
  | 11 => Hdr 36 wz wz.heap.size w v n B
  | _ => True
/-- how the slots are tied -/
def tieY (j : Nat) (σ : Nat → Value) : Prop := match j with
  | 9 => ∀ b, (σ 108).ownBlock = some b → (σ 113).ownBlock ≠ some b
  | 10 => σ 19 = σ 108
  | 11 => σ 20 = σ 113
  | _ => True
def depY (j : Nat) : List Nat := match j with
  | 9 => [108, 113]
  | 10 => [19, 108]
  | 11 => [20, 113]
  | _ => []
theorem tieY_of (j : Nat) (σ σ' : Nat → Value) (h : ∀ t, t ∈ depY j → σ' t = σ t) (hX : tieY j σ) : tieY j σ' := by
  match j, h, hX with
  | 9, h, hX => intro b; have e1 := h 108 (by simp [depY]); have e2 := h 113 (by simp [depY]); show (σ' 108).ownBlock = some b → (σ' 113).ownBlock ≠ some b; rw [e1, e2]; exact hX b
  | 10, h, hX => show σ' 19 = σ' 108; rw [h 19 (by simp [depY]), h 108 (by simp [depY])]; exact hX
  | 11, h, hX => show σ' 20 = σ' 113; rw [h 20 (by simp [depY]), h 113 (by simp [depY])]; exact hX
  | 0, _, _ => exact trivial
  | 1, _, _ => exact trivial
  | 2, _, _ => exact trivial
  | 3, _, _ => exact trivial
  | 4, _, _ => exact trivial
  | 5, _, _ => exact trivial
  | 6, _, _ => exact trivial
  | 7, _, _ => exact trivial
  | 8, _, _ => exact trivial
  | j + 12, _, _ => exact trivial
theorem few_len {xss : List (List UInt8)} {n1 : Nat} (h : (xss.all (fun y => decide (y.length ≤ 800)) && decide (n1 ≤ 30)) = true) {i : Nat} {xs : List UInt8} (hx : xss[i]? = some xs) : xs.length ≤ 800 := by
  rw [Bool.and_eq_true] at h
  have := List.all_eq_true.1 h.1 xs (List.mem_of_getElem? hx)
  exact of_decide_eq_true this

set_option maxRecDepth 100000 in
set_option maxHeartbeats 8000000 in
theorem RelaySays_core (L t k D first : Nat) (p1 : Option Addr) (n1 c1 : Nat) (xss : List (List UInt8)) (p2 : Option Addr) (n2 c2 : Nat) (dss : List (List UInt8)) (w : World) (hP : POK L t k D) (hf : first < 4294967296) (hk12 : k ≤ 12) (h1 : Sl2 w p1 n1 c1 xss) (h2 : Sl2 w p2 n2 c2 dss) (hT : HalfT w) (hfew : (xss.all (fun y => decide (y.length ≤ 800)) && decide (n1 ≤ 30)) = true) (hsm : small19 L t k = true) (hn2 : n2 ≤ 30) :
    Calls Tryz.prog 3 #[PVal L t k D, .int .u32 (first : Nat), .slice p1 n1 c1, .slice p2 n2 c2] w fun e w' => e = .returned (.bool true) ∧ Below w.heap.size w w' := by
  have HT := Lib.hid hT
  have HFew : Hid (∀ w, Sl2 w p1 n1 c1 xss → Calls Tryz.prog 6 #[.slice p1 n1 c1] w fun e w' => e = .returned (.bool true) ∧ w = w') := fun w h => by have := Few18_any p1 n1 c1 xss w h; rw [hfew] at this; exact this
  have HSm : Hid (∀ w, Calls Tryz.prog 7 #[PVal L t k D] w fun e w' => e = .returned (.bool true) ∧ Below w.heap.size w w') := fun w => by have := Small19_any L t k D w hP.l; rw [hsm] at this; exact this
  have HCk : Hid (∀ w, Calls Tryz.prog 9 #[PVal L t k D] w fun e w' => e = .returned (.int .i64 0) ∧ Below w.heap.size w w') := fun w => by
    have := RCheck_any (L : Int) (t : Int) (k : Int) (D : Int) w hP.l
    rw [hP.chk] at this; exact this
  have HNew := Lib.hid (fun w => YNew_ok L t k D first w hP hf)
  have HP := Lib.hid hP
  have H1 := Lib.hid h1
  have H2 := Lib.hid h2
  have HFw := Lib.hid hfew
  have hb1' := h1.bound
  have hb2' := h2.bound
  have ht2 := hP.t2
  have hn2' : ¬ (30 : Int) < (n2 : Int) := by omega
  have hfw : IntKind.u64.wrap (first : Int) = (first : Int) := by rw [IntKind.wrap_u64]; omega
  clear hT hP h1 h2 hfew hsm
  go_enter Tryz.func3, Tryz.ntmps3
  go_wp2_with fail
  refine Calls.mono (awake21 _ (HT.out.keep (al (Below.refl _ _) (Nat.le_refl _)))) ?_
  rintro e w1 ⟨rfl, hb⟩
  obtain ⟨hb1, kp, hs1⟩ := one_of hb
  have HB1 := Lib.hid hb1
  clear hb hb1
  go_wp2_with fail
  refine Calls.mono (HFew.out _ (H1.out.keep HB1.out)) ?_
  rintro e w2 ⟨rfl, rfl⟩
  obtain ⟨z0, z1, z2, z3⟩ := cells_four kp
  go_wp2_with fail
  refine Calls.mono (HSm.out _) ?_
  rintro e w3 ⟨rfl, hb⟩
  have HB3 := Lib.hid (bl HB1.out hb HB1.out.size)
  have kp3 := (hb.block _ (lt_of_block kp)).trans kp
  clear hb z0 z1 z2 z3 kp HB1
  obtain ⟨z0, z1, z2, z3⟩ := cells_four kp3
  have a0 : ∀ o', (w3.alloc o').cell? ⟨w.heap.size, 0, none⟩ = _ := fun _ => calloc z0
  have a1 : ∀ o', (w3.alloc o').cell? ⟨w.heap.size, 1, none⟩ = _ := fun _ => calloc z1
  have a2 : ∀ o', (w3.alloc o').cell? ⟨w.heap.size, 2, none⟩ = _ := fun _ => calloc z2
  have a3 : ∀ o', (w3.alloc o').cell? ⟨w.heap.size, 3, none⟩ = _ := fun _ => calloc z3
  go_wp2_with fail
  refine Calls.mono (HNew.out _) ?_
  rintro e w4 ⟨gr, gt, be, v0, rfl, hr, hb⟩
  obtain ⟨hb4, kd, hs4⟩ := one_of hb
  have KA4 := Lib.hid ((hb4.block _ (lt_of_block kp3)).trans kp3)
  have HB4 := Lib.hid (bl HB3.out hb4 HB3.out.size)
  have HBase : Hid (w.heap.size ≤ (w3.alloc (.cells #[.int .i64 (L : Nat), .int .i64 (t : Nat), .int .i64 (k : Nat), .int .u32 (D : Nat)] 29 (0, 0))).heap.size) := by have := HB3.out.size; show _ ≤ _; simp; omega
  obtain ⟨base, hbase⟩ : ∃ base, base = (w3.alloc (.cells #[.int .i64 (L : Nat), .int .i64 (t : Nat), .int .i64 (k : Nat), .int .u32 (D : Nat)] 29 (0, 0))).heap.size := ⟨_, rfl⟩
  rw [← hbase] at hr HBase
  have HR4 := Lib.hid hr
  obtain ⟨g1, hg1⟩ : ∃ g1, g1 = w3.heap.size := ⟨_, rfl⟩
  have e9 : Hid (g1 = w3.heap.size) := hg1
  obtain ⟨d0, d1, d2, d3⟩ := cells_four kd
  rw [← hg1] at kd
  have KD4 := Lib.hid kd
  clear hb hb4 hr kp3 z0 z1 z2 z3 a0 a1 a2 a3 hbase kd HB3 hs1 hs4
  go_wp2_with fail
  refine Calls.mono (HCk.out _) ?_
  rintro e w5 ⟨rfl, hb⟩
  rw [← e9.out]
  have HR5 := Lib.hid (HR4.out.keep hb)
  have HB5 := Lib.hid (bl HB4.out hb HB4.out.size)
  have KA5 := Lib.hid ((hb.block _ (lt_of_block KA4.out)).trans KA4.out)
  have KD5 := Lib.hid ((hb.block _ (lt_of_block KD4.out)).trans KD4.out)
  clear hb HR4 HB4 KA4 KD4 d0 d1 d2 d3 e9 hg1 HFew HSm HCk HNew
  go_wp2
  go_loopw [13, 66] (fun nv iv wr => ∃ (i N nx : Nat) (M v : Value) (C : DataW Unit) (K : List Rw) (st : Nat), i ≤ n2 ∧ iv = .int .i64 (i : Nat) ∧ nv = .int .u64 (nx : Nat) ∧ N ≤ i ∧ nx ≤ 4294967296 ∧ Hid (Rly wr base gr gt be L t k D N nx M v C K st) ∧ Hid (Below w.heap.size w wr) ∧ Hid (wr.heap[w.heap.size]? = some (.cells #[.int .i64 (L : Nat), .int .i64 (t : Nat), .int .i64 (k : Nat), .int .u32 (D : Nat)] 24 (0, 0))) ∧ Hid (wr.heap[g1]? = some (.cells #[.int .i64 (L : Nat), .int .i64 (t : Nat), .int .i64 (k : Nat), .int .u32 (D : Nat)] 29 (0, 0)))) (fun _ iv _ => n2 - (intOf iv).toNat)
  case atStart => exact ⟨0, 0, first, _, _, _, _, _, Nat.zero_le _, rfl, rfl, Nat.le_refl _, by omega, HR5.out, HB5.out, KA5.out, KD5.out⟩
  case round =>
    obtain ⟨i, N, nx, M, v, C, K0, st0, hi, rfl, rfl, hNi, hnxm, HR6, HB6, KA6, KD6⟩ := hrel
    by_cases hlt : i < n2
    · obtain ⟨bb, oo, qq, m, c, xs, rfl, hcd, hsd, hxd⟩ := H2.out.at i hlt
      have hcd6 := (HB6.out.cell (lt_of_cell hcd)).trans hcd
      have HXS := Lib.hid hsd
      have hmb := hsd.bound
      have hlt' : (i : Int) < (n2 : Int) := by omega
      clear hcd hsd hxd hlt HR5 HB5 KA5 KD5
      by_cases hm30 : m ≤ 30
      · have hm30' : ¬ (30 : Int) < (m : Int) := by omega
        by_cases hi1 : i < n1
        · have hi1' : (i : Int) < (n1 : Int) := by omega
          obtain ⟨b2, o2, q2, mx, cx, ys, e1, hcx, hsx, hxx⟩ := H1.out.at i hi1
          subst e1
          have hcx6 := (HB6.out.cell (lt_of_cell hcx)).trans hcx
          have hbx6 := HR6.out.box
          obtain ⟨r0, r1⟩ := cells2 hbx6
          have hl8 := few_len HFw.out hxx.out
          have hsl := hsx.len
          have HSY := Lib.hid (hsx.keep HB6.out)
          have hlb : b2 < w.heap.size := lt_of_cell hcx
          clear hi1 hcx hsx hxx
          go_wp2_with fail
          have HPt : Hid (∀ (b : Nat) (o : Obj), wr.heap[b]? = some o → b < w.heap.size → wr.drew.heap[b]? = some o) := fun b o h _ => h
          refine wp_region_call (fun ix => ([.pointer (some ⟨gr, 0, none⟩), .pointer (some ⟨gr, 0, none⟩), .pointer (some ⟨gr, 0, none⟩), .pointer (some ⟨gt, 0, none⟩), .slice (some ⟨b2, o2, none⟩) n1 c1, .int .i64 (i : Nat), .pointer (some ⟨b2, o2 + i, none⟩), .slice q2 mx cx, .int .i64 (readC k t D ys)][ix]?).getD undef) 191 8 (fun W => ∃ M' v', Tkr W base gt be L t k D (N + 1) M' v' (bump C (readC k t D ys)) (takeK k t D K0 st0 ys) (takeS k t D K0 st0 ys) ∧ TChg wr W gt be v) rfl (by kernel_rfl) (by decide) (by decide) (by decide) (by decide) (by decide) ?_ ?_ ?_
          · intro x o h1 ho a W hW hs hp hi
            have hm : W.heap[gr]? = some (.cells #[.pointer (some ⟨gt, 0, none⟩), .int .u64 (nx : Nat)] 40 (0, 0)) ∧ W.cell? ⟨b2, o2 + i, none⟩ = some (.slice q2 mx cx) := by
              rcases hW with rfl | ⟨M', v', hT', hc'⟩
              · exact ⟨hbx6, hcx6⟩
              · have hk := hc'.blk HR6.out.tk hbx6 (by decide) (by decide) (by decide)
                exact ⟨hk, ((hc'.below HR6.out.tk HBase.out HB6.out.size).cell (p := ⟨b2, o2 + i, none⟩) hlb).trans hcx6⟩
            obtain ⟨y0, y1⟩ := cells2 hm.1
            match x, h1, ho with
            | 0, _, ho =>
              simp at ho; subst ho
              have tt : sl a 10 = .pointer (some ⟨gr, 0, none⟩) := hi 10 (by decide)
              simp only [execOp, eval_tmp, tt]; rfl
            | 1, _, ho =>
              simp at ho; subst ho
              have tt : sl a 78 = .pointer (some ⟨gr, 0, none⟩) := hp 0 78 (by decide) rfl
              simp only [execOp, eval_tmp, tt]; simp [go_sem]
            | 2, _, ho =>
              simp at ho; subst ho
              have tt : sl a 79 = .pointer (some ⟨gr, 0, none⟩) := hp 1 79 (by decide) rfl
              simp only [execOp, eval_tmp, tt]; simp [go_sem]
            | 3, _, ho =>
              simp at ho; subst ho
              have tt : sl a 80 = .pointer (some ⟨gr, 0, none⟩) := hp 2 80 (by decide) rfl
              simp only [execOp, eval_tmp, tt]; simp [go_sem, y0]
            | 4, _, ho =>
              simp at ho; subst ho
              have tt : sl a 2 = .slice (some ⟨b2, o2, none⟩) n1 c1 := hi 2 (by decide)
              simp only [execOp, eval_tmp, tt]; rfl
            | 5, _, ho =>
              simp at ho; subst ho
              have tt : sl a 14 = .int .i64 (i : Nat) := hi 14 (by decide)
              simp only [execOp, eval_tmp, tt]; rfl
            | 6, _, ho =>
              simp at ho; subst ho
              have tt : sl a 82 = .slice (some ⟨b2, o2, none⟩) n1 c1 := hp 4 82 (by decide) rfl
              have tu : sl a 83 = .int .i64 (i : Nat) := hp 5 83 (by decide) rfl
              simp only [execOp, eval_tmp, tt, tu]; simp [go_sem, hi1', Addr.add]
            | 7, _, ho =>
              simp at ho; subst ho
              have tt : sl a 84 = .pointer (some ⟨b2, o2 + i, none⟩) := hp 6 84 (by decide) rfl
              simp only [execOp, eval_tmp, tt]; simp [go_sem, hm.2]
            | 8, h, _ => exact absurd rfl h
            | j + 9, _, ho => simp at ho
          · intro o ho a hs hp hi
            simp at ho; subst ho
            have t81 : sl a 81 = .pointer (some ⟨gt, 0, none⟩) := hp 3 81 (by decide) rfl
            have t85 : sl a 85 = .slice q2 mx cx := hp 7 85 (by decide) rfl
            have hbd : Below wr.heap.size wr wr.drew := ⟨rfl, rfl, rfl, Nat.le_refl _, fun _ _ => rfl⟩
            refine wp_enter 10 #[.pointer (some ⟨gt, 0, none⟩), .slice q2 mx cx] ?_ (TTake_any base gt be L t k D N M v C K0 st0 q2 mx cx ys wr.drew (HR6.out.tk.keep hbd) ((HT.out.keep HB6.out).keep hbd) (by omega) (HSY.out.keep hbd) (by rw [← hsl]; show _ ≤ _; omega)) ?_
            · simp only [execOp, resolve, List.map_toArray, List.map, eval_tmp, eval_func, eval_const, t81, t85]; simp [go_sem]
            · rintro e W' ⟨rfl, M', v', g1, g2, g3⟩
              exact ⟨_, rfl, rfl, M', v', g1, ⟨g2.os, g2.tape, g2.output, g2.size, g2.block⟩⟩
          · rintro a w7 ⟨M2, v2, hT7, hc7⟩ hs hd hI ht
            have ha := act_is [78, 79, 80, 81, 82, 83, 84, 85, 86] hs hd ht (by decide)
            have u0 : sl a 78 = .pointer (some ⟨gr, 0, none⟩) := hI 0 78 (by decide) rfl
            have u1 : sl a 79 = .pointer (some ⟨gr, 0, none⟩) := hI 1 79 (by decide) rfl
            have u2 : sl a 80 = .pointer (some ⟨gr, 0, none⟩) := hI 2 80 (by decide) rfl
            have u3 : sl a 81 = .pointer (some ⟨gt, 0, none⟩) := hI 3 81 (by decide) rfl
            have u4 : sl a 82 = .slice (some ⟨b2, o2, none⟩) n1 c1 := hI 4 82 (by decide) rfl
            have u5 : sl a 83 = .int .i64 (i : Nat) := hI 5 83 (by decide) rfl
            have u6 : sl a 84 = .pointer (some ⟨b2, o2 + i, none⟩) := hI 6 84 (by decide) rfl
            have u7 : sl a 85 = .slice q2 mx cx := hI 7 85 (by decide) rfl
            have u8 : sl a 86 = .int .i64 (readC k t D ys) := hI 8 86 (by decide) rfl
            simp only [List.foldl, u0, u1, u2, u3, u4, u5, u6, u7, u8] at ha
            have HR7 := Lib.hid (HR6.out.took hT7 hc7)
            have HB7 := Lib.hid (HB6.out.trans (hc7.below HR6.out.tk HBase.out HB6.out.size))
            have KA7 := Lib.hid (hc7.blk HR6.out.tk KA6.out (by decide) (by decide) (by decide))
            have KD7 := Lib.hid (hc7.blk HR6.out.tk KD6.out (by decide) (by decide) (by decide))
            simp only [Act.put, List.setIfInBounds_toArray, List.set_cons_zero, List.set_cons_succ] at ha
            rw [ha]
            clear ha hs hd hI ht u0 u1 u2 u3 u4 u5 u6 u7 u8 hT7 hc7 HR6 HB6 KA6 KD6 HPt HSY hsl hl8 hcx6 hcd6 hbx6 r0 r1
            generalize readC k t D ys = rc at *
            generalize bump C rc = C2 at *
            generalize takeK k t D K0 st0 ys = K at *
            generalize takeS k t D K0 st0 ys = st at *
            clear K0 st0
            obtain ⟨r0, r1⟩ := cells2 HR7.out.box
            go_wp2_with fail
            refine Calls.mono (TRows_any _ gt be L t k D _ M2 v2 C2 K st w7 HR7.out.tk) ?_
            rintro e w8 ⟨vr, rfl, hrw, hb⟩
            obtain ⟨qr, cr, rfl⟩ := hrw.shape
            have hKk : K.length ≤ k := Red.le HR7.out.tk.red
            have HW8 := Lib.hid hrw
            have HR8 := Lib.hid (HR7.out.keep hb)
            have HB8 := Lib.hid (bl HB7.out hb HB7.out.size)
            have KA8 := Lib.hid ((hb.block _ (lt_of_block KA7.out)).trans KA7.out)
            have KD8 := Lib.hid ((hb.block _ (lt_of_block KD7.out)).trans KD7.out)
            have HZ8 : Hid (w7.heap.size ≤ w8.heap.size) := hb.size
            clear hb hrw HR7 HB7 KA7 KD7 r0 r1
            go_wp2_with fail
            by_cases hK0 : K.length = 0
            · have hz0 : ((K.length : Int) == 0) = true := by rw [hK0]; rfl
              have hsc : sayC K nx m = 15 := by unfold sayC; rw [if_pos hK0]
              refine Calls.mono (YSay_none _ gr gt be L t k D _ nx M2 v2 C2 K st _ m c _ HR8.out (by omega) (by rw [hsc]; decide)) ?_
              rintro e w9 ⟨qx, nxx, cxx, rfl, hx, hb⟩
              rw [hsc]
              have hnx0 : nxx = 0 := hx.len.symm
              subst hnx0
              have HR9 := Lib.hid (HR8.out.keep hb)
              have HB9 := Lib.hid (bl HB8.out hb HB8.out.size)
              have KA9 := Lib.hid ((hb.block _ (lt_of_block KA8.out)).trans KA8.out)
              have KD9 := Lib.hid ((hb.block _ (lt_of_block KD8.out)).trans KD8.out)
              clear hK0 hb hx HR8 HB8 KA8 KD8 HW8 hsc

              go_wp2_with fail
              refine Calls.mono (YNext_any _ gr gt be L t k D _ _ _ _ _ _ _ _ HR9.out) ?_
              rintro e w10 ⟨rfl, hb⟩
              have HRa := Lib.hid (HR9.out.keep hb)
              have HBa := Lib.hid (bl HB9.out hb HB9.out.size)
              have KAa := Lib.hid ((hb.block _ (lt_of_block KA9.out)).trans KA9.out)
              have KDa := Lib.hid ((hb.block _ (lt_of_block KD9.out)).trans KD9.out)
              clear hb HR9 HB9 KA9 KD9
              go_wp2
              go_roundw
              case rel => exact ⟨i + 1, N + 1, nx, _, _, _, _, _, by omega, by go_num, rfl, by omega, by omega, HRa.out, HBa.out, KAa.out, KDa.out⟩
              case measure => simp [intOf]; omega

            · have hz0 : ((K.length : Int) == 0) = false := beq_eq_false_iff_ne.2 (by omega)
              by_cases hnx : nx = 4294967296
              · have hz1 : (4294967296 : Int) ≤ (nx : Int) := by omega
                have hsc : sayC K nx m = 11 := by unfold sayC; rw [if_neg hK0, if_pos hnx]
                refine Calls.mono (YSay_none _ gr gt be L t k D _ nx M2 v2 C2 K st _ m c _ HR8.out (by omega) (by rw [hsc]; decide)) ?_
                rintro e w9 ⟨qx, nxx, cxx, rfl, hx, hb⟩
                rw [hsc]
                have hnx0 : nxx = 0 := hx.len.symm
                subst hnx0
                have HR9 := Lib.hid (HR8.out.keep hb)
                have HB9 := Lib.hid (bl HB8.out hb HB8.out.size)
                have KA9 := Lib.hid ((hb.block _ (lt_of_block KA8.out)).trans KA8.out)
                have KD9 := Lib.hid ((hb.block _ (lt_of_block KD8.out)).trans KD8.out)
                clear hK0 hnx hb hx HR8 HB8 KA8 KD8 HW8 hsc

                go_wp2_with fail
                refine Calls.mono (YNext_any _ gr gt be L t k D _ _ _ _ _ _ _ _ HR9.out) ?_
                rintro e w10 ⟨rfl, hb⟩
                have HRa := Lib.hid (HR9.out.keep hb)
                have HBa := Lib.hid (bl HB9.out hb HB9.out.size)
                have KAa := Lib.hid ((hb.block _ (lt_of_block KA9.out)).trans KA9.out)
                have KDa := Lib.hid ((hb.block _ (lt_of_block KD9.out)).trans KD9.out)
                clear hb HR9 HB9 KA9 KD9
                go_wp2
                go_roundw
                case rel => exact ⟨i + 1, N + 1, nx, _, _, _, _, _, by omega, by go_num, rfl, by omega, by omega, HRa.out, HBa.out, KAa.out, KDa.out⟩
                case measure => simp [intOf]; omega

              · have hz1 : decide ((4294967296 : Int) ≤ (nx : Int)) = false := decide_eq_false (by omega)
                by_cases hmK : m = K.length
                · have hz2 : ((m : Int) != (K.length : Int)) = false := by simp; omega
                  subst hmK
                  refine Calls.mono (YSay_ok _ gr gt be L t k D _ nx M2 v2 C2 K st _ _ c xs _ HR8.out (HXS.out.keep HB8.out) (HT.out.keep HB8.out) hK0 (by omega) rfl) ?_
                  rintro e w9 ⟨qx, nxx, cxx, rfl, hx, hr9, hg⟩
                  have HSX := Lib.hid hx
                  have HR9 := Lib.hid hr9
                  have HB9 := Lib.hid (HB8.out.trans (hg.below (Nat.le_trans HBase.out HR8.out.old) HB8.out.size))
                  have KA9 := Lib.hid (hg.blk HR8.out.box KA8.out (by decide))
                  have KD9 := Lib.hid (hg.blk HR8.out.box KD8.out (by decide))
                  have HW9 := Lib.hid (hg.rwL HR8.out.box HW8.out (by decide) (by decide))
                  have hfv : ∀ z, z ∈ K.map (·.1) → z.length = k := fun z hz => by obtain ⟨r, hr, rfl⟩ := List.mem_map.1 hz; exact (HR8.out.tk.red.kept.rows r hr).1.1
                  have hfd : ∀ z, z ∈ K.map (·.2) → z.length = t := fun z hz => by obtain ⟨r, hr, rfl⟩ := List.mem_map.1 hz; exact (HR8.out.tk.red.kept.rows r hr).1.2
                  have HFV := Lib.hid hfv
                  have HFD := Lib.hid hfd
                  have hxl : xs.length = K.length := HXS.out.len
                  have HC1 := Lib.hid (combS_fit (V := xs) (k := K.length) (by omega) hxl (by simp) hfv)
                  have HC2 := Lib.hid (combS_fit (V := xs) (k := K.length) (by omega) hxl (by simp) hfd)
                  have HZ9 : Hid (w7.heap.size ≤ w9.heap.size) := Nat.le_trans HZ8.out hg.size
                  clear hx hr9 hg hfv hfd hxl HR8 HB8 KA8 KD8 HW8 HZ8
                  go_wp2
                  go_loopw [19, 20, 100] (fun va vb iv wr => ∃ j : Nat, j ≤ K.length ∧ iv = .int .i64 (j : Nat) ∧ Hid (Hdr 36 w9 w9.heap.size wr va j ((K.take j).map (·.1))) ∧ Hid (Hdr 36 w9 w9.heap.size wr vb j ((K.take j).map (·.2))) ∧ Hid (∀ b, va.ownBlock = some b → vb.ownBlock ≠ some b) ∧ Hid (Below w9.heap.size w9 wr)) (fun _ _ iv _ => K.length - (intOf iv).toNat)
                  case atStart => exact ⟨0, Nat.zero_le _, rfl, Hdr.nil _ _ _ _, Hdr.nil _ _ _ _, noOwn, Below.refl _ _⟩
                  case round =>
                    obtain ⟨j, hj, rfl, RA, RB, RN, RW⟩ := hrel
                    obtain ⟨qa, ca, rfl⟩ := RA.out.shape
                    obtain ⟨qb, cb, rfl⟩ := RB.out.shape
                    by_cases hlt : j < K.length
                    · obtain ⟨g, kx, q1, m1, d1, q2, m2, d2, rfl, f1, f2, hkx, s1, s2⟩ := HW9.out.at hlt
                      have x1 := (RW.out.cell (p := ⟨g, j * 2, none⟩) (lt_of_cell f1)).trans f1
                      have x2 := (RW.out.cell (p := ⟨g, j * 2 + 1, none⟩) (lt_of_cell f2)).trans f2
                      have S1 := Lib.hid s1
                      have S2 := Lib.hid s2
                      have HKX := Lib.hid hkx.out
                      have hjK : (j : Int) < (K.length : Int) := by omega
                      have hsz := RW.out.size
                      obtain ⟨W, hW⟩ : ∃ W, W = wr.alloc (.cells #[.slice q1 m1 d1, .slice q2 m2 d2] 47) := ⟨_, rfl⟩
                      have hW1 : Below wr.heap.size wr W := by rw [hW]; exact al (Below.refl _ _) (Nat.le_refl _)
                      have hWs : W.heap.size = wr.heap.size + 1 := by rw [hW]; simp
                      have hbx : W.heap[wr.heap.size]? = some (.cells #[.slice q1 m1 d1, .slice q2 m2 d2] 47 (0, 0)) := by rw [hW]; exact hnew rfl
                      have hWd : Below wr.heap.size wr W.drew := ⟨hW1.os, hW1.tape, hW1.output, hW1.size, hW1.block⟩
                      have hA0 : Hid (∀ b, (Value.slice qa j ca).ownBlock = some b → w9.heap.size ≤ b ∧ b < W.heap.size) := fun b hb => by
                        obtain ⟨_, o, _⟩ := RA.out
                        have := o.lt b hb; omega
                      have hB0 : Hid (∀ b, (Value.slice qb j cb).ownBlock = some b → w9.heap.size ≤ b ∧ b < W.heap.size) := fun b hb => by
                        obtain ⟨_, o, _⟩ := RB.out
                        have := o.lt b hb; omega
                      have hA1 : Hid (∀ b, (Value.slice qa j ca).ownBlock = some b → b < wr.heap.size) := fun b hb => by obtain ⟨_, o, _⟩ := RA.out; exact (o.lt b hb).2
                      have hB1 : Hid (∀ b, (Value.slice qb j cb).ownBlock = some b → b < wr.heap.size) := fun b hb => by obtain ⟨_, o, _⟩ := RB.out; exact (o.lt b hb).2
                      have EW : Hid (E2A 36 w9 W (.slice qa j ca) (.slice qb j cb) j ((K.take j).map (·.1)) ((K.take j).map (·.2)) 4 9 (fun _ => false) W.drew) :=
                        ⟨bl RW.out hWd hsz, Nat.le_refl _, fun _ _ _ _ => rfl, fun _ => RA.out.keep hWd, fun _ => RB.out.keep hWd⟩
                      have HBX := Lib.hid hbx
                      have HW := Lib.hid hW
                      have HWsz := Lib.hid hWs
                      clear f1 f2 s1 s2 hW1 hWs hbx hWd hW hkx RA RB
                      go_wp2
                      rw [← HW.out]
                      obtain ⟨i0, hi0, hz0', hz1', hz2'⟩ := info_parts info_bytesC
                      refine wp_region_ties (E2A 36 w9 W (.slice qa j ca) (.slice qb j cb) j ((K.take j).map (·.1)) ((K.take j).map (·.2)) 4 9) (R2A (.slice qa j ca) (.slice qb j cb) 4 9) (shY w9 W wr.heap.size (.slice q1 m1 d1) (.slice q2 m2 d2) (.slice qa j ca) (.slice qb j cb) (j + 1) ((K.take j).map (·.1) ++ [kx.1]) ((K.take j).map (·.2) ++ [kx.2])) tieY depY 191 rfl (by kernel_rfl) (by decide) (by decide) (by decide) (by decide) tieY_of EW.out (fun dn i w1 w2 _ hE hR => hE.next hR hA0.out hB0.out RN.out) ?_ ⟨?_, ?_, ?_, ?_, ?_, ?_, ?_, ?_, ?_, ?_, ?_, ?_, trivial⟩ ?_
                      · intro i j v w1 w2 hij hp hs hR
                        match j, hij, hp, hs with
                        | 0, _, _, hs => exact hs
                        | 1, _, _, hs => exact hs
                        | 2, _, _, hs => exact hs
                        | 3, _, _, hs => obtain ⟨g, e, hg, hh⟩ := hs; exact ⟨g, e, hg, hR.new hA0.out hB0.out hg hh⟩
                        | 4, hij, _, hs => exact ⟨hR.a hij hs.1 hs.2, hs.2⟩
                        | 5, _, _, hs => exact hs
                        | 6, _, _, hs => exact hs
                        | 7, _, _, hs => exact hs
                        | 8, _, _, hs => obtain ⟨g, e, hg, hh⟩ := hs; exact ⟨g, e, hg, hR.new hA0.out hB0.out hg hh⟩
                        | 9, hij, hp, hs => exact hR.b (fun e => by subst e; exact absurd hp (by decide)) hij hs
                        | 10, _, hp, hs => exact ⟨hR.a (fun e => by subst e; exact absurd hp (by decide)) hs.1 hs.2, hs.2⟩
                        | 11, _, hp, hs => exact hR.b (fun e => by subst e; exact absurd hp (by decide)) (fun e => by subst e; exact absurd hp (by decide)) hs
                        | j + 12, _, _, _ => exact trivial
                      · intro a W2 dn hdn hE hs hp hx hi
                        exact ite_y rfl (wp_val (sl a 19) rfl ⟨_, rfl, .inr (.inr ⟨by decide, by decide, Below.refl _ _⟩), hi 19 (by decide), trivial⟩)
                      · intro a W2 dn hdn hE hs hp hx hi
                        have tt : sl a 22 = .pointer (some ⟨wr.heap.size, 0, none⟩) := hi 22 (by decide)
                        refine ite_y rfl (wp_val (.pointer (some ⟨wr.heap.size, 0, none⟩)) ?_ ⟨_, rfl, .inr (.inr ⟨by decide, by decide, Below.refl _ _⟩), rfl, trivial⟩)
                        simp only [execOp, eval_tmp, tt]; simp [go_sem]
                      · intro a W2 dn hdn hE hs hp hx hi
                        have tt : sl a 105 = .pointer (some ⟨wr.heap.size, 0, none⟩) := hp 1 (by decide)
                        have hbb := (hE.frame wr.heap.size (by have := HWsz.out; omega) (fun e => by have := hA1.out _ e; omega) (fun e => by have := hB1.out _ e; omega)).trans HBX.out
                        obtain ⟨y0, y1⟩ := cells2 hbb
                        refine ite_y rfl (wp_val (.slice q1 m1 d1) ?_ ⟨_, rfl, .inr (.inr ⟨by decide, by decide, Below.refl _ _⟩), rfl, trivial⟩)
                        simp only [execOp, eval_tmp, tt]; simp [go_sem, y0]
                      · intro a W2 dn hdn hE hs hp hx hi
                        have tt : sl a 106 = .slice q1 m1 d1 := hp 2 (by decide)
                        have v106 : a.tmps[106]?.getD undef = sl a 106 := by simp [sl]
                        rw [tt] at v106
                        refine ite_y rfl (wp_val' (w' := W2.alloc (.cells #[.slice q1 m1 d1] 36)) (.slice (some ⟨W2.heap.size, 0, none⟩) 1 1) ?_ ⟨_, rfl, .inr (.inr ⟨by decide, by decide, al (Below.refl _ _) (Nat.le_refl _)⟩), ⟨W2.heap.size, rfl, hE.hH, hnew rfl⟩, trivial⟩)
                        simp only [execOp, List.map_toArray, List.map, eval_tmp, tt]; simp [go_sem, v106]
                      · intro a W2 dn hdn hE hs hp hx hi
                        have t14 : sl a 104 = .slice qa j ca := hp 0 (by decide)
                        have tt : ∃ g, sl a 107 = .slice (some ⟨g, 0, none⟩) 1 1 ∧ W.heap.size ≤ g ∧ W2.heap[g]? = some (.cells #[.slice q1 m1 d1] 36 (0, 0)) := hp 3 (by decide)
                        obtain ⟨g7, t17, _, hg7⟩ := tt
                        obtain ⟨vs, ho, hl, hr⟩ := hE.a hdn
                        refine ite_y rfl (wp_append_head (.tmp 104) (.tmp 107) 25 rfl w9.heap.size 36 i0 _ 24 Tryz.underlying25 hi0 hz0' hz1' hz2' rfl (.slice qa j ca) j vs t14 ho g7 1 _ _ _ t17 hg7 rfl (by unfold maxLen; omega) (by omega) hE.bel.size ?_)
                        intro v' w' ho' hg' hw'
                        refine ⟨v', rfl, .inl ⟨rfl, hg'⟩, ⟨Hdr.push ho' hl (owns_len ho) hr S1.out, fun b hb e => ?_⟩, trivial⟩
                        rcases hw' with h | h
                        · rw [h] at hb; exact RN.out b hb e
                        · rw [h] at hb; cases hb; have := (hB0.out _ e).2; have := hE.hH; omega
                      · intro a W2 dn hdn hE hs hp hx hi
                        exact ite_y rfl (wp_val (sl a 20) rfl ⟨_, rfl, .inr (.inr ⟨by decide, by decide, Below.refl _ _⟩), hi 20 (by decide), trivial⟩)
                      · intro a W2 dn hdn hE hs hp hx hi
                        have tt : sl a 22 = .pointer (some ⟨wr.heap.size, 0, none⟩) := hi 22 (by decide)
                        refine ite_y rfl (wp_val (.pointer (some ⟨wr.heap.size, 1, none⟩)) ?_ ⟨_, rfl, .inr (.inr ⟨by decide, by decide, Below.refl _ _⟩), rfl, trivial⟩)
                        simp only [execOp, eval_tmp, tt]; simp [go_sem]
                      · intro a W2 dn hdn hE hs hp hx hi
                        have tt : sl a 110 = .pointer (some ⟨wr.heap.size, 1, none⟩) := hp 6 (by decide)
                        have hbb := (hE.frame wr.heap.size (by have := HWsz.out; omega) (fun e => by have := hA1.out _ e; omega) (fun e => by have := hB1.out _ e; omega)).trans HBX.out
                        obtain ⟨y0, y1⟩ := cells2 hbb
                        refine ite_y rfl (wp_val (.slice q2 m2 d2) ?_ ⟨_, rfl, .inr (.inr ⟨by decide, by decide, Below.refl _ _⟩), rfl, trivial⟩)
                        simp only [execOp, eval_tmp, tt]; simp [go_sem, y1]
                      · intro a W2 dn hdn hE hs hp hx hi
                        have tt : sl a 111 = .slice q2 m2 d2 := hp 7 (by decide)
                        have v111 : a.tmps[111]?.getD undef = sl a 111 := by simp [sl]
                        rw [tt] at v111
                        refine ite_y rfl (wp_val' (w' := W2.alloc (.cells #[.slice q2 m2 d2] 36)) (.slice (some ⟨W2.heap.size, 0, none⟩) 1 1) ?_ ⟨_, rfl, .inr (.inr ⟨by decide, by decide, al (Below.refl _ _) (Nat.le_refl _)⟩), ⟨W2.heap.size, rfl, hE.hH, hnew rfl⟩, trivial⟩)
                        simp only [execOp, List.map_toArray, List.map, eval_tmp, tt]; simp [go_sem, v111]
                      · intro a W2 dn hdn hE hs hp hx hi
                        have t14 : sl a 109 = .slice qb j cb := hp 5 (by decide)
                        have tt : ∃ g, sl a 112 = .slice (some ⟨g, 0, none⟩) 1 1 ∧ W.heap.size ≤ g ∧ W2.heap[g]? = some (.cells #[.slice q2 m2 d2] 36 (0, 0)) := hp 8 (by decide)
                        have ta : Hdr 36 w9 w9.heap.size W2 (sl a 108) (j + 1) ((K.take j).map (·.1) ++ [kx.1]) ∧ ∀ b, (sl a 108).ownBlock = some b → (Value.slice qb j cb).ownBlock ≠ some b := hp 4 (by decide)
                        obtain ⟨⟨_, oa, _⟩, na⟩ := ta
                        obtain ⟨g7, t17, _, hg7⟩ := tt
                        obtain ⟨vs, ho, hl, hr⟩ := hE.b hdn
                        refine ite_y rfl (wp_append_head (.tmp 109) (.tmp 112) 25 rfl w9.heap.size 36 i0 _ 24 Tryz.underlying25 hi0 hz0' hz1' hz2' rfl (.slice qb j cb) j vs t14 ho g7 1 _ _ _ t17 hg7 rfl (by unfold maxLen; omega) (by omega) hE.bel.size ?_)
                        intro v' w' ho' hg' hw'
                        refine ⟨v', rfl, .inr (.inl ⟨rfl, hg'⟩), Hdr.push ho' hl (owns_len ho) hr S2.out, ?_⟩
                        have e113 : sl (a.put (some 113) v') 113 = v' := put_same _ _ _ (by rw [hs]; exact (by decide : (113 : Nat) < 191))
                        have e108 : sl (a.put (some 113) v') 108 = sl a 108 := put_sl _ _ _ _ (by decide)
                        show ∀ b, (sl (a.put (some 113) v') 108).ownBlock = some b → (sl (a.put (some 113) v') 113).ownBlock ≠ some b
                        rw [e113, e108]
                        intro b hb e
                        rcases hw' with h | h
                        · rw [h] at e; exact na b hb e
                        · rw [h] at e; cases e; have := (oa.lt _ hb).2; omega
                      · intro a W2 dn hdn hE hs hp hx hi
                        refine ite_y rfl (wp_val (sl a 108) rfl ⟨_, rfl, .inr (.inr ⟨by decide, by decide, Below.refl _ _⟩), hp 4 (by decide), ?_⟩)
                        show sl (a.put (some 19) (sl a 108)) 19 = sl (a.put (some 19) (sl a 108)) 108
                        rw [put_same _ _ _ (by rw [hs]; exact (by decide : (19 : Nat) < 191)), put_sl _ _ _ _ (by decide)]
                      · intro a W2 dn hdn hE hs hp hx hi
                        refine ite_y rfl (wp_val (sl a 113) rfl ⟨_, rfl, .inr (.inr ⟨by decide, by decide, Below.refl _ _⟩), hp 9 (by decide), ?_⟩)
                        show sl (a.put (some 20) (sl a 113)) 20 = sl (a.put (some 20) (sl a 113)) 113
                        rw [put_same _ _ _ (by rw [hs]; exact (by decide : (20 : Nat) < 191)), put_sl _ _ _ _ (by decide)]
                      · intro a W2 dn hE hs hd hI hX ht
                        have ha := act_is [104, 105, 106, 107, 108, 109, 110, 111, 112, 113, 19, 20] hs hd ht (by decide)
                        have hA4 : Hdr 36 w9 w9.heap.size W2 (sl a 19) (j + 1) ((K.take j).map (·.1) ++ [kx.1]) := (hI 10 (by decide)).1
                        have hB5 : Hdr 36 w9 w9.heap.size W2 (sl a 20) (j + 1) ((K.take j).map (·.2) ++ [kx.2]) := hI 11 (by decide)
                        have hx9 : ∀ b, (sl a 108).ownBlock = some b → (sl a 113).ownBlock ≠ some b := hX 9 (by decide)
                        have hx10 : sl a 19 = sl a 108 := hX 10 (by decide)
                        have hx11 : sl a 20 = sl a 113 := hX 11 (by decide)
                        rw [← hx10, ← hx11] at hx9
                        obtain ⟨qa', ca', t4⟩ := hA4.shape
                        obtain ⟨qb', cb', t5⟩ := hB5.shape
                        rw [t4] at hA4 hx9; rw [t5] at hB5 hx9
                        rw [← map_take_snoc (·.1) HKX.out] at hA4
                        rw [← map_take_snoc (·.2) HKX.out] at hB5
                        have HA4 := Lib.hid hA4; have HB5 := Lib.hid hB5
                        have HN5 := Lib.hid hx9
                        have HB2 := Lib.hid hE.bel
                        simp only [List.foldl, t4, t5] at ha
                        clear hA4 hB5 hI hX hx9 hx10 hx11 t4 t5 hE ht
                        generalize sl a 104 = u104 at ha
                        generalize sl a 105 = u105 at ha
                        generalize sl a 106 = u106 at ha
                        generalize sl a 107 = u107 at ha
                        generalize sl a 108 = u108 at ha
                        generalize sl a 109 = u109 at ha
                        generalize sl a 110 = u110 at ha
                        generalize sl a 111 = u111 at ha
                        generalize sl a 112 = u112 at ha
                        generalize sl a 113 = u113 at ha
                        simp only [Act.put, List.setIfInBounds_toArray, List.set_cons_zero, List.set_cons_succ] at ha
                        rw [ha]
                        clear ha hs hd S1 S2 hA0 hB0 hA1 hB1 EW HW HBX HWsz RN RW hsz hi0 hz0' hz1' hz2'
                        go_wp2
                        go_roundw
                        case rel => exact ⟨j + 1, by omega, by go_num, HA4.out, HB5.out, HN5.out, HB2.out⟩
                        case measure => simp [intOf]; omega
                    · have hjK : j = K.length := by omega
                      subst hjK
                      rw [List.take_length] at RA RB
                      have SA := Lib.hid (RA.out.sl2 RW.out)
                      have SB := Lib.hid (RB.out.sl2 RW.out)
                      have HRb := Lib.hid (HR9.out.keep RW.out)
                      have HBb := Lib.hid (bl HB9.out RW.out HB9.out.size)
                      have KAb := Lib.hid ((RW.out.block _ (lt_of_block KA9.out)).trans KA9.out)
                      have KDb := Lib.hid ((RW.out.block _ (lt_of_block KD9.out)).trans KD9.out)
                      have HSXb := Lib.hid (HSX.out.keep RW.out)
                      clear RA RB RN RW HR9 HB9 KA9 KD9 HSX HW9
                      go_wp2_with fail
                      refine Calls.mono (RComb_any _ _ _ _ _ _ _ _ _ (HXS.out.keep HBb.out) SA.out (fun z hz => by rw [HFV.out z hz]; show k ≤ _; omega)) ?_
                      intro e w11 he
                      rw [HC1.out.1] at he
                      obtain ⟨qv, nv, cv, rfl, hv, hb⟩ := SRet.of he
                      have hnv : k = nv := by rw [← hv.len]; exact HC1.out.2.symm
                      have HV := Lib.hid hv
                      have SBc := Lib.hid (SB.out.keep hb)
                      have HRc := Lib.hid (HRb.out.keep hb)
                      have HBc := Lib.hid (bl HBb.out hb HBb.out.size)
                      have KAc := Lib.hid ((hb.block _ (lt_of_block KAb.out)).trans KAb.out)
                      have KDc := Lib.hid ((hb.block _ (lt_of_block KDb.out)).trans KDb.out)
                      have HSXc := Lib.hid (HSXb.out.keep hb)
                      clear he hv hb SA SB HRb HBb KAb KDb HSXb
                      go_wp2_with fail
                      refine Calls.mono (RComb_any _ _ _ _ _ _ _ _ _ (HXS.out.keep HBc.out) SBc.out (fun z hz => by rw [HFD.out z hz]; show t ≤ _; omega)) ?_
                      intro e w12 he
                      rw [HC2.out.1] at he
                      obtain ⟨qd, nd, cd, rfl, hv, hb⟩ := SRet.of he
                      have hnd : t = nd := by rw [← hv.len]; exact HC2.out.2.symm
                      subst hnv hnd
                      have HD := Lib.hid hv
                      have HVd := Lib.hid (HV.out.keep hb)
                      have HRd := Lib.hid (HRc.out.keep hb)
                      have HBd := Lib.hid (bl HBc.out hb HBc.out.size)
                      have kad := (hb.block _ (lt_of_block KAc.out)).trans KAc.out
                      have kdd := (hb.block _ (lt_of_block KDc.out)).trans KDc.out
                      have HSXd := Lib.hid (HSXc.out.keep hb)
                      have hnxw : IntKind.u32.wrap (nx : Int) = (nx : Int) := by rw [IntKind.wrap_u32]; omega
                      clear he hv hb SBc HV HRc HBc KAc KDc HSXc
                      obtain ⟨c0, c1, c2, c3⟩ := cells_four kad
                      obtain ⟨d0, d1, d2, d3⟩ := cells_four kdd
                      have KAd := Lib.hid kad
                      have KDd := Lib.hid kdd
                      clear kad kdd
                      go_wp2_with fail
                      refine Calls.mono (RWrite15_ok L _ _ D nx _ _ 0 _ _ _ _ _ HP.out (by omega) HVd.out HD.out) ?_
                      rintro e w13 ⟨qw, nw, cw, rfl, hw, hb⟩
                      have HWt := Lib.hid hw
                      have HRe := Lib.hid (HRd.out.keep hb)
                      have HBe := Lib.hid (bl HBd.out hb HBd.out.size)
                      have KAe := Lib.hid ((hb.block _ (lt_of_block KAd.out)).trans KAd.out)
                      have KDe := Lib.hid ((hb.block _ (lt_of_block KDd.out)).trans KDd.out)
                      have HSXe := Lib.hid (HSXd.out.keep hb)
                      have hnx1 : IntKind.u64.wrap ((nx : Int) + 1) = ((nx + 1 : Nat) : Int) := by rw [IntKind.wrap_u64]; omega
                      clear hw hb HVd HD HRd HBd KAd KDd HSXd c0 c1 c2 c3 d0 d1 d2 d3
                      go_wp2_with fail
                      refine Calls.mono (Same_any _ _ _ _ _ _ _ _ _ HSXe.out HWt.out) ?_
                      rintro e w14 ⟨rfl, hb⟩
                      rw [decide_eq_true rfl]
                      have HR9 := Lib.hid (HRe.out.keep hb)
                      have HB9 := Lib.hid (bl HBe.out hb HBe.out.size)
                      have KA9 := Lib.hid ((hb.block _ (lt_of_block KAe.out)).trans KAe.out)
                      have KD9 := Lib.hid ((hb.block _ (lt_of_block KDe.out)).trans KDe.out)
                      clear hb HRe HBe KAe KDe HSXe HWt hnxw
                      go_wp2_with fail
                      refine Calls.mono (YNext_any _ gr gt be L t k D _ _ _ _ _ _ _ _ HR9.out) ?_
                      rintro e w10 ⟨rfl, hb⟩
                      have HRa := Lib.hid (HR9.out.keep hb)
                      have HBa := Lib.hid (bl HB9.out hb HB9.out.size)
                      have KAa := Lib.hid ((hb.block _ (lt_of_block KA9.out)).trans KA9.out)
                      have KDa := Lib.hid ((hb.block _ (lt_of_block KD9.out)).trans KD9.out)
                      clear hb HR9 HB9 KA9 KD9
                      go_wp2
                      go_roundw
                      case rel => exact ⟨i + 1, N + 1, nx + 1, _, _, _, _, _, by omega, by go_num, rfl, by omega, by omega, HRa.out, HBa.out, KAa.out, KDa.out⟩
                      case measure => simp [intOf]; omega

                · have hz2 : ((m : Int) != (K.length : Int)) = true := bne_iff_ne.2 (by omega)
                  have hsc : sayC K nx m = 4 := by unfold sayC; rw [if_neg hK0, if_neg hnx, if_pos hmK]
                  refine Calls.mono (YSay_none _ gr gt be L t k D _ nx M2 v2 C2 K st _ m c _ HR8.out (by omega) (by rw [hsc]; decide)) ?_
                  rintro e w9 ⟨qx, nxx, cxx, rfl, hx, hb⟩
                  rw [hsc]
                  have hnx0 : nxx = 0 := hx.len.symm
                  subst hnx0
                  have HR9 := Lib.hid (HR8.out.keep hb)
                  have HB9 := Lib.hid (bl HB8.out hb HB8.out.size)
                  have KA9 := Lib.hid ((hb.block _ (lt_of_block KA8.out)).trans KA8.out)
                  have KD9 := Lib.hid ((hb.block _ (lt_of_block KD8.out)).trans KD8.out)
                  clear hK0 hnx hmK hb hx HR8 HB8 KA8 KD8 HW8 hsc

                  go_wp2_with fail
                  refine Calls.mono (YNext_any _ gr gt be L t k D _ _ _ _ _ _ _ _ HR9.out) ?_
                  rintro e w10 ⟨rfl, hb⟩
                  have HRa := Lib.hid (HR9.out.keep hb)
                  have HBa := Lib.hid (bl HB9.out hb HB9.out.size)
                  have KAa := Lib.hid ((hb.block _ (lt_of_block KA9.out)).trans KA9.out)
                  have KDa := Lib.hid ((hb.block _ (lt_of_block KD9.out)).trans KD9.out)
                  clear hb HR9 HB9 KA9 KD9
                  go_wp2
                  go_roundw
                  case rel => exact ⟨i + 1, N + 1, nx, _, _, _, _, _, by omega, by go_num, rfl, by omega, by omega, HRa.out, HBa.out, KAa.out, KDa.out⟩
                  case measure => simp [intOf]; omega
        · have hi1' : ¬ (i : Int) < (n1 : Int) := by omega
          obtain ⟨w7, hw7⟩ : ∃ w7, w7 = wr := ⟨_, rfl⟩
          subst hw7
          obtain ⟨M2, hM2⟩ : ∃ M2, M2 = M := ⟨_, rfl⟩
          obtain ⟨v2, hv2⟩ : ∃ v2, v2 = v := ⟨_, rfl⟩
          obtain ⟨C2, hC2⟩ : ∃ C2, C2 = C := ⟨_, rfl⟩
          obtain ⟨K, hK⟩ : ∃ K, K = K0 := ⟨_, rfl⟩
          obtain ⟨st, hst⟩ : ∃ st, st = st0 := ⟨_, rfl⟩
          subst hM2 hv2 hC2 hK hst
          have HR7 := Lib.hid HR6.out
          have HB7 := Lib.hid HB6.out
          have KA7 := Lib.hid KA6.out
          have KD7 := Lib.hid KD6.out
          clear HR6 HB6 KA6 KD6
          obtain ⟨r0, r1⟩ := cells2 HR7.out.box
          go_wp2_with fail
          refine Calls.mono (TRows_any _ gt be L t k D _ M2 v2 C2 K st w7 HR7.out.tk) ?_
          rintro e w8 ⟨vr, rfl, hrw, hb⟩
          obtain ⟨qr, cr, rfl⟩ := hrw.shape
          have hKk : K.length ≤ k := Red.le HR7.out.tk.red
          have HW8 := Lib.hid hrw
          have HR8 := Lib.hid (HR7.out.keep hb)
          have HB8 := Lib.hid (bl HB7.out hb HB7.out.size)
          have KA8 := Lib.hid ((hb.block _ (lt_of_block KA7.out)).trans KA7.out)
          have KD8 := Lib.hid ((hb.block _ (lt_of_block KD7.out)).trans KD7.out)
          have HZ8 : Hid (w7.heap.size ≤ w8.heap.size) := hb.size
          clear hb hrw HR7 HB7 KA7 KD7 r0 r1
          go_wp2_with fail
          by_cases hK0 : K.length = 0
          · have hz0 : ((K.length : Int) == 0) = true := by rw [hK0]; rfl
            have hsc : sayC K nx m = 15 := by unfold sayC; rw [if_pos hK0]
            refine Calls.mono (YSay_none _ gr gt be L t k D _ nx M2 v2 C2 K st _ m c _ HR8.out (by omega) (by rw [hsc]; decide)) ?_
            rintro e w9 ⟨qx, nxx, cxx, rfl, hx, hb⟩
            rw [hsc]
            have hnx0 : nxx = 0 := hx.len.symm
            subst hnx0
            have HR9 := Lib.hid (HR8.out.keep hb)
            have HB9 := Lib.hid (bl HB8.out hb HB8.out.size)
            have KA9 := Lib.hid ((hb.block _ (lt_of_block KA8.out)).trans KA8.out)
            have KD9 := Lib.hid ((hb.block _ (lt_of_block KD8.out)).trans KD8.out)
            clear hK0 hb hx HR8 HB8 KA8 KD8 HW8 hsc

            go_wp2_with fail
            refine Calls.mono (YNext_any _ gr gt be L t k D _ _ _ _ _ _ _ _ HR9.out) ?_
            rintro e w10 ⟨rfl, hb⟩
            have HRa := Lib.hid (HR9.out.keep hb)
            have HBa := Lib.hid (bl HB9.out hb HB9.out.size)
            have KAa := Lib.hid ((hb.block _ (lt_of_block KA9.out)).trans KA9.out)
            have KDa := Lib.hid ((hb.block _ (lt_of_block KD9.out)).trans KD9.out)
            clear hb HR9 HB9 KA9 KD9
            go_wp2
            go_roundw
            case rel => exact ⟨i + 1, N, nx, _, _, _, _, _, by omega, by go_num, rfl, by omega, by omega, HRa.out, HBa.out, KAa.out, KDa.out⟩
            case measure => simp [intOf]; omega

          · have hz0 : ((K.length : Int) == 0) = false := beq_eq_false_iff_ne.2 (by omega)
            by_cases hnx : nx = 4294967296
            · have hz1 : (4294967296 : Int) ≤ (nx : Int) := by omega
              have hsc : sayC K nx m = 11 := by unfold sayC; rw [if_neg hK0, if_pos hnx]
              refine Calls.mono (YSay_none _ gr gt be L t k D _ nx M2 v2 C2 K st _ m c _ HR8.out (by omega) (by rw [hsc]; decide)) ?_
              rintro e w9 ⟨qx, nxx, cxx, rfl, hx, hb⟩
              rw [hsc]
              have hnx0 : nxx = 0 := hx.len.symm
              subst hnx0
              have HR9 := Lib.hid (HR8.out.keep hb)
              have HB9 := Lib.hid (bl HB8.out hb HB8.out.size)
              have KA9 := Lib.hid ((hb.block _ (lt_of_block KA8.out)).trans KA8.out)
              have KD9 := Lib.hid ((hb.block _ (lt_of_block KD8.out)).trans KD8.out)
              clear hK0 hnx hb hx HR8 HB8 KA8 KD8 HW8 hsc

              go_wp2_with fail
              refine Calls.mono (YNext_any _ gr gt be L t k D _ _ _ _ _ _ _ _ HR9.out) ?_
              rintro e w10 ⟨rfl, hb⟩
              have HRa := Lib.hid (HR9.out.keep hb)
              have HBa := Lib.hid (bl HB9.out hb HB9.out.size)
              have KAa := Lib.hid ((hb.block _ (lt_of_block KA9.out)).trans KA9.out)
              have KDa := Lib.hid ((hb.block _ (lt_of_block KD9.out)).trans KD9.out)
              clear hb HR9 HB9 KA9 KD9
              go_wp2
              go_roundw
              case rel => exact ⟨i + 1, N, nx, _, _, _, _, _, by omega, by go_num, rfl, by omega, by omega, HRa.out, HBa.out, KAa.out, KDa.out⟩
              case measure => simp [intOf]; omega

            · have hz1 : decide ((4294967296 : Int) ≤ (nx : Int)) = false := decide_eq_false (by omega)
              by_cases hmK : m = K.length
              · have hz2 : ((m : Int) != (K.length : Int)) = false := by simp; omega
                subst hmK
                refine Calls.mono (YSay_ok _ gr gt be L t k D _ nx M2 v2 C2 K st _ _ c xs _ HR8.out (HXS.out.keep HB8.out) (HT.out.keep HB8.out) hK0 (by omega) rfl) ?_
                rintro e w9 ⟨qx, nxx, cxx, rfl, hx, hr9, hg⟩
                have HSX := Lib.hid hx
                have HR9 := Lib.hid hr9
                have HB9 := Lib.hid (HB8.out.trans (hg.below (Nat.le_trans HBase.out HR8.out.old) HB8.out.size))
                have KA9 := Lib.hid (hg.blk HR8.out.box KA8.out (by decide))
                have KD9 := Lib.hid (hg.blk HR8.out.box KD8.out (by decide))
                have HW9 := Lib.hid (hg.rwL HR8.out.box HW8.out (by decide) (by decide))
                have hfv : ∀ z, z ∈ K.map (·.1) → z.length = k := fun z hz => by obtain ⟨r, hr, rfl⟩ := List.mem_map.1 hz; exact (HR8.out.tk.red.kept.rows r hr).1.1
                have hfd : ∀ z, z ∈ K.map (·.2) → z.length = t := fun z hz => by obtain ⟨r, hr, rfl⟩ := List.mem_map.1 hz; exact (HR8.out.tk.red.kept.rows r hr).1.2
                have HFV := Lib.hid hfv
                have HFD := Lib.hid hfd
                have hxl : xs.length = K.length := HXS.out.len
                have HC1 := Lib.hid (combS_fit (V := xs) (k := K.length) (by omega) hxl (by simp) hfv)
                have HC2 := Lib.hid (combS_fit (V := xs) (k := K.length) (by omega) hxl (by simp) hfd)
                have HZ9 : Hid (w7.heap.size ≤ w9.heap.size) := Nat.le_trans HZ8.out hg.size
                clear hx hr9 hg hfv hfd hxl HR8 HB8 KA8 KD8 HW8 HZ8
                go_wp2
                go_loopw [19, 20, 100] (fun va vb iv wr => ∃ j : Nat, j ≤ K.length ∧ iv = .int .i64 (j : Nat) ∧ Hid (Hdr 36 w9 w9.heap.size wr va j ((K.take j).map (·.1))) ∧ Hid (Hdr 36 w9 w9.heap.size wr vb j ((K.take j).map (·.2))) ∧ Hid (∀ b, va.ownBlock = some b → vb.ownBlock ≠ some b) ∧ Hid (Below w9.heap.size w9 wr)) (fun _ _ iv _ => K.length - (intOf iv).toNat)
                case atStart => exact ⟨0, Nat.zero_le _, rfl, Hdr.nil _ _ _ _, Hdr.nil _ _ _ _, noOwn, Below.refl _ _⟩
                case round =>
                  obtain ⟨j, hj, rfl, RA, RB, RN, RW⟩ := hrel
                  obtain ⟨qa, ca, rfl⟩ := RA.out.shape
                  obtain ⟨qb, cb, rfl⟩ := RB.out.shape
                  by_cases hlt : j < K.length
                  · obtain ⟨g, kx, q1, m1, d1, q2, m2, d2, rfl, f1, f2, hkx, s1, s2⟩ := HW9.out.at hlt
                    have x1 := (RW.out.cell (p := ⟨g, j * 2, none⟩) (lt_of_cell f1)).trans f1
                    have x2 := (RW.out.cell (p := ⟨g, j * 2 + 1, none⟩) (lt_of_cell f2)).trans f2
                    have S1 := Lib.hid s1
                    have S2 := Lib.hid s2
                    have HKX := Lib.hid hkx.out
                    have hjK : (j : Int) < (K.length : Int) := by omega
                    have hsz := RW.out.size
                    obtain ⟨W, hW⟩ : ∃ W, W = wr.alloc (.cells #[.slice q1 m1 d1, .slice q2 m2 d2] 47) := ⟨_, rfl⟩
                    have hW1 : Below wr.heap.size wr W := by rw [hW]; exact al (Below.refl _ _) (Nat.le_refl _)
                    have hWs : W.heap.size = wr.heap.size + 1 := by rw [hW]; simp
                    have hbx : W.heap[wr.heap.size]? = some (.cells #[.slice q1 m1 d1, .slice q2 m2 d2] 47 (0, 0)) := by rw [hW]; exact hnew rfl
                    have hWd : Below wr.heap.size wr W.drew := ⟨hW1.os, hW1.tape, hW1.output, hW1.size, hW1.block⟩
                    have hA0 : Hid (∀ b, (Value.slice qa j ca).ownBlock = some b → w9.heap.size ≤ b ∧ b < W.heap.size) := fun b hb => by
                      obtain ⟨_, o, _⟩ := RA.out
                      have := o.lt b hb; omega
                    have hB0 : Hid (∀ b, (Value.slice qb j cb).ownBlock = some b → w9.heap.size ≤ b ∧ b < W.heap.size) := fun b hb => by
                      obtain ⟨_, o, _⟩ := RB.out
                      have := o.lt b hb; omega
                    have hA1 : Hid (∀ b, (Value.slice qa j ca).ownBlock = some b → b < wr.heap.size) := fun b hb => by obtain ⟨_, o, _⟩ := RA.out; exact (o.lt b hb).2
                    have hB1 : Hid (∀ b, (Value.slice qb j cb).ownBlock = some b → b < wr.heap.size) := fun b hb => by obtain ⟨_, o, _⟩ := RB.out; exact (o.lt b hb).2
                    have EW : Hid (E2A 36 w9 W (.slice qa j ca) (.slice qb j cb) j ((K.take j).map (·.1)) ((K.take j).map (·.2)) 4 9 (fun _ => false) W.drew) :=
                      ⟨bl RW.out hWd hsz, Nat.le_refl _, fun _ _ _ _ => rfl, fun _ => RA.out.keep hWd, fun _ => RB.out.keep hWd⟩
                    have HBX := Lib.hid hbx
                    have HW := Lib.hid hW
                    have HWsz := Lib.hid hWs
                    clear f1 f2 s1 s2 hW1 hWs hbx hWd hW hkx RA RB
                    go_wp2
                    rw [← HW.out]
                    obtain ⟨i0, hi0, hz0', hz1', hz2'⟩ := info_parts info_bytesC
                    refine wp_region_ties (E2A 36 w9 W (.slice qa j ca) (.slice qb j cb) j ((K.take j).map (·.1)) ((K.take j).map (·.2)) 4 9) (R2A (.slice qa j ca) (.slice qb j cb) 4 9) (shY w9 W wr.heap.size (.slice q1 m1 d1) (.slice q2 m2 d2) (.slice qa j ca) (.slice qb j cb) (j + 1) ((K.take j).map (·.1) ++ [kx.1]) ((K.take j).map (·.2) ++ [kx.2])) tieY depY 191 rfl (by kernel_rfl) (by decide) (by decide) (by decide) (by decide) tieY_of EW.out (fun dn i w1 w2 _ hE hR => hE.next hR hA0.out hB0.out RN.out) ?_ ⟨?_, ?_, ?_, ?_, ?_, ?_, ?_, ?_, ?_, ?_, ?_, ?_, trivial⟩ ?_
                    · intro i j v w1 w2 hij hp hs hR
                      match j, hij, hp, hs with
                      | 0, _, _, hs => exact hs
                      | 1, _, _, hs => exact hs
                      | 2, _, _, hs => exact hs
                      | 3, _, _, hs => obtain ⟨g, e, hg, hh⟩ := hs; exact ⟨g, e, hg, hR.new hA0.out hB0.out hg hh⟩
                      | 4, hij, _, hs => exact ⟨hR.a hij hs.1 hs.2, hs.2⟩
                      | 5, _, _, hs => exact hs
                      | 6, _, _, hs => exact hs
                      | 7, _, _, hs => exact hs
                      | 8, _, _, hs => obtain ⟨g, e, hg, hh⟩ := hs; exact ⟨g, e, hg, hR.new hA0.out hB0.out hg hh⟩
                      | 9, hij, hp, hs => exact hR.b (fun e => by subst e; exact absurd hp (by decide)) hij hs
                      | 10, _, hp, hs => exact ⟨hR.a (fun e => by subst e; exact absurd hp (by decide)) hs.1 hs.2, hs.2⟩
                      | 11, _, hp, hs => exact hR.b (fun e => by subst e; exact absurd hp (by decide)) (fun e => by subst e; exact absurd hp (by decide)) hs
                      | j + 12, _, _, _ => exact trivial
                    · intro a W2 dn hdn hE hs hp hx hi
                      exact ite_y rfl (wp_val (sl a 19) rfl ⟨_, rfl, .inr (.inr ⟨by decide, by decide, Below.refl _ _⟩), hi 19 (by decide), trivial⟩)
                    · intro a W2 dn hdn hE hs hp hx hi
                      have tt : sl a 22 = .pointer (some ⟨wr.heap.size, 0, none⟩) := hi 22 (by decide)
                      refine ite_y rfl (wp_val (.pointer (some ⟨wr.heap.size, 0, none⟩)) ?_ ⟨_, rfl, .inr (.inr ⟨by decide, by decide, Below.refl _ _⟩), rfl, trivial⟩)
                      simp only [execOp, eval_tmp, tt]; simp [go_sem]
                    · intro a W2 dn hdn hE hs hp hx hi
                      have tt : sl a 105 = .pointer (some ⟨wr.heap.size, 0, none⟩) := hp 1 (by decide)
                      have hbb := (hE.frame wr.heap.size (by have := HWsz.out; omega) (fun e => by have := hA1.out _ e; omega) (fun e => by have := hB1.out _ e; omega)).trans HBX.out
                      obtain ⟨y0, y1⟩ := cells2 hbb
                      refine ite_y rfl (wp_val (.slice q1 m1 d1) ?_ ⟨_, rfl, .inr (.inr ⟨by decide, by decide, Below.refl _ _⟩), rfl, trivial⟩)
                      simp only [execOp, eval_tmp, tt]; simp [go_sem, y0]
                    · intro a W2 dn hdn hE hs hp hx hi
                      have tt : sl a 106 = .slice q1 m1 d1 := hp 2 (by decide)
                      have v106 : a.tmps[106]?.getD undef = sl a 106 := by simp [sl]
                      rw [tt] at v106
                      refine ite_y rfl (wp_val' (w' := W2.alloc (.cells #[.slice q1 m1 d1] 36)) (.slice (some ⟨W2.heap.size, 0, none⟩) 1 1) ?_ ⟨_, rfl, .inr (.inr ⟨by decide, by decide, al (Below.refl _ _) (Nat.le_refl _)⟩), ⟨W2.heap.size, rfl, hE.hH, hnew rfl⟩, trivial⟩)
                      simp only [execOp, List.map_toArray, List.map, eval_tmp, tt]; simp [go_sem, v106]
                    · intro a W2 dn hdn hE hs hp hx hi
                      have t14 : sl a 104 = .slice qa j ca := hp 0 (by decide)
                      have tt : ∃ g, sl a 107 = .slice (some ⟨g, 0, none⟩) 1 1 ∧ W.heap.size ≤ g ∧ W2.heap[g]? = some (.cells #[.slice q1 m1 d1] 36 (0, 0)) := hp 3 (by decide)
                      obtain ⟨g7, t17, _, hg7⟩ := tt
                      obtain ⟨vs, ho, hl, hr⟩ := hE.a hdn
                      refine ite_y rfl (wp_append_head (.tmp 104) (.tmp 107) 25 rfl w9.heap.size 36 i0 _ 24 Tryz.underlying25 hi0 hz0' hz1' hz2' rfl (.slice qa j ca) j vs t14 ho g7 1 _ _ _ t17 hg7 rfl (by unfold maxLen; omega) (by omega) hE.bel.size ?_)
                      intro v' w' ho' hg' hw'
                      refine ⟨v', rfl, .inl ⟨rfl, hg'⟩, ⟨Hdr.push ho' hl (owns_len ho) hr S1.out, fun b hb e => ?_⟩, trivial⟩
                      rcases hw' with h | h
                      · rw [h] at hb; exact RN.out b hb e
                      · rw [h] at hb; cases hb; have := (hB0.out _ e).2; have := hE.hH; omega
                    · intro a W2 dn hdn hE hs hp hx hi
                      exact ite_y rfl (wp_val (sl a 20) rfl ⟨_, rfl, .inr (.inr ⟨by decide, by decide, Below.refl _ _⟩), hi 20 (by decide), trivial⟩)
                    · intro a W2 dn hdn hE hs hp hx hi
                      have tt : sl a 22 = .pointer (some ⟨wr.heap.size, 0, none⟩) := hi 22 (by decide)
                      refine ite_y rfl (wp_val (.pointer (some ⟨wr.heap.size, 1, none⟩)) ?_ ⟨_, rfl, .inr (.inr ⟨by decide, by decide, Below.refl _ _⟩), rfl, trivial⟩)
                      simp only [execOp, eval_tmp, tt]; simp [go_sem]
                    · intro a W2 dn hdn hE hs hp hx hi
                      have tt : sl a 110 = .pointer (some ⟨wr.heap.size, 1, none⟩) := hp 6 (by decide)
                      have hbb := (hE.frame wr.heap.size (by have := HWsz.out; omega) (fun e => by have := hA1.out _ e; omega) (fun e => by have := hB1.out _ e; omega)).trans HBX.out
                      obtain ⟨y0, y1⟩ := cells2 hbb
                      refine ite_y rfl (wp_val (.slice q2 m2 d2) ?_ ⟨_, rfl, .inr (.inr ⟨by decide, by decide, Below.refl _ _⟩), rfl, trivial⟩)
                      simp only [execOp, eval_tmp, tt]; simp [go_sem, y1]
                    · intro a W2 dn hdn hE hs hp hx hi
                      have tt : sl a 111 = .slice q2 m2 d2 := hp 7 (by decide)
                      have v111 : a.tmps[111]?.getD undef = sl a 111 := by simp [sl]
                      rw [tt] at v111
                      refine ite_y rfl (wp_val' (w' := W2.alloc (.cells #[.slice q2 m2 d2] 36)) (.slice (some ⟨W2.heap.size, 0, none⟩) 1 1) ?_ ⟨_, rfl, .inr (.inr ⟨by decide, by decide, al (Below.refl _ _) (Nat.le_refl _)⟩), ⟨W2.heap.size, rfl, hE.hH, hnew rfl⟩, trivial⟩)
                      simp only [execOp, List.map_toArray, List.map, eval_tmp, tt]; simp [go_sem, v111]
                    · intro a W2 dn hdn hE hs hp hx hi
                      have t14 : sl a 109 = .slice qb j cb := hp 5 (by decide)
                      have tt : ∃ g, sl a 112 = .slice (some ⟨g, 0, none⟩) 1 1 ∧ W.heap.size ≤ g ∧ W2.heap[g]? = some (.cells #[.slice q2 m2 d2] 36 (0, 0)) := hp 8 (by decide)
                      have ta : Hdr 36 w9 w9.heap.size W2 (sl a 108) (j + 1) ((K.take j).map (·.1) ++ [kx.1]) ∧ ∀ b, (sl a 108).ownBlock = some b → (Value.slice qb j cb).ownBlock ≠ some b := hp 4 (by decide)
                      obtain ⟨⟨_, oa, _⟩, na⟩ := ta
                      obtain ⟨g7, t17, _, hg7⟩ := tt
                      obtain ⟨vs, ho, hl, hr⟩ := hE.b hdn
                      refine ite_y rfl (wp_append_head (.tmp 109) (.tmp 112) 25 rfl w9.heap.size 36 i0 _ 24 Tryz.underlying25 hi0 hz0' hz1' hz2' rfl (.slice qb j cb) j vs t14 ho g7 1 _ _ _ t17 hg7 rfl (by unfold maxLen; omega) (by omega) hE.bel.size ?_)
                      intro v' w' ho' hg' hw'
                      refine ⟨v', rfl, .inr (.inl ⟨rfl, hg'⟩), Hdr.push ho' hl (owns_len ho) hr S2.out, ?_⟩
                      have e113 : sl (a.put (some 113) v') 113 = v' := put_same _ _ _ (by rw [hs]; exact (by decide : (113 : Nat) < 191))
                      have e108 : sl (a.put (some 113) v') 108 = sl a 108 := put_sl _ _ _ _ (by decide)
                      show ∀ b, (sl (a.put (some 113) v') 108).ownBlock = some b → (sl (a.put (some 113) v') 113).ownBlock ≠ some b
                      rw [e113, e108]
                      intro b hb e
                      rcases hw' with h | h
                      · rw [h] at e; exact na b hb e
                      · rw [h] at e; cases e; have := (oa.lt _ hb).2; omega
                    · intro a W2 dn hdn hE hs hp hx hi
                      refine ite_y rfl (wp_val (sl a 108) rfl ⟨_, rfl, .inr (.inr ⟨by decide, by decide, Below.refl _ _⟩), hp 4 (by decide), ?_⟩)
                      show sl (a.put (some 19) (sl a 108)) 19 = sl (a.put (some 19) (sl a 108)) 108
                      rw [put_same _ _ _ (by rw [hs]; exact (by decide : (19 : Nat) < 191)), put_sl _ _ _ _ (by decide)]
                    · intro a W2 dn hdn hE hs hp hx hi
                      refine ite_y rfl (wp_val (sl a 113) rfl ⟨_, rfl, .inr (.inr ⟨by decide, by decide, Below.refl _ _⟩), hp 9 (by decide), ?_⟩)
                      show sl (a.put (some 20) (sl a 113)) 20 = sl (a.put (some 20) (sl a 113)) 113
                      rw [put_same _ _ _ (by rw [hs]; exact (by decide : (20 : Nat) < 191)), put_sl _ _ _ _ (by decide)]
                    · intro a W2 dn hE hs hd hI hX ht
                      have ha := act_is [104, 105, 106, 107, 108, 109, 110, 111, 112, 113, 19, 20] hs hd ht (by decide)
                      have hA4 : Hdr 36 w9 w9.heap.size W2 (sl a 19) (j + 1) ((K.take j).map (·.1) ++ [kx.1]) := (hI 10 (by decide)).1
                      have hB5 : Hdr 36 w9 w9.heap.size W2 (sl a 20) (j + 1) ((K.take j).map (·.2) ++ [kx.2]) := hI 11 (by decide)
                      have hx9 : ∀ b, (sl a 108).ownBlock = some b → (sl a 113).ownBlock ≠ some b := hX 9 (by decide)
                      have hx10 : sl a 19 = sl a 108 := hX 10 (by decide)
                      have hx11 : sl a 20 = sl a 113 := hX 11 (by decide)
                      rw [← hx10, ← hx11] at hx9
                      obtain ⟨qa', ca', t4⟩ := hA4.shape
                      obtain ⟨qb', cb', t5⟩ := hB5.shape
                      rw [t4] at hA4 hx9; rw [t5] at hB5 hx9
                      rw [← map_take_snoc (·.1) HKX.out] at hA4
                      rw [← map_take_snoc (·.2) HKX.out] at hB5
                      have HA4 := Lib.hid hA4; have HB5 := Lib.hid hB5
                      have HN5 := Lib.hid hx9
                      have HB2 := Lib.hid hE.bel
                      simp only [List.foldl, t4, t5] at ha
                      clear hA4 hB5 hI hX hx9 hx10 hx11 t4 t5 hE ht
                      generalize sl a 104 = u104 at ha
                      generalize sl a 105 = u105 at ha
                      generalize sl a 106 = u106 at ha
                      generalize sl a 107 = u107 at ha
                      generalize sl a 108 = u108 at ha
                      generalize sl a 109 = u109 at ha
                      generalize sl a 110 = u110 at ha
                      generalize sl a 111 = u111 at ha
                      generalize sl a 112 = u112 at ha
                      generalize sl a 113 = u113 at ha
                      simp only [Act.put, List.setIfInBounds_toArray, List.set_cons_zero, List.set_cons_succ] at ha
                      rw [ha]
                      clear ha hs hd S1 S2 hA0 hB0 hA1 hB1 EW HW HBX HWsz RN RW hsz hi0 hz0' hz1' hz2'
                      go_wp2
                      go_roundw
                      case rel => exact ⟨j + 1, by omega, by go_num, HA4.out, HB5.out, HN5.out, HB2.out⟩
                      case measure => simp [intOf]; omega
                  · have hjK : j = K.length := by omega
                    subst hjK
                    rw [List.take_length] at RA RB
                    have SA := Lib.hid (RA.out.sl2 RW.out)
                    have SB := Lib.hid (RB.out.sl2 RW.out)
                    have HRb := Lib.hid (HR9.out.keep RW.out)
                    have HBb := Lib.hid (bl HB9.out RW.out HB9.out.size)
                    have KAb := Lib.hid ((RW.out.block _ (lt_of_block KA9.out)).trans KA9.out)
                    have KDb := Lib.hid ((RW.out.block _ (lt_of_block KD9.out)).trans KD9.out)
                    have HSXb := Lib.hid (HSX.out.keep RW.out)
                    clear RA RB RN RW HR9 HB9 KA9 KD9 HSX HW9
                    go_wp2_with fail
                    refine Calls.mono (RComb_any _ _ _ _ _ _ _ _ _ (HXS.out.keep HBb.out) SA.out (fun z hz => by rw [HFV.out z hz]; show k ≤ _; omega)) ?_
                    intro e w11 he
                    rw [HC1.out.1] at he
                    obtain ⟨qv, nv, cv, rfl, hv, hb⟩ := SRet.of he
                    have hnv : k = nv := by rw [← hv.len]; exact HC1.out.2.symm
                    have HV := Lib.hid hv
                    have SBc := Lib.hid (SB.out.keep hb)
                    have HRc := Lib.hid (HRb.out.keep hb)
                    have HBc := Lib.hid (bl HBb.out hb HBb.out.size)
                    have KAc := Lib.hid ((hb.block _ (lt_of_block KAb.out)).trans KAb.out)
                    have KDc := Lib.hid ((hb.block _ (lt_of_block KDb.out)).trans KDb.out)
                    have HSXc := Lib.hid (HSXb.out.keep hb)
                    clear he hv hb SA SB HRb HBb KAb KDb HSXb
                    go_wp2_with fail
                    refine Calls.mono (RComb_any _ _ _ _ _ _ _ _ _ (HXS.out.keep HBc.out) SBc.out (fun z hz => by rw [HFD.out z hz]; show t ≤ _; omega)) ?_
                    intro e w12 he
                    rw [HC2.out.1] at he
                    obtain ⟨qd, nd, cd, rfl, hv, hb⟩ := SRet.of he
                    have hnd : t = nd := by rw [← hv.len]; exact HC2.out.2.symm
                    subst hnv hnd
                    have HD := Lib.hid hv
                    have HVd := Lib.hid (HV.out.keep hb)
                    have HRd := Lib.hid (HRc.out.keep hb)
                    have HBd := Lib.hid (bl HBc.out hb HBc.out.size)
                    have kad := (hb.block _ (lt_of_block KAc.out)).trans KAc.out
                    have kdd := (hb.block _ (lt_of_block KDc.out)).trans KDc.out
                    have HSXd := Lib.hid (HSXc.out.keep hb)
                    have hnxw : IntKind.u32.wrap (nx : Int) = (nx : Int) := by rw [IntKind.wrap_u32]; omega
                    clear he hv hb SBc HV HRc HBc KAc KDc HSXc
                    obtain ⟨c0, c1, c2, c3⟩ := cells_four kad
                    obtain ⟨d0, d1, d2, d3⟩ := cells_four kdd
                    have KAd := Lib.hid kad
                    have KDd := Lib.hid kdd
                    clear kad kdd
                    go_wp2_with fail
                    refine Calls.mono (RWrite15_ok L _ _ D nx _ _ 0 _ _ _ _ _ HP.out (by omega) HVd.out HD.out) ?_
                    rintro e w13 ⟨qw, nw, cw, rfl, hw, hb⟩
                    have HWt := Lib.hid hw
                    have HRe := Lib.hid (HRd.out.keep hb)
                    have HBe := Lib.hid (bl HBd.out hb HBd.out.size)
                    have KAe := Lib.hid ((hb.block _ (lt_of_block KAd.out)).trans KAd.out)
                    have KDe := Lib.hid ((hb.block _ (lt_of_block KDd.out)).trans KDd.out)
                    have HSXe := Lib.hid (HSXd.out.keep hb)
                    have hnx1 : IntKind.u64.wrap ((nx : Int) + 1) = ((nx + 1 : Nat) : Int) := by rw [IntKind.wrap_u64]; omega
                    clear hw hb HVd HD HRd HBd KAd KDd HSXd c0 c1 c2 c3 d0 d1 d2 d3
                    go_wp2_with fail
                    refine Calls.mono (Same_any _ _ _ _ _ _ _ _ _ HSXe.out HWt.out) ?_
                    rintro e w14 ⟨rfl, hb⟩
                    rw [decide_eq_true rfl]
                    have HR9 := Lib.hid (HRe.out.keep hb)
                    have HB9 := Lib.hid (bl HBe.out hb HBe.out.size)
                    have KA9 := Lib.hid ((hb.block _ (lt_of_block KAe.out)).trans KAe.out)
                    have KD9 := Lib.hid ((hb.block _ (lt_of_block KDe.out)).trans KDe.out)
                    clear hb HRe HBe KAe KDe HSXe HWt hnxw
                    go_wp2_with fail
                    refine Calls.mono (YNext_any _ gr gt be L t k D _ _ _ _ _ _ _ _ HR9.out) ?_
                    rintro e w10 ⟨rfl, hb⟩
                    have HRa := Lib.hid (HR9.out.keep hb)
                    have HBa := Lib.hid (bl HB9.out hb HB9.out.size)
                    have KAa := Lib.hid ((hb.block _ (lt_of_block KA9.out)).trans KA9.out)
                    have KDa := Lib.hid ((hb.block _ (lt_of_block KD9.out)).trans KD9.out)
                    clear hb HR9 HB9 KA9 KD9
                    go_wp2
                    go_roundw
                    case rel => exact ⟨i + 1, N, nx + 1, _, _, _, _, _, by omega, by go_num, rfl, by omega, by omega, HRa.out, HBa.out, KAa.out, KDa.out⟩
                    case measure => simp [intOf]; omega

              · have hz2 : ((m : Int) != (K.length : Int)) = true := bne_iff_ne.2 (by omega)
                have hsc : sayC K nx m = 4 := by unfold sayC; rw [if_neg hK0, if_neg hnx, if_pos hmK]
                refine Calls.mono (YSay_none _ gr gt be L t k D _ nx M2 v2 C2 K st _ m c _ HR8.out (by omega) (by rw [hsc]; decide)) ?_
                rintro e w9 ⟨qx, nxx, cxx, rfl, hx, hb⟩
                rw [hsc]
                have hnx0 : nxx = 0 := hx.len.symm
                subst hnx0
                have HR9 := Lib.hid (HR8.out.keep hb)
                have HB9 := Lib.hid (bl HB8.out hb HB8.out.size)
                have KA9 := Lib.hid ((hb.block _ (lt_of_block KA8.out)).trans KA8.out)
                have KD9 := Lib.hid ((hb.block _ (lt_of_block KD8.out)).trans KD8.out)
                clear hK0 hnx hmK hb hx HR8 HB8 KA8 KD8 HW8 hsc

                go_wp2_with fail
                refine Calls.mono (YNext_any _ gr gt be L t k D _ _ _ _ _ _ _ _ HR9.out) ?_
                rintro e w10 ⟨rfl, hb⟩
                have HRa := Lib.hid (HR9.out.keep hb)
                have HBa := Lib.hid (bl HB9.out hb HB9.out.size)
                have KAa := Lib.hid ((hb.block _ (lt_of_block KA9.out)).trans KA9.out)
                have KDa := Lib.hid ((hb.block _ (lt_of_block KD9.out)).trans KD9.out)
                clear hb HR9 HB9 KA9 KD9
                go_wp2
                go_roundw
                case rel => exact ⟨i + 1, N, nx, _, _, _, _, _, by omega, by go_num, rfl, by omega, by omega, HRa.out, HBa.out, KAa.out, KDa.out⟩
                case measure => simp [intOf]; omega
      · have hm30' : (30 : Int) < (m : Int) := by omega
        go_wp2
        go_ret
        exact ⟨rfl, HB6.out⟩
    · have hlt' : ¬ (i : Int) < (n2 : Int) := by omega
      go_wp2
      go_ret
      exact ⟨rfl, HB6.out⟩
end Go.Proofs.YtcfdopiponlboaaGreatDoor
namespace Go.Proofs.YtcfdopiponlboaaGreatDoor
open Go.RowKit Go.By Go.Maps
set_option maxRecDepth 100000 in
set_option maxHeartbeats 4000000 in
theorem RelaySays_out (l s n d f : Int) (p1 : Option Addr) (n1 c1 : Nat) (xss : List (List UInt8)) (p2 : Option Addr) (n2 c2 : Nat) (w : World) (hl : l ≤ 9223372036854775807) (h1 : Sl2 w p1 n1 c1 xss) (hn2 : n2 ≤ 9223372036854775807) (hT : HalfT w)
    (hx : ((xss.all (fun y => decide (y.length ≤ 800)) && decide (n1 ≤ 30)) && (small19 l s n && decide (n2 ≤ 30))) = false) :
    Calls Tryz.prog 3 #[.agg #[.int .i64 l, .int .i64 s, .int .i64 n, .int .u32 d], .int .u32 f, .slice p1 n1 c1, .slice p2 n2 c2] w fun e w' => e = .returned (.bool true) ∧ Below w.heap.size w w' := by
  have HT := Lib.hid hT
  have HFew : Hid (∀ w, Sl2 w p1 n1 c1 xss → Calls Tryz.prog 6 #[.slice p1 n1 c1] w fun e w' => e = .returned (.bool (xss.all (fun y => decide (y.length ≤ 800)) && decide (n1 ≤ 30))) ∧ w = w') := fun w h => Few18_any p1 n1 c1 xss w h
  have HSm := Lib.hid (fun w => Small19_any l s n d w hl)
  generalize (xss.all (fun y => decide (y.length ≤ 800)) && decide (n1 ≤ 30)) = F at *
  generalize small19 l s n = S at *
  have H1 := Lib.hid h1
  clear hT h1
  cases F with
  | false =>
    clear hx
    go_enter Tryz.func3, Tryz.ntmps3
    go_wp2_with fail
    refine Calls.mono (awake21 _ (HT.out.keep (al (Below.refl _ _) (Nat.le_refl _)))) ?_
    rintro e w1 ⟨rfl, hb⟩
    have HB1 := Lib.hid (one_of hb).1
    clear hb
    go_wp2_with fail
    refine Calls.mono (HFew.out _ (H1.out.keep HB1.out)) ?_
    rintro e w2 ⟨rfl, rfl⟩
    go_wp2
    go_ret
    exact ⟨rfl, HB1.out⟩
  | true =>
    cases S with
    | false =>
      clear hx
      go_enter Tryz.func3, Tryz.ntmps3
      go_wp2_with fail
      refine Calls.mono (awake21 _ (HT.out.keep (al (Below.refl _ _) (Nat.le_refl _)))) ?_
      rintro e w1 ⟨rfl, hb⟩
      obtain ⟨hb1, kp, hs1⟩ := one_of hb
      have HB1 := Lib.hid hb1
      clear hb hb1
      go_wp2_with fail
      refine Calls.mono (HFew.out _ (H1.out.keep HB1.out)) ?_
      rintro e w2 ⟨rfl, rfl⟩
      obtain ⟨z0, z1, z2, z3⟩ := cells_four kp
      go_wp2_with fail
      refine Calls.mono (HSm.out _) ?_
      rintro e w3 ⟨rfl, hb⟩
      have HB3 := Lib.hid (bl HB1.out hb HB1.out.size)
      clear hb z0 z1 z2 z3 kp HB1
      go_wp2
      go_ret
      exact ⟨rfl, HB3.out⟩
    | true =>
      have hn : (30 : Int) < (n2 : Int) := by
        rw [Bool.true_and, Bool.true_and] at hx
        have := of_decide_eq_false hx
        omega
      clear hx
      go_enter Tryz.func3, Tryz.ntmps3
      go_wp2_with fail
      refine Calls.mono (awake21 _ (HT.out.keep (al (Below.refl _ _) (Nat.le_refl _)))) ?_
      rintro e w1 ⟨rfl, hb⟩
      obtain ⟨hb1, kp, hs1⟩ := one_of hb
      have HB1 := Lib.hid hb1
      clear hb hb1
      go_wp2_with fail
      refine Calls.mono (HFew.out _ (H1.out.keep HB1.out)) ?_
      rintro e w2 ⟨rfl, rfl⟩
      obtain ⟨z0, z1, z2, z3⟩ := cells_four kp
      go_wp2_with fail
      refine Calls.mono (HSm.out _) ?_
      rintro e w3 ⟨rfl, hb⟩
      have HB3 := Lib.hid (bl HB1.out hb HB1.out.size)
      clear hb z0 z1 z2 z3 kp HB1
      go_wp2
      go_ret
      exact ⟨rfl, HB3.out⟩
set_option maxRecDepth 100000 in
set_option maxHeartbeats 4000000 in
theorem RelaySays_bad (l s n d f : Int) (p1 : Option Addr) (n1 c1 : Nat) (xss : List (List UInt8)) (p2 : Option Addr) (n2 c2 : Nat) (w : World) (hl : l ≤ 9223372036854775807) (h1 : Sl2 w p1 n1 c1 xss) (hn2 : n2 ≤ 30) (hT : HalfT w)
    (hfew : (xss.all (fun y => decide (y.length ≤ 800)) && decide (n1 ≤ 30)) = true) (hc : checkS l s n ≠ 0) :
    Calls Tryz.prog 3 #[.agg #[.int .i64 l, .int .i64 s, .int .i64 n, .int .u32 d], .int .u32 f, .slice p1 n1 c1, .slice p2 n2 c2] w fun e w' => e = .returned (.bool true) ∧ Below w.heap.size w w' := by
  have HT := Lib.hid hT
  have HFew : Hid (∀ w, Sl2 w p1 n1 c1 xss → Calls Tryz.prog 6 #[.slice p1 n1 c1] w fun e w' => e = .returned (.bool true) ∧ w = w') := fun w h => by have := Few18_any p1 n1 c1 xss w h; rw [hfew] at this; exact this
  have hsm : small19 l s n = true := by unfold small19; rw [if_neg hc]
  have HSm : Hid (∀ w, Calls Tryz.prog 7 #[.agg #[.int .i64 l, .int .i64 s, .int .i64 n, .int .u32 d]] w fun e w' => e = .returned (.bool true) ∧ Below w.heap.size w w') := fun w => by have := Small19_any l s n d w hl; rw [hsm] at this; exact this
  have HNew := Lib.hid (fun w => YNew_bad l s n d f w hl hc)
  have HCk := Lib.hid (fun w => RCheck_any l s n d w hl)
  have hz : (checkS l s n != 0) = true := bne_iff_ne.2 hc
  generalize checkS l s n = C at *
  have H1 := Lib.hid h1
  have hn2' : ¬ (30 : Int) < (n2 : Int) := by omega
  clear hT h1 hsm hc hfew
  go_enter Tryz.func3, Tryz.ntmps3
  go_wp2_with fail
  refine Calls.mono (awake21 _ (HT.out.keep (al (Below.refl _ _) (Nat.le_refl _)))) ?_
  rintro e w1 ⟨rfl, hb⟩
  obtain ⟨hb1, kp, hs1⟩ := one_of hb
  have HB1 := Lib.hid hb1
  clear hb hb1
  go_wp2_with fail
  refine Calls.mono (HFew.out _ (H1.out.keep HB1.out)) ?_
  rintro e w2 ⟨rfl, rfl⟩
  obtain ⟨z0, z1, z2, z3⟩ := cells_four kp
  go_wp2_with fail
  refine Calls.mono (HSm.out _) ?_
  rintro e w3 ⟨rfl, hb⟩
  have HB3 := Lib.hid (bl HB1.out hb HB1.out.size)
  have kp3 := (hb.block _ (lt_of_block kp)).trans kp
  clear hb z0 z1 z2 z3 kp HB1
  obtain ⟨z0, z1, z2, z3⟩ := cells_four kp3
  have a0 : ∀ o', (w3.alloc o').cell? ⟨w.heap.size, 0, none⟩ = _ := fun _ => calloc z0
  have a1 : ∀ o', (w3.alloc o').cell? ⟨w.heap.size, 1, none⟩ = _ := fun _ => calloc z1
  have a2 : ∀ o', (w3.alloc o').cell? ⟨w.heap.size, 2, none⟩ = _ := fun _ => calloc z2
  have a3 : ∀ o', (w3.alloc o').cell? ⟨w.heap.size, 3, none⟩ = _ := fun _ => calloc z3
  go_wp2_with fail
  refine Calls.mono (HNew.out _) ?_
  rintro e w4 ⟨rfl, hb⟩
  obtain ⟨hb4, kd, hs4⟩ := one_of hb
  have HB4 := Lib.hid (bl HB3.out hb4 HB3.out.size)
  obtain ⟨d0, d1, d2, d3⟩ := cells_four kd
  clear hb hb4 kp3 z0 z1 z2 z3 a0 a1 a2 a3 kd HB3 hs1 hs4
  go_wp2_with fail
  refine Calls.mono (HCk.out _) ?_
  rintro e w5 ⟨rfl, hb⟩
  have HB5 := Lib.hid (bl HB4.out hb HB4.out.size)
  clear hb HB4 d0 d1 d2 d3
  go_wp2
  go_ret
  exact ⟨rfl, HB5.out⟩
theorem RelaySays_any (l s n d f : Int) (p1 : Option Addr) (n1 c1 : Nat) (xss : List (List UInt8)) (p2 : Option Addr) (n2 c2 : Nat) (dss : List (List UInt8)) (w : World) (w0 : (Lit.int .i64 l).wf = true) (_w1 : (Lit.int .i64 s).wf = true) (_w2 : (Lit.int .i64 n).wf = true) (w3 : (Lit.int .u32 d).wf = true) (w4 : (Lit.int .u32 f).wf = true) (h1 : Sl2 w p1 n1 c1 xss) (h2 : Sl2 w p2 n2 c2 dss) (hT : HalfT w) :
    Calls Tryz.prog 3 #[.agg #[.int .i64 l, .int .i64 s, .int .i64 n, .int .u32 d], .int .u32 f, .slice p1 n1 c1, .slice p2 n2 c2] w fun e w' => e = .returned (.bool true) ∧ Below w.heap.size w w' := by
  have hl := (Go.bounds_i64 w0).2
  have hd := Go.bounds_u32 w3
  have hf := Go.bounds_u32 w4
  by_cases hx : ((xss.all (fun y => decide (y.length ≤ 800)) && decide (n1 ≤ 30)) && (small19 l s n && decide (n2 ≤ 30))) = false
  · exact RelaySays_out l s n d f p1 n1 c1 xss p2 n2 c2 w hl h1 h2.bound hT hx
  · rw [Bool.not_eq_false, Bool.and_eq_true, Bool.and_eq_true (small19 l s n)] at hx
    obtain ⟨hfew, hsm, hn2⟩ := hx
    have hn2 := of_decide_eq_true hn2
    by_cases hc : checkS l s n = 0
    · obtain ⟨L, t, k, D, rfl, rfl, rfl, rfl, hP⟩ := pok_of hl hc hd.1 (by omega)
      obtain ⟨F, rfl⟩ := Int.eq_ofNat_of_zero_le hf.1
      have hk12 : k ≤ 12 := by
        unfold small19 at hsm
        rw [if_pos hc, Bool.and_eq_true] at hsm
        have := of_decide_eq_true hsm.1
        omega
      exact RelaySays_core L t k D F p1 n1 c1 xss p2 n2 c2 dss w hP (by omega) hk12 h1 h2 hT hfew hsm hn2
    · exact RelaySays_bad l s n d f p1 n1 c1 xss p2 n2 c2 w hl h1 hn2 hT hfew hc
end Go.Proofs.YtcfdopiponlboaaGreatDoor
namespace Go.By
open Go.RowKit
theorem byte_of_wf {a : Int} (h : (Lit.int .u8 a).wf = true) : ∃ x : UInt8, Value.int .u8 a = B8 x ∧ a = (x.toNat : Int) := by
  have hb := bounds_u8 h
  have e : a = ((UInt8.ofNat a.toNat).toNat : Int) := by simp; omega
  exact ⟨UInt8.ofNat a.toNat, B8_congr e, e⟩
theorem sl_of_row {w : World} {a : Option Addr} {len cap : Nat} {zs : List Int}
    (h : (a = none ∧ len = 0 ∧ cap = 0 ∧ zs = []) ∨ ∃ x, a = some x ∧ len ≤ cap ∧ cap ≤ maxLen ∧ zs.length = cap ∧ (∀ i, i < zs.length → w.cell? (x.add i) = some (.int .u8 (zs.getD i 0))) ∧ ∀ n ∈ zs, (Lit.int .u8 n).wf = true) :
    ∃ xs, Sl B8 w a len cap xs := by
  rcases h with ⟨rfl, rfl, rfl, _⟩ | ⟨x, rfl, hl, hm, hz, hc, hw⟩
  · exact ⟨[], Sl.nil0 _ _⟩
  · refine ⟨(zs.take len).map fun z => UInt8.ofNat z.toNat, ⟨by simp; omega, hl, hm, fun h => by simp at h, ?_⟩⟩
    intro i hi
    have hi' : i < zs.length := by simp at hi; omega
    obtain ⟨b, o, hx, hc'⟩ := ints_at hc (by omega)
    refine ⟨b, o, by rw [hx], ?_⟩
    have hh := hc i hi'
    rw [hx, Addr.add_lit] at hh
    rw [hh]
    have e : zs.getD i 0 = zs[i] := by simp [hi']
    rw [e]
    have hb := bounds_u8 (hw _ (List.getElem_mem hi'))
    simp
    omega
end Go.By
namespace Go.By
open Go.RowKit
theorem spot_none {w : World} {x : Addr} {v : Value} (h : w.cell? (x.add 0) = some v) : ∃ b o, x = ⟨b, o, none⟩ := by
  obtain ⟨b, off, spot⟩ := x
  have hspot : spot = none := by simpa [Addr.add] using World.cell?_spot h
  subst hspot
  exact ⟨b, off, rfl⟩
theorem sl2_of_rows {w : World} {a : Option Addr} {len cap : Nat} (hl : len ≤ cap) (hm : cap ≤ maxLen) (hn : a = none → len = 0 ∧ cap = 0) (A : Nat → Option Addr) (L C : Nat → Nat) (Z : Nat → List Int)
    (h : ∀ x, a = some x → ∀ r, r < cap → w.cell? (x.add r) = some (.slice (A r) (L r) (C r)) ∧ L r ≤ C r ∧ C r ≤ maxLen ∧ (Z r).length = C r ∧ (∀ n ∈ Z r, (Lit.int .u8 n).wf = true) ∧ (A r = none → C r = 0) ∧
        ∀ a', A r = some a' → ∀ c, c < C r → w.cell? (a'.add c) = some (.int .u8 ((Z r).getD c 0))) : ∃ xss, Sl2 w a len cap xss := by
  have each : ∀ r, ∃ xs, r < len → Sl B8 w (A r) (L r) (C r) xs := by
    intro r
    by_cases hr : r < len
    · cases ha : a with
      | none => have := hn ha; omega
      | some x =>
        obtain ⟨_, h1, h2, h3, h4, h5, h6⟩ := h x ha r (by omega)
        cases hA : A r with
        | none =>
          have := h5 hA
          have hL : L r = 0 := by omega
          exact ⟨[], fun _ => by rw [hL, this]; exact Sl.nil0 _ _⟩
        | some a' =>
          obtain ⟨xs, hx⟩ := sl_of_row (w := w) (a := some a') (len := L r) (cap := C r) (zs := Z r) (.inr ⟨a', rfl, h1, h2, h3, fun i hi => h6 a' hA i (by omega), h4⟩)
          exact ⟨xs, fun _ => hx⟩
    · exact ⟨[], fun h => absurd h hr⟩
  refine ⟨(List.range len).map fun r => Classical.choose (each r), ⟨by simp, hl, hm, hn, ?_⟩⟩
  intro i xs hi
  obtain ⟨hi', e⟩ := List.getElem?_eq_some_iff.1 hi
  simp at hi' e
  have hs := Classical.choose_spec (each i) hi'
  rw [e] at hs
  cases ha : a with
  | none => have := hn ha; omega
  | some x =>
    obtain ⟨hc, _⟩ := h x ha i (by omega)
    obtain ⟨b, o, rfl⟩ := spot_none (h x ha 0 (by omega)).1
    rw [Addr.add_lit] at hc
    exact ⟨b, o, A i, C i, rfl, by rw [hs.len]; exact hc, by rw [hs.len]; exact hs⟩
end Go.By
namespace Go.Proofs.YtcfdopiponlboaaGreatDoor
open Go.RowKit Go.By
theorem halves_of {rest : List (String × DataW Unit)} {W : World} (h : laidMet Tryz.prog (("wellspring/sum.halves", Rows.laid_wellspring_sum_halves) :: rest) W) : HalfT W := by
  obtain ⟨zs, hz, hzl, hzc⟩ : ∃ zs : List Int, (Rows.laid_wellspring_sum_halves : DataW Unit) = Lib.tabData .u32 zs ∧ zs.length = 16 ∧ ∀ i, i < 16 → zs.getD i 0 = ((crcTab.getD i 0 : Nat) : Int) := ⟨[0, 498536548, 997073096, 651767980, 1994146192, 1802195444, 1303535960, 1342533948, 3988292384, 4027552580, 3604390888, 3412177804, 2607071920, 2262029012, 2685067896, 3183342108], rfl, rfl, by decide⟩
  rw [hz] at h
  have h3 := Lib.tabIs_of_head (g := 0) (t := 183) (e := 22) (n := 16) (by kernel_rfl) (by kernel_rfl) (by kernel_rfl) (by kernel_rfl) (by kernel_rfl) (by kernel_rfl) h
  intro i hi
  have := h3.cell (g := 0) (by kernel_rfl) i (by omega)
  rw [hzc i hi] at this
  exact this
end Go.Proofs.YtcfdopiponlboaaGreatDoor
