/- A system's Rows and Clone. A system's Clone. A system's Solve. What a system's Put leaves as it is; Put of an equation that fits, and the reference's, whatever comes of it. Plain laws of GridTells: rows and what they are joined; a unit's bytes. GridTells: the walk, no unit. -/
import Derived.Test.YtofhdakggapahaaZq7
namespace Go.Proofs.Ytofhdakggapahaa
open Go.RowKit Go.By
/-- rows made at first: all without bytes -/
theorem RwL.made {w : World} {base g n : Nat} (hh : w.heap[g]? = some (.cells (madeCells #[.slice none 0 0, .slice none 0 0] (n * 2)) 61 (0, 0))) (hb : base ≤ g) (hn : n ≤ maxLen) : RwL 61 5 w base (.slice (some ⟨g, 0, none⟩) n n) n (List.replicate n ([], [])) := by
  have hfl : (madeCells #[.slice none 0 0, .slice none 0 0] (n * 2)).toList = fl2 (List.replicate n ((.slice none 0 0 : Value), (.slice none 0 0 : Value))) := by
    apply List.ext_getElem?
    intro i
    by_cases hi : i < n * 2
    · have e1 : (madeCells #[.slice none 0 0, .slice none 0 0] (n * 2)).toList[i]? = some (.slice none 0 0) := by
        rcases Nat.mod_two_eq_zero_or_one i with h | h <;> simp [madeCells, hi, h]
      have hd : i / 2 < n := by omega
      obtain ⟨f1, f2⟩ := fl2_at (vs := List.replicate n ((.slice none 0 0 : Value), (.slice none 0 0 : Value))) (i := i / 2) (u := (.slice none 0 0, .slice none 0 0)) (by rw [List.getElem?_replicate, if_pos hd])
      rw [e1]
      rcases Nat.mod_two_eq_zero_or_one i with h | h
      · rw [show i / 2 * 2 = i by omega] at f1; exact f1.symm
      · rw [show i / 2 * 2 + 1 = i by omega] at f2; exact f2.symm
    · rw [List.getElem?_eq_none (by simp [madeCells]; omega), List.getElem?_eq_none (by rw [fl2_length, List.length_replicate]; omega)]
  refine ⟨List.replicate n (.slice none 0 0, .slice none 0 0), by simp, by simp, ⟨by rw [fl2_length, List.length_replicate], .inr ⟨g, n, _, rfl, hb, hh, Nat.le_refl _, hn, by simp [madeCells], ?_⟩⟩, ?_⟩
  · rw [hfl, List.take_of_length_le (by rw [fl2_length, List.length_replicate]; omega)]
  · intro j u hj
    obtain ⟨h1, h2⟩ := List.getElem?_eq_some_iff.1 hj
    rw [List.length_replicate] at h1
    simp at h2
    subst h2
    exact ⟨([], []), by rw [List.getElem?_replicate, if_pos h1], ⟨none, 0, 0, rfl, rfl, World.ownsRow_nil _ _ _ _⟩, ⟨none, 0, 0, rfl, rfl, World.ownsRow_nil _ _ _ _⟩⟩
theorem fill_step {α : Type} {K : List α} {j n : Nat} {a z : α} (hj : K[j]? = some a) (hn : K.length = n) : (K.take j ++ List.replicate (n - j) z).set j a = K.take (j + 1) ++ List.replicate (n - (j + 1)) z := by
  have hl := (List.getElem?_eq_some_iff.1 hj).1
  have lj : (K.take j).length = j := by rw [List.length_take]; omega
  rw [List.set_append_right _ _ (by omega), lj, Nat.sub_self, List.take_add_one, hj]
  rw [show n - j = (n - (j + 1)) + 1 by omega, List.replicate_succ]
  simp
theorem heap_owns2 {w : World} {base E g n : Nat} {L : List Value} (h : w.ownsRow base E 2 (.slice (some ⟨g, 0, none⟩) n n) n L) : w.heap[g]? = some (.cells L.toArray E (0, 0)) := by
  rcases h.2 with ⟨h1, _⟩ | ⟨g', cap, cur, hv, _, hh, _, _, hs, ht⟩
  · cases h1
  · cases hv
    rw [hh]
    have : cur = L.toArray := by
      rw [← ht, List.take_of_length_le (by simp [hs])]
    rw [this]
set_option maxRecDepth 100000 in
set_option maxHeartbeats 4000000 in
theorem ERows_any (base be k t n : Nat) (v : Value) (K : List Rw) (w : World) (hE : Elm w base be k t v n K) (hr : ∀ r, r ∈ K → Room r.1.length ∧ Room r.2.length) (hn : n ≤ 4096) :
    Calls Try.prog 46 #[.pointer (some ⟨be, 0, none⟩)] w fun e w' => ∃ v', e = .returned v' ∧ RwL 61 5 w' w.heap.size v' n K ∧ Below w.heap.size w w' := by
  obtain ⟨r0, hr0, hrz, hr1, hr2⟩ := info_parts info_vrow
  obtain ⟨q, c, rfl⟩ := hE.rows.shape
  have HLEN := Lib.hid hE.rows.len; have HR := Lib.hid hr; have HE := Lib.hid hE
  have HM1 : Hid (n ≤ maxLen) := by show n ≤ maxLen; unfold maxLen; omega
  have HM2 : Hid (48 * n ≤ 281474976710656) := by show 48 * n ≤ _; omega
  obtain ⟨g, hg⟩ : ∃ g, g = w.heap.size := ⟨_, rfl⟩
  have HG := Lib.hid hg
  clear hg
  obtain ⟨f0, f1, f2⟩ := cells3 hE.box
  clear hE hr
  go_enter Try.func46, Try.ntmps46
  go_wp2_with (at_make; refine wpList_make_full _ rfl _ _ 79 rfl w.heap.size 61 r0 (.agg #[.slice none 0 0, .slice none 0 0]) 2 Try.underlying79 hr0 hrz hr1 .i64 .i64 _ _ n rfl rfl rfl rfl (by rw [hr2]; exact HM2.out) HM1.out (by simp) ?_)
  intro w1 ho hg
  have hg' : Below w.heap.size w w1 := (Below.refl _ _).grown hg (by simp) (by simp)
  have RM := heap_owns2 ho
  have R1 : Hid (RwL 61 5 w1 w.heap.size (.slice (some ⟨w.heap.size, 0, none⟩) n n) n (List.replicate n ([], []))) := RwL.made (by simpa using RM) (Nat.le_refl _) HM1.out
  have E1 := Lib.hid (HE.out.keep hg')
  have B1 := Lib.hid hg'
  rw [← HG.out] at R1 ⊢
  clear RM ho hg hg' f0 f1 f2 hr0 hrz hr1 hr2 HM1 HM2
  obtain ⟨f0, f1, f2⟩ := cells3 E1.out.box
  go_wp2
  clear f0 f1 f2
  go_loopw [19] (fun i wr => ∃ j : Nat, j ≤ n ∧ i = .int .i64 j ∧ Hid (RwL 61 5 wr g (.slice (some ⟨g, 0, none⟩) n n) n (K.take j ++ List.replicate (n - j) ([], []))) ∧ Hid (Below g w wr)) (fun i _ => n - (intOf i).toNat)
  case atStart => exact ⟨0, Nat.zero_le _, rfl, by show RwL _ _ _ _ _ _ _; simpa using R1.out, by show Below _ _ _; rw [HG.out]; exact B1.out⟩
  case round =>
    clear R1 E1 B1
    obtain ⟨j, hj, rfl, hR, hB⟩ := hrel
    have hE := Lib.hid (HE.out.keep (w' := wr) (by rw [← HG.out]; exact hB.out))
    by_cases hjl : j < n
    · have jn : (j : Int) < (n : Int) := by omega
      obtain ⟨gs, kk, a1, b1, d1, a2, b2, d2, rfl, e1, e2, hkk, t1, t2⟩ := hE.out.rows.at hjl
      have T1 := Lib.hid t1; have T2 := Lib.hid t2; have HK := Lib.hid hkk.out
      have HRR := Lib.hid (HR.out kk (List.mem_of_getElem? hkk.out))
      clear t1 t2 hkk
      go_wp2_with fail
      clear e1 e2
      refine use_w1 (fun W => Below wr.heap.size wr W) (al (Below.refl _ _) (Nat.le_refl _)) ?_
      rintro w7 b7
      refine Calls.mono (RClone_any a1 a2 b1 d1 b2 d2 kk.1 kk.2 w7 (T1.out.keep b7) (T2.out.keep b7) (by rw [← T1.out.len]; exact HRR.out.1) (by rw [← T2.out.len]; exact HRR.out.2)) ?_
      rintro e w8 ⟨q1, m1, g1, q2, m2, g2, l1, l2, rfl, o1, o2, hb⟩
      have hgs : g ≤ w7.heap.size := Nat.le_trans (by rw [HG.out]; exact hB.out.size) b7.size
      have B8' := Lib.hid (b7.trans (hb.mono b7.size))
      have Y1 : Hid (Bw 5 w8 g (.slice q1 m1 g1) kk.1) := Bw.mk (owns_mono o1 hgs) l1.out
      have Y2 : Hid (Bw 5 w8 g (.slice q2 m2 g2) kk.2) := Bw.mk (owns_mono o2 hgs) l2.out
      have R8 := Lib.hid (hR.out.keep B8'.out)
      have E8 := Lib.hid (hE.out.keep B8'.out)
      have B9 := Lib.hid (hB.out.trans (B8'.out.mono (by rw [HG.out]; exact hB.out.size)))
      obtain ⟨cur, hcur⟩ := R8.out.blk
      have z0 : w8.frozen? ⟨g, j * 2, none⟩ = false := frozen_of_row _ _ _ _ _ hcur
      have z1 : w8.frozen? ⟨g, j * 2 + 1, none⟩ = false := frozen_of_row _ _ _ _ _ hcur
      obtain ⟨gx, kx, x1, xb1, xd1, x2, xb2, xd2, hgx, c1, c2, -, -, -⟩ := R8.out.at hjl
      obtain rfl : g = gx := by injection hgx with h; injection h
      have HP := Lib.hid (R8.out.put (by decide) hjl Y1.out Y2.out)
      have hs8 : g ≤ w8.heap.size := Nat.le_trans hgs hb.size
      clear hcur hgx o1 o2 hb b7 hR hE hB T1 T2 l1 l2 B8' hgs
      rw [fill_step HK.out HLEN.out] at HP
      have BX : Hid (∀ o1 o2 v1 v2, Below g w ((w8.setCell ⟨g, o1, none⟩ v1).setCell ⟨g, o2, none⟩ v2)) := fun o1 o2 v1 v2 => (B9.out.setCell (Nat.le_refl _) _).setCell (Nat.le_refl _) _
      clear B9 E8 R8 hs8
      go_wp2
      go_roundw
      case rel => exact ⟨j + 1, by omega, by go_num, HP.out, BX.out _ _ _ _⟩
      case measure => simp [intOf]; omega
    · have hjn : j = n := by omega
      have hge : (n : Int) ≤ (j : Int) := by omega
      have HF := Lib.hid hR.out
      rw [List.take_of_length_le (by rw [HLEN.out]; omega), hjn, Nat.sub_self, List.replicate_zero, List.append_nil] at HF
      have BF := Lib.hid hB.out
      clear hR hE hB hjn
      go_wp2
      go_ret
      exact ⟨_, rfl, by rw [← HG.out]; exact HF.out, by rw [← HG.out]; exact BF.out⟩
end Go.Proofs.Ytofhdakggapahaa
namespace Go.By
open Go.RowKit
theorem RwL.mono {T2 T1 base b2 n : Nat} {w : World} {v : Value} {K : List (List UInt8 × List UInt8)} (h : RwL T2 T1 w base v n K) (hb : b2 ≤ base) : RwL T2 T1 w b2 v n K := by
  obtain ⟨vs, a, b, o, r⟩ := h
  refine ⟨vs, a, b, ?_, fun j u hj => by obtain ⟨k, hk, g1, g2⟩ := r j u hj; exact ⟨k, hk, g1.mono hb, g2.mono hb⟩⟩
  obtain ⟨q, c, rfl⟩ := owns_shape o
  exact owns_mono o hb
end Go.By
namespace Go.Proofs.Ytofhdakggapahaa
open Go.RowKit Go.By
def shpRL (B n : Nat) (K : List Rw) : Shp := ⟨fun v W => RwL 61 5 W B v n K, fun _ _ _ h hb => h.keep hb⟩
def shpRB (B n k t : Nat) (K : List Rw) : Shp := ⟨fun v W => ∃ u, v = .agg #[.int .i64 k, .int .i64 t, u] ∧ RwL 61 5 W B u n K, fun _ _ _ ⟨u, e, h⟩ hb => ⟨u, e, h.keep hb⟩⟩
def shpEl (B n k t : Nat) (K : List Rw) : Shp := ⟨fun v W => ∃ b u, v = .pointer (some ⟨b, 0, none⟩) ∧ Elm W B b k t u n K, fun _ _ _ ⟨b, u, e, h⟩ hb => ⟨b, u, e, h.keep hb⟩⟩
set_option maxRecDepth 100000 in
set_option maxHeartbeats 4000000 in
theorem EClone_any (base be k t n : Nat) (v : Value) (K : List Rw) (w : World) (hE : Elm w base be k t v n K) (hr : ∀ r, r ∈ K → Room r.1.length ∧ Room r.2.length) (hn : n ≤ 4096) :
    Calls Try.prog 32 #[.pointer (some ⟨be, 0, none⟩)] w fun e w' => ∃ b u, e = .returned (.pointer (some ⟨b, 0, none⟩)) ∧ Elm w' w.heap.size b k t u n K ∧ Below w.heap.size w w' := by
  obtain ⟨q, c, rfl⟩ := hE.rows.shape
  have HR := Lib.hid hr; have HE := Lib.hid hE
  obtain ⟨f0, f1, f2⟩ := cells3 hE.box
  clear hE hr
  go_enter Try.func32, Try.ntmps32
  go_wp2_with fail
  refine wp_region_shapes (fun ix => ([.val (.pointer (some ⟨be, 0, none⟩)), .val (.pointer (some ⟨be, 0, none⟩)), .val (.pointer (some ⟨be, 0, none⟩)), .val (.int .i64 k), .val (.pointer (some ⟨be, 0, none⟩)), .val (.pointer (some ⟨be, 0, none⟩)), .val (.pointer (some ⟨be, 1, none⟩)), .val (.int .i64 t), .val (.pointer (some ⟨be, 0, none⟩)), (shpRL w.heap.size n K), (shpRB w.heap.size n k t K), (shpEl w.heap.size n k t K), (shpEl w.heap.size n k t K)][ix]?).getD (.any)) 17 rfl (by kernel_rfl) (by decide) (by decide) (by decide) ?_ ?_
  · refine ⟨?_, ?_, ?_, ?_, ?_, ?_, ?_, ?_, ?_, ?_, ?_, ?_, ?_, trivial⟩
    · intro a W hb0 hs hp hi; have hb := undrew hb0; clear hb0
      have t0 : sl a 0 = .pointer (some ⟨be, 0, none⟩) := hi 0 (by decide)
      exact ite_y rfl (wp_val (sl a 0) rfl ⟨_, rfl, Below.refl _ _, t0⟩)
    · intro a W hb0 hs hp hi; have hb := undrew hb0; clear hb0
      have tt : sl a 5 = .pointer (some ⟨be, 0, none⟩) := hp 0 (by decide)
      refine ite_y rfl (wp_val (.pointer (some ⟨be, 0, none⟩)) ?_ ?_)
      · simp only [execOp, eval_tmp, tt]; simp [go_sem]
      · exact ⟨_, rfl, Below.refl _ _, rfl⟩
    · intro a W hb0 hs hp hi; have hb := undrew hb0; clear hb0
      have t6 : sl a 6 = .pointer (some ⟨be, 0, none⟩) := hp 1 (by decide)
      refine ite_y rfl (wp_val (.pointer (some ⟨be, 0, none⟩)) ?_ ?_)
      · simp only [execOp, eval_tmp, eval_const, t6]; simp [go_sem]
      · exact ⟨_, rfl, Below.refl _ _, rfl⟩
    · intro a W hb0 hs hp hi; have hb := undrew hb0; clear hb0
      have tt : sl a 7 = .pointer (some ⟨be, 0, none⟩) := hp 2 (by decide)
      have dd := (hb.cell (p := ⟨be, 0, none⟩) (lt_of_cell f0)).trans f0
      refine ite_y rfl (wp_val (.int .i64 k) ?_ ?_)
      · simp only [execOp, eval_tmp, tt]; simp [go_sem, dd]
      · exact ⟨_, rfl, Below.refl _ _, rfl⟩
    · intro a W hb0 hs hp hi; have hb := undrew hb0; clear hb0
      have t0 : sl a 0 = .pointer (some ⟨be, 0, none⟩) := hi 0 (by decide)
      exact ite_y rfl (wp_val (sl a 0) rfl ⟨_, rfl, Below.refl _ _, t0⟩)
    · intro a W hb0 hs hp hi; have hb := undrew hb0; clear hb0
      have tt : sl a 9 = .pointer (some ⟨be, 0, none⟩) := hp 4 (by decide)
      refine ite_y rfl (wp_val (.pointer (some ⟨be, 0, none⟩)) ?_ ?_)
      · simp only [execOp, eval_tmp, tt]; simp [go_sem]
      · exact ⟨_, rfl, Below.refl _ _, rfl⟩
    · intro a W hb0 hs hp hi; have hb := undrew hb0; clear hb0
      have t10 : sl a 10 = .pointer (some ⟨be, 0, none⟩) := hp 5 (by decide)
      refine ite_y rfl (wp_val (.pointer (some ⟨be, 1, none⟩)) ?_ ?_)
      · simp only [execOp, eval_tmp, eval_const, t10]; simp [go_sem]
      · exact ⟨_, rfl, Below.refl _ _, rfl⟩
    · intro a W hb0 hs hp hi; have hb := undrew hb0; clear hb0
      have tt : sl a 11 = .pointer (some ⟨be, 1, none⟩) := hp 6 (by decide)
      have dd := (hb.cell (p := ⟨be, 1, none⟩) (lt_of_cell f1)).trans f1
      refine ite_y rfl (wp_val (.int .i64 t) ?_ ?_)
      · simp only [execOp, eval_tmp, tt]; simp [go_sem, dd]
      · exact ⟨_, rfl, Below.refl _ _, rfl⟩
    · intro a W hb0 hs hp hi; have hb := undrew hb0; clear hb0
      have t0 : sl a 0 = .pointer (some ⟨be, 0, none⟩) := hi 0 (by decide)
      exact ite_y rfl (wp_val (sl a 0) rfl ⟨_, rfl, Below.refl _ _, t0⟩)
    · intro a W hb0 hs hp hi; have hb := undrew hb0; clear hb0
      have t13 : sl a 13 = .pointer (some ⟨be, 0, none⟩) := hp 8 (by decide)
      refine ite_y rfl (wp_enter 46 #[.pointer (some ⟨be, 0, none⟩)] ?_ (ERows_any base be k t n (.slice q n c) K W (HE.out.keep hb) HR.out hn) ?_)
      · simp only [execOp, resolve, List.map_toArray, List.map, eval_tmp, eval_func, eval_const, t13]; simp [go_sem]
      · rintro e W' ⟨v', rfl, hr, hw⟩; exact ⟨_, rfl, _, rfl, hw, hr.mono hb.size⟩
    · intro a W hb0 hs hp hi; have hb := undrew hb0; clear hb0
      have t8 : sl a 8 = .int .i64 k := hp 3 (by decide)
      have t12 : sl a 12 = .int .i64 t := hp 7 (by decide)
      have t14 : (shpRL w.heap.size n K).ok (sl a 14) W := hp 9 (by decide)
      obtain ⟨x14, h14⟩ : ∃ x, x = sl a 14 := ⟨_, rfl⟩
      rw [← h14] at t14
      obtain ⟨q4, c4, rfl⟩ := RwL.shape t14
      have v8 : a.tmps[8]?.getD undef = .int .i64 k := by simpa [sl] using t8
      have v12 : a.tmps[12]?.getD undef = .int .i64 t := by simpa [sl] using t12
      have v14 : a.tmps[14]?.getD undef = .slice q4 n c4 := by simpa [sl] using h14.symm
      refine ite_y rfl (wp_val (.agg #[.int .i64 k, .int .i64 t, .slice q4 n c4]) ?_ ?_)
      · simp only [execOp, eval_tmp, t8, t12, ← h14]; simp [go_sem, v8, v12, v14]
      · exact ⟨_, rfl, Below.refl _ _, .slice q4 n c4, rfl, t14⟩
    · intro a W hb0 hs hp hi; have hb := undrew hb0; clear hb0
      have t15 : (shpRB w.heap.size n k t K).ok (sl a 15) W := hp 10 (by decide)
      obtain ⟨u, t15, hu⟩ := t15
      obtain ⟨q', c', rfl⟩ := hu.shape
      refine ite_y rfl (wp_val' (w' := W.alloc (.cells #[.int .i64 k, .int .i64 t, .slice q' n c'] 104)) (.pointer (some ⟨W.heap.size, 0, none⟩)) ?_ ?_)
      · simp only [execOp, eval_tmp, t15]; simp [go_sem]
      · exact ⟨_, rfl, al (Below.refl _ _) (Nat.le_refl _), W.heap.size, _, rfl, hnew rfl, hu.keep (al (Below.refl _ _) (Nat.le_refl _)), hb.size⟩
    · intro a W hb0 hs hp hi; have hb := undrew hb0; clear hb0
      exact ite_y rfl (wp_val (sl a 16) rfl ⟨_, rfl, Below.refl _ _, hp 11 (by decide)⟩)
  intro a w3 hb hs hd hI ht
  have ha := act_is [5, 6, 7, 8, 9, 10, 11, 12, 13, 14, 15, 16, 2] hs hd ht (by decide)
  obtain ⟨b9, ux, t2, z9⟩ : (shpEl w.heap.size n k t K).ok (sl a 2) w3 := hI 12 (by decide)
  simp only [List.foldl, t2] at ha
  generalize sl a 5 = u5 at ha
  generalize sl a 6 = u6 at ha
  generalize sl a 7 = u7 at ha
  generalize sl a 8 = u8 at ha
  generalize sl a 9 = u9 at ha
  generalize sl a 10 = u10 at ha
  generalize sl a 11 = u11 at ha
  generalize sl a 12 = u12 at ha
  generalize sl a 13 = u13 at ha
  generalize sl a 14 = u14 at ha
  generalize sl a 15 = u15 at ha
  generalize sl a 16 = u16 at ha
  simp only [Act.put, List.setIfInBounds_toArray, List.set_cons_zero, List.set_cons_succ] at ha
  rw [ha]
  clear ha hI ht
  have B3 := Lib.hid hb
  clear hb f0 f1 f2
  go_wp2
  go_ret
  exact ⟨b9, rfl, ⟨ux, z9⟩, B3.out⟩
end Go.Proofs.Ytofhdakggapahaa
namespace Go.By
open Go.RowKit
section
variable {T2 T1 : TypeId} {w w' : World} {base n : Nat} {v : Value} {xss : List (List UInt8)}
theorem Own2.mono {b2 : Nat} (h : Own2 T2 T1 w base v n xss) (hb : b2 ≤ base) : Own2 T2 T1 w b2 v n xss := by
  obtain ⟨vs, a, b, r⟩ := h
  obtain ⟨q, c, rfl⟩ := owns_shape a
  exact ⟨vs, owns_mono a hb, b, fun j u hj => by obtain ⟨xs, q', c', e1, e2, e3⟩ := r j u hj; exact ⟨xs, q', c', e1, e2, owns_mono e3 hb⟩⟩
theorem Own2.made {q : Value} (ho : w.ownsRow base T2 1 q n (madeCells #[Value.slice none 0 0] n).toList) : Own2 T2 T1 w base q n (List.replicate n []) := by
  have e : (madeCells #[Value.slice none 0 0] n).toList = List.replicate n (Value.slice none 0 0) := toList_madeCells_one _ _
  rw [e] at ho
  refine ⟨_, ho, by simp, fun j u hj => ?_⟩
  obtain ⟨h1, h2⟩ := List.getElem?_eq_some_iff.1 hj
  rw [List.length_replicate] at h1
  simp at h2
  exact ⟨[], none, 0, by rw [List.getElem?_replicate, if_pos h1], h2.symm, World.ownsRow_nil _ _ _ _⟩
theorem Own2.put {g c i m c3 : Nat} {q3 : Option Addr} {xs : List UInt8} (h : Own2 T2 T1 w base (.slice (some ⟨g, 0, none⟩) n c) n xss) (hT : T1 ≠ T2) (hi : i < n) (h1 : w.ownsRow base T1 1 (.slice q3 m c3) m (xs.map B8)) :
    Own2 T2 T1 (w.setCell ⟨g, i, none⟩ (.slice q3 m c3)) base (.slice (some ⟨g, 0, none⟩) n c) n (xss.set i xs) := by
  obtain ⟨vs, a, b, r⟩ := h
  have hml : m = xs.length := by have := h1.1; simp at this; exact this.symm
  subst hml
  have hvl : vs.length = n := by simpa using a.1
  have hst := a.stored i (.slice q3 xs.length c3)
  refine ⟨vs.set i (.slice q3 xs.length c3), hst.1, by simp [b], fun j u hj => ?_⟩
  rw [List.getElem?_set] at hj
  by_cases e : i = j
  · subst e
    rw [if_pos rfl, if_pos (by omega)] at hj
    cases hj
    exact ⟨xs, q3, c3, by rw [List.getElem?_set, if_pos rfl, if_pos (by omega)], rfl, owns_kept h1 hst.2 (owns_ne h1 a hT)⟩
  · rw [if_neg e] at hj
    obtain ⟨xs', q', c', e1, e2, e3⟩ := r j u hj
    exact ⟨xs', q', c', by rw [List.getElem?_set, if_neg e]; exact e1, e2, owns_kept e3 hst.2 (owns_ne e3 a hT)⟩
theorem Own2.blk {g c i : Nat} (h : Own2 T2 T1 w base (.slice (some ⟨g, 0, none⟩) n c) n xss) (hi : i < n) : (∃ u, w.cell? ⟨g, i, none⟩ = some u) ∧ w.frozen? ⟨g, i, none⟩ = false ∧ base ≤ g := by
  obtain ⟨vs, a, b, r⟩ := h
  have hvl : vs.length = n := by simpa using a.1
  exact ⟨⟨_, (a.cellAt i (by omega)).trans (List.getElem?_eq_getElem (by omega))⟩, a.frozenAt _, (a.lt g rfl).1⟩
end
end Go.By
namespace Go.Proofs.Ytofhdakggapahaa
open Go.RowKit Go.By
set_option maxRecDepth 100000 in
set_option maxHeartbeats 4000000 in
theorem ESolve_less (base be k t n : Nat) (v : Value) (K : List Rw) (w : World) (hE : Elm w base be k t v n K) (hn : n < k) :
    Calls Try.prog 49 #[.pointer (some ⟨be, 0, none⟩)] w fun e w' => e = .returned (.tuple #[.slice none 0 0, .int .i64 12]) ∧ Below w.heap.size w w' := by
  obtain ⟨q, c, rfl⟩ := hE.rows.shape
  have HE := Lib.hid hE
  have hd : ((n : Int) < (k : Int)) = True := by simp; omega
  have hd2 : n < k := hn
  obtain ⟨f0, f1, f2⟩ := cells3 hE.box
  clear hE
  go_enter Try.func49, Try.ntmps49
  go_wp2_with fail
  refine wp_region_shapes (fun ix => ([.val (.pointer (some ⟨be, 0, none⟩)), .val (.pointer (some ⟨be, 0, none⟩)), .val (.pointer (some ⟨be, 2, none⟩)), .val (.slice q n c), .val (.int .i64 (n : Nat)), .val (.pointer (some ⟨be, 0, none⟩)), .val (.pointer (some ⟨be, 0, none⟩)), .val (.pointer (some ⟨be, 0, none⟩)), .val (.int .i64 k), .val (.bool true)][ix]?).getD (.any)) 42 rfl (by kernel_rfl) (by decide) (by decide) (by decide) ?_ ?_
  · refine ⟨?_, ?_, ?_, ?_, ?_, ?_, ?_, ?_, ?_, ?_, trivial⟩
    · intro a W hb0 hs hp hi; have hb := undrew hb0; clear hb0
      have t0 : sl a 0 = .pointer (some ⟨be, 0, none⟩) := hi 0 (by decide)
      exact ite_y rfl (wp_val (sl a 0) rfl ⟨_, rfl, Below.refl _ _, t0⟩)
    · intro a W hb0 hs hp hi; have hb := undrew hb0; clear hb0
      have tt : sl a 9 = .pointer (some ⟨be, 0, none⟩) := hp 0 (by decide)
      refine ite_y rfl (wp_val (.pointer (some ⟨be, 0, none⟩)) ?_ ?_)
      · simp only [execOp, eval_tmp, tt]; simp [go_sem]
      · exact ⟨_, rfl, Below.refl _ _, rfl⟩
    · intro a W hb0 hs hp hi; have hb := undrew hb0; clear hb0
      have t10 : sl a 10 = .pointer (some ⟨be, 0, none⟩) := hp 1 (by decide)
      refine ite_y rfl (wp_val (.pointer (some ⟨be, 2, none⟩)) ?_ ?_)
      · simp only [execOp, eval_tmp, eval_const, t10]; simp [go_sem]
      · exact ⟨_, rfl, Below.refl _ _, rfl⟩
    · intro a W hb0 hs hp hi; have hb := undrew hb0; clear hb0
      have tt : sl a 11 = .pointer (some ⟨be, 2, none⟩) := hp 2 (by decide)
      have dd := (hb.cell (p := ⟨be, 2, none⟩) (lt_of_cell f2)).trans f2
      refine ite_y rfl (wp_val (.slice q n c) ?_ ?_)
      · simp only [execOp, eval_tmp, tt]; simp [go_sem, dd]
      · exact ⟨_, rfl, Below.refl _ _, rfl⟩
    · intro a W hb0 hs hp hi; have hb := undrew hb0; clear hb0
      have t12 : sl a 12 = .slice q n c := hp 3 (by decide)
      refine ite_y rfl (wp_val (.int .i64 (n : Nat)) ?_ ?_)
      · simp only [execOp, resolve, List.map_toArray, List.map, eval_tmp, eval_func, eval_const, t12]; simp [go_sem]
      · exact ⟨_, rfl, Below.refl _ _, rfl⟩
    · intro a W hb0 hs hp hi; have hb := undrew hb0; clear hb0
      have t0 : sl a 0 = .pointer (some ⟨be, 0, none⟩) := hi 0 (by decide)
      exact ite_y rfl (wp_val (sl a 0) rfl ⟨_, rfl, Below.refl _ _, t0⟩)
    · intro a W hb0 hs hp hi; have hb := undrew hb0; clear hb0
      have tt : sl a 14 = .pointer (some ⟨be, 0, none⟩) := hp 5 (by decide)
      refine ite_y rfl (wp_val (.pointer (some ⟨be, 0, none⟩)) ?_ ?_)
      · simp only [execOp, eval_tmp, tt]; simp [go_sem]
      · exact ⟨_, rfl, Below.refl _ _, rfl⟩
    · intro a W hb0 hs hp hi; have hb := undrew hb0; clear hb0
      have t15 : sl a 15 = .pointer (some ⟨be, 0, none⟩) := hp 6 (by decide)
      refine ite_y rfl (wp_val (.pointer (some ⟨be, 0, none⟩)) ?_ ?_)
      · simp only [execOp, eval_tmp, eval_const, t15]; simp [go_sem]
      · exact ⟨_, rfl, Below.refl _ _, rfl⟩
    · intro a W hb0 hs hp hi; have hb := undrew hb0; clear hb0
      have tt : sl a 16 = .pointer (some ⟨be, 0, none⟩) := hp 7 (by decide)
      have dd := (hb.cell (p := ⟨be, 0, none⟩) (lt_of_cell f0)).trans f0
      refine ite_y rfl (wp_val (.int .i64 k) ?_ ?_)
      · simp only [execOp, eval_tmp, tt]; simp [go_sem, dd]
      · exact ⟨_, rfl, Below.refl _ _, rfl⟩
    · intro a W hb0 hs hp hi; have hb := undrew hb0; clear hb0
      have t13 : sl a 13 = .int .i64 (n : Nat) := hp 4 (by decide)
      have t17 : sl a 17 = .int .i64 k := hp 8 (by decide)
      refine ite_y rfl (wp_val (.bool true) ?_ ?_)
      · simp only [execOp, eval_tmp, eval_const, t13, t17]; simp [go_sem, hd, hd2]
      · exact ⟨_, rfl, Below.refl _ _, rfl⟩
  intro a w3 hb hs hd hI ht
  have ha := act_is [9, 10, 11, 12, 13, 14, 15, 16, 17, 18] hs hd ht (by decide)
  have t18 : sl a 18 = .bool true := hI 9 (by decide)
  simp only [List.foldl, t18] at ha
  generalize sl a 9 = u9 at ha
  generalize sl a 10 = u10 at ha
  generalize sl a 11 = u11 at ha
  generalize sl a 12 = u12 at ha
  generalize sl a 13 = u13 at ha
  generalize sl a 14 = u14 at ha
  generalize sl a 15 = u15 at ha
  generalize sl a 16 = u16 at ha
  generalize sl a 17 = u17 at ha
  simp only [Act.put, List.setIfInBounds_toArray, List.set_cons_zero, List.set_cons_succ] at ha
  rw [ha]
  clear ha hI ht
  have B3 := Lib.hid hb
  clear hb f0 f1 f2 hd hd2
  go_wp2
  go_ret2
  exact ⟨rfl, B3.out⟩
theorem snds_step {K : List Rw} {j n : Nat} {r : Rw} (hj : K[j]? = some r) (hn : K.length = n) : ((K.take j).map (fun x : Rw => x.2) ++ List.replicate (n - j) []).set j r.2 = (K.take (j + 1)).map (fun x : Rw => x.2) ++ List.replicate (n - (j + 1)) [] := by
  have e := fill_step (K := K.map (fun x : Rw => x.2)) (j := j) (n := n) (a := r.2) (z := []) (by rw [List.getElem?_map, hj]; rfl) (by rw [List.length_map]; exact hn)
  rw [List.map_take, List.map_take]; exact e
set_option maxRecDepth 100000 in
set_option maxHeartbeats 4000000 in
theorem ESolve_full (base be k t : Nat) (v : Value) (K : List Rw) (w : World) (hE : Elm w base be k t v k K) (hr : ∀ r, r ∈ K → Room r.2.length) (hk : k ≤ 4096) :
    Calls Try.prog 49 #[.pointer (some ⟨be, 0, none⟩)] w fun e w' => ∃ q c, e = .returned (.tuple #[.slice q k c, .int .i64 0]) ∧ Own2 25 5 w' w.heap.size (.slice q k c) k (K.map (·.2)) ∧ Below w.heap.size w w' := by
  obtain ⟨r0, hr0, hrz, hr1, hr2⟩ := info_parts info_rows
  obtain ⟨q, c, rfl⟩ := hE.rows.shape
  have HLEN := Lib.hid hE.rows.len; have HR := Lib.hid hr; have HE := Lib.hid hE
  have HM1 : Hid (k ≤ maxLen) := by show k ≤ maxLen; unfold maxLen; omega
  have HM2 : Hid (24 * k ≤ 281474976710656) := by show 24 * k ≤ _; omega
  obtain ⟨g, hg⟩ : ∃ g, g = w.heap.size := ⟨_, rfl⟩
  have HG := Lib.hid hg
  clear hg
  obtain ⟨n, hn⟩ : ∃ n, n = k := ⟨_, rfl⟩
  have hE' : Elm w base be k t (.slice q n c) n K := by rw [hn]; exact hE
  have hd : ((n : Int) < (k : Int)) = False := by simp; omega
  have hd2 : ¬ n < k := by omega
  have HN := Lib.hid hn
  obtain ⟨f0, f1, f2⟩ := cells3 hE'.box
  clear hE hr hE' hn
  go_enter Try.func49, Try.ntmps49
  go_wp2_with fail
  refine wp_region_shapes (fun ix => ([.val (.pointer (some ⟨be, 0, none⟩)), .val (.pointer (some ⟨be, 0, none⟩)), .val (.pointer (some ⟨be, 2, none⟩)), .val (.slice q n c), .val (.int .i64 (n : Nat)), .val (.pointer (some ⟨be, 0, none⟩)), .val (.pointer (some ⟨be, 0, none⟩)), .val (.pointer (some ⟨be, 0, none⟩)), .val (.int .i64 k), .val (.bool false)][ix]?).getD (.any)) 42 rfl (by kernel_rfl) (by decide) (by decide) (by decide) ?_ ?_
  · refine ⟨?_, ?_, ?_, ?_, ?_, ?_, ?_, ?_, ?_, ?_, trivial⟩
    · intro a W hb0 hs hp hi; have hb := undrew hb0; clear hb0
      have t0 : sl a 0 = .pointer (some ⟨be, 0, none⟩) := hi 0 (by decide)
      exact ite_y rfl (wp_val (sl a 0) rfl ⟨_, rfl, Below.refl _ _, t0⟩)
    · intro a W hb0 hs hp hi; have hb := undrew hb0; clear hb0
      have tt : sl a 9 = .pointer (some ⟨be, 0, none⟩) := hp 0 (by decide)
      refine ite_y rfl (wp_val (.pointer (some ⟨be, 0, none⟩)) ?_ ?_)
      · simp only [execOp, eval_tmp, tt]; simp [go_sem]
      · exact ⟨_, rfl, Below.refl _ _, rfl⟩
    · intro a W hb0 hs hp hi; have hb := undrew hb0; clear hb0
      have t10 : sl a 10 = .pointer (some ⟨be, 0, none⟩) := hp 1 (by decide)
      refine ite_y rfl (wp_val (.pointer (some ⟨be, 2, none⟩)) ?_ ?_)
      · simp only [execOp, eval_tmp, eval_const, t10]; simp [go_sem]
      · exact ⟨_, rfl, Below.refl _ _, rfl⟩
    · intro a W hb0 hs hp hi; have hb := undrew hb0; clear hb0
      have tt : sl a 11 = .pointer (some ⟨be, 2, none⟩) := hp 2 (by decide)
      have dd := (hb.cell (p := ⟨be, 2, none⟩) (lt_of_cell f2)).trans f2
      refine ite_y rfl (wp_val (.slice q n c) ?_ ?_)
      · simp only [execOp, eval_tmp, tt]; simp [go_sem, dd]
      · exact ⟨_, rfl, Below.refl _ _, rfl⟩
    · intro a W hb0 hs hp hi; have hb := undrew hb0; clear hb0
      have t12 : sl a 12 = .slice q n c := hp 3 (by decide)
      refine ite_y rfl (wp_val (.int .i64 (n : Nat)) ?_ ?_)
      · simp only [execOp, resolve, List.map_toArray, List.map, eval_tmp, eval_func, eval_const, t12]; simp [go_sem]
      · exact ⟨_, rfl, Below.refl _ _, rfl⟩
    · intro a W hb0 hs hp hi; have hb := undrew hb0; clear hb0
      have t0 : sl a 0 = .pointer (some ⟨be, 0, none⟩) := hi 0 (by decide)
      exact ite_y rfl (wp_val (sl a 0) rfl ⟨_, rfl, Below.refl _ _, t0⟩)
    · intro a W hb0 hs hp hi; have hb := undrew hb0; clear hb0
      have tt : sl a 14 = .pointer (some ⟨be, 0, none⟩) := hp 5 (by decide)
      refine ite_y rfl (wp_val (.pointer (some ⟨be, 0, none⟩)) ?_ ?_)
      · simp only [execOp, eval_tmp, tt]; simp [go_sem]
      · exact ⟨_, rfl, Below.refl _ _, rfl⟩
    · intro a W hb0 hs hp hi; have hb := undrew hb0; clear hb0
      have t15 : sl a 15 = .pointer (some ⟨be, 0, none⟩) := hp 6 (by decide)
      refine ite_y rfl (wp_val (.pointer (some ⟨be, 0, none⟩)) ?_ ?_)
      · simp only [execOp, eval_tmp, eval_const, t15]; simp [go_sem]
      · exact ⟨_, rfl, Below.refl _ _, rfl⟩
    · intro a W hb0 hs hp hi; have hb := undrew hb0; clear hb0
      have tt : sl a 16 = .pointer (some ⟨be, 0, none⟩) := hp 7 (by decide)
      have dd := (hb.cell (p := ⟨be, 0, none⟩) (lt_of_cell f0)).trans f0
      refine ite_y rfl (wp_val (.int .i64 k) ?_ ?_)
      · simp only [execOp, eval_tmp, tt]; simp [go_sem, dd]
      · exact ⟨_, rfl, Below.refl _ _, rfl⟩
    · intro a W hb0 hs hp hi; have hb := undrew hb0; clear hb0
      have t13 : sl a 13 = .int .i64 (n : Nat) := hp 4 (by decide)
      have t17 : sl a 17 = .int .i64 k := hp 8 (by decide)
      refine ite_y rfl (wp_val (.bool false) ?_ ?_)
      · simp only [execOp, eval_tmp, eval_const, t13, t17]; simp [go_sem, hd, hd2]
      · exact ⟨_, rfl, Below.refl _ _, rfl⟩
  intro a w3 hb hs hd hI ht
  have ha := act_is [9, 10, 11, 12, 13, 14, 15, 16, 17, 18] hs hd ht (by decide)
  have t18 : sl a 18 = .bool false := hI 9 (by decide)
  simp only [List.foldl, t18] at ha
  generalize sl a 9 = u9 at ha
  generalize sl a 10 = u10 at ha
  generalize sl a 11 = u11 at ha
  generalize sl a 12 = u12 at ha
  generalize sl a 13 = u13 at ha
  generalize sl a 14 = u14 at ha
  generalize sl a 15 = u15 at ha
  generalize sl a 16 = u16 at ha
  generalize sl a 17 = u17 at ha
  simp only [Act.put, List.setIfInBounds_toArray, List.set_cons_zero, List.set_cons_succ] at ha
  rw [ha]
  clear ha hI ht
  have HE3 := Lib.hid (HE.out.keep hb)
  have B3 := Lib.hid hb
  obtain rfl := HN.out
  clear hb f0 f1 f2 hd hd2 HE
  obtain ⟨f0, f1, f2⟩ := cells3 HE3.out.box
  obtain ⟨g, hg⟩ : ∃ g, g = w3.heap.size := ⟨_, rfl⟩
  have HG := Lib.hid hg
  clear hg
  go_wp2_with (at_make; refine wpList_make_full _ rfl _ _ 22 rfl w3.heap.size 25 r0 (.slice none 0 0) 1 Try.underlying22 hr0 hrz hr1 .i64 .i64 _ _ n rfl rfl rfl rfl (by rw [hr2]; exact HM2.out) HM1.out (by simp) ?_)
  intro w1 ho hg
  have hg' : Below w3.heap.size w3 w1 := (Below.refl _ _).grown hg (by simp) (by simp)
  have R1 : Hid (Own2 25 5 w1 w3.heap.size (.slice (some ⟨w3.heap.size, 0, none⟩) n n) n (List.replicate n [])) := Own2.made (by simpa using ho)
  have E1 := Lib.hid (HE3.out.keep hg')
  have B1 := Lib.hid hg'
  rw [← HG.out] at R1 ⊢
  clear ho hg hg' f0 f1 f2 hr0 hrz hr1 hr2 HM1 HM2
  obtain ⟨f0, f1, f2⟩ := cells3 E1.out.box
  go_wp2
  clear f0 f1 f2
  go_loopw [29] (fun i wr => ∃ j : Nat, j ≤ n ∧ i = .int .i64 j ∧ Hid (Own2 25 5 wr g (.slice (some ⟨g, 0, none⟩) n n) n ((K.take j).map (·.2) ++ List.replicate (n - j) [])) ∧ Hid (Below g w3 wr)) (fun i _ => n - (intOf i).toNat)
  case atStart => exact ⟨0, Nat.zero_le _, rfl, by show Own2 _ _ _ _ _ _ _; simpa using R1.out, by show Below _ _ _; rw [HG.out]; exact B1.out⟩
  case round =>
    clear R1 E1 B1
    obtain ⟨j, hj, rfl, hR, hB⟩ := hrel
    have hE := Lib.hid (HE3.out.keep (w' := wr) (by rw [← HG.out]; exact hB.out))
    by_cases hjl : j < n
    · have jn : (j : Int) < (n : Int) := by omega
      obtain ⟨gs, kk, a1, b1, d1, a2, b2, d2, rfl, e1, e2, hkk, t1, t2⟩ := hE.out.rows.at hjl
      have T2 := Lib.hid t2; have HK := Lib.hid hkk.out
      have HRR := Lib.hid (HR.out kk (List.mem_of_getElem? hkk.out))
      clear t1 t2 hkk
      go_wp2_with fail
      clear e1 e2
      refine use_w1 (fun W => Below wr.heap.size wr W) (al (Below.refl _ _) (Nat.le_refl _)) ?_
      rintro w7 b7
      refine Calls.mono (CloneB_any a2 b2 d2 kk.2 w7 (T2.out.keep b7) (by rw [← T2.out.len]; exact HRR.out)) ?_
      rintro e w8 ⟨q1, g1, rfl, o1, hb⟩
      have hgs : g ≤ w7.heap.size := Nat.le_trans (by rw [HG.out]; exact hB.out.size) b7.size
      have B8' := Lib.hid (b7.trans (hb.mono b7.size))
      have R8 := Lib.hid (hR.out.keep B8'.out)
      have B9 := Lib.hid (hB.out.trans (B8'.out.mono (by rw [HG.out]; exact hB.out.size)))
      obtain ⟨⟨cu, c1⟩, z0, -⟩ := R8.out.blk hjl
      have HP := Lib.hid (R8.out.put (by decide) hjl (owns_mono o1 hgs))
      have hs8 : g ≤ w8.heap.size := Nat.le_trans hgs hb.size
      clear o1 hb b7 hR hE hB T2 B8' hgs
      rw [snds_step HK.out HLEN.out] at HP
      have BX : Hid (∀ o1 v1, Below g w3 (w8.setCell ⟨g, o1, none⟩ v1)) := fun o1 v1 => B9.out.setCell (Nat.le_refl _) _
      clear B9 R8 hs8
      go_wp2
      go_roundw
      case rel => exact ⟨j + 1, by omega, by go_num, HP.out, BX.out _ _⟩
      case measure => simp [intOf]; omega
    · have hjn : j = n := by omega
      have hge : (n : Int) ≤ (j : Int) := by omega
      have HF := Lib.hid hR.out
      rw [List.take_of_length_le (by rw [HLEN.out]; omega), hjn, Nat.sub_self, List.replicate_zero, List.append_nil] at HF
      have BF : Hid (Below w.heap.size w wr) := B3.out.trans (hB.out.mono (by rw [HG.out]; exact B3.out.size))
      have hsg : w.heap.size ≤ g := by rw [HG.out]; exact B3.out.size
      clear hR hE hB hjn
      go_wp2
      go_ret2
      exact ⟨_, _, rfl, HF.out.mono hsg, BF.out⟩
end Go.Proofs.Ytofhdakggapahaa
namespace Go.By
open Go.RowKit Go.Proofs.Ytofhdakggapahaa
theorem owns_same {w w' : World} {base T k n : Nat} {v : Value} {L : List Value} (h : w.ownsRow base T k v n L) (hs : w.heap.size ≤ w'.heap.size) (hb : ∀ g, v.ownBlock = some g → w'.heap[g]? = w.heap[g]?) : w'.ownsRow base T k v n L := by
  have _ := hs
  refine ⟨h.1, ?_⟩
  rcases h.2 with h1 | ⟨g, cap, cur, e, h1, h2, h3⟩
  · exact .inl h1
  · exact .inr ⟨g, cap, cur, e, h1, (hb g (by rw [e]; rfl)).trans h2, h3⟩
section
variable {w w' : World} {base be k t n : Nat} {v : Value} {K : List Rw}
theorem Chg.blk (h : Chg w w' be v) (hE : Elm w base be k t v n K) {g T : Nat} {cs : Array Value} {fr : Nat × Nat} (hg : w.heap[g]? = some (.cells cs T fr)) (h1 : T ≠ 104) (h2 : v.ownBlock ≠ some g) : w'.heap[g]? = some (.cells cs T fr) := by
  refine (h.block g (blk_lt hg) (fun e => ?_) h2).trans hg
  subst e
  rw [hE.box] at hg; injection hg with hg; injection hg with _ hg _; exact h1 hg.symm
theorem Chg.blk2 (h : Chg w w' be v) (hE : Elm w base be k t v n K) {g T : Nat} {cs : Array Value} {fr : Nat × Nat} (hg : w.heap[g]? = some (.cells cs T fr)) (h1 : T ≠ 104) (h2 : 61 ≠ T) : w'.heap[g]? = some (.cells cs T fr) :=
  h.blk hE hg h1 (hE.rows.ne_box hg h2)
theorem Chg.bw (h : Chg w w' be v) (hE : Elm w base be k t v n K) {b : Nat} {u : Value} {xs : List UInt8} (hu : Bw 5 w b u xs) : Bw 5 w' b u xs := by
  obtain ⟨q, m, c, e, l, o⟩ := hu
  refine ⟨q, m, c, e, l, owns_same o h.size fun g hg => ?_⟩
  rcases o.2 with ⟨e1, _⟩ | ⟨g', cap, cur, e1, _, hh, _⟩
  · rw [e1] at hg; cases hg
  · rw [e1] at hg; cases hg
    rw [h.blk2 hE hh (by decide) (by decide), hh]
theorem Chg.rwl (h : Chg w w' be v) (hE : Elm w base be k t v n K) {b2 n2 : Nat} {v2 : Value} {K2 : List Rw} (h2 : RwL 61 5 w b2 v2 n2 K2) (hne : ∀ g, v2.ownBlock = some g → v.ownBlock ≠ some g) : RwL 61 5 w' b2 v2 n2 K2 := by
  obtain ⟨vs, a, b, o, r⟩ := h2
  refine ⟨vs, a, b, owns_same o h.size fun g hg => ?_, fun j u hj => by obtain ⟨x, hk, g1, g2⟩ := r j u hj; exact ⟨x, hk, h.bw hE g1, h.bw hE g2⟩⟩
  rcases o.2 with ⟨e1, _⟩ | ⟨g', cap, cur, e1, _, hh, _⟩
  · rw [e1] at hg; cases hg
  · have hn := hne g hg
    rw [e1] at hg; cases hg
    rw [h.blk hE hh (by decide) hn, hh]
theorem Chg.elm (h : Chg w w' be v) (hE : Elm w base be k t v n K) {b2 be2 n2 k2 t2 : Nat} {v2 : Value} {K2 : List Rw} (h2 : Elm w b2 be2 k2 t2 v2 n2 K2) (hbe : be2 ≠ be) (hne : ∀ g, v2.ownBlock = some g → v.ownBlock ≠ some g) : Elm w' b2 be2 k2 t2 v2 n2 K2 :=
  ⟨(h.block be2 (blk_lt h2.box) hbe (hE.rows.ne_box h2.box (by decide))).trans h2.box, h.rwl hE h2.rows hne, h2.old⟩
theorem Chg.rwn (h : Chg w w' be v) (hE : Elm w base be k t v n K) {W : World} {q : Option Addr} {m c : Nat} {D : List Rw} (hD : RwN W w 68 q m c D) (hW : W.heap.size ≤ base) : RwN W w' 68 q m c D := by
  obtain ⟨h1, h2, vs, o, h4⟩ := hD
  refine ⟨h1.trans (chg_old h hE.rows hW (Nat.le_trans hW hE.old) h1.size), h2, vs, owns_same o h.size fun g hg => ?_, h4⟩
  rcases o.2 with ⟨e1, _⟩ | ⟨g', cap, cur, e1, _, hh, _⟩
  · rw [e1] at hg; cases hg
  · rw [e1] at hg; cases hg
    rw [h.blk2 hE hh (by decide) (by decide), hh]
end
end Go.By
namespace Go.Proofs.Ytofhdakggapahaa
open Go.RowKit Go.By
/-- what comes of an equation that fits -/
def codeF (K : List Rw) (x : Rw) : Int := if leadS (restF K x).1 < 0 then (if zeroS (restF K x).2 = true then 1 else 2) else 0
def putK (K : List Rw) (x : Rw) : List Rw := if leadS (restF K x).1 < 0 then K else putF K x
def putD (K D : List Rw) (x : Rw) : List Rw := if leadS (restF K x).1 < 0 then D else D ++ [x]
theorem EPut_fit (base be k t n : Nat) (v : Value) (K : List Rw) (p1 p2 : Option Addr) (c1 c2 : Nat) (x : Rw) (w : World) (hE : Elm w base be k t v n K) (s1 : Sl B8 w p1 k c1 x.1) (s2 : Sl B8 w p2 t c2 x.2) (hR : Red k t K) (hk : k ≤ 4096) (ht : t ≤ 65535) (hnn : n ≤ 4096) :
    Calls Try.prog 35 #[.pointer (some ⟨be, 0, none⟩), .agg #[.slice p1 k c1, .slice p2 t c2]] w fun e w' => e = .returned (.tuple #[.int .i64 (codeF K x), .int .i64 0]) ∧
      ∃ v' n', Elm w' base be k t v' n' (putK K x) ∧ Chg w w' be v ∧ (v'.ownBlock = v.ownBlock ∨ ∀ b, v'.ownBlock = some b → w.heap.size ≤ b) := by
  by_cases hn : leadS (restF K x).1 < 0
  · refine (EPut_zero base be k t n v K p1 p2 c1 c2 x w hE s1 s2 hR.kept.rows hk ht hn).mono ?_
    rintro e w' ⟨rfl, hb⟩
    unfold codeF putK
    rw [if_pos hn, if_pos hn]
    exact ⟨rfl, v, n, hE.keep hb, Chg.of be v hb, .inl rfl⟩
  · refine (EPut_grown base be k t n v K p1 p2 c1 c2 x w hE s1 s2 hR hk ht hn hnn).mono ?_
    rintro e w' ⟨rfl, v', h1, h2, h3⟩
    unfold codeF putK
    rw [if_neg hn, if_neg hn]
    exact ⟨rfl, v', n + 1, h1, h2, h3⟩
theorem Sys.putK {n t : Nat} {D K : List Rw} {x : Rw} (h : Sys n t (kD D) K) (hx : Fit n t x) : Sys n t (kD (putD K D x)) (putK K x) := by
  unfold putD Go.Proofs.Ytofhdakggapahaa.putK
  by_cases hn : leadS (restF K x).1 < 0
  · rw [if_pos hn, if_pos hn]; exact h
  · rw [if_neg hn, if_neg hn, kD_snoc]; exact h.put hx hn
theorem RwN.vals {W w : World} {T n c : Nat} {q : Option Addr} {K : List Rw} (h : RwN W w T q n c K) : ∃ vs, w.ownsRow W.heap.size T 2 (.slice q n c) n (fl2 vs) ∧ RwV w q n c vs ∧ vs.length = n ∧ ∀ (j : Nat) (k : Rw), K[j]? = some k → ∃ u, vs[j]? = some u ∧ RwP W u k := by
  obtain ⟨hb, hl, vs, o, hv⟩ := h
  have hvl : vs.length = n := by have := o.1; rw [fl2_length] at this; omega
  refine ⟨vs, o, RwV.of_owns o (fun u hu => ?_), hvl, hv⟩
  obtain ⟨a, ha, hu⟩ := List.mem_flatMap.1 hu
  obtain ⟨j, hj, rfl⟩ := List.getElem_of_mem ha
  obtain ⟨u', hu', q1, m1, c1, q2, m2, c2, e, -⟩ := hv j (K[j]'(by omega)) (List.getElem?_eq_getElem (by omega))
  rw [List.getElem?_eq_getElem hj] at hu'
  injection hu' with hu'
  rw [hu', e] at hu
  simp at hu
  rcases hu with rfl | rfl <;> rfl
theorem RPut8_fit (wd t : Nat) (pk : Option Addr) (nk ck : Nat) (D K : List Rw) (p1 p2 : Option Addr) (n1 c1 n2 c2 : Nat) (x : Rw) (W w : World) (hD : RwN W w 68 pk nk ck D) (s1 : Sl B8 W p1 n1 c1 x.1) (s2 : Sl B8 W p2 n2 c2 x.2)
    (hfit : ∀ r, r ∈ D → Fit wd t r) (hx : Fit wd t x) (hr1 : Room wd) (hr2 : Room t) (hnk : nk ≤ 4096) (hS : Sys wd t (kD D) K) :
    Calls Try.prog 39 #[.slice pk nk ck, .agg #[.slice p1 n1 c1, .slice p2 n2 c2]] w fun e w' => ∃ q n c, e = .returned (.tuple #[.slice q n c, .int .i64 (codeF K x)]) ∧ n = (putD K D x).length ∧ RwN W w' 68 q n c (putD K D x) ∧ Below w.heap.size w w' := by
  have hlen := hD.2.1
  have hs1 := s1.keep hD.1; have hs2 := s2.keep hD.1
  have hsame := hS.same
  by_cases hn : leadS (restF K x).1 < 0
  · refine (RPut8_any wd t pk nk ck D p1 p2 n1 c1 n2 c2 x w hD.rwS hs1 hs2 hfit hx hr1 hr2 hnk (by rw [← hsame]; exact hn)).mono ?_
    rintro e w' ⟨rfl, hb⟩
    rw [← hsame]
    unfold codeF putD
    rw [if_pos hn, if_pos hn]
    exact ⟨pk, nk, ck, rfl, hlen.symm, RwN.keep hD hb, hb⟩
  · obtain ⟨vs, o, hV, hvl, hv⟩ := RwN.vals hD
    refine (RPut8_new wd t pk nk ck D p1 p2 n1 c1 n2 c2 x vs w hD.rwS hV hs1 hs2 hfit hx hr1 hr2 hnk (by rw [← hsame]; exact hn)).mono ?_
    rintro e w' ⟨q, c, rfl, ho, hb⟩
    unfold codeF putD
    rw [if_neg hn, if_neg hn]
    refine ⟨q, nk + 1, c, rfl, by simp [hlen], ⟨bl hD.1 hb hD.1.size, by simp [hlen], vs ++ [(.slice p1 n1 c1, .slice p2 n2 c2)], owns_mono ho hD.1.size, fun j k hj => ?_⟩, hb⟩
    by_cases hjn : j < D.length
    · rw [List.getElem?_append_left hjn] at hj
      obtain ⟨u, hu, hp⟩ := hv j k hj
      exact ⟨u, by rw [List.getElem?_append_left (by omega)]; exact hu, hp⟩
    · have hj2 := (List.getElem?_eq_some_iff.1 hj).1
      rw [List.length_append, List.length_singleton] at hj2
      obtain rfl : j = D.length := by omega
      rw [List.getElem?_append_right (Nat.le_refl _), Nat.sub_self] at hj
      have : x = k := by simpa using hj
      subst this
      exact ⟨_, by rw [hlen, ← hvl, List.getElem?_append_right (Nat.le_refl _), Nat.sub_self]; rfl, p1, n1, c1, p2, n2, c2, rfl, s1, s2⟩
theorem incr_ge {l : List Nat} (h : l.Pairwise (· < ·)) : ∀ (i : Nat) (hi : i < l.length), i ≤ l[i]
  | 0, _ => Nat.zero_le _
  | i + 1, hi => by
    have h1 := incr_ge h i (by omega)
    have h2 := List.pairwise_iff_getElem.1 h i (i + 1) (by omega) hi (by omega)
    omega
theorem incr_le {l : List Nat} {B : Nat} (h : l.Pairwise (· < ·)) (hB : ∀ a, a ∈ l → a < B) : ∀ (d i : Nat) (hi : i < l.length), i + d + 1 = l.length → l[i] + d < B
  | 0, i, hi, _ => hB _ (List.getElem_mem hi)
  | d + 1, i, hi, he => by
    have h1 := incr_le h hB d (i + 1) (by omega) (by omega)
    have h2 := List.pairwise_iff_getElem.1 h i (i + 1) hi (by omega) (by omega)
    omega
theorem incr_len {l : List Nat} {B : Nat} (h : l.Pairwise (· < ·)) (hB : ∀ a, a ∈ l → a < B) : l.length ≤ B := by
  rcases Nat.eq_zero_or_pos l.length with h0 | h0
  · omega
  · have h1 := incr_ge h (l.length - 1) (by omega)
    have h2 := hB _ (List.getElem_mem (show l.length - 1 < l.length by omega))
    omega
theorem incr_range {l : List Nat} {B : Nat} (h : l.Pairwise (· < ·)) (hB : ∀ a, a ∈ l → a < B) (hl : l.length = B) : ∀ i, i < B → l[i]? = some i := fun i hi => by
  have hi' : i < l.length := by omega
  have h1 := incr_ge h i hi'
  have h2 := incr_le h hB (B - 1 - i) i hi' (by omega)
  rw [List.getElem?_eq_getElem hi']
  congr 1; omega
/-- a full system: its rows are units -/
theorem full_units {k t : Nat} {K : List Rw} (h : Red k t K) (hl : K.length = k) {i : Nat} {r : Rw} (hr : K[i]? = some r) : r.1 = (List.replicate k 0).set i 1 := by
  have hik : i < k := by have := (List.getElem?_eq_some_iff.1 hr).1; omega
  have hlead : ∀ j, j < k → (K.map leadN)[j]? = some j := incr_range h.leads (B := k) (fun a ha => by
    obtain ⟨x, hx, rfl⟩ := List.mem_map.1 ha
    obtain ⟨hf, hl⟩ := h.kept.rows x hx
    exact hl.at.lt hf) (by rw [List.length_map, hl])
  have hf := (h.kept.rows r (List.mem_of_getElem? hr)).1
  apply List.ext_getElem?
  intro j
  by_cases hj : j < k
  · obtain ⟨s, hs⟩ : ∃ s, K[j]? = some s := ⟨_, List.getElem?_eq_getElem (by omega)⟩
    have hd := h.delta hr hs
    have hls : leadN s = j := by
      have := hlead j hj
      rw [List.getElem?_map, hs] at this
      simpa using this
    rw [hls] at hd
    have e1 := vR_at (x := r) (l := j) hf hj
    rw [hd] at e1
    unfold atS at e1
    rw [if_pos (Int.natCast_nonneg _), Int.toNat_natCast, List.getD_eq_getElem?_getD, List.getElem?_eq_getElem (by rw [hf.1]; exact hj)] at e1
    rw [List.getElem?_eq_getElem (by rw [hf.1]; exact hj), List.getElem?_set]
    by_cases e : i = j
    · rw [if_pos e] at e1
      rw [if_pos e, if_pos (by simpa using hik)]
      simpa using e1
    · rw [if_neg e] at e1
      rw [if_neg e, List.getElem?_replicate, if_pos hj]
      simpa using e1
  · rw [List.getElem?_eq_none (by rw [hf.1]; omega), List.getElem?_eq_none (by simp; omega)]
theorem known_full {k t : Nat} {K : List Rw} (h : Red k t K) (hl : K.length = k) (hk : k ≤ 65536) {i : Nat} {r : Rw} (hr : K[i]? = some r) : knownS k K i = (r.2, true) := by
  rw [known_find h.kept.rows hk]
  have hik : i < k := by have := (List.getElem?_eq_some_iff.1 hr).1; omega
  have hmt : ∀ (j : Nat) (s : Rw), K[j]? = some s → mtS i s = decide (j = i) := fun j s hs => by
    have hjk : j < k := by have := (List.getElem?_eq_some_iff.1 hs).1; omega
    have hu := full_units h hl hs
    obtain ⟨hf, hd⟩ := h.kept.rows s (List.mem_of_getElem? hs)
    have := (unit_iff hf hd hjk).2 hu
    unfold mtS
    rw [this.1, this.2]
    by_cases e : j = i
    · subst e; simp
    · rw [decide_eq_false e, decide_eq_false (show ¬ ((j : Int) = (i : Int)) by omega)]; simp
  have : K.find? (mtS i) = some r := by
    rw [List.find?_eq_some_iff_getElem]
    obtain ⟨hik', e⟩ := List.getElem?_eq_some_iff.1 hr
    refine ⟨by rw [hmt i r hr]; simp, i, hik', e, fun a ha => ?_⟩
    have hak : a < K.length := by omega
    rw [hmt a K[a] (List.getElem?_eq_getElem hak), decide_eq_false (show ¬ a = i by omega)]; rfl
  rw [this]
theorem Red.le {k t : Nat} {K : List Rw} (h : Red k t K) : K.length ≤ k := by
  have := incr_len h.leads (B := k) (fun a ha => by
    obtain ⟨x, hx, rfl⟩ := List.mem_map.1 ha
    obtain ⟨hf, hl⟩ := h.kept.rows x hx
    exact hl.at.lt hf)
  rwa [List.length_map] at this
end Go.Proofs.Ytofhdakggapahaa
namespace Go.Proofs.Ytofhdakggapahaa
open Go.RowKit Go.By
theorem rowF_cons {wd : Nat} {x : List UInt8} {l : List (List UInt8)} (hx : x.length = wd) (i : Nat) : rowF wd (x :: l).flatten (i + 1) = rowF wd l.flatten i := by
  unfold rowF
  rw [List.flatten_cons, Nat.add_mul, Nat.one_mul, Nat.add_comm, ← List.drop_drop, ← hx, List.drop_left]
theorem rows_flat {wd : Nat} : ∀ {xss : List (List UInt8)}, (∀ x, x ∈ xss → x.length = wd) → (List.range xss.length).map (rowF wd xss.flatten) = xss
  | [], _ => rfl
  | x :: l, h => by
    have hx := h x (by simp)
    rw [List.length_cons, List.range_succ_eq_map, List.map_cons, List.map_map]
    congr 1
    · unfold rowF; rw [Nat.zero_mul, List.drop_zero, List.flatten_cons, ← hx, List.take_left]
    · have e : (rowF wd (x :: l).flatten ∘ Nat.succ) = rowF wd l.flatten := by funext i; exact rowF_cons hx i
      rw [e]; exact rows_flat (fun y hy => h y (by simp [hy]))
theorem flat_rows {wd : Nat} : ∀ (n : Nat) {C : List UInt8}, C.length = n * wd → ((List.range n).map (rowF wd C)).flatten = C
  | 0, C, h => by have : C = [] := List.length_eq_zero_iff.1 (by simpa using h)
                  subst this; rfl
  | n + 1, C, h => by
    rw [List.range_succ_eq_map, List.map_cons, List.map_map, List.flatten_cons]
    have e : (rowF wd C ∘ Nat.succ) = rowF wd (C.drop wd) := by
      funext i; unfold rowF; simp only [Function.comp]
      rw [List.drop_drop, Nat.succ_mul, Nat.add_comm]
    rw [e, flat_rows n (by rw [List.length_drop, h, Nat.add_mul]; omega)]
    unfold rowF
    rw [Nat.zero_mul, List.drop_zero, List.take_append_drop]
theorem unitC_at (n : Nat) : ∀ k, k ≤ n → ∀ a b, a < n → b < n → (unitC n k)[a * n + b]? = some (if a = b ∧ a < k then 1 else 0)
  | 0, _, a, b, ha, hb => by
    have hlt : a * n + b < n * n := by
      have : (a + 1) * n ≤ n * n := Nat.mul_le_mul_right _ ha
      rw [Nat.add_mul, Nat.one_mul] at this; omega
    unfold unitC; rw [List.getElem?_replicate_of_lt hlt]; simp
  | k + 1, hk, a, b, ha, hb => by
    have hlt : a * n + b < n * n := by
      have : (a + 1) * n ≤ n * n := Nat.mul_le_mul_right _ ha
      rw [Nat.add_mul, Nat.one_mul] at this; omega
    have ih := unitC_at n k (by omega) a b ha hb
    unfold unitC
    rw [List.getElem?_set]
    by_cases e : k * n + k = a * n + b
    · have h1 : k = a := by
        have d1 : (k * n + k) / n = k := by rw [Nat.mul_comm, Nat.mul_add_div (by omega), Nat.div_eq_of_lt (by omega)]; rfl
        have d2 : (a * n + b) / n = a := by rw [Nat.mul_comm, Nat.mul_add_div (by omega), Nat.div_eq_of_lt hb]; rfl
        rw [e, d2] at d1; exact d1.symm
      subst h1
      have h2 : k = b := by omega
      subst h2
      rw [if_pos rfl, unitC_len, if_pos hlt, if_pos ⟨rfl, by omega⟩]
    · rw [if_neg e, ih]
      by_cases h1 : a = b
      · subst h1
        have : a ≠ k := fun h => e (by rw [h])
        by_cases h2 : a < k
        · rw [if_pos ⟨rfl, h2⟩, if_pos ⟨rfl, by omega⟩]
        · rw [if_neg (fun h => h2 h.2), if_neg (fun h => h2 (by omega))]
      · rw [if_neg (fun h => h1 h.1), if_neg (fun h => h1 h.1)]
theorem unit_elem {N k j : Nat} {row : List UInt8} {x : UInt8} (hk : k < N) (hrow : ((List.range N).map (rowF N (unitC N N)))[k]? = some row) (hx : row[j]? = some x) (hj : j < N) : x = if k = j then 1 else 0 := by
  rw [List.getElem?_map, List.getElem?_range hk] at hrow
  have e : rowF N (unitC N N) k = row := by simpa using hrow
  rw [← e] at hx
  unfold rowF at hx
  rw [List.getElem?_take, if_pos hj, List.getElem?_drop, unitC_at N N (Nat.le_refl _) k j hk hj] at hx
  have := Option.some.inj hx
  rw [← this]
  by_cases h : k = j
  · rw [if_pos h, if_pos ⟨h, hk⟩]
  · rw [if_neg h, if_neg (fun g => h g.1)]
/-- a grid is a unit just where its rows are -/
theorem unit_same {N wd m : Nat} {xss : List (List UInt8)} (hm : xss.length = m) (h : ∀ x, x ∈ xss → x.length = wd) : decide (wd = N ∧ m = N ∧ xss.flatten = unitC N N) = (decide (wd = N) && decide (xss = (List.range N).map (rowF N (unitC N N)))) := by
  by_cases e : wd = N
  · subst e
    rw [decide_eq_true rfl, Bool.true_and, decide_eq_decide]
    constructor
    · rintro ⟨_, h2, h3⟩
      have := rows_flat h
      rw [hm, h2, h3] at this
      exact this.symm
    · intro h2
      refine ⟨rfl, ?_, ?_⟩
      · rw [← hm, h2]; simp
      · rw [h2]; exact flat_rows wd (unitC_len wd wd)
  · rw [decide_eq_false (fun h => e h.1), decide_eq_false e, Bool.false_and]
end Go.Proofs.Ytofhdakggapahaa
namespace Go.Proofs.Ytofhdakggapahaa
open Go.RowKit Go.By
set_option maxRecDepth 100000 in
set_option maxHeartbeats 4000000 in
theorem GT_bb (width code : Int) (n : Int) (p : Option Addr) (m c : Nat) (xss : List (List UInt8)) (w : World) (h : Sl2 w p m c xss) (hf : xss.all (fun y => decide (y.length ≤ 30)) = true) (hm : m ≤ 30)
    (hO : ∀ W, Sl2 W p m c xss → Calls Try.prog 11 #[.int .i64 width, .slice p m c] W (RetG2 5 W 0 0 [] code)) (hR : ∀ W, Sl2 W p m c xss → Calls Try.prog 13 #[.int .i64 width, .slice p m c] W fun e w' => e = .returned (.int .i64 code) ∧ W = w') (hcode : code ≠ 0)
    (hn : n < 0 ∨ 256 < n) :
    Calls Try.prog 3 #[.int .i64 width, .slice p m c, .int .i64 n] w fun e w' => e = .returned (.bool true) ∧ Below w.heap.size w w' := by
  have HO := Lib.hid hO; have HR := Lib.hid hR
  have hc1 : (code == 0) = false := by simpa using hcode
  have hc2 : (code != 0) = true := by simpa using hcode
  clear hO hR hcode
  have HU : Hid (∀ W, Calls Try.prog 12 #[.int .i64 n] W (RetG2 5 W 0 0 [] 2)) := fun W => Unit_bad n W hn
  have HF : Hid (∀ W, Sl2 W p m c xss → Calls Try.prog 10 #[.slice p m c] W fun e w' => e = .returned (.bool true) ∧ W = w') := fun W h => by
    have := Few7_any p m c xss W h
    rw [hf, decide_eq_true hm] at this; exact this
  have H := Lib.hid h
  have HF1 := Lib.hid hf
  clear h hf
  rcases hn with hn | hn
  · go_enter Try.func3, Try.ntmps3
    go_wp2_with fail
    refine (awake07 _).mono ?_; rintro e w1 ⟨rfl, k1⟩
    have H1 := Lib.hid (H.out.keep k1); have B1 := Lib.hid k1
    clear k1 H
    go_wp2_with fail
    refine Calls.mono (HF.out _ H1.out) ?_; rintro e w' ⟨rfl, rfl⟩
    go_wp2_with fail
    refine Calls.mono (HO.out _ H1.out) ?_; rintro e w2 ⟨q1, n1, c1, hn1, rfl, o1, hb1⟩
    have S1 := Lib.hid (Sl.of_owns o1); have H2 := Lib.hid (H1.out.keep hb1); have B2 := Lib.hid (bl B1.out hb1 B1.out.size); have HN1 := Lib.hid hn1
    clear o1 hb1 H1 B1 hn1
    go_wp2_with fail
    refine use_w (fun W => Below w2.heap.size w2 W ∧ W.heap[w2.heap.size]? = some (.cells #[.int .i64 0, .int .i64 0, .slice q1 n1 c1] 27 (0, 0))) ⟨al (Below.refl _ _) (Nat.le_refl _), hnew rfl⟩ ?_
    rintro w3 ⟨b3, x3⟩
    refine Calls.mono (HU.out _) ?_; rintro e w4 ⟨q2, n2, c2, hn2, rfl, o2, hb4⟩
    have b24 := bl b3 hb4 b3.size
    have S2 := Lib.hid (Sl.of_owns o2); have S1' := Lib.hid (S1.out.keep b24); have H4 := Lib.hid (H2.out.keep b24); have B4 := Lib.hid (bl B2.out b24 B2.out.size); have HN2 := Lib.hid hn2
    have X4 : Hid (w4.heap[w2.heap.size]? = some (.cells #[.int .i64 0, .int .i64 0, .slice q1 n1 c1] 27 (0, 0))) := (hb4.block _ (blk_lt x3)).trans x3
    clear b3 x3 o2 hb4 b24 S1 H2 B2 hn2
    go_wp2_with fail
    refine use_w (fun W => Below w4.heap.size w4 W ∧ W.heap[w4.heap.size]? = some (.cells #[.int .i64 0, .int .i64 0, .slice q2 n2 c2] 27 (0, 0))) ⟨al (Below.refl _ _) (Nat.le_refl _), hnew rfl⟩ ?_
    rintro w5 ⟨b5, x5⟩
    have S15 := Lib.hid (S1'.out.keep b5); have S25 := Lib.hid (S2.out.keep b5); have H5 := Lib.hid (H4.out.keep b5); have B5 := Lib.hid (bl B4.out b5 B4.out.size)
    have X7 : Hid (w5.heap[w2.heap.size]? = some (.cells #[.int .i64 0, .int .i64 0, .slice q1 n1 c1] 27 (0, 0))) := (b5.block _ (blk_lt X4.out)).trans X4.out
    have X9 := Lib.hid x5
    clear b5 x5 S1' S2 H4 B4 X4
    refine Calls.mono (HR.out _ H5.out) ?_; rintro e w' ⟨rfl, rfl⟩
    obtain ⟨f0, f1, f2⟩ := cells3 X7.out
    obtain ⟨g0, g1, g2⟩ := cells3 X9.out
    go_wp2_with fail
    refine Calls.mono (Width_any 0 0 _ _) ?_
    rintro e w6 ⟨rfl, hb⟩
    have S1_6 := Lib.hid (S15.out.keep hb); have S2_6 := Lib.hid (S25.out.keep hb); have H_6 := Lib.hid (H5.out.keep hb); have B_6 := Lib.hid (bl B5.out hb B5.out.size)
    have X7_6 := Lib.hid ((hb.block _ (blk_lt X7.out)).trans X7.out); have X9_6 := Lib.hid ((hb.block _ (blk_lt X9.out)).trans X9.out)
    clear hb S15 S25 H5 B5 X7 X9 f0 f1 f2 g0 g1 g2
    obtain ⟨f0, f1, f2⟩ := cells3 X7_6.out
    obtain ⟨g0, g1, g2⟩ := cells3 X9_6.out
    go_wp2_with fail
    refine Calls.mono (Height_any 0 0 _ _) ?_
    rintro e w7 ⟨rfl, hb⟩
    have S1_7 := Lib.hid (S1_6.out.keep hb); have S2_7 := Lib.hid (S2_6.out.keep hb); have H_7 := Lib.hid (H_6.out.keep hb); have B_7 := Lib.hid (bl B_6.out hb B_6.out.size)
    have X7_7 := Lib.hid ((hb.block _ (blk_lt X7_6.out)).trans X7_6.out); have X9_7 := Lib.hid ((hb.block _ (blk_lt X9_6.out)).trans X9_6.out)
    clear hb S1_6 S2_6 H_6 B_6 X7_6 X9_6 f0 f1 f2 g0 g1 g2
    obtain ⟨f0, f1, f2⟩ := cells3 X7_7.out
    obtain ⟨g0, g1, g2⟩ := cells3 X9_7.out
    go_wp2_with fail
    refine Calls.mono (Height_any 0 0 _ _) ?_
    rintro e w8 ⟨rfl, hb⟩
    have S1_8 := Lib.hid (S1_7.out.keep hb); have S2_8 := Lib.hid (S2_7.out.keep hb); have H_8 := Lib.hid (H_7.out.keep hb); have B_8 := Lib.hid (bl B_7.out hb B_7.out.size)
    have X7_8 := Lib.hid ((hb.block _ (blk_lt X7_7.out)).trans X7_7.out); have X9_8 := Lib.hid ((hb.block _ (blk_lt X9_7.out)).trans X9_7.out)
    clear hb S1_7 S2_7 H_7 B_7 X7_7 X9_7 f0 f1 f2 g0 g1 g2
    go_wp2
    go_ret
    exact ⟨rfl, B_8.out⟩
  · have hnn : 0 ≤ n := by omega
    go_enter Try.func3, Try.ntmps3
    go_wp2_with fail
    refine (awake07 _).mono ?_; rintro e w1 ⟨rfl, k1⟩
    have H1 := Lib.hid (H.out.keep k1); have B1 := Lib.hid k1
    clear k1 H
    go_wp2_with fail
    refine Calls.mono (HF.out _ H1.out) ?_; rintro e w' ⟨rfl, rfl⟩
    go_wp2_with fail
    refine Calls.mono (HO.out _ H1.out) ?_; rintro e w2 ⟨q1, n1, c1, hn1, rfl, o1, hb1⟩
    have S1 := Lib.hid (Sl.of_owns o1); have H2 := Lib.hid (H1.out.keep hb1); have B2 := Lib.hid (bl B1.out hb1 B1.out.size); have HN1 := Lib.hid hn1
    clear o1 hb1 H1 B1 hn1
    go_wp2_with fail
    refine use_w (fun W => Below w2.heap.size w2 W ∧ W.heap[w2.heap.size]? = some (.cells #[.int .i64 0, .int .i64 0, .slice q1 n1 c1] 27 (0, 0))) ⟨al (Below.refl _ _) (Nat.le_refl _), hnew rfl⟩ ?_
    rintro w3 ⟨b3, x3⟩
    refine Calls.mono (HU.out _) ?_; rintro e w4 ⟨q2, n2, c2, hn2, rfl, o2, hb4⟩
    have b24 := bl b3 hb4 b3.size
    have S2 := Lib.hid (Sl.of_owns o2); have S1' := Lib.hid (S1.out.keep b24); have H4 := Lib.hid (H2.out.keep b24); have B4 := Lib.hid (bl B2.out b24 B2.out.size); have HN2 := Lib.hid hn2
    have X4 : Hid (w4.heap[w2.heap.size]? = some (.cells #[.int .i64 0, .int .i64 0, .slice q1 n1 c1] 27 (0, 0))) := (hb4.block _ (blk_lt x3)).trans x3
    clear b3 x3 o2 hb4 b24 S1 H2 B2 hn2
    go_wp2_with fail
    refine use_w (fun W => Below w4.heap.size w4 W ∧ W.heap[w4.heap.size]? = some (.cells #[.int .i64 0, .int .i64 0, .slice q2 n2 c2] 27 (0, 0))) ⟨al (Below.refl _ _) (Nat.le_refl _), hnew rfl⟩ ?_
    rintro w5 ⟨b5, x5⟩
    have S15 := Lib.hid (S1'.out.keep b5); have S25 := Lib.hid (S2.out.keep b5); have H5 := Lib.hid (H4.out.keep b5); have B5 := Lib.hid (bl B4.out b5 B4.out.size)
    have X7 : Hid (w5.heap[w2.heap.size]? = some (.cells #[.int .i64 0, .int .i64 0, .slice q1 n1 c1] 27 (0, 0))) := (b5.block _ (blk_lt X4.out)).trans X4.out
    have X9 := Lib.hid x5
    clear b5 x5 S1' S2 H4 B4 X4
    refine Calls.mono (HR.out _ H5.out) ?_; rintro e w' ⟨rfl, rfl⟩
    obtain ⟨f0, f1, f2⟩ := cells3 X7.out
    obtain ⟨g0, g1, g2⟩ := cells3 X9.out
    go_wp2_with fail
    refine Calls.mono (Width_any 0 0 _ _) ?_
    rintro e w6 ⟨rfl, hb⟩
    have S1_6 := Lib.hid (S15.out.keep hb); have S2_6 := Lib.hid (S25.out.keep hb); have H_6 := Lib.hid (H5.out.keep hb); have B_6 := Lib.hid (bl B5.out hb B5.out.size)
    have X7_6 := Lib.hid ((hb.block _ (blk_lt X7.out)).trans X7.out); have X9_6 := Lib.hid ((hb.block _ (blk_lt X9.out)).trans X9.out)
    clear hb S15 S25 H5 B5 X7 X9 f0 f1 f2 g0 g1 g2
    obtain ⟨f0, f1, f2⟩ := cells3 X7_6.out
    obtain ⟨g0, g1, g2⟩ := cells3 X9_6.out
    go_wp2_with fail
    refine Calls.mono (Height_any 0 0 _ _) ?_
    rintro e w7 ⟨rfl, hb⟩
    have S1_7 := Lib.hid (S1_6.out.keep hb); have S2_7 := Lib.hid (S2_6.out.keep hb); have H_7 := Lib.hid (H_6.out.keep hb); have B_7 := Lib.hid (bl B_6.out hb B_6.out.size)
    have X7_7 := Lib.hid ((hb.block _ (blk_lt X7_6.out)).trans X7_6.out); have X9_7 := Lib.hid ((hb.block _ (blk_lt X9_6.out)).trans X9_6.out)
    clear hb S1_6 S2_6 H_6 B_6 X7_6 X9_6 f0 f1 f2 g0 g1 g2
    obtain ⟨f0, f1, f2⟩ := cells3 X7_7.out
    obtain ⟨g0, g1, g2⟩ := cells3 X9_7.out
    go_wp2_with fail
    refine Calls.mono (Height_any 0 0 _ _) ?_
    rintro e w8 ⟨rfl, hb⟩
    have S1_8 := Lib.hid (S1_7.out.keep hb); have S2_8 := Lib.hid (S2_7.out.keep hb); have H_8 := Lib.hid (H_7.out.keep hb); have B_8 := Lib.hid (bl B_7.out hb B_7.out.size)
    have X7_8 := Lib.hid ((hb.block _ (blk_lt X7_7.out)).trans X7_7.out); have X9_8 := Lib.hid ((hb.block _ (blk_lt X9_7.out)).trans X9_7.out)
    clear hb S1_7 S2_7 H_7 B_7 X7_7 X9_7 f0 f1 f2 g0 g1 g2
    go_wp2
    go_ret
    exact ⟨rfl, B_8.out⟩
set_option maxRecDepth 100000 in
set_option maxHeartbeats 4000000 in
theorem GT_gb (wd : Nat) (n : Int) (p : Option Addr) (m c : Nat) (xss : List (List UInt8)) (w : World) (h : Sl2 w p m c xss) (hf : xss.all (fun y => decide (y.length ≤ 30)) = true) (hm : m ≤ 30)
    (hw : wd ≤ 65536) (hmw : m * wd ≤ 65536) (hall : xss.all (fun y => decide (y.length = wd)) = true)
    (hn : n < 0 ∨ 256 < n) :
    Calls Try.prog 3 #[.int .i64 (wd : Nat), .slice p m c, .int .i64 n] w fun e w' => e = .returned (.bool true) ∧ Below w.heap.size w w' := by
  have HO : Hid (∀ W, Sl2 W p m c xss → Calls Try.prog 11 #[.int .i64 wd, .slice p m c] W (RetG2 5 W m wd xss.flatten 0)) := fun W h => GOf_good wd p m c xss W h hw (by omega) hmw hall
  have HR : Hid (∀ W, Sl2 W p m c xss → Calls Try.prog 13 #[.int .i64 wd, .slice p m c] W fun e w' => e = .returned (.int .i64 0) ∧ W = w') := fun W h => by
    have := RGOf_good wd p m c xss W h hw (by omega) hmw
    rw [if_pos hall] at this; exact this
  have HROWS : Hid ((List.range m).map (rowF wd xss.flatten) = xss) := by show _ = _; rw [← h.len]; exact rows_flat (fun x hx => by simpa using List.all_eq_true.1 hall x hx)
  have HGR : Hid (∀ W q n1 c1, n1 = m * wd → Sl B8 W q n1 c1 xss.flatten → Calls Try.prog 17 #[.agg #[.int .i64 m, .int .i64 wd, .slice q n1 c1]] W fun e w' => ∃ q c', e = .returned (.slice q m c') ∧ Own2 25 5 w' W.heap.size (.slice q m c') m xss ∧ Below W.heap.size W w') := fun W q n1 c1 hn hs => by
    have := GRows_any m wd q n1 c1 xss.flatten W hs hn (by unfold Room; omega) (by unfold Room; omega)
    rwa [HROWS.out] at this
  have HU : Hid (∀ W, Calls Try.prog 12 #[.int .i64 n] W (RetG2 5 W 0 0 [] 2)) := fun W => Unit_bad n W hn
  have HF : Hid (∀ W, Sl2 W p m c xss → Calls Try.prog 10 #[.slice p m c] W fun e w' => e = .returned (.bool true) ∧ W = w') := fun W h => by
    have := Few7_any p m c xss W h
    rw [hf, decide_eq_true hm] at this; exact this
  have H := Lib.hid h
  have HF1 := Lib.hid hf
  have HALL := Lib.hid hall; have HMW := Lib.hid hmw
  clear hall hmw
  clear h hf
  rcases hn with hn | hn
  · go_enter Try.func3, Try.ntmps3
    go_wp2_with fail
    refine (awake07 _).mono ?_; rintro e w1 ⟨rfl, k1⟩
    have H1 := Lib.hid (H.out.keep k1); have B1 := Lib.hid k1
    clear k1 H
    go_wp2_with fail
    refine Calls.mono (HF.out _ H1.out) ?_; rintro e w' ⟨rfl, rfl⟩
    go_wp2_with fail
    refine Calls.mono (HO.out _ H1.out) ?_; rintro e w2 ⟨q1, n1, c1, hn1, rfl, o1, hb1⟩
    have S1 := Lib.hid (Sl.of_owns o1); have H2 := Lib.hid (H1.out.keep hb1); have B2 := Lib.hid (bl B1.out hb1 B1.out.size); have HN1 := Lib.hid hn1
    clear o1 hb1 H1 B1 hn1
    go_wp2_with fail
    refine use_w (fun W => Below w2.heap.size w2 W ∧ W.heap[w2.heap.size]? = some (.cells #[.int .i64 m, .int .i64 wd, .slice q1 n1 c1] 27 (0, 0))) ⟨al (Below.refl _ _) (Nat.le_refl _), hnew rfl⟩ ?_
    rintro w3 ⟨b3, x3⟩
    refine Calls.mono (HU.out _) ?_; rintro e w4 ⟨q2, n2, c2, hn2, rfl, o2, hb4⟩
    have b24 := bl b3 hb4 b3.size
    have S2 := Lib.hid (Sl.of_owns o2); have S1' := Lib.hid (S1.out.keep b24); have H4 := Lib.hid (H2.out.keep b24); have B4 := Lib.hid (bl B2.out b24 B2.out.size); have HN2 := Lib.hid hn2
    have X4 : Hid (w4.heap[w2.heap.size]? = some (.cells #[.int .i64 m, .int .i64 wd, .slice q1 n1 c1] 27 (0, 0))) := (hb4.block _ (blk_lt x3)).trans x3
    clear b3 x3 o2 hb4 b24 S1 H2 B2 hn2
    go_wp2_with fail
    refine use_w (fun W => Below w4.heap.size w4 W ∧ W.heap[w4.heap.size]? = some (.cells #[.int .i64 0, .int .i64 0, .slice q2 n2 c2] 27 (0, 0))) ⟨al (Below.refl _ _) (Nat.le_refl _), hnew rfl⟩ ?_
    rintro w5 ⟨b5, x5⟩
    have S15 := Lib.hid (S1'.out.keep b5); have S25 := Lib.hid (S2.out.keep b5); have H5 := Lib.hid (H4.out.keep b5); have B5 := Lib.hid (bl B4.out b5 B4.out.size)
    have X7 : Hid (w5.heap[w2.heap.size]? = some (.cells #[.int .i64 m, .int .i64 wd, .slice q1 n1 c1] 27 (0, 0))) := (b5.block _ (blk_lt X4.out)).trans X4.out
    have X9 := Lib.hid x5
    clear b5 x5 S1' S2 H4 B4 X4
    refine Calls.mono (HR.out _ H5.out) ?_; rintro e w' ⟨rfl, rfl⟩
    obtain ⟨f0, f1, f2⟩ := cells3 X7.out
    obtain ⟨g0, g1, g2⟩ := cells3 X9.out
    go_wp2_with fail
    refine Calls.mono (Width_any m wd _ _) ?_
    rintro e w6 ⟨rfl, hb⟩
    have S1_6 := Lib.hid (S15.out.keep hb); have S2_6 := Lib.hid (S25.out.keep hb); have H_6 := Lib.hid (H5.out.keep hb); have B_6 := Lib.hid (bl B5.out hb B5.out.size)
    have X7_6 := Lib.hid ((hb.block _ (blk_lt X7.out)).trans X7.out); have X9_6 := Lib.hid ((hb.block _ (blk_lt X9.out)).trans X9.out)
    clear hb S15 S25 H5 B5 X7 X9 f0 f1 f2 g0 g1 g2
    obtain ⟨f0, f1, f2⟩ := cells3 X7_6.out
    obtain ⟨g0, g1, g2⟩ := cells3 X9_6.out
    go_wp2_with fail
    refine Calls.mono (Height_any m wd _ _) ?_
    rintro e w7 ⟨rfl, hb⟩
    have S1_7 := Lib.hid (S1_6.out.keep hb); have S2_7 := Lib.hid (S2_6.out.keep hb); have H_7 := Lib.hid (H_6.out.keep hb); have B_7 := Lib.hid (bl B_6.out hb B_6.out.size)
    have X7_7 := Lib.hid ((hb.block _ (blk_lt X7_6.out)).trans X7_6.out); have X9_7 := Lib.hid ((hb.block _ (blk_lt X9_6.out)).trans X9_6.out)
    clear hb S1_6 S2_6 H_6 B_6 X7_6 X9_6 f0 f1 f2 g0 g1 g2
    obtain ⟨f0, f1, f2⟩ := cells3 X7_7.out
    obtain ⟨g0, g1, g2⟩ := cells3 X9_7.out
    go_wp2_with fail
    refine Calls.mono (HGR.out _ _ _ _ HN1.out S1_7.out) ?_
    rintro e w8 ⟨q3, c3, rfl, ho3, hb⟩
    have R3 := Lib.hid ho3.sl2
    clear ho3
    have S1_8 := Lib.hid (S1_7.out.keep hb); have S2_8 := Lib.hid (S2_7.out.keep hb); have H_8 := Lib.hid (H_7.out.keep hb); have B_8 := Lib.hid (bl B_7.out hb B_7.out.size)
    have X7_8 := Lib.hid ((hb.block _ (blk_lt X7_7.out)).trans X7_7.out); have X9_8 := Lib.hid ((hb.block _ (blk_lt X9_7.out)).trans X9_7.out)
    clear hb S1_7 S2_7 H_7 B_7 X7_7 X9_7 f0 f1 f2 g0 g1 g2
    obtain ⟨f0, f1, f2⟩ := cells3 X7_8.out
    obtain ⟨g0, g1, g2⟩ := cells3 X9_8.out
    go_wp2_with fail
    refine Calls.mono (Same7_any _ _ _ _ _ _ xss xss _ R3.out H_8.out) ?_
    rintro e w9 ⟨rfl, hb⟩
    have S1_9 := Lib.hid (S1_8.out.keep hb); have S2_9 := Lib.hid (S2_8.out.keep hb); have H_9 := Lib.hid (H_8.out.keep hb); have B_9 := Lib.hid (bl B_8.out hb B_8.out.size)
    have X7_9 := Lib.hid ((hb.block _ (blk_lt X7_8.out)).trans X7_8.out); have X9_9 := Lib.hid ((hb.block _ (blk_lt X9_8.out)).trans X9_8.out)
    clear hb S1_8 S2_8 H_8 B_8 X7_8 X9_8 f0 f1 f2 g0 g1 g2
    rw [decide_eq_true rfl]
    obtain ⟨f0, f1, f2⟩ := cells3 X7_9.out
    obtain ⟨g0, g1, g2⟩ := cells3 X9_9.out
    go_wp2_with fail
    refine Calls.mono (Height_any 0 0 _ _) ?_
    rintro e w10 ⟨rfl, hb⟩
    have S1_10 := Lib.hid (S1_9.out.keep hb); have S2_10 := Lib.hid (S2_9.out.keep hb); have H_10 := Lib.hid (H_9.out.keep hb); have B_10 := Lib.hid (bl B_9.out hb B_9.out.size)
    have X7_10 := Lib.hid ((hb.block _ (blk_lt X7_9.out)).trans X7_9.out); have X9_10 := Lib.hid ((hb.block _ (blk_lt X9_9.out)).trans X9_9.out)
    clear hb S1_9 S2_9 H_9 B_9 X7_9 X9_9 f0 f1 f2 g0 g1 g2
    go_wp2
    go_ret
    exact ⟨rfl, B_10.out⟩
  · have hnn : 0 ≤ n := by omega
    go_enter Try.func3, Try.ntmps3
    go_wp2_with fail
    refine (awake07 _).mono ?_; rintro e w1 ⟨rfl, k1⟩
    have H1 := Lib.hid (H.out.keep k1); have B1 := Lib.hid k1
    clear k1 H
    go_wp2_with fail
    refine Calls.mono (HF.out _ H1.out) ?_; rintro e w' ⟨rfl, rfl⟩
    go_wp2_with fail
    refine Calls.mono (HO.out _ H1.out) ?_; rintro e w2 ⟨q1, n1, c1, hn1, rfl, o1, hb1⟩
    have S1 := Lib.hid (Sl.of_owns o1); have H2 := Lib.hid (H1.out.keep hb1); have B2 := Lib.hid (bl B1.out hb1 B1.out.size); have HN1 := Lib.hid hn1
    clear o1 hb1 H1 B1 hn1
    go_wp2_with fail
    refine use_w (fun W => Below w2.heap.size w2 W ∧ W.heap[w2.heap.size]? = some (.cells #[.int .i64 m, .int .i64 wd, .slice q1 n1 c1] 27 (0, 0))) ⟨al (Below.refl _ _) (Nat.le_refl _), hnew rfl⟩ ?_
    rintro w3 ⟨b3, x3⟩
    refine Calls.mono (HU.out _) ?_; rintro e w4 ⟨q2, n2, c2, hn2, rfl, o2, hb4⟩
    have b24 := bl b3 hb4 b3.size
    have S2 := Lib.hid (Sl.of_owns o2); have S1' := Lib.hid (S1.out.keep b24); have H4 := Lib.hid (H2.out.keep b24); have B4 := Lib.hid (bl B2.out b24 B2.out.size); have HN2 := Lib.hid hn2
    have X4 : Hid (w4.heap[w2.heap.size]? = some (.cells #[.int .i64 m, .int .i64 wd, .slice q1 n1 c1] 27 (0, 0))) := (hb4.block _ (blk_lt x3)).trans x3
    clear b3 x3 o2 hb4 b24 S1 H2 B2 hn2
    go_wp2_with fail
    refine use_w (fun W => Below w4.heap.size w4 W ∧ W.heap[w4.heap.size]? = some (.cells #[.int .i64 0, .int .i64 0, .slice q2 n2 c2] 27 (0, 0))) ⟨al (Below.refl _ _) (Nat.le_refl _), hnew rfl⟩ ?_
    rintro w5 ⟨b5, x5⟩
    have S15 := Lib.hid (S1'.out.keep b5); have S25 := Lib.hid (S2.out.keep b5); have H5 := Lib.hid (H4.out.keep b5); have B5 := Lib.hid (bl B4.out b5 B4.out.size)
    have X7 : Hid (w5.heap[w2.heap.size]? = some (.cells #[.int .i64 m, .int .i64 wd, .slice q1 n1 c1] 27 (0, 0))) := (b5.block _ (blk_lt X4.out)).trans X4.out
    have X9 := Lib.hid x5
    clear b5 x5 S1' S2 H4 B4 X4
    refine Calls.mono (HR.out _ H5.out) ?_; rintro e w' ⟨rfl, rfl⟩
    obtain ⟨f0, f1, f2⟩ := cells3 X7.out
    obtain ⟨g0, g1, g2⟩ := cells3 X9.out
    go_wp2_with fail
    refine Calls.mono (Width_any m wd _ _) ?_
    rintro e w6 ⟨rfl, hb⟩
    have S1_6 := Lib.hid (S15.out.keep hb); have S2_6 := Lib.hid (S25.out.keep hb); have H_6 := Lib.hid (H5.out.keep hb); have B_6 := Lib.hid (bl B5.out hb B5.out.size)
    have X7_6 := Lib.hid ((hb.block _ (blk_lt X7.out)).trans X7.out); have X9_6 := Lib.hid ((hb.block _ (blk_lt X9.out)).trans X9.out)
    clear hb S15 S25 H5 B5 X7 X9 f0 f1 f2 g0 g1 g2
    obtain ⟨f0, f1, f2⟩ := cells3 X7_6.out
    obtain ⟨g0, g1, g2⟩ := cells3 X9_6.out
    go_wp2_with fail
    refine Calls.mono (Height_any m wd _ _) ?_
    rintro e w7 ⟨rfl, hb⟩
    have S1_7 := Lib.hid (S1_6.out.keep hb); have S2_7 := Lib.hid (S2_6.out.keep hb); have H_7 := Lib.hid (H_6.out.keep hb); have B_7 := Lib.hid (bl B_6.out hb B_6.out.size)
    have X7_7 := Lib.hid ((hb.block _ (blk_lt X7_6.out)).trans X7_6.out); have X9_7 := Lib.hid ((hb.block _ (blk_lt X9_6.out)).trans X9_6.out)
    clear hb S1_6 S2_6 H_6 B_6 X7_6 X9_6 f0 f1 f2 g0 g1 g2
    obtain ⟨f0, f1, f2⟩ := cells3 X7_7.out
    obtain ⟨g0, g1, g2⟩ := cells3 X9_7.out
    go_wp2_with fail
    refine Calls.mono (HGR.out _ _ _ _ HN1.out S1_7.out) ?_
    rintro e w8 ⟨q3, c3, rfl, ho3, hb⟩
    have R3 := Lib.hid ho3.sl2
    clear ho3
    have S1_8 := Lib.hid (S1_7.out.keep hb); have S2_8 := Lib.hid (S2_7.out.keep hb); have H_8 := Lib.hid (H_7.out.keep hb); have B_8 := Lib.hid (bl B_7.out hb B_7.out.size)
    have X7_8 := Lib.hid ((hb.block _ (blk_lt X7_7.out)).trans X7_7.out); have X9_8 := Lib.hid ((hb.block _ (blk_lt X9_7.out)).trans X9_7.out)
    clear hb S1_7 S2_7 H_7 B_7 X7_7 X9_7 f0 f1 f2 g0 g1 g2
    obtain ⟨f0, f1, f2⟩ := cells3 X7_8.out
    obtain ⟨g0, g1, g2⟩ := cells3 X9_8.out
    go_wp2_with fail
    refine Calls.mono (Same7_any _ _ _ _ _ _ xss xss _ R3.out H_8.out) ?_
    rintro e w9 ⟨rfl, hb⟩
    have S1_9 := Lib.hid (S1_8.out.keep hb); have S2_9 := Lib.hid (S2_8.out.keep hb); have H_9 := Lib.hid (H_8.out.keep hb); have B_9 := Lib.hid (bl B_8.out hb B_8.out.size)
    have X7_9 := Lib.hid ((hb.block _ (blk_lt X7_8.out)).trans X7_8.out); have X9_9 := Lib.hid ((hb.block _ (blk_lt X9_8.out)).trans X9_8.out)
    clear hb S1_8 S2_8 H_8 B_8 X7_8 X9_8 f0 f1 f2 g0 g1 g2
    rw [decide_eq_true rfl]
    obtain ⟨f0, f1, f2⟩ := cells3 X7_9.out
    obtain ⟨g0, g1, g2⟩ := cells3 X9_9.out
    go_wp2_with fail
    refine Calls.mono (Height_any 0 0 _ _) ?_
    rintro e w10 ⟨rfl, hb⟩
    have S1_10 := Lib.hid (S1_9.out.keep hb); have S2_10 := Lib.hid (S2_9.out.keep hb); have H_10 := Lib.hid (H_9.out.keep hb); have B_10 := Lib.hid (bl B_9.out hb B_9.out.size)
    have X7_10 := Lib.hid ((hb.block _ (blk_lt X7_9.out)).trans X7_9.out); have X9_10 := Lib.hid ((hb.block _ (blk_lt X9_9.out)).trans X9_9.out)
    clear hb S1_9 S2_9 H_9 B_9 X7_9 X9_9 f0 f1 f2 g0 g1 g2
    go_wp2
    go_ret
    exact ⟨rfl, B_10.out⟩
end Go.Proofs.Ytofhdakggapahaa
