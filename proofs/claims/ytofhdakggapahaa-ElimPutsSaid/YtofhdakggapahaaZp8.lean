/- A system's Rows and Clone. A system's Clone. A system's Solve. What a system's Put leaves as it is; Put of an equation that fits, and the reference's, whatever comes of it. The walk of the law ElimPuts: the loop. ElimPuts: the walk, whole. Arguments that came in, as bytes and slices of bytes. Arguments that came in: slices of byte slices. Slices of structs of two slices of bytes, that came in. -/
import Derived.Test.YtofhdakggapahaaZp7
import Derived.OpenShut
import Derived.Deep.Matrix
import Derived.Lib.SmallJoins
namespace Go.Proofs.Ytofhdakggapahaa
open Go.RowKit Go.By
/-- rows made at first: all without bytes -/
theorem RwL.made {w : World} {base g n : Nat} (hh : w.heap[g]? = some (.cells (madeCells #[.slice none 0 0, .slice none 0 0] (n * 2)) 61 (0, 0))) (hb : base ≤ g) (hn : n ≤ maxLen) : RwL 61 5 w base (.slice (some ⟨g, 0, none⟩) n n) n (List.replicate n ([], [])) := by
  have hfl : (madeCells #[.slice none 0 0, .slice none 0 0] (n * 2)).toList = fl2 (List.replicate n ((.slice none 0 0 : Value), (.slice none 0 0 : Value))) := by
    apply List.ext_getElem?
    intro i
    by_cases hi : i < n * 2
    · have e1 : (madeCells #[.slice none 0 0, .slice none 0 0] (n * 2)).toList[i]? = some (.slice none 0 0) := by
        rcases Nat.mod_two_eq_zero_or_one i with h | h <;> simp [madeCells, hi, h]
      have hd : i / 2 < n := by omega
      obtain ⟨f1, f2⟩ := fl2_at (vs := List.replicate n ((.slice none 0 0 : Value), (.slice none 0 0 : Value))) (i := i / 2) (u := (.slice none 0 0, .slice none 0 0)) (by rw [List.getElem?_replicate, if_pos hd])
      rw [e1]
      rcases Nat.mod_two_eq_zero_or_one i with h | h
      · rw [show i / 2 * 2 = i by omega] at f1; exact f1.symm
      · rw [show i / 2 * 2 + 1 = i by omega] at f2; exact f2.symm
    · rw [List.getElem?_eq_none (by simp [madeCells]; omega), List.getElem?_eq_none (by rw [fl2_length, List.length_replicate]; omega)]
  refine ⟨List.replicate n (.slice none 0 0, .slice none 0 0), by simp, by simp, ⟨by rw [fl2_length, List.length_replicate], .inr ⟨g, n, _, rfl, hb, hh, Nat.le_refl _, hn, by simp [madeCells], ?_⟩⟩, ?_⟩
  · rw [hfl, List.take_of_length_le (by rw [fl2_length, List.length_replicate]; omega)]
  · intro j u hj
    obtain ⟨h1, h2⟩ := List.getElem?_eq_some_iff.1 hj
    rw [List.length_replicate] at h1
    simp at h2
    subst h2
    exact ⟨([], []), by rw [List.getElem?_replicate, if_pos h1], ⟨none, 0, 0, rfl, rfl, World.ownsRow_nil _ _ _ _⟩, ⟨none, 0, 0, rfl, rfl, World.ownsRow_nil _ _ _ _⟩⟩
theorem fill_step {α : Type} {K : List α} {j n : Nat} {a z : α} (hj : K[j]? = some a) (hn : K.length = n) : (K.take j ++ List.replicate (n - j) z).set j a = K.take (j + 1) ++ List.replicate (n - (j + 1)) z := by
  have hl := (List.getElem?_eq_some_iff.1 hj).1
  have lj : (K.take j).length = j := by rw [List.length_take]; omega
  rw [List.set_append_right _ _ (by omega), lj, Nat.sub_self, List.take_add_one, hj]
  rw [show n - j = (n - (j + 1)) + 1 by omega, List.replicate_succ]
  simp
theorem heap_owns2 {w : World} {base E g n : Nat} {L : List Value} (h : w.ownsRow base E 2 (.slice (some ⟨g, 0, none⟩) n n) n L) : w.heap[g]? = some (.cells L.toArray E (0, 0)) := by
  rcases h.2 with ⟨h1, _⟩ | ⟨g', cap, cur, hv, _, hh, _, _, hs, ht⟩
  · cases h1
  · cases hv
    rw [hh]
    have : cur = L.toArray := by
      rw [← ht, List.take_of_length_le (by simp [hs])]
    rw [this]
set_option maxRecDepth 100000 in
set_option maxHeartbeats 4000000 in
theorem ERows_any (base be k t n : Nat) (v : Value) (K : List Rw) (w : World) (hE : Elm w base be k t v n K) (hr : ∀ r, r ∈ K → Room r.1.length ∧ Room r.2.length) (hn : n ≤ 4096) :
    Calls Try.prog 46 #[.pointer (some ⟨be, 0, none⟩)] w fun e w' => ∃ v', e = .returned v' ∧ RwL 61 5 w' w.heap.size v' n K ∧ Below w.heap.size w w' := by
  obtain ⟨r0, hr0, hrz, hr1, hr2⟩ := info_parts info_vrow
  obtain ⟨q, c, rfl⟩ := hE.rows.shape
  have HLEN := Lib.hid hE.rows.len; have HR := Lib.hid hr; have HE := Lib.hid hE
  have HM1 : Hid (n ≤ maxLen) := by show n ≤ maxLen; unfold maxLen; omega
  have HM2 : Hid (48 * n ≤ 281474976710656) := by show 48 * n ≤ _; omega
  obtain ⟨g, hg⟩ : ∃ g, g = w.heap.size := ⟨_, rfl⟩
  have HG := Lib.hid hg
  clear hg
  obtain ⟨f0, f1, f2⟩ := cells3 hE.box
  clear hE hr
  go_enter Try.func46, Try.ntmps46
  go_wp2_with (at_make; refine wpList_make_full _ rfl _ _ 79 rfl w.heap.size 61 r0 (.agg #[.slice none 0 0, .slice none 0 0]) 2 Try.underlying79 hr0 hrz hr1 .i64 .i64 _ _ n rfl rfl rfl rfl (by rw [hr2]; exact HM2.out) HM1.out (by simp) ?_)
  intro w1 ho hg
  have hg' : Below w.heap.size w w1 := (Below.refl _ _).grown hg (by simp) (by simp)
  have RM := heap_owns2 ho
  have R1 : Hid (RwL 61 5 w1 w.heap.size (.slice (some ⟨w.heap.size, 0, none⟩) n n) n (List.replicate n ([], []))) := RwL.made (by simpa using RM) (Nat.le_refl _) HM1.out
  have E1 := Lib.hid (HE.out.keep hg')
  have B1 := Lib.hid hg'
  rw [← HG.out] at R1 ⊢
  clear RM ho hg hg' f0 f1 f2 hr0 hrz hr1 hr2 HM1 HM2
  obtain ⟨f0, f1, f2⟩ := cells3 E1.out.box
  go_wp2
  clear f0 f1 f2
  go_loopw [19] (fun i wr => ∃ j : Nat, j ≤ n ∧ i = .int .i64 j ∧ Hid (RwL 61 5 wr g (.slice (some ⟨g, 0, none⟩) n n) n (K.take j ++ List.replicate (n - j) ([], []))) ∧ Hid (Below g w wr)) (fun i _ => n - (intOf i).toNat)
  case atStart => exact ⟨0, Nat.zero_le _, rfl, by show RwL _ _ _ _ _ _ _; simpa using R1.out, by show Below _ _ _; rw [HG.out]; exact B1.out⟩
  case round =>
    clear R1 E1 B1
    obtain ⟨j, hj, rfl, hR, hB⟩ := hrel
    have hE := Lib.hid (HE.out.keep (w' := wr) (by rw [← HG.out]; exact hB.out))
    by_cases hjl : j < n
    · have jn : (j : Int) < (n : Int) := by omega
      obtain ⟨gs, kk, a1, b1, d1, a2, b2, d2, rfl, e1, e2, hkk, t1, t2⟩ := hE.out.rows.at hjl
      have T1 := Lib.hid t1; have T2 := Lib.hid t2; have HK := Lib.hid hkk.out
      have HRR := Lib.hid (HR.out kk (List.mem_of_getElem? hkk.out))
      clear t1 t2 hkk
      go_wp2_with fail
      clear e1 e2
      refine use_w1 (fun W => Below wr.heap.size wr W) (al (Below.refl _ _) (Nat.le_refl _)) ?_
      rintro w7 b7
      refine Calls.mono (RClone_any a1 a2 b1 d1 b2 d2 kk.1 kk.2 w7 (T1.out.keep b7) (T2.out.keep b7) (by rw [← T1.out.len]; exact HRR.out.1) (by rw [← T2.out.len]; exact HRR.out.2)) ?_
      rintro e w8 ⟨q1, m1, g1, q2, m2, g2, l1, l2, rfl, o1, o2, hb⟩
      have hgs : g ≤ w7.heap.size := Nat.le_trans (by rw [HG.out]; exact hB.out.size) b7.size
      have B8' := Lib.hid (b7.trans (hb.mono b7.size))
      have Y1 : Hid (Bw 5 w8 g (.slice q1 m1 g1) kk.1) := Bw.mk (owns_mono o1 hgs) l1.out
      have Y2 : Hid (Bw 5 w8 g (.slice q2 m2 g2) kk.2) := Bw.mk (owns_mono o2 hgs) l2.out
      have R8 := Lib.hid (hR.out.keep B8'.out)
      have E8 := Lib.hid (hE.out.keep B8'.out)
      have B9 := Lib.hid (hB.out.trans (B8'.out.mono (by rw [HG.out]; exact hB.out.size)))
      obtain ⟨cur, hcur⟩ := R8.out.blk
      have z0 : w8.frozen? ⟨g, j * 2, none⟩ = false := frozen_of_row _ _ _ _ _ hcur
      have z1 : w8.frozen? ⟨g, j * 2 + 1, none⟩ = false := frozen_of_row _ _ _ _ _ hcur
      obtain ⟨gx, kx, x1, xb1, xd1, x2, xb2, xd2, hgx, c1, c2, -, -, -⟩ := R8.out.at hjl
      obtain rfl : g = gx := by injection hgx with h; injection h
      have HP := Lib.hid (R8.out.put (by decide) hjl Y1.out Y2.out)
      have hs8 : g ≤ w8.heap.size := Nat.le_trans hgs hb.size
      clear hcur hgx o1 o2 hb b7 hR hE hB T1 T2 l1 l2 B8' hgs
      rw [fill_step HK.out HLEN.out] at HP
      have BX : Hid (∀ o1 o2 v1 v2, Below g w ((w8.setCell ⟨g, o1, none⟩ v1).setCell ⟨g, o2, none⟩ v2)) := fun o1 o2 v1 v2 => (B9.out.setCell (Nat.le_refl _) _).setCell (Nat.le_refl _) _
      clear B9 E8 R8 hs8
      go_wp2
      go_roundw
      case rel => exact ⟨j + 1, by omega, by go_num, HP.out, BX.out _ _ _ _⟩
      case measure => simp [intOf]; omega
    · have hjn : j = n := by omega
      have hge : (n : Int) ≤ (j : Int) := by omega
      have HF := Lib.hid hR.out
      rw [List.take_of_length_le (by rw [HLEN.out]; omega), hjn, Nat.sub_self, List.replicate_zero, List.append_nil] at HF
      have BF := Lib.hid hB.out
      clear hR hE hB hjn
      go_wp2
      go_ret
      exact ⟨_, rfl, by rw [← HG.out]; exact HF.out, by rw [← HG.out]; exact BF.out⟩
end Go.Proofs.Ytofhdakggapahaa
namespace Go.By
open Go.RowKit
theorem RwL.mono {T2 T1 base b2 n : Nat} {w : World} {v : Value} {K : List (List UInt8 × List UInt8)} (h : RwL T2 T1 w base v n K) (hb : b2 ≤ base) : RwL T2 T1 w b2 v n K := by
  obtain ⟨vs, a, b, o, r⟩ := h
  refine ⟨vs, a, b, ?_, fun j u hj => by obtain ⟨k, hk, g1, g2⟩ := r j u hj; exact ⟨k, hk, g1.mono hb, g2.mono hb⟩⟩
  obtain ⟨q, c, rfl⟩ := owns_shape o
  exact owns_mono o hb
end Go.By
namespace Go.Proofs.Ytofhdakggapahaa
open Go.RowKit Go.By
def shpRL (B n : Nat) (K : List Rw) : Shp := ⟨fun v W => RwL 61 5 W B v n K, fun _ _ _ h hb => h.keep hb⟩
def shpRB (B n k t : Nat) (K : List Rw) : Shp := ⟨fun v W => ∃ u, v = .agg #[.int .i64 k, .int .i64 t, u] ∧ RwL 61 5 W B u n K, fun _ _ _ ⟨u, e, h⟩ hb => ⟨u, e, h.keep hb⟩⟩
def shpEl (B n k t : Nat) (K : List Rw) : Shp := ⟨fun v W => ∃ b u, v = .pointer (some ⟨b, 0, none⟩) ∧ Elm W B b k t u n K, fun _ _ _ ⟨b, u, e, h⟩ hb => ⟨b, u, e, h.keep hb⟩⟩
set_option maxRecDepth 100000 in
set_option maxHeartbeats 4000000 in
theorem EClone_any (base be k t n : Nat) (v : Value) (K : List Rw) (w : World) (hE : Elm w base be k t v n K) (hr : ∀ r, r ∈ K → Room r.1.length ∧ Room r.2.length) (hn : n ≤ 4096) :
    Calls Try.prog 32 #[.pointer (some ⟨be, 0, none⟩)] w fun e w' => ∃ b u, e = .returned (.pointer (some ⟨b, 0, none⟩)) ∧ Elm w' w.heap.size b k t u n K ∧ Below w.heap.size w w' := by
  obtain ⟨q, c, rfl⟩ := hE.rows.shape
  have HR := Lib.hid hr; have HE := Lib.hid hE
  obtain ⟨f0, f1, f2⟩ := cells3 hE.box
  clear hE hr
  go_enter Try.func32, Try.ntmps32
  go_wp2_with fail
  refine wp_region_shapes (fun ix => ([.val (.pointer (some ⟨be, 0, none⟩)), .val (.pointer (some ⟨be, 0, none⟩)), .val (.pointer (some ⟨be, 0, none⟩)), .val (.int .i64 k), .val (.pointer (some ⟨be, 0, none⟩)), .val (.pointer (some ⟨be, 0, none⟩)), .val (.pointer (some ⟨be, 1, none⟩)), .val (.int .i64 t), .val (.pointer (some ⟨be, 0, none⟩)), (shpRL w.heap.size n K), (shpRB w.heap.size n k t K), (shpEl w.heap.size n k t K), (shpEl w.heap.size n k t K)][ix]?).getD (.any)) 17 rfl (by kernel_rfl) (by decide) (by decide) (by decide) ?_ ?_
  · refine ⟨?_, ?_, ?_, ?_, ?_, ?_, ?_, ?_, ?_, ?_, ?_, ?_, ?_, trivial⟩
    · intro a W hb0 hs hp hi; have hb := undrew hb0; clear hb0
      have t0 : sl a 0 = .pointer (some ⟨be, 0, none⟩) := hi 0 (by decide)
      exact ite_y rfl (wp_val (sl a 0) rfl ⟨_, rfl, Below.refl _ _, t0⟩)
    · intro a W hb0 hs hp hi; have hb := undrew hb0; clear hb0
      have tt : sl a 5 = .pointer (some ⟨be, 0, none⟩) := hp 0 (by decide)
      refine ite_y rfl (wp_val (.pointer (some ⟨be, 0, none⟩)) ?_ ?_)
      · simp only [execOp, eval_tmp, tt]; simp [go_sem]
      · exact ⟨_, rfl, Below.refl _ _, rfl⟩
    · intro a W hb0 hs hp hi; have hb := undrew hb0; clear hb0
      have t6 : sl a 6 = .pointer (some ⟨be, 0, none⟩) := hp 1 (by decide)
      refine ite_y rfl (wp_val (.pointer (some ⟨be, 0, none⟩)) ?_ ?_)
      · simp only [execOp, eval_tmp, eval_const, t6]; simp [go_sem]
      · exact ⟨_, rfl, Below.refl _ _, rfl⟩
    · intro a W hb0 hs hp hi; have hb := undrew hb0; clear hb0
      have tt : sl a 7 = .pointer (some ⟨be, 0, none⟩) := hp 2 (by decide)
      have dd := (hb.cell (p := ⟨be, 0, none⟩) (lt_of_cell f0)).trans f0
      refine ite_y rfl (wp_val (.int .i64 k) ?_ ?_)
      · simp only [execOp, eval_tmp, tt]; simp [go_sem, dd]
      · exact ⟨_, rfl, Below.refl _ _, rfl⟩
    · intro a W hb0 hs hp hi; have hb := undrew hb0; clear hb0
      have t0 : sl a 0 = .pointer (some ⟨be, 0, none⟩) := hi 0 (by decide)
      exact ite_y rfl (wp_val (sl a 0) rfl ⟨_, rfl, Below.refl _ _, t0⟩)
    · intro a W hb0 hs hp hi; have hb := undrew hb0; clear hb0
      have tt : sl a 9 = .pointer (some ⟨be, 0, none⟩) := hp 4 (by decide)
      refine ite_y rfl (wp_val (.pointer (some ⟨be, 0, none⟩)) ?_ ?_)
      · simp only [execOp, eval_tmp, tt]; simp [go_sem]
      · exact ⟨_, rfl, Below.refl _ _, rfl⟩
    · intro a W hb0 hs hp hi; have hb := undrew hb0; clear hb0
      have t10 : sl a 10 = .pointer (some ⟨be, 0, none⟩) := hp 5 (by decide)
      refine ite_y rfl (wp_val (.pointer (some ⟨be, 1, none⟩)) ?_ ?_)
      · simp only [execOp, eval_tmp, eval_const, t10]; simp [go_sem]
      · exact ⟨_, rfl, Below.refl _ _, rfl⟩
    · intro a W hb0 hs hp hi; have hb := undrew hb0; clear hb0
      have tt : sl a 11 = .pointer (some ⟨be, 1, none⟩) := hp 6 (by decide)
      have dd := (hb.cell (p := ⟨be, 1, none⟩) (lt_of_cell f1)).trans f1
      refine ite_y rfl (wp_val (.int .i64 t) ?_ ?_)
      · simp only [execOp, eval_tmp, tt]; simp [go_sem, dd]
      · exact ⟨_, rfl, Below.refl _ _, rfl⟩
    · intro a W hb0 hs hp hi; have hb := undrew hb0; clear hb0
      have t0 : sl a 0 = .pointer (some ⟨be, 0, none⟩) := hi 0 (by decide)
      exact ite_y rfl (wp_val (sl a 0) rfl ⟨_, rfl, Below.refl _ _, t0⟩)
    · intro a W hb0 hs hp hi; have hb := undrew hb0; clear hb0
      have t13 : sl a 13 = .pointer (some ⟨be, 0, none⟩) := hp 8 (by decide)
      refine ite_y rfl (wp_enter 46 #[.pointer (some ⟨be, 0, none⟩)] ?_ (ERows_any base be k t n (.slice q n c) K W (HE.out.keep hb) HR.out hn) ?_)
      · simp only [execOp, resolve, List.map_toArray, List.map, eval_tmp, eval_func, eval_const, t13]; simp [go_sem]
      · rintro e W' ⟨v', rfl, hr, hw⟩; exact ⟨_, rfl, _, rfl, hw, hr.mono hb.size⟩
    · intro a W hb0 hs hp hi; have hb := undrew hb0; clear hb0
      have t8 : sl a 8 = .int .i64 k := hp 3 (by decide)
      have t12 : sl a 12 = .int .i64 t := hp 7 (by decide)
      have t14 : (shpRL w.heap.size n K).ok (sl a 14) W := hp 9 (by decide)
      obtain ⟨x14, h14⟩ : ∃ x, x = sl a 14 := ⟨_, rfl⟩
      rw [← h14] at t14
      obtain ⟨q4, c4, rfl⟩ := RwL.shape t14
      have v8 : a.tmps[8]?.getD undef = .int .i64 k := by simpa [sl] using t8
      have v12 : a.tmps[12]?.getD undef = .int .i64 t := by simpa [sl] using t12
      have v14 : a.tmps[14]?.getD undef = .slice q4 n c4 := by simpa [sl] using h14.symm
      refine ite_y rfl (wp_val (.agg #[.int .i64 k, .int .i64 t, .slice q4 n c4]) ?_ ?_)
      · simp only [execOp, eval_tmp, t8, t12, ← h14]; simp [go_sem, v8, v12, v14]
      · exact ⟨_, rfl, Below.refl _ _, .slice q4 n c4, rfl, t14⟩
    · intro a W hb0 hs hp hi; have hb := undrew hb0; clear hb0
      have t15 : (shpRB w.heap.size n k t K).ok (sl a 15) W := hp 10 (by decide)
      obtain ⟨u, t15, hu⟩ := t15
      obtain ⟨q', c', rfl⟩ := hu.shape
      refine ite_y rfl (wp_val' (w' := W.alloc (.cells #[.int .i64 k, .int .i64 t, .slice q' n c'] 104)) (.pointer (some ⟨W.heap.size, 0, none⟩)) ?_ ?_)
      · simp only [execOp, eval_tmp, t15]; simp [go_sem]
      · exact ⟨_, rfl, al (Below.refl _ _) (Nat.le_refl _), W.heap.size, _, rfl, hnew rfl, hu.keep (al (Below.refl _ _) (Nat.le_refl _)), hb.size⟩
    · intro a W hb0 hs hp hi; have hb := undrew hb0; clear hb0
      exact ite_y rfl (wp_val (sl a 16) rfl ⟨_, rfl, Below.refl _ _, hp 11 (by decide)⟩)
  intro a w3 hb hs hd hI ht
  have ha := act_is [5, 6, 7, 8, 9, 10, 11, 12, 13, 14, 15, 16, 2] hs hd ht (by decide)
  obtain ⟨b9, ux, t2, z9⟩ : (shpEl w.heap.size n k t K).ok (sl a 2) w3 := hI 12 (by decide)
  simp only [List.foldl, t2] at ha
  generalize sl a 5 = u5 at ha
  generalize sl a 6 = u6 at ha
  generalize sl a 7 = u7 at ha
  generalize sl a 8 = u8 at ha
  generalize sl a 9 = u9 at ha
  generalize sl a 10 = u10 at ha
  generalize sl a 11 = u11 at ha
  generalize sl a 12 = u12 at ha
  generalize sl a 13 = u13 at ha
  generalize sl a 14 = u14 at ha
  generalize sl a 15 = u15 at ha
  generalize sl a 16 = u16 at ha
  simp only [Act.put, List.setIfInBounds_toArray, List.set_cons_zero, List.set_cons_succ] at ha
  rw [ha]
  clear ha hI ht
  have B3 := Lib.hid hb
  clear hb f0 f1 f2
  go_wp2
  go_ret
  exact ⟨b9, rfl, ⟨ux, z9⟩, B3.out⟩
end Go.Proofs.Ytofhdakggapahaa
namespace Go.By
open Go.RowKit
section
variable {T2 T1 : TypeId} {w w' : World} {base n : Nat} {v : Value} {xss : List (List UInt8)}
theorem Own2.mono {b2 : Nat} (h : Own2 T2 T1 w base v n xss) (hb : b2 ≤ base) : Own2 T2 T1 w b2 v n xss := by
  obtain ⟨vs, a, b, r⟩ := h
  obtain ⟨q, c, rfl⟩ := owns_shape a
  exact ⟨vs, owns_mono a hb, b, fun j u hj => by obtain ⟨xs, q', c', e1, e2, e3⟩ := r j u hj; exact ⟨xs, q', c', e1, e2, owns_mono e3 hb⟩⟩
theorem Own2.made {q : Value} (ho : w.ownsRow base T2 1 q n (madeCells #[Value.slice none 0 0] n).toList) : Own2 T2 T1 w base q n (List.replicate n []) := by
  have e : (madeCells #[Value.slice none 0 0] n).toList = List.replicate n (Value.slice none 0 0) := toList_madeCells_one _ _
  rw [e] at ho
  refine ⟨_, ho, by simp, fun j u hj => ?_⟩
  obtain ⟨h1, h2⟩ := List.getElem?_eq_some_iff.1 hj
  rw [List.length_replicate] at h1
  simp at h2
  exact ⟨[], none, 0, by rw [List.getElem?_replicate, if_pos h1], h2.symm, World.ownsRow_nil _ _ _ _⟩
theorem Own2.put {g c i m c3 : Nat} {q3 : Option Addr} {xs : List UInt8} (h : Own2 T2 T1 w base (.slice (some ⟨g, 0, none⟩) n c) n xss) (hT : T1 ≠ T2) (hi : i < n) (h1 : w.ownsRow base T1 1 (.slice q3 m c3) m (xs.map B8)) :
    Own2 T2 T1 (w.setCell ⟨g, i, none⟩ (.slice q3 m c3)) base (.slice (some ⟨g, 0, none⟩) n c) n (xss.set i xs) := by
  obtain ⟨vs, a, b, r⟩ := h
  have hml : m = xs.length := by have := h1.1; simp at this; exact this.symm
  subst hml
  have hvl : vs.length = n := by simpa using a.1
  have hst := a.stored i (.slice q3 xs.length c3)
  refine ⟨vs.set i (.slice q3 xs.length c3), hst.1, by simp [b], fun j u hj => ?_⟩
  rw [List.getElem?_set] at hj
  by_cases e : i = j
  · subst e
    rw [if_pos rfl, if_pos (by omega)] at hj
    cases hj
    exact ⟨xs, q3, c3, by rw [List.getElem?_set, if_pos rfl, if_pos (by omega)], rfl, owns_kept h1 hst.2 (owns_ne h1 a hT)⟩
  · rw [if_neg e] at hj
    obtain ⟨xs', q', c', e1, e2, e3⟩ := r j u hj
    exact ⟨xs', q', c', by rw [List.getElem?_set, if_neg e]; exact e1, e2, owns_kept e3 hst.2 (owns_ne e3 a hT)⟩
theorem Own2.blk {g c i : Nat} (h : Own2 T2 T1 w base (.slice (some ⟨g, 0, none⟩) n c) n xss) (hi : i < n) : (∃ u, w.cell? ⟨g, i, none⟩ = some u) ∧ w.frozen? ⟨g, i, none⟩ = false ∧ base ≤ g := by
  obtain ⟨vs, a, b, r⟩ := h
  have hvl : vs.length = n := by simpa using a.1
  exact ⟨⟨_, (a.cellAt i (by omega)).trans (List.getElem?_eq_getElem (by omega))⟩, a.frozenAt _, (a.lt g rfl).1⟩
end
end Go.By
namespace Go.Proofs.Ytofhdakggapahaa
open Go.RowKit Go.By
set_option maxRecDepth 100000 in
set_option maxHeartbeats 4000000 in
theorem ESolve_less (base be k t n : Nat) (v : Value) (K : List Rw) (w : World) (hE : Elm w base be k t v n K) (hn : n < k) :
    Calls Try.prog 49 #[.pointer (some ⟨be, 0, none⟩)] w fun e w' => e = .returned (.tuple #[.slice none 0 0, .int .i64 12]) ∧ Below w.heap.size w w' := by
  obtain ⟨q, c, rfl⟩ := hE.rows.shape
  have HE := Lib.hid hE
  have hd : ((n : Int) < (k : Int)) = True := by simp; omega
  have hd2 : n < k := hn
  obtain ⟨f0, f1, f2⟩ := cells3 hE.box
  clear hE
  go_enter Try.func49, Try.ntmps49
  go_wp2_with fail
  refine wp_region_shapes (fun ix => ([.val (.pointer (some ⟨be, 0, none⟩)), .val (.pointer (some ⟨be, 0, none⟩)), .val (.pointer (some ⟨be, 2, none⟩)), .val (.slice q n c), .val (.int .i64 (n : Nat)), .val (.pointer (some ⟨be, 0, none⟩)), .val (.pointer (some ⟨be, 0, none⟩)), .val (.pointer (some ⟨be, 0, none⟩)), .val (.int .i64 k), .val (.bool true)][ix]?).getD (.any)) 42 rfl (by kernel_rfl) (by decide) (by decide) (by decide) ?_ ?_
  · refine ⟨?_, ?_, ?_, ?_, ?_, ?_, ?_, ?_, ?_, ?_, trivial⟩
    · intro a W hb0 hs hp hi; have hb := undrew hb0; clear hb0
      have t0 : sl a 0 = .pointer (some ⟨be, 0, none⟩) := hi 0 (by decide)
      exact ite_y rfl (wp_val (sl a 0) rfl ⟨_, rfl, Below.refl _ _, t0⟩)
    · intro a W hb0 hs hp hi; have hb := undrew hb0; clear hb0
      have tt : sl a 9 = .pointer (some ⟨be, 0, none⟩) := hp 0 (by decide)
      refine ite_y rfl (wp_val (.pointer (some ⟨be, 0, none⟩)) ?_ ?_)
      · simp only [execOp, eval_tmp, tt]; simp [go_sem]
      · exact ⟨_, rfl, Below.refl _ _, rfl⟩
    · intro a W hb0 hs hp hi; have hb := undrew hb0; clear hb0
      have t10 : sl a 10 = .pointer (some ⟨be, 0, none⟩) := hp 1 (by decide)
      refine ite_y rfl (wp_val (.pointer (some ⟨be, 2, none⟩)) ?_ ?_)
      · simp only [execOp, eval_tmp, eval_const, t10]; simp [go_sem]
      · exact ⟨_, rfl, Below.refl _ _, rfl⟩
    · intro a W hb0 hs hp hi; have hb := undrew hb0; clear hb0
      have tt : sl a 11 = .pointer (some ⟨be, 2, none⟩) := hp 2 (by decide)
      have dd := (hb.cell (p := ⟨be, 2, none⟩) (lt_of_cell f2)).trans f2
      refine ite_y rfl (wp_val (.slice q n c) ?_ ?_)
      · simp only [execOp, eval_tmp, tt]; simp [go_sem, dd]
      · exact ⟨_, rfl, Below.refl _ _, rfl⟩
    · intro a W hb0 hs hp hi; have hb := undrew hb0; clear hb0
      have t12 : sl a 12 = .slice q n c := hp 3 (by decide)
      refine ite_y rfl (wp_val (.int .i64 (n : Nat)) ?_ ?_)
      · simp only [execOp, resolve, List.map_toArray, List.map, eval_tmp, eval_func, eval_const, t12]; simp [go_sem]
      · exact ⟨_, rfl, Below.refl _ _, rfl⟩
    · intro a W hb0 hs hp hi; have hb := undrew hb0; clear hb0
      have t0 : sl a 0 = .pointer (some ⟨be, 0, none⟩) := hi 0 (by decide)
      exact ite_y rfl (wp_val (sl a 0) rfl ⟨_, rfl, Below.refl _ _, t0⟩)
    · intro a W hb0 hs hp hi; have hb := undrew hb0; clear hb0
      have tt : sl a 14 = .pointer (some ⟨be, 0, none⟩) := hp 5 (by decide)
      refine ite_y rfl (wp_val (.pointer (some ⟨be, 0, none⟩)) ?_ ?_)
      · simp only [execOp, eval_tmp, tt]; simp [go_sem]
      · exact ⟨_, rfl, Below.refl _ _, rfl⟩
    · intro a W hb0 hs hp hi; have hb := undrew hb0; clear hb0
      have t15 : sl a 15 = .pointer (some ⟨be, 0, none⟩) := hp 6 (by decide)
      refine ite_y rfl (wp_val (.pointer (some ⟨be, 0, none⟩)) ?_ ?_)
      · simp only [execOp, eval_tmp, eval_const, t15]; simp [go_sem]
      · exact ⟨_, rfl, Below.refl _ _, rfl⟩
    · intro a W hb0 hs hp hi; have hb := undrew hb0; clear hb0
      have tt : sl a 16 = .pointer (some ⟨be, 0, none⟩) := hp 7 (by decide)
      have dd := (hb.cell (p := ⟨be, 0, none⟩) (lt_of_cell f0)).trans f0
      refine ite_y rfl (wp_val (.int .i64 k) ?_ ?_)
      · simp only [execOp, eval_tmp, tt]; simp [go_sem, dd]
      · exact ⟨_, rfl, Below.refl _ _, rfl⟩
    · intro a W hb0 hs hp hi; have hb := undrew hb0; clear hb0
      have t13 : sl a 13 = .int .i64 (n : Nat) := hp 4 (by decide)
      have t17 : sl a 17 = .int .i64 k := hp 8 (by decide)
      refine ite_y rfl (wp_val (.bool true) ?_ ?_)
      · simp only [execOp, eval_tmp, eval_const, t13, t17]; simp [go_sem, hd, hd2]
      · exact ⟨_, rfl, Below.refl _ _, rfl⟩
  intro a w3 hb hs hd hI ht
  have ha := act_is [9, 10, 11, 12, 13, 14, 15, 16, 17, 18] hs hd ht (by decide)
  have t18 : sl a 18 = .bool true := hI 9 (by decide)
  simp only [List.foldl, t18] at ha
  generalize sl a 9 = u9 at ha
  generalize sl a 10 = u10 at ha
  generalize sl a 11 = u11 at ha
  generalize sl a 12 = u12 at ha
  generalize sl a 13 = u13 at ha
  generalize sl a 14 = u14 at ha
  generalize sl a 15 = u15 at ha
  generalize sl a 16 = u16 at ha
  generalize sl a 17 = u17 at ha
  simp only [Act.put, List.setIfInBounds_toArray, List.set_cons_zero, List.set_cons_succ] at ha
  rw [ha]
  clear ha hI ht
  have B3 := Lib.hid hb
  clear hb f0 f1 f2 hd hd2
  go_wp2
  go_ret2
  exact ⟨rfl, B3.out⟩
theorem snds_step {K : List Rw} {j n : Nat} {r : Rw} (hj : K[j]? = some r) (hn : K.length = n) : ((K.take j).map (fun x : Rw => x.2) ++ List.replicate (n - j) []).set j r.2 = (K.take (j + 1)).map (fun x : Rw => x.2) ++ List.replicate (n - (j + 1)) [] := by
  have e := fill_step (K := K.map (fun x : Rw => x.2)) (j := j) (n := n) (a := r.2) (z := []) (by rw [List.getElem?_map, hj]; rfl) (by rw [List.length_map]; exact hn)
  rw [List.map_take, List.map_take]; exact e
set_option maxRecDepth 100000 in
set_option maxHeartbeats 4000000 in
theorem ESolve_full (base be k t : Nat) (v : Value) (K : List Rw) (w : World) (hE : Elm w base be k t v k K) (hr : ∀ r, r ∈ K → Room r.2.length) (hk : k ≤ 4096) :
    Calls Try.prog 49 #[.pointer (some ⟨be, 0, none⟩)] w fun e w' => ∃ q c, e = .returned (.tuple #[.slice q k c, .int .i64 0]) ∧ Own2 25 5 w' w.heap.size (.slice q k c) k (K.map (·.2)) ∧ Below w.heap.size w w' := by
  obtain ⟨r0, hr0, hrz, hr1, hr2⟩ := info_parts info_rows
  obtain ⟨q, c, rfl⟩ := hE.rows.shape
  have HLEN := Lib.hid hE.rows.len; have HR := Lib.hid hr; have HE := Lib.hid hE
  have HM1 : Hid (k ≤ maxLen) := by show k ≤ maxLen; unfold maxLen; omega
  have HM2 : Hid (24 * k ≤ 281474976710656) := by show 24 * k ≤ _; omega
  obtain ⟨g, hg⟩ : ∃ g, g = w.heap.size := ⟨_, rfl⟩
  have HG := Lib.hid hg
  clear hg
  obtain ⟨n, hn⟩ : ∃ n, n = k := ⟨_, rfl⟩
  have hE' : Elm w base be k t (.slice q n c) n K := by rw [hn]; exact hE
  have hd : ((n : Int) < (k : Int)) = False := by simp; omega
  have hd2 : ¬ n < k := by omega
  have HN := Lib.hid hn
  obtain ⟨f0, f1, f2⟩ := cells3 hE'.box
  clear hE hr hE' hn
  go_enter Try.func49, Try.ntmps49
  go_wp2_with fail
  refine wp_region_shapes (fun ix => ([.val (.pointer (some ⟨be, 0, none⟩)), .val (.pointer (some ⟨be, 0, none⟩)), .val (.pointer (some ⟨be, 2, none⟩)), .val (.slice q n c), .val (.int .i64 (n : Nat)), .val (.pointer (some ⟨be, 0, none⟩)), .val (.pointer (some ⟨be, 0, none⟩)), .val (.pointer (some ⟨be, 0, none⟩)), .val (.int .i64 k), .val (.bool false)][ix]?).getD (.any)) 42 rfl (by kernel_rfl) (by decide) (by decide) (by decide) ?_ ?_
  · refine ⟨?_, ?_, ?_, ?_, ?_, ?_, ?_, ?_, ?_, ?_, trivial⟩
    · intro a W hb0 hs hp hi; have hb := undrew hb0; clear hb0
      have t0 : sl a 0 = .pointer (some ⟨be, 0, none⟩) := hi 0 (by decide)
      exact ite_y rfl (wp_val (sl a 0) rfl ⟨_, rfl, Below.refl _ _, t0⟩)
    · intro a W hb0 hs hp hi; have hb := undrew hb0; clear hb0
      have tt : sl a 9 = .pointer (some ⟨be, 0, none⟩) := hp 0 (by decide)
      refine ite_y rfl (wp_val (.pointer (some ⟨be, 0, none⟩)) ?_ ?_)
      · simp only [execOp, eval_tmp, tt]; simp [go_sem]
      · exact ⟨_, rfl, Below.refl _ _, rfl⟩
    · intro a W hb0 hs hp hi; have hb := undrew hb0; clear hb0
      have t10 : sl a 10 = .pointer (some ⟨be, 0, none⟩) := hp 1 (by decide)
      refine ite_y rfl (wp_val (.pointer (some ⟨be, 2, none⟩)) ?_ ?_)
      · simp only [execOp, eval_tmp, eval_const, t10]; simp [go_sem]
      · exact ⟨_, rfl, Below.refl _ _, rfl⟩
    · intro a W hb0 hs hp hi; have hb := undrew hb0; clear hb0
      have tt : sl a 11 = .pointer (some ⟨be, 2, none⟩) := hp 2 (by decide)
      have dd := (hb.cell (p := ⟨be, 2, none⟩) (lt_of_cell f2)).trans f2
      refine ite_y rfl (wp_val (.slice q n c) ?_ ?_)
      · simp only [execOp, eval_tmp, tt]; simp [go_sem, dd]
      · exact ⟨_, rfl, Below.refl _ _, rfl⟩
    · intro a W hb0 hs hp hi; have hb := undrew hb0; clear hb0
      have t12 : sl a 12 = .slice q n c := hp 3 (by decide)
      refine ite_y rfl (wp_val (.int .i64 (n : Nat)) ?_ ?_)
      · simp only [execOp, resolve, List.map_toArray, List.map, eval_tmp, eval_func, eval_const, t12]; simp [go_sem]
      · exact ⟨_, rfl, Below.refl _ _, rfl⟩
    · intro a W hb0 hs hp hi; have hb := undrew hb0; clear hb0
      have t0 : sl a 0 = .pointer (some ⟨be, 0, none⟩) := hi 0 (by decide)
      exact ite_y rfl (wp_val (sl a 0) rfl ⟨_, rfl, Below.refl _ _, t0⟩)
    · intro a W hb0 hs hp hi; have hb := undrew hb0; clear hb0
      have tt : sl a 14 = .pointer (some ⟨be, 0, none⟩) := hp 5 (by decide)
      refine ite_y rfl (wp_val (.pointer (some ⟨be, 0, none⟩)) ?_ ?_)
      · simp only [execOp, eval_tmp, tt]; simp [go_sem]
      · exact ⟨_, rfl, Below.refl _ _, rfl⟩
    · intro a W hb0 hs hp hi; have hb := undrew hb0; clear hb0
      have t15 : sl a 15 = .pointer (some ⟨be, 0, none⟩) := hp 6 (by decide)
      refine ite_y rfl (wp_val (.pointer (some ⟨be, 0, none⟩)) ?_ ?_)
      · simp only [execOp, eval_tmp, eval_const, t15]; simp [go_sem]
      · exact ⟨_, rfl, Below.refl _ _, rfl⟩
    · intro a W hb0 hs hp hi; have hb := undrew hb0; clear hb0
      have tt : sl a 16 = .pointer (some ⟨be, 0, none⟩) := hp 7 (by decide)
      have dd := (hb.cell (p := ⟨be, 0, none⟩) (lt_of_cell f0)).trans f0
      refine ite_y rfl (wp_val (.int .i64 k) ?_ ?_)
      · simp only [execOp, eval_tmp, tt]; simp [go_sem, dd]
      · exact ⟨_, rfl, Below.refl _ _, rfl⟩
    · intro a W hb0 hs hp hi; have hb := undrew hb0; clear hb0
      have t13 : sl a 13 = .int .i64 (n : Nat) := hp 4 (by decide)
      have t17 : sl a 17 = .int .i64 k := hp 8 (by decide)
      refine ite_y rfl (wp_val (.bool false) ?_ ?_)
      · simp only [execOp, eval_tmp, eval_const, t13, t17]; simp [go_sem, hd, hd2]
      · exact ⟨_, rfl, Below.refl _ _, rfl⟩
  intro a w3 hb hs hd hI ht
  have ha := act_is [9, 10, 11, 12, 13, 14, 15, 16, 17, 18] hs hd ht (by decide)
  have t18 : sl a 18 = .bool false := hI 9 (by decide)
  simp only [List.foldl, t18] at ha
  generalize sl a 9 = u9 at ha
  generalize sl a 10 = u10 at ha
  generalize sl a 11 = u11 at ha
  generalize sl a 12 = u12 at ha
  generalize sl a 13 = u13 at ha
  generalize sl a 14 = u14 at ha
  generalize sl a 15 = u15 at ha
  generalize sl a 16 = u16 at ha
  generalize sl a 17 = u17 at ha
  simp only [Act.put, List.setIfInBounds_toArray, List.set_cons_zero, List.set_cons_succ] at ha
  rw [ha]
  clear ha hI ht
  have HE3 := Lib.hid (HE.out.keep hb)
  have B3 := Lib.hid hb
  obtain rfl := HN.out
  clear hb f0 f1 f2 hd hd2 HE
  obtain ⟨f0, f1, f2⟩ := cells3 HE3.out.box
  obtain ⟨g, hg⟩ : ∃ g, g = w3.heap.size := ⟨_, rfl⟩
  have HG := Lib.hid hg
  clear hg
  go_wp2_with (at_make; refine wpList_make_full _ rfl _ _ 22 rfl w3.heap.size 25 r0 (.slice none 0 0) 1 Try.underlying22 hr0 hrz hr1 .i64 .i64 _ _ n rfl rfl rfl rfl (by rw [hr2]; exact HM2.out) HM1.out (by simp) ?_)
  intro w1 ho hg
  have hg' : Below w3.heap.size w3 w1 := (Below.refl _ _).grown hg (by simp) (by simp)
  have R1 : Hid (Own2 25 5 w1 w3.heap.size (.slice (some ⟨w3.heap.size, 0, none⟩) n n) n (List.replicate n [])) := Own2.made (by simpa using ho)
  have E1 := Lib.hid (HE3.out.keep hg')
  have B1 := Lib.hid hg'
  rw [← HG.out] at R1 ⊢
  clear ho hg hg' f0 f1 f2 hr0 hrz hr1 hr2 HM1 HM2
  obtain ⟨f0, f1, f2⟩ := cells3 E1.out.box
  go_wp2
  clear f0 f1 f2
  go_loopw [29] (fun i wr => ∃ j : Nat, j ≤ n ∧ i = .int .i64 j ∧ Hid (Own2 25 5 wr g (.slice (some ⟨g, 0, none⟩) n n) n ((K.take j).map (·.2) ++ List.replicate (n - j) [])) ∧ Hid (Below g w3 wr)) (fun i _ => n - (intOf i).toNat)
  case atStart => exact ⟨0, Nat.zero_le _, rfl, by show Own2 _ _ _ _ _ _ _; simpa using R1.out, by show Below _ _ _; rw [HG.out]; exact B1.out⟩
  case round =>
    clear R1 E1 B1
    obtain ⟨j, hj, rfl, hR, hB⟩ := hrel
    have hE := Lib.hid (HE3.out.keep (w' := wr) (by rw [← HG.out]; exact hB.out))
    by_cases hjl : j < n
    · have jn : (j : Int) < (n : Int) := by omega
      obtain ⟨gs, kk, a1, b1, d1, a2, b2, d2, rfl, e1, e2, hkk, t1, t2⟩ := hE.out.rows.at hjl
      have T2 := Lib.hid t2; have HK := Lib.hid hkk.out
      have HRR := Lib.hid (HR.out kk (List.mem_of_getElem? hkk.out))
      clear t1 t2 hkk
      go_wp2_with fail
      clear e1 e2
      refine use_w1 (fun W => Below wr.heap.size wr W) (al (Below.refl _ _) (Nat.le_refl _)) ?_
      rintro w7 b7
      refine Calls.mono (CloneB_any a2 b2 d2 kk.2 w7 (T2.out.keep b7) (by rw [← T2.out.len]; exact HRR.out)) ?_
      rintro e w8 ⟨q1, g1, rfl, o1, hb⟩
      have hgs : g ≤ w7.heap.size := Nat.le_trans (by rw [HG.out]; exact hB.out.size) b7.size
      have B8' := Lib.hid (b7.trans (hb.mono b7.size))
      have R8 := Lib.hid (hR.out.keep B8'.out)
      have B9 := Lib.hid (hB.out.trans (B8'.out.mono (by rw [HG.out]; exact hB.out.size)))
      obtain ⟨⟨cu, c1⟩, z0, -⟩ := R8.out.blk hjl
      have HP := Lib.hid (R8.out.put (by decide) hjl (owns_mono o1 hgs))
      have hs8 : g ≤ w8.heap.size := Nat.le_trans hgs hb.size
      clear o1 hb b7 hR hE hB T2 B8' hgs
      rw [snds_step HK.out HLEN.out] at HP
      have BX : Hid (∀ o1 v1, Below g w3 (w8.setCell ⟨g, o1, none⟩ v1)) := fun o1 v1 => B9.out.setCell (Nat.le_refl _) _
      clear B9 R8 hs8
      go_wp2
      go_roundw
      case rel => exact ⟨j + 1, by omega, by go_num, HP.out, BX.out _ _⟩
      case measure => simp [intOf]; omega
    · have hjn : j = n := by omega
      have hge : (n : Int) ≤ (j : Int) := by omega
      have HF := Lib.hid hR.out
      rw [List.take_of_length_le (by rw [HLEN.out]; omega), hjn, Nat.sub_self, List.replicate_zero, List.append_nil] at HF
      have BF : Hid (Below w.heap.size w wr) := B3.out.trans (hB.out.mono (by rw [HG.out]; exact B3.out.size))
      have hsg : w.heap.size ≤ g := by rw [HG.out]; exact B3.out.size
      clear hR hE hB hjn
      go_wp2
      go_ret2
      exact ⟨_, _, rfl, HF.out.mono hsg, BF.out⟩
end Go.Proofs.Ytofhdakggapahaa
namespace Go.By
open Go.RowKit Go.Proofs.Ytofhdakggapahaa
theorem owns_same {w w' : World} {base T k n : Nat} {v : Value} {L : List Value} (h : w.ownsRow base T k v n L) (hs : w.heap.size ≤ w'.heap.size) (hb : ∀ g, v.ownBlock = some g → w'.heap[g]? = w.heap[g]?) : w'.ownsRow base T k v n L := by
  have _ := hs
  refine ⟨h.1, ?_⟩
  rcases h.2 with h1 | ⟨g, cap, cur, e, h1, h2, h3⟩
  · exact .inl h1
  · exact .inr ⟨g, cap, cur, e, h1, (hb g (by rw [e]; rfl)).trans h2, h3⟩
section
variable {w w' : World} {base be k t n : Nat} {v : Value} {K : List Rw}
theorem Chg.blk (h : Chg w w' be v) (hE : Elm w base be k t v n K) {g T : Nat} {cs : Array Value} {fr : Nat × Nat} (hg : w.heap[g]? = some (.cells cs T fr)) (h1 : T ≠ 104) (h2 : v.ownBlock ≠ some g) : w'.heap[g]? = some (.cells cs T fr) := by
  refine (h.block g (blk_lt hg) (fun e => ?_) h2).trans hg
  subst e
  rw [hE.box] at hg; injection hg with hg; injection hg with _ hg _; exact h1 hg.symm
theorem Chg.blk2 (h : Chg w w' be v) (hE : Elm w base be k t v n K) {g T : Nat} {cs : Array Value} {fr : Nat × Nat} (hg : w.heap[g]? = some (.cells cs T fr)) (h1 : T ≠ 104) (h2 : 61 ≠ T) : w'.heap[g]? = some (.cells cs T fr) :=
  h.blk hE hg h1 (hE.rows.ne_box hg h2)
theorem Chg.bw (h : Chg w w' be v) (hE : Elm w base be k t v n K) {b : Nat} {u : Value} {xs : List UInt8} (hu : Bw 5 w b u xs) : Bw 5 w' b u xs := by
  obtain ⟨q, m, c, e, l, o⟩ := hu
  refine ⟨q, m, c, e, l, owns_same o h.size fun g hg => ?_⟩
  rcases o.2 with ⟨e1, _⟩ | ⟨g', cap, cur, e1, _, hh, _⟩
  · rw [e1] at hg; cases hg
  · rw [e1] at hg; cases hg
    rw [h.blk2 hE hh (by decide) (by decide), hh]
theorem Chg.rwl (h : Chg w w' be v) (hE : Elm w base be k t v n K) {b2 n2 : Nat} {v2 : Value} {K2 : List Rw} (h2 : RwL 61 5 w b2 v2 n2 K2) (hne : ∀ g, v2.ownBlock = some g → v.ownBlock ≠ some g) : RwL 61 5 w' b2 v2 n2 K2 := by
  obtain ⟨vs, a, b, o, r⟩ := h2
  refine ⟨vs, a, b, owns_same o h.size fun g hg => ?_, fun j u hj => by obtain ⟨x, hk, g1, g2⟩ := r j u hj; exact ⟨x, hk, h.bw hE g1, h.bw hE g2⟩⟩
  rcases o.2 with ⟨e1, _⟩ | ⟨g', cap, cur, e1, _, hh, _⟩
  · rw [e1] at hg; cases hg
  · have hn := hne g hg
    rw [e1] at hg; cases hg
    rw [h.blk hE hh (by decide) hn, hh]
theorem Chg.elm (h : Chg w w' be v) (hE : Elm w base be k t v n K) {b2 be2 n2 k2 t2 : Nat} {v2 : Value} {K2 : List Rw} (h2 : Elm w b2 be2 k2 t2 v2 n2 K2) (hbe : be2 ≠ be) (hne : ∀ g, v2.ownBlock = some g → v.ownBlock ≠ some g) : Elm w' b2 be2 k2 t2 v2 n2 K2 :=
  ⟨(h.block be2 (blk_lt h2.box) hbe (hE.rows.ne_box h2.box (by decide))).trans h2.box, h.rwl hE h2.rows hne, h2.old⟩
theorem Chg.rwn (h : Chg w w' be v) (hE : Elm w base be k t v n K) {W : World} {q : Option Addr} {m c : Nat} {D : List Rw} (hD : RwN W w 68 q m c D) (hW : W.heap.size ≤ base) : RwN W w' 68 q m c D := by
  obtain ⟨h1, h2, vs, o, h4⟩ := hD
  refine ⟨h1.trans (chg_old h hE.rows hW (Nat.le_trans hW hE.old) h1.size), h2, vs, owns_same o h.size fun g hg => ?_, h4⟩
  rcases o.2 with ⟨e1, _⟩ | ⟨g', cap, cur, e1, _, hh, _⟩
  · rw [e1] at hg; cases hg
  · rw [e1] at hg; cases hg
    rw [h.blk2 hE hh (by decide) (by decide), hh]
end
end Go.By
namespace Go.Proofs.Ytofhdakggapahaa
open Go.RowKit Go.By
/-- what comes of an equation that fits -/
def codeF (K : List Rw) (x : Rw) : Int := if leadS (restF K x).1 < 0 then (if zeroS (restF K x).2 = true then 1 else 2) else 0
def putK (K : List Rw) (x : Rw) : List Rw := if leadS (restF K x).1 < 0 then K else putF K x
def putD (K D : List Rw) (x : Rw) : List Rw := if leadS (restF K x).1 < 0 then D else D ++ [x]
theorem EPut_fit (base be k t n : Nat) (v : Value) (K : List Rw) (p1 p2 : Option Addr) (c1 c2 : Nat) (x : Rw) (w : World) (hE : Elm w base be k t v n K) (s1 : Sl B8 w p1 k c1 x.1) (s2 : Sl B8 w p2 t c2 x.2) (hR : Red k t K) (hk : k ≤ 4096) (ht : t ≤ 65535) (hnn : n ≤ 4096) :
    Calls Try.prog 35 #[.pointer (some ⟨be, 0, none⟩), .agg #[.slice p1 k c1, .slice p2 t c2]] w fun e w' => e = .returned (.tuple #[.int .i64 (codeF K x), .int .i64 0]) ∧
      ∃ v' n', Elm w' base be k t v' n' (putK K x) ∧ Chg w w' be v ∧ (v'.ownBlock = v.ownBlock ∨ ∀ b, v'.ownBlock = some b → w.heap.size ≤ b) := by
  by_cases hn : leadS (restF K x).1 < 0
  · refine (EPut_zero base be k t n v K p1 p2 c1 c2 x w hE s1 s2 hR.kept.rows hk ht hn).mono ?_
    rintro e w' ⟨rfl, hb⟩
    unfold codeF putK
    rw [if_pos hn, if_pos hn]
    exact ⟨rfl, v, n, hE.keep hb, Chg.of be v hb, .inl rfl⟩
  · refine (EPut_grown base be k t n v K p1 p2 c1 c2 x w hE s1 s2 hR hk ht hn hnn).mono ?_
    rintro e w' ⟨rfl, v', h1, h2, h3⟩
    unfold codeF putK
    rw [if_neg hn, if_neg hn]
    exact ⟨rfl, v', n + 1, h1, h2, h3⟩
theorem Sys.putK {n t : Nat} {D K : List Rw} {x : Rw} (h : Sys n t (kD D) K) (hx : Fit n t x) : Sys n t (kD (putD K D x)) (putK K x) := by
  unfold putD Go.Proofs.Ytofhdakggapahaa.putK
  by_cases hn : leadS (restF K x).1 < 0
  · rw [if_pos hn, if_pos hn]; exact h
  · rw [if_neg hn, if_neg hn, kD_snoc]; exact h.put hx hn
theorem RwN.vals {W w : World} {T n c : Nat} {q : Option Addr} {K : List Rw} (h : RwN W w T q n c K) : ∃ vs, w.ownsRow W.heap.size T 2 (.slice q n c) n (fl2 vs) ∧ RwV w q n c vs ∧ vs.length = n ∧ ∀ (j : Nat) (k : Rw), K[j]? = some k → ∃ u, vs[j]? = some u ∧ RwP W u k := by
  obtain ⟨hb, hl, vs, o, hv⟩ := h
  have hvl : vs.length = n := by have := o.1; rw [fl2_length] at this; omega
  refine ⟨vs, o, RwV.of_owns o (fun u hu => ?_), hvl, hv⟩
  obtain ⟨a, ha, hu⟩ := List.mem_flatMap.1 hu
  obtain ⟨j, hj, rfl⟩ := List.getElem_of_mem ha
  obtain ⟨u', hu', q1, m1, c1, q2, m2, c2, e, -⟩ := hv j (K[j]'(by omega)) (List.getElem?_eq_getElem (by omega))
  rw [List.getElem?_eq_getElem hj] at hu'
  injection hu' with hu'
  rw [hu', e] at hu
  simp at hu
  rcases hu with rfl | rfl <;> rfl
theorem RPut8_fit (wd t : Nat) (pk : Option Addr) (nk ck : Nat) (D K : List Rw) (p1 p2 : Option Addr) (n1 c1 n2 c2 : Nat) (x : Rw) (W w : World) (hD : RwN W w 68 pk nk ck D) (s1 : Sl B8 W p1 n1 c1 x.1) (s2 : Sl B8 W p2 n2 c2 x.2)
    (hfit : ∀ r, r ∈ D → Fit wd t r) (hx : Fit wd t x) (hr1 : Room wd) (hr2 : Room t) (hnk : nk ≤ 4096) (hS : Sys wd t (kD D) K) :
    Calls Try.prog 39 #[.slice pk nk ck, .agg #[.slice p1 n1 c1, .slice p2 n2 c2]] w fun e w' => ∃ q n c, e = .returned (.tuple #[.slice q n c, .int .i64 (codeF K x)]) ∧ n = (putD K D x).length ∧ RwN W w' 68 q n c (putD K D x) ∧ Below w.heap.size w w' := by
  have hlen := hD.2.1
  have hs1 := s1.keep hD.1; have hs2 := s2.keep hD.1
  have hsame := hS.same
  by_cases hn : leadS (restF K x).1 < 0
  · refine (RPut8_any wd t pk nk ck D p1 p2 n1 c1 n2 c2 x w hD.rwS hs1 hs2 hfit hx hr1 hr2 hnk (by rw [← hsame]; exact hn)).mono ?_
    rintro e w' ⟨rfl, hb⟩
    rw [← hsame]
    unfold codeF putD
    rw [if_pos hn, if_pos hn]
    exact ⟨pk, nk, ck, rfl, hlen.symm, RwN.keep hD hb, hb⟩
  · obtain ⟨vs, o, hV, hvl, hv⟩ := RwN.vals hD
    refine (RPut8_new wd t pk nk ck D p1 p2 n1 c1 n2 c2 x vs w hD.rwS hV hs1 hs2 hfit hx hr1 hr2 hnk (by rw [← hsame]; exact hn)).mono ?_
    rintro e w' ⟨q, c, rfl, ho, hb⟩
    unfold codeF putD
    rw [if_neg hn, if_neg hn]
    refine ⟨q, nk + 1, c, rfl, by simp [hlen], ⟨bl hD.1 hb hD.1.size, by simp [hlen], vs ++ [(.slice p1 n1 c1, .slice p2 n2 c2)], owns_mono ho hD.1.size, fun j k hj => ?_⟩, hb⟩
    by_cases hjn : j < D.length
    · rw [List.getElem?_append_left hjn] at hj
      obtain ⟨u, hu, hp⟩ := hv j k hj
      exact ⟨u, by rw [List.getElem?_append_left (by omega)]; exact hu, hp⟩
    · have hj2 := (List.getElem?_eq_some_iff.1 hj).1
      rw [List.length_append, List.length_singleton] at hj2
      obtain rfl : j = D.length := by omega
      rw [List.getElem?_append_right (Nat.le_refl _), Nat.sub_self] at hj
      have : x = k := by simpa using hj
      subst this
      exact ⟨_, by rw [hlen, ← hvl, List.getElem?_append_right (Nat.le_refl _), Nat.sub_self]; rfl, p1, n1, c1, p2, n2, c2, rfl, s1, s2⟩
theorem incr_ge {l : List Nat} (h : l.Pairwise (· < ·)) : ∀ (i : Nat) (hi : i < l.length), i ≤ l[i]
  | 0, _ => Nat.zero_le _
  | i + 1, hi => by
    have h1 := incr_ge h i (by omega)
    have h2 := List.pairwise_iff_getElem.1 h i (i + 1) (by omega) hi (by omega)
    omega
theorem incr_le {l : List Nat} {B : Nat} (h : l.Pairwise (· < ·)) (hB : ∀ a, a ∈ l → a < B) : ∀ (d i : Nat) (hi : i < l.length), i + d + 1 = l.length → l[i] + d < B
  | 0, i, hi, _ => hB _ (List.getElem_mem hi)
  | d + 1, i, hi, he => by
    have h1 := incr_le h hB d (i + 1) (by omega) (by omega)
    have h2 := List.pairwise_iff_getElem.1 h i (i + 1) hi (by omega) (by omega)
    omega
theorem incr_len {l : List Nat} {B : Nat} (h : l.Pairwise (· < ·)) (hB : ∀ a, a ∈ l → a < B) : l.length ≤ B := by
  rcases Nat.eq_zero_or_pos l.length with h0 | h0
  · omega
  · have h1 := incr_ge h (l.length - 1) (by omega)
    have h2 := hB _ (List.getElem_mem (show l.length - 1 < l.length by omega))
    omega
theorem incr_range {l : List Nat} {B : Nat} (h : l.Pairwise (· < ·)) (hB : ∀ a, a ∈ l → a < B) (hl : l.length = B) : ∀ i, i < B → l[i]? = some i := fun i hi => by
  have hi' : i < l.length := by omega
  have h1 := incr_ge h i hi'
  have h2 := incr_le h hB (B - 1 - i) i hi' (by omega)
  rw [List.getElem?_eq_getElem hi']
  congr 1; omega
/-- a full system: its rows are units -/
theorem full_units {k t : Nat} {K : List Rw} (h : Red k t K) (hl : K.length = k) {i : Nat} {r : Rw} (hr : K[i]? = some r) : r.1 = (List.replicate k 0).set i 1 := by
  have hik : i < k := by have := (List.getElem?_eq_some_iff.1 hr).1; omega
  have hlead : ∀ j, j < k → (K.map leadN)[j]? = some j := incr_range h.leads (B := k) (fun a ha => by
    obtain ⟨x, hx, rfl⟩ := List.mem_map.1 ha
    obtain ⟨hf, hl⟩ := h.kept.rows x hx
    exact hl.at.lt hf) (by rw [List.length_map, hl])
  have hf := (h.kept.rows r (List.mem_of_getElem? hr)).1
  apply List.ext_getElem?
  intro j
  by_cases hj : j < k
  · obtain ⟨s, hs⟩ : ∃ s, K[j]? = some s := ⟨_, List.getElem?_eq_getElem (by omega)⟩
    have hd := h.delta hr hs
    have hls : leadN s = j := by
      have := hlead j hj
      rw [List.getElem?_map, hs] at this
      simpa using this
    rw [hls] at hd
    have e1 := vR_at (x := r) (l := j) hf hj
    rw [hd] at e1
    unfold atS at e1
    rw [if_pos (Int.natCast_nonneg _), Int.toNat_natCast, List.getD_eq_getElem?_getD, List.getElem?_eq_getElem (by rw [hf.1]; exact hj)] at e1
    rw [List.getElem?_eq_getElem (by rw [hf.1]; exact hj), List.getElem?_set]
    by_cases e : i = j
    · rw [if_pos e] at e1
      rw [if_pos e, if_pos (by simpa using hik)]
      simpa using e1
    · rw [if_neg e] at e1
      rw [if_neg e, List.getElem?_replicate, if_pos hj]
      simpa using e1
  · rw [List.getElem?_eq_none (by rw [hf.1]; omega), List.getElem?_eq_none (by simp; omega)]
theorem known_full {k t : Nat} {K : List Rw} (h : Red k t K) (hl : K.length = k) (hk : k ≤ 65536) {i : Nat} {r : Rw} (hr : K[i]? = some r) : knownS k K i = (r.2, true) := by
  rw [known_find h.kept.rows hk]
  have hik : i < k := by have := (List.getElem?_eq_some_iff.1 hr).1; omega
  have hmt : ∀ (j : Nat) (s : Rw), K[j]? = some s → mtS i s = decide (j = i) := fun j s hs => by
    have hjk : j < k := by have := (List.getElem?_eq_some_iff.1 hs).1; omega
    have hu := full_units h hl hs
    obtain ⟨hf, hd⟩ := h.kept.rows s (List.mem_of_getElem? hs)
    have := (unit_iff hf hd hjk).2 hu
    unfold mtS
    rw [this.1, this.2]
    by_cases e : j = i
    · subst e; simp
    · rw [decide_eq_false e, decide_eq_false (show ¬ ((j : Int) = (i : Int)) by omega)]; simp
  have : K.find? (mtS i) = some r := by
    rw [List.find?_eq_some_iff_getElem]
    obtain ⟨hik', e⟩ := List.getElem?_eq_some_iff.1 hr
    refine ⟨by rw [hmt i r hr]; simp, i, hik', e, fun a ha => ?_⟩
    have hak : a < K.length := by omega
    rw [hmt a K[a] (List.getElem?_eq_getElem hak), decide_eq_false (show ¬ a = i by omega)]; rfl
  rw [this]
theorem Red.le {k t : Nat} {K : List Rw} (h : Red k t K) : K.length ≤ k := by
  have := incr_len h.leads (B := k) (fun a ha => by
    obtain ⟨x, hx, rfl⟩ := List.mem_map.1 ha
    obtain ⟨hf, hl⟩ := h.kept.rows x hx
    exact hl.at.lt hf)
  rwa [List.length_map] at this
end Go.Proofs.Ytofhdakggapahaa
namespace Go.Proofs.Ytofhdakggapahaa
open Go.RowKit Go.By
theorem putF_len (K : List Rw) (x : Rw) : (putF K x).length = K.length + 1 := by
  unfold putF putAt
  rw [List.length_append, List.length_cons]
  have h := congrArg List.length (List.takeWhile_append_dropWhile (p := fun r : Rw => decide (leadS r.1 ≤ leadS (normS (restF K x)).1)) (l := K.map (clrF (normS (restF K x)))))
  rw [List.length_append, List.length_map] at h
  omega
theorem putK_len {D K : List Rw} (x : Rw) (h : K.length = D.length) : (putK K x).length = (putD K D x).length := by
  unfold putK putD
  by_cases hn : leadS (restF K x).1 < 0
  · rw [if_pos hn, if_pos hn]; exact h
  · rw [if_neg hn, if_neg hn, putF_len, List.length_append, List.length_singleton, h]
theorem putD_le (K D : List Rw) (x : Rw) : (putD K D x).length ≤ D.length + 1 := by
  unfold putD; split
  · omega
  · rw [List.length_append, List.length_singleton]; omega
theorem putD_fit {k t : Nat} {K D : List Rw} {x : Rw} (h : ∀ r, r ∈ D → Fit k t r) (hx : Fit k t x) : ∀ r, r ∈ putD K D x → Fit k t r := by
  unfold putD; split
  · exact h
  · intro r hr
    rcases List.mem_append.1 hr with hr | hr
    · exact h r hr
    · rw [List.mem_singleton] at hr; rw [hr]; exact hx
/-- what the law carries from round to round -/
structure ESt (w : World) (base be k t nd : Nat) (qd : Option Addr) (cd : Nat) (v : Value) (D K : List Rw) (wr : World) : Prop where
  bel : Below w.heap.size w wr
  elm : Elm wr base be k t v nd K
  sys : Sys k t (kD D) K
  fit : ∀ r, r ∈ D → Fit k t r
  d : RwN w wr 68 qd nd cd D
/-- .. and in a round -/
structure RSt (w : World) (base be k t n : Nat) (v : Value) (K : List Rw) (qd : Option Addr) (nd cd : Nat) (D : List Rw) (bx : Nat) (px : Array Value) (cb bc : Nat) (u : Value) (nc : Nat) (KC : List Rw) (W : World) : Prop where
  bel : Below w.heap.size w W
  elm : Elm W base be k t v n K
  d : RwN w W 68 qd nd cd D
  box : W.heap[bx]? = some (.cells px 57 (0, 0))
  cln : Elm W cb bc k t u nc KC
  ne : be ≠ bc
  dis : ∀ g, v.ownBlock = some g → u.ownBlock ≠ some g
  hw : w.heap.size ≤ base
  hc : w.heap.size ≤ cb
section
variable {w W W' : World} {base be k t n : Nat} {v : Value} {K : List Rw} {qd : Option Addr} {nd cd : Nat} {D : List Rw} {bx : Nat} {px : Array Value} {cb bc : Nat} {u : Value} {nc : Nat} {KC : List Rw}
theorem RSt.keep (h : RSt w base be k t n v K qd nd cd D bx px cb bc u nc KC W) (hb : Below W.heap.size W W') : RSt w base be k t n v K qd nd cd D bx px cb bc u nc KC W' :=
  ⟨bl h.bel hb h.bel.size, h.elm.keep hb, RwN.keep h.d hb, (hb.block _ (blk_lt h.box)).trans h.box, h.cln.keep hb, h.ne, h.dis, h.hw, h.hc⟩
theorem RSt.chgS (h : RSt w base be k t n v K qd nd cd D bx px cb bc u nc KC W) (hC : Chg W W' be v) {v' : Value} {n' : Nat} {K' : List Rw} (hE : Elm W' base be k t v' n' K') (hv : v'.ownBlock = v.ownBlock ∨ ∀ b, v'.ownBlock = some b → W.heap.size ≤ b) : RSt w base be k t n' v' K' qd nd cd D bx px cb bc u nc KC W' := by
  have hd2 : ∀ g, u.ownBlock = some g → v.ownBlock ≠ some g := fun g h1 h2 => h.dis g h2 h1
  refine ⟨h.bel.trans (chg_old hC h.elm.rows h.hw (Nat.le_trans h.hw h.elm.old) h.bel.size), hE, hC.rwn h.elm h.d h.hw, hC.blk2 h.elm h.box (by decide) (by decide), hC.elm h.elm h.cln (fun e => h.ne e.symm) hd2, h.ne, fun g h1 h2 => ?_, h.hw, h.hc⟩
  rcases hv with e | e
  · exact h.dis g (by rw [← e]; exact h1) h2
  · have := e g h1; have := (h.cln.rows.lt g h2).2; omega
theorem RSt.chgC (h : RSt w base be k t n v K qd nd cd D bx px cb bc u nc KC W) (hC : Chg W W' bc u) {u' : Value} {n' : Nat} {K' : List Rw} (hE : Elm W' cb bc k t u' n' K') (hv : u'.ownBlock = u.ownBlock ∨ ∀ b, u'.ownBlock = some b → W.heap.size ≤ b) : RSt w base be k t n v K qd nd cd D bx px cb bc u' n' K' W' := by
  refine ⟨h.bel.trans (chg_old hC h.cln.rows h.hc (Nat.le_trans h.hc h.cln.old) h.bel.size), hC.elm h.cln h.elm h.ne (fun g h1 h2 => h.dis g h1 h2), hC.rwn h.cln h.d h.hc, hC.blk2 h.cln h.box (by decide) (by decide), hE, h.ne, fun g h1 h2 => ?_, h.hw, h.hc⟩
  rcases hv with e | e
  · exact h.dis g h1 (by rw [← e]; exact h2)
  · have := e g h2; have := (h.elm.rows.lt g h1).2; omega
/-- a row in a box, its bytes its own -/
structure RBx (T b : Nat) (cs : Array Value) (W : World) (r1 r2 : Value) (X : Rw) : Prop where
  box : W.heap[b]? = some (.cells cs T (0, 0))
  is : cs = #[r1, r2]
  b1 : ∃ base, Bw 5 W base r1 X.1
  b2 : ∃ base, Bw 5 W base r2 X.2
theorem RBx.keep {T b : Nat} {cs : Array Value} {r1 r2 : Value} {X : Rw} (h : RBx T b cs W r1 r2 X) (hb : Below W.heap.size W W') : RBx T b cs W' r1 r2 X := by
  obtain ⟨h1, h2, ⟨a, h3⟩, ⟨c, h4⟩⟩ := h
  exact ⟨(hb.block _ (blk_lt h1)).trans h1, h2, ⟨a, h3.keep hb⟩, ⟨c, h4.keep hb⟩⟩
theorem RBx.chg {T b : Nat} {cs : Array Value} {r1 r2 : Value} {X : Rw} (h : RBx T b cs W r1 r2 X) (hC : Chg W W' be v) (hE : Elm W base be k t v n K) (hT : T ≠ 104) (hb : ∀ g, v.ownBlock = some g → g < b) : RBx T b cs W' r1 r2 X := by
  obtain ⟨h1, h2, ⟨a, h3⟩, ⟨c, h4⟩⟩ := h
  exact ⟨hC.blk hE h1 hT (fun e => by have := hb b e; omega), h2, ⟨a, hC.bw hE h3⟩, ⟨c, hC.bw hE h4⟩⟩
end
set_option maxRecDepth 100000 in
set_option maxHeartbeats 16000000 in
theorem EP_main (k t : Nat) (i : Int) (p : Option Addr) (m c : Nat) (L : List Rw) (w : World) (h : RwS w p m c L) (hf : few8 m L = true) (h1 : 1 ≤ k) (h2 : k ≤ 20) (h3 : t ≤ 20) :
    Calls Try.prog 6 #[.int .i64 k, .int .i64 t, .slice p m c, .int .i64 i] w fun e w' => e = .returned (.bool true) ∧ Below w.heap.size w w' := by
  have HF : Hid (∀ W, RwS W p m c L → Calls Try.prog 29 #[.slice p m c] W fun e w' => e = .returned (.bool true) ∧ Below W.heap.size W w') := fun W hW => by have := Few8_any p m c L W hW; rwa [hf] at this
  unfold few8 at hf
  rw [Bool.and_eq_true] at hf
  have hm : m ≤ 30 := of_decide_eq_true hf.2
  have HS : Hid (∀ x, x ∈ L → x.1.length ≤ 20 ∧ x.2.length ≤ 20) := fun x hx => by
    have := List.all_eq_true.1 hf.1 x hx
    rw [Bool.and_eq_true] at this
    exact ⟨of_decide_eq_true this.1, of_decide_eq_true this.2⟩
  have H := Lib.hid h; have HLEN := Lib.hid h.len
  have RM : Hid (∀ a : Nat, a ≤ 20 → Room a) := fun a ha => by unfold Room; omega
  clear h hf
  go_enter Try.func6, Try.ntmps6
  go_wp2_with fail
  refine Calls.mono (awake08 _) ?_
  rintro e w1 ⟨rfl, hb⟩
  have B1 := Lib.hid hb
  clear hb
  go_wp2_with fail
  refine Calls.mono (HF.out _ (H.out.keep B1.out)) ?_
  rintro e w2 ⟨rfl, hb⟩
  have B2 := Lib.hid (bl B1.out hb B1.out.size)
  clear hb B1 HF
  go_wp2_with fail
  refine Calls.mono (New_good k t w2 h1 (by omega) (by omega)) ?_
  rintro e w3 ⟨be, rfl, hE, hb⟩
  have B3 := Lib.hid (bl B2.out hb B2.out.size); have E3 := Lib.hid hE
  obtain ⟨base, hbase⟩ : ∃ base, base = w2.heap.size := ⟨_, rfl⟩
  rw [← hbase] at E3
  have hwb : w.heap.size ≤ base := by rw [hbase]; exact B2.out.size
  clear hb hE B2 hbase
  have a1 : (1 : Int) ≤ (k : Int) := by omega
  have a2 : (k : Int) ≤ 4096 := by omega
  have a3 : (t : Int) ≤ 65535 := by omega
  have a4 : (k : Int) ≤ 20 := by omega
  have a5 : (t : Int) ≤ 20 := by omega
  go_wp2_with fail
  refine Calls.mono (Size_any base be k t 0 _ [] w3 E3.out) ?_
  rintro e w4 ⟨rfl, hb⟩
  have ST0 : Hid (ESt w base be k t 0 none 0 (.slice none 0 0) [] [] w4) := ⟨bl B3.out hb B3.out.size, E3.out.keep hb, Sys.nil k t, fun r h => by simp at h, bl B3.out hb B3.out.size, rfl, [], World.ownsRow_nil _ _ _ _, fun j k h => by simp at h⟩
  clear hb B3 E3
  go_wp2
  clear a1 a2 a3 a4 a5
  go_loopw [13, 89] (fun d v wr => ∃ (j nd : Nat) (qd : Option Addr) (cd : Nat) (ve : Value) (D K : List Rw), j ≤ m ∧ nd ≤ j ∧ v = .int .i64 j ∧ d = .slice qd nd cd ∧ Hid (ESt w base be k t nd qd cd ve D K wr)) (fun _ v _ => m - (intOf v).toNat)
  case atStart => exact ⟨0, 0, none, 0, .slice none 0 0, [], [], Nat.zero_le _, Nat.le_refl _, rfl, rfl, ST0.out⟩
  case round =>
    clear ST0
    obtain ⟨j, nd, qd, cd, v, D, K, hj, hnd, rfl, rfl, hST⟩ := hrel
    have RED := Lib.hid hST.out.sys.red
    have HKL : Hid (K.length = nd) := hST.out.elm.rows.len
    have HDL : Hid (D.length = nd) := hST.out.d.2.1
    have HRM : Hid (∀ r, r ∈ K → Room r.1.length ∧ Room r.2.length) := fun r hr => by
      obtain ⟨hf, -⟩ := RED.out.kept.rows r hr
      exact ⟨RM.out _ (by rw [hf.1]; exact h2), RM.out _ (by rw [hf.2]; exact h3)⟩
    by_cases hjl : j < m
    · obtain ⟨x, hx⟩ : ∃ x, L[j]? = some x := ⟨_, List.getElem?_eq_getElem (by rw [HLEN.out]; exact hjl)⟩
      obtain ⟨bl0, ol0, p1, n1, c1, p2, n2, c2, rfl, d1, d2, s1, s2⟩ := H.out.row j x hx
      have D1 := (hST.out.bel.cell (p := ⟨bl0, ol0 + j * 2, none⟩) (lt_of_cell d1)).trans d1
      have D2 := (hST.out.bel.cell (p := ⟨bl0, ol0 + j * 2 + 1, none⟩) (lt_of_cell d2)).trans d2
      have S1 := Lib.hid s1; have S2 := Lib.hid s2
      have hx2 := HS.out x (List.mem_of_getElem? hx)
      have hn1 : n1 ≤ 20 := by rw [← s1.len]; exact hx2.1
      have hn2 : n2 ≤ 20 := by rw [← s2.len]; exact hx2.2
      have jn : (j : Int) < (m : Int) := by omega
      clear d1 d2 s1 s2 hx hx2
      go_wp2_with fail
      clear D1 D2
      refine use_w1 (fun W => Below wr.heap.size wr W ∧ W.heap[wr.heap.size]? = some (.cells #[.slice p1 n1 c1, .slice p2 n2 c2] 57 (0, 0))) ⟨al (Below.refl _ _) (Nat.le_refl _), hnew rfl⟩ ?_
      rintro w4 ⟨b4, x4⟩
      obtain ⟨b15, hb15⟩ : ∃ b15, b15 = wr.heap.size := ⟨_, rfl⟩
      rw [← hb15] at x4 ⊢
      refine Calls.mono (EClone_any base be k t nd v K w4 (hST.out.elm.keep b4) HRM.out (by omega)) ?_
      rintro e w5 ⟨bc, u, rfl, hC, hb⟩
      have R5 : Hid (RSt w base be k t nd v K qd nd cd D b15 #[.slice p1 n1 c1, .slice p2 n2 c2] w4.heap.size bc u nd K w5) := by
        have hE4 := hST.out.elm.keep b4
        have hwr := hST.out.bel.size
        refine ⟨bl (bl hST.out.bel b4 hwr) hb (Nat.le_trans hwr b4.size), hE4.keep hb, RwN.keep (RwN.keep hST.out.d b4) hb, (hb.block _ (blk_lt x4)).trans x4, hC, ?_, fun g e1 e2 => ?_, hwb, Nat.le_trans hwr b4.size⟩
        · have g1 := blk_lt hE4.box; have g2 := hC.old; omega
        · have g1 := (hE4.rows.lt g e1).2; have g2 := (hC.rows.lt g e2).1; omega
      have HSYS := Lib.hid hST.out.sys; have HFIT := Lib.hid hST.out.fit
      obtain ⟨cb, hcb⟩ : ∃ cb, cb = w4.heap.size := ⟨_, rfl⟩
      rw [← hcb] at R5
      clear hC hb b4 x4 hb15 hcb hST
      obtain ⟨y0, y1⟩ := cells2 R5.out.box
      go_wp2_with fail
      clear y0 y1
      refine Calls.mono (OMake_any p1 p2 n1 c1 n2 c2 x.1 x.2 w5 (S1.out.keep R5.out.bel) (S2.out.keep R5.out.bel) (RM.out _ hn1) (RM.out _ hn2)) ?_
      rintro e w6 ⟨q1, m1, g1, q2, m2, g2, l1, l2, rfl, o1, o2, hb⟩
      obtain rfl : n1 = m1 := by have g1 := l1.out; have g2 := S1.out.len; simp only at g1; omega
      obtain rfl : n2 = m2 := by have g1 := l2.out; have g2 := S2.out.len; simp only at g1; omega
      have R6 := Lib.hid (R5.out.keep hb)
      have T1 : Hid (Sl B8 w6 q1 n1 g1 x.1) := Sl.of_owns o1; have T2 : Hid (Sl B8 w6 q2 n2 g2 x.2) := Sl.of_owns o2
      clear o1 o2 hb R5 l1 l2
      go_wp2_with fail
      by_cases hfit : n1 = k ∧ n2 = t
      · obtain ⟨e1, e2⟩ := hfit
        have e1' := e1.symm; have e2' := e2.symm
        clear e1 e2
        subst e1'; subst e2'
        have HXF : Hid (Fit k t x) := ⟨S1.out.len, S2.out.len⟩
        refine Calls.mono (ERest_any base be k t nd v K q1 q2 g1 g2 x w6 R6.out.elm T1.out T2.out RED.out.kept.rows (by omega) (by omega)) ?_
        rintro e w7 ⟨r1, m1, z1, r2, m2, z2, l1, l2, rfl, o1, o2, hb⟩
        have R7 := Lib.hid (R6.out.keep hb)
        have O1 := Lib.hid (Bw.mk o1 l1.out); have O2 := Lib.hid (Bw.mk o2 l2.out)
        clear o1 o2 hb R6 T1 T2 l1 l2
        obtain ⟨y0, y1⟩ := cells2 (hal (o := .cells #[.slice r1 m1 z1, .slice r2 m2 z2] 61) R7.out.box)
        go_wp2_with fail
        clear y0 y1
        refine use_w1 (fun W => Below w7.heap.size w7 W ∧ W.heap[w7.heap.size]? = some (.cells #[.slice r1 m1 z1, .slice r2 m2 z2] 61 (0, 0))) ⟨al (Below.refl _ _) (Nat.le_refl _), hnew rfl⟩ ?_
        rintro w8 ⟨b8, x8⟩
        have V17 : Hid (∀ g, v.ownBlock = some g → g < w7.heap.size) := fun g hg => (R7.out.elm.rows.lt g hg).2
        have U17 : Hid (∀ g, u.ownBlock = some g → g < w7.heap.size) := fun g hg => (R7.out.cln.rows.lt g hg).2
        obtain ⟨b17, hb17⟩ : ∃ b17, b17 = w7.heap.size := ⟨_, rfl⟩
        rw [← hb17] at x8 V17 U17 ⊢
        have R8 := Lib.hid (R7.out.keep b8)
        have Q8 : Hid (RBx 61 b17 #[.slice r1 m1 z1, .slice r2 m2 z2] w8 (.slice r1 m1 z1) (.slice r2 m2 z2) (restF K x)) := ⟨x8, rfl, ⟨_, O1.out.keep b8⟩, ⟨_, O2.out.keep b8⟩⟩
        clear b8 x8 hb17 R7 O1 O2
        refine Calls.mono (OMake_any p1 p2 k c1 t c2 x.1 x.2 w8 (S1.out.keep R8.out.bel) (S2.out.keep R8.out.bel) (RM.out _ hn1) (RM.out _ hn2)) ?_
        rintro e w9 ⟨q1, m3, g1, q2, m4, g2, l1, l2, rfl, o1, o2, hb⟩
        obtain rfl : k = m3 := by have g1 := l1.out; have g2 := S1.out.len; simp only at g1; omega
        obtain rfl : t = m4 := by have g1 := l2.out; have g2 := S2.out.len; simp only at g1; omega
        have R9 := Lib.hid (R8.out.keep hb); have Q9 := Lib.hid (Q8.out.keep hb)
        have T1 : Hid (Sl B8 w9 q1 k g1 x.1) := Sl.of_owns o1; have T2 : Hid (Sl B8 w9 q2 t g2 x.2) := Sl.of_owns o2
        clear o1 o2 hb R8 Q8 l1 l2
        go_wp2_with fail
        refine Calls.mono (EPut_fit base be k t nd v K q1 q2 g1 g2 x w9 R9.out.elm T1.out T2.out RED.out (by omega) (by omega) (by omega)) ?_
        rintro e wa ⟨rfl, v', n', hE, hC, hv⟩
        have RA := Lib.hid (R9.out.chgS hC hE hv)
        have QA := Lib.hid (Q9.out.chg hC R9.out.elm (by decide) V17.out)
        have HN' : Hid (n' = (putD K D x).length) := by show _ = _; rw [← hE.rows.len]; exact putK_len x (by rw [HKL.out, HDL.out])
        obtain ⟨CD, hCD⟩ : ∃ CD, CD = codeF K x := ⟨_, rfl⟩
        rw [← hCD]
        have HCD := Lib.hid hCD
        clear hE hC hv R9 Q9 T1 T2 hCD
        go_wp2_with fail
        refine use_w1 (fun W => Below wa.heap.size wa W ∧ Sl B8 W (some ⟨wa.heap.size, 0, none⟩) 2 2 [0, 7]) ⟨al (Below.refl _ _) (Nat.le_refl _), sl_block [0, 7] 2 (hnew rfl) rfl rfl (by simp [maxLen])⟩ ?_
        rintro wb ⟨bb, sb⟩
        refine Calls.mono (Fit8_any k t _ _ 2 2 0 0 ([0, 7], []) wb sb (Sl.nil0 _ _) (by omega) (by omega)) ?_
        rintro e wc ⟨q1, f1, q2, f2, xs, ys, rfl, t1, t2, hb⟩
        have RC := Lib.hid ((RA.out.keep bb).keep hb); have QC := Lib.hid ((QA.out.keep bb).keep hb)
        have T1 := Lib.hid t1; have T2 := Lib.hid t2
        clear bb sb hb t1 t2 RA QA
        go_wp2_with fail
        refine Calls.mono (OMake_any q1 q2 k f1 t f2 xs ys wc T1.out T2.out (RM.out _ h2) (RM.out _ h3)) ?_
        rintro e wd ⟨q3, m3, g3, q4, m4, g4, l1, l2, rfl, o1, o2, hb⟩
        obtain rfl : k = m3 := by have g1 := l1.out; have g2 := T1.out.len; simp only at g1; omega
        obtain rfl : t = m4 := by have g1 := l2.out; have g2 := T2.out.len; simp only at g1; omega
        have RD := Lib.hid (RC.out.keep hb); have QD := Lib.hid (QC.out.keep hb)
        have T3 : Hid (Sl B8 wd q3 k g3 (xs, ys).1) := Sl.of_owns o1; have T4 : Hid (Sl B8 wd q4 t g4 (xs, ys).2) := Sl.of_owns o2
        clear o1 o2 hb RC QC l1 l2 T1 T2
        go_wp2_with fail
        refine Calls.mono (EPut_fit cb bc k t nd u K q3 q4 g3 g4 (xs, ys) wd RD.out.cln T3.out T4.out RED.out (by omega) (by omega) (by omega)) ?_
        rintro e we ⟨rfl, u', n2', hE, hC, hv⟩
        have RE := Lib.hid (RD.out.chgC hC hE hv)
        have QE := Lib.hid (QD.out.chg hC RD.out.cln (by decide) U17.out)
        generalize codeF K (xs, ys) = CC
        clear hE hC hv RD QD T3 T4 U17 V17
        obtain ⟨y0, y1⟩ := cells2 RE.out.box
        go_wp2_with fail
        refine Calls.mono (ORef_any p1 p2 k c1 t c2 we) ?_
        rintro e wf ⟨rfl, hb⟩
        have RF := Lib.hid (RE.out.keep hb); have QF := Lib.hid (QE.out.keep hb)
        clear hb RE QE y0 y1
        go_wp2_with fail
        have HR8 : Hid (∀ W, RwS W qd nd cd D → Sl B8 W p1 k c1 x.1 → Sl B8 W p2 t c2 x.2 → Calls Try.prog 37 #[.slice qd nd cd, .agg #[.slice p1 k c1, .slice p2 t c2]] W (RetS W (restF K x))) := fun W a b d => by
          have := RRest8_any k t qd nd cd D p1 p2 k c1 t c2 x W a b d HFIT.out HXF.out (RM.out _ h2) (RM.out _ h3) (by omega)
          rwa [← HSYS.out.same] at this
        refine Calls.mono (HR8.out wf RF.out.d.rwS (S1.out.keep RF.out.bel) (S2.out.keep RF.out.bel)) ?_
        rintro e wg ⟨a1, d1, e1, a2, d2, e2, rfl, t1, t2, hb⟩
        have RG := Lib.hid (RF.out.keep hb); have QG := Lib.hid (QF.out.keep hb)
        have T1 := Lib.hid t1; have T2 := Lib.hid t2
        clear hb t1 t2 RF QF HR8
        obtain ⟨y0, y1⟩ := cells2 (hal (o := .cells #[.slice a1 d1 e1, .slice a2 d2 e2] 68) RG.out.box)
        go_wp2_with fail
        clear y0 y1
        refine use_w1 (fun W => Below wg.heap.size wg W ∧ W.heap[wg.heap.size]? = some (.cells #[.slice a1 d1 e1, .slice a2 d2 e2] 68 (0, 0))) ⟨al (Below.refl _ _) (Nat.le_refl _), hnew rfl⟩ ?_
        rintro wh ⟨bh, xh⟩
        obtain ⟨b21, hb21⟩ : ∃ b21, b21 = wg.heap.size := ⟨_, rfl⟩
        rw [← hb21] at xh ⊢
        refine Calls.mono (ORef_any p1 p2 k c1 t c2 wh) ?_
        rintro e wi ⟨rfl, hb⟩
        have RI := Lib.hid ((RG.out.keep bh).keep hb); have QI := Lib.hid ((QG.out.keep bh).keep hb)
        have T1I := Lib.hid ((T1.out.keep bh).keep hb); have T2I := Lib.hid ((T2.out.keep bh).keep hb); have XI := Lib.hid ((hb.block _ (blk_lt xh)).trans xh)
        clear hb bh xh hb21 RG QG T1 T2
        go_wp2_with fail
        refine Calls.mono (RPut8_fit k t qd nd cd D K p1 p2 k c1 t c2 x w wi RI.out.d S1.out S2.out HFIT.out HXF.out (RM.out _ h2) (RM.out _ h3) (by omega) HSYS.out) ?_
        rintro e wj ⟨qn, nn, cn, rfl, hnn, hDN, hb⟩
        rw [← HCD.out]
        have RJ := Lib.hid (RI.out.keep hb); have QJ := Lib.hid (QI.out.keep hb)
        have T1J := Lib.hid (T1I.out.keep hb); have T2J := Lib.hid (T2I.out.keep hb); have XJ := Lib.hid ((hb.block _ (blk_lt XI.out)).trans XI.out)
        have DN := Lib.hid hDN
        have hnle : nn ≤ j + 1 := by have g1 := putD_le K D x; have g2 := HDL.out; omega
        obtain rfl : n' = nn := by rw [HN'.out, hnn]
        have HSYS' : Hid (Sys k t (kD (putD K D x)) (putK K x)) := HSYS.out.putK HXF.out
        have HFIT' : Hid (∀ r, r ∈ putD K D x → Fit k t r) := putD_fit HFIT.out HXF.out
        clear hb hDN hnn RI QI T1I T2I XI HCD HN'
        obtain ⟨u0, u1⟩ := cells2 XJ.out
        obtain ⟨v0, v1⟩ := cells2 QJ.out.box
        have Z1 : Hid (Sl B8 wj r1 m1 z1 (restF K x).1) := by obtain ⟨b, hq⟩ := QJ.out.b1; exact hq.sl'
        have Z2 : Hid (Sl B8 wj r2 m2 z2 (restF K x).2) := by obtain ⟨b, hq⟩ := QJ.out.b2; exact hq.sl'
        go_wp2
        refine wp_region_shapes (fun ix => ([.val (.int .i64 0), .val (.bool false), .val (.bool false), .val (.int .i64 0), .val (.bool false), .val (.bool false), .val (.bool false), .val (.int .i64 CD), .val (.int .i64 CD), .val (.bool false), .val (.bool false), .val (.bool false), .val (.agg #[.slice r1 m1 z1, .slice r2 m2 z2]), .val (.agg #[.slice r1 m1 z1, .slice r2 m2 z2]), .val (.agg #[.slice a1 d1 e1, .slice a2 d2 e2]), .val (.bool true), .val (.bool false), .val (.bool false)][ix]?).getD (.any)) 262 rfl (by kernel_rfl) (by decide) (by decide) (by decide) ?_ ?_
        · refine ⟨?_, ?_, ?_, ?_, ?_, ?_, ?_, ?_, ?_, ?_, ?_, ?_, ?_, ?_, ?_, ?_, ?_, ?_, trivial⟩
          · intro a W hb0 hs hp hi; have hb := undrew hb0; clear hb0
            have t18 : sl a 18 = .int .i64 0 := hi 18 (by decide)
            exact ite_y rfl (wp_val (sl a 18) rfl ⟨_, rfl, Below.refl _ _, t18⟩)
          · intro a W hb0 hs hp hi; have hb := undrew hb0; clear hb0
            have t160 : sl a 160 = .int .i64 0 := hp 0 (by decide)
            refine ite_y rfl (wp_val (.bool false) ?_ ?_)
            · simp only [execOp, eval_tmp, eval_const, t160]; simp [go_sem]
            · exact ⟨_, rfl, Below.refl _ _, rfl⟩
          · intro a W hb0 hs hp hi; have hb := undrew hb0; clear hb0
            have t161 : sl a 161 = .bool false := hp 1 (by decide)
            exact ite_y rfl (wp_val (sl a 161) rfl ⟨_, rfl, Below.refl _ _, t161⟩)
          · intro a W hb0 hs hp hi; have hb := undrew hb0; clear hb0
            have tg : sl a 162 = .bool false := hp 2 (by decide)
            have t20 : sl a 20 = .int .i64 0 := hi 20 (by decide)
            exact ite_y (wanted_yes rfl rfl (by have hz : a.tmps.size = 262 := hs; rw [hz]; decide) tg) (wp_val (sl a 20) rfl ⟨_, rfl, Below.refl _ _, t20⟩)
          · intro a W hb0 hs hp hi; have hb := undrew hb0; clear hb0
            have tg : sl a 162 = .bool false := hp 2 (by decide)
            have t163 : sl a 163 = .int .i64 0 := hp 3 (by decide)
            refine ite_y (wanted_yes rfl rfl (by have hz : a.tmps.size = 262 := hs; rw [hz]; decide) tg) (wp_val (.bool false) ?_ ?_)
            · simp only [execOp, eval_tmp, eval_const, t163]; simp [go_sem]
            · exact ⟨_, rfl, Below.refl _ _, rfl⟩
          · intro a W hb0 hs hp hi; have hb := undrew hb0; clear hb0
            have t162 : sl a 162 = .bool false := hp 2 (by decide)
            have t164 : sl a 164 = .bool false := hp 4 (by decide)
            refine ite_y rfl (wp_val (.bool false) ?_ ?_)
            · simp only [execOp, eval_tmp, eval_const, t162, t164]; simp [go_sem]
            · exact ⟨_, rfl, Below.refl _ _, rfl⟩
          · intro a W hb0 hs hp hi; have hb := undrew hb0; clear hb0
            have t165 : sl a 165 = .bool false := hp 5 (by decide)
            exact ite_y rfl (wp_val (sl a 165) rfl ⟨_, rfl, Below.refl _ _, t165⟩)
          · intro a W hb0 hs hp hi; have hb := undrew hb0; clear hb0
            have tg : sl a 166 = .bool false := hp 6 (by decide)
            have t19 : sl a 19 = .int .i64 CD := hi 19 (by decide)
            exact ite_y (wanted_yes rfl rfl (by have hz : a.tmps.size = 262 := hs; rw [hz]; decide) tg) (wp_val (sl a 19) rfl ⟨_, rfl, Below.refl _ _, t19⟩)
          · intro a W hb0 hs hp hi; have hb := undrew hb0; clear hb0
            have tg : sl a 166 = .bool false := hp 6 (by decide)
            have t23 : sl a 23 = .int .i64 CD := hi 23 (by decide)
            exact ite_y (wanted_yes rfl rfl (by have hz : a.tmps.size = 262 := hs; rw [hz]; decide) tg) (wp_val (sl a 23) rfl ⟨_, rfl, Below.refl _ _, t23⟩)
          · intro a W hb0 hs hp hi; have hb := undrew hb0; clear hb0
            have tg : sl a 166 = .bool false := hp 6 (by decide)
            have t167 : sl a 167 = .int .i64 CD := hp 7 (by decide)
            have t168 : sl a 168 = .int .i64 CD := hp 8 (by decide)
            refine ite_y (wanted_yes rfl rfl (by have hz : a.tmps.size = 262 := hs; rw [hz]; decide) tg) (wp_val (.bool false) ?_ ?_)
            · simp only [execOp, eval_tmp, eval_const, t167, t168]; simp [go_sem]
            · exact ⟨_, rfl, Below.refl _ _, rfl⟩
          · intro a W hb0 hs hp hi; have hb := undrew hb0; clear hb0
            have t166 : sl a 166 = .bool false := hp 6 (by decide)
            have t169 : sl a 169 = .bool false := hp 9 (by decide)
            refine ite_y rfl (wp_val (.bool false) ?_ ?_)
            · simp only [execOp, eval_tmp, eval_const, t166, t169]; simp [go_sem]
            · exact ⟨_, rfl, Below.refl _ _, rfl⟩
          · intro a W hb0 hs hp hi; have hb := undrew hb0; clear hb0
            have t170 : sl a 170 = .bool false := hp 10 (by decide)
            exact ite_y rfl (wp_val (sl a 170) rfl ⟨_, rfl, Below.refl _ _, t170⟩)
          · intro a W hb0 hs hp hi; have hb := undrew hb0; clear hb0
            have tg : sl a 171 = .bool false := hp 11 (by decide)
            have tt : sl a 17 = .pointer (some ⟨b17, 0, none⟩) := hi 17 (by decide)
            have dd0 := (hb.cell (p := ⟨b17, 0, none⟩) (lt_of_cell v0)).trans v0
            have dd1 := (hb.cell (p := ⟨b17, 1, none⟩) (lt_of_cell v1)).trans v1
            refine ite_y (wanted_yes rfl rfl (by have hz : a.tmps.size = 262 := hs; rw [hz]; decide) tg) (wp_val (.agg #[.slice r1 m1 z1, .slice r2 m2 z2]) ?_ ?_)
            · simp only [execOp, eval_tmp, tt]; simp [go_sem, dd0, dd1]
            · exact ⟨_, rfl, Below.refl _ _, rfl⟩
          · intro a W hb0 hs hp hi; have hb := undrew hb0; clear hb0
            have tg : sl a 171 = .bool false := hp 11 (by decide)
            have t172 : sl a 172 = .agg #[.slice r1 m1 z1, .slice r2 m2 z2] := hp 12 (by decide)
            refine ite_y (wanted_yes rfl rfl (by have hz : a.tmps.size = 262 := hs; rw [hz]; decide) tg) (wp_enter 41 #[.agg #[.slice r1 m1 z1, .slice r2 m2 z2]] ?_ (Of03_any r1 r2 m1 z1 m2 z2 W) ?_)
            · simp only [execOp, resolve, List.map_toArray, List.map, eval_tmp, eval_func, eval_const, t172]; simp [go_sem]
            · rintro e W' ⟨rfl, hw⟩; exact ⟨_, rfl, _, rfl, hw, rfl⟩
          · intro a W hb0 hs hp hi; have hb := undrew hb0; clear hb0
            have tg : sl a 171 = .bool false := hp 11 (by decide)
            have tt : sl a 21 = .pointer (some ⟨b21, 0, none⟩) := hi 21 (by decide)
            have dd0 := (hb.cell (p := ⟨b21, 0, none⟩) (lt_of_cell u0)).trans u0
            have dd1 := (hb.cell (p := ⟨b21, 1, none⟩) (lt_of_cell u1)).trans u1
            refine ite_y (wanted_yes rfl rfl (by have hz : a.tmps.size = 262 := hs; rw [hz]; decide) tg) (wp_val (.agg #[.slice a1 d1 e1, .slice a2 d2 e2]) ?_ ?_)
            · simp only [execOp, eval_tmp, tt]; simp [go_sem, dd0, dd1]
            · exact ⟨_, rfl, Below.refl _ _, rfl⟩
          · intro a W hb0 hs hp hi; have hb := undrew hb0; clear hb0
            have tg : sl a 171 = .bool false := hp 11 (by decide)
            have t173 : sl a 173 = .agg #[.slice r1 m1 z1, .slice r2 m2 z2] := hp 13 (by decide)
            have t174 : sl a 174 = .agg #[.slice a1 d1 e1, .slice a2 d2 e2] := hp 14 (by decide)
            refine ite_y (wanted_yes rfl rfl (by have hz : a.tmps.size = 262 := hs; rw [hz]; decide) tg) (wp_enter 40 #[.agg #[.slice r1 m1 z1, .slice r2 m2 z2], .agg #[.slice a1 d1 e1, .slice a2 d2 e2]] ?_ (RVSame_any r1 r2 a1 a2 m1 z1 m2 z2 d1 e1 d2 e2 (restF K x).1 (restF K x).2 (restF K x).1 (restF K x).2 W (Z1.out.keep hb) (Z2.out.keep hb) (T1J.out.keep hb) (T2J.out.keep hb)) ?_)
            · simp only [execOp, resolve, List.map_toArray, List.map, eval_tmp, eval_func, eval_const, t173, t174]; simp [go_sem]
            · rintro e W' ⟨rfl, hw⟩; exact ⟨_, rfl, _, rfl, hw, congrArg Value.bool (decide_eq_true rfl)⟩
          · intro a W hb0 hs hp hi; have hb := undrew hb0; clear hb0
            have tg : sl a 171 = .bool false := hp 11 (by decide)
            have t175 : sl a 175 = .bool true := hp 15 (by decide)
            refine ite_y (wanted_yes rfl rfl (by have hz : a.tmps.size = 262 := hs; rw [hz]; decide) tg) (wp_val (.bool false) ?_ ?_)
            · simp only [execOp, eval_tmp, eval_const, t175]; simp [go_sem]
            · exact ⟨_, rfl, Below.refl _ _, rfl⟩
          · intro a W hb0 hs hp hi; have hb := undrew hb0; clear hb0
            have t171 : sl a 171 = .bool false := hp 11 (by decide)
            have t176 : sl a 176 = .bool false := hp 16 (by decide)
            refine ite_y rfl (wp_val (.bool false) ?_ ?_)
            · simp only [execOp, eval_tmp, eval_const, t171, t176]; simp [go_sem]
            · exact ⟨_, rfl, Below.refl _ _, rfl⟩
        intro a wk hb hs hd hI ht
        have ha := act_is [160, 161, 162, 163, 164, 165, 166, 167, 168, 169, 170, 171, 172, 173, 174, 175, 176, 177] hs hd ht (by decide)
        have t177 : sl a 177 = .bool false := hI 17 (by decide)
        simp only [List.foldl, t177] at ha
        generalize sl a 160 = u160 at ha
        generalize sl a 161 = u161 at ha
        generalize sl a 162 = u162 at ha
        generalize sl a 163 = u163 at ha
        generalize sl a 164 = u164 at ha
        generalize sl a 165 = u165 at ha
        generalize sl a 166 = u166 at ha
        generalize sl a 167 = u167 at ha
        generalize sl a 168 = u168 at ha
        generalize sl a 169 = u169 at ha
        generalize sl a 170 = u170 at ha
        generalize sl a 171 = u171 at ha
        generalize sl a 172 = u172 at ha
        generalize sl a 173 = u173 at ha
        generalize sl a 174 = u174 at ha
        generalize sl a 175 = u175 at ha
        generalize sl a 176 = u176 at ha
        simp only [Act.put, List.setIfInBounds_toArray, List.set_cons_zero, List.set_cons_succ] at ha
        rw [ha]
        clear ha hI ht
        have K1 : Hid (ESt w base be k t n' qn cn v' (putD K D x) (putK K x) wk) := ⟨bl RJ.out.bel hb RJ.out.bel.size, RJ.out.elm.keep hb, HSYS'.out, HFIT'.out, RwN.keep DN.out hb⟩
        clear hb RJ QJ T1J T2J XJ DN Z1 Z2 u0 u1 v0 v1 HSYS HFIT HSYS' HFIT' HXF S1 S2 RED HKL HDL HRM
        obtain ⟨DD, hDD⟩ : ∃ DD, DD = putD K D x := ⟨_, rfl⟩
        obtain ⟨KK, hKK⟩ : ∃ KK, KK = putK K x := ⟨_, rfl⟩
        rw [← hDD, ← hKK] at K1
        clear hDD hKK
        have RED := Lib.hid K1.out.sys.red
        have HRM : Hid (∀ r, r ∈ KK → Room r.1.length ∧ Room r.2.length) := fun r hr => by
          obtain ⟨hf, -⟩ := RED.out.kept.rows r hr
          exact ⟨RM.out _ (by rw [hf.1]; exact h2), RM.out _ (by rw [hf.2]; exact h3)⟩
        have HT2 : Hid (∀ r, r ∈ KK → r.2.length ≤ 65535) := fun r hr => by
          obtain ⟨hf, -⟩ := RED.out.kept.rows r hr
          rw [hf.2]; omega
        go_wp2_with fail
        refine Calls.mono (Known_any base be k t n' v' KK i wk K1.out.elm HT2.out) ?_
        rintro e wl ⟨q8, m8, c8, rfl, t8, hb⟩
        have K2 : Hid (ESt w base be k t n' qn cn v' DD KK wl) := ⟨bl K1.out.bel hb K1.out.bel.size, K1.out.elm.keep hb, K1.out.sys, K1.out.fit, RwN.keep K1.out.d hb⟩
        have T8 := Lib.hid t8
        have HK8 : Hid (∀ W, RwS W qn n' cn DD → Calls Try.prog 43 #[.slice qn n' cn, .int .i64 i] W (RetK2 W (knownS k KK i))) := fun W a => by
          have := RKnown8_any k t qn n' cn DD i W a K2.out.fit (RM.out _ h2) (RM.out _ h3) (by omega) (by omega)
          rwa [← K2.out.sys.same] at this
        clear hb t8 K1
        go_wp2_with fail
        refine Calls.mono (HK8.out wl K2.out.d.rwS) ?_
        rintro e wm ⟨q9, m9, c9, rfl, t9, hb⟩
        have K3 : Hid (ESt w base be k t n' qn cn v' DD KK wm) := ⟨bl K2.out.bel hb K2.out.bel.size, K2.out.elm.keep hb, K2.out.sys, K2.out.fit, RwN.keep K2.out.d hb⟩
        have T83 := Lib.hid (T8.out.keep hb); have T93 := Lib.hid t9
        clear hb t9 K2 T8 HK8
        go_wp2_with fail
        refine Calls.mono (Rank_any' base be k t n' v' KK wm K3.out.elm) ?_
        rintro e w' ⟨rfl, rfl⟩
        go_wp2_with fail
        refine Calls.mono (ERows_any base be k t n' v' KK wm K3.out.elm HRM.out (by omega)) ?_
        rintro e wn ⟨vr, rfl, hRL, hb⟩
        obtain ⟨qr, cr, rfl⟩ := hRL.shape
        have K4 : Hid (ESt w base be k t n' qn cn v' DD KK wn) := ⟨bl K3.out.bel hb K3.out.bel.size, K3.out.elm.keep hb, K3.out.sys, K3.out.fit, RwN.keep K3.out.d hb⟩
        have T84 := Lib.hid (T83.out.keep hb); have T94 := Lib.hid (T93.out.keep hb); have RL := Lib.hid hRL.rwS
        have HRR : Hid (∀ W, RwS W qn n' cn DD → Calls Try.prog 47 #[.slice qn n' cn] W (RetKN W KK)) := fun W a => by
          have := RRows_any k t qn n' cn DD W a K4.out.fit (RM.out _ h2) (RM.out _ h3) (by omega)
          rwa [← K4.out.sys.same] at this
        clear hb hRL K3 T83 T93
        go_wp2_with fail
        refine Calls.mono (HRR.out wn K4.out.d.rwS) ?_
        rintro e wo ⟨qs, ns, cs, hns, rfl, hRS, hb, -⟩
        have K5 : Hid (ESt w base be k t n' qn cn v' DD KK wo) := ⟨bl K4.out.bel hb K4.out.bel.size, K4.out.elm.keep hb, K4.out.sys, K4.out.fit, RwN.keep K4.out.d hb⟩
        have T85 := Lib.hid (T84.out.keep hb); have T95 := Lib.hid (T94.out.keep hb); have RL5 := Lib.hid (RL.out.keep hb)
        obtain rfl : n' = ns := by rw [hns]; exact K5.out.elm.rows.len.symm
        have RS5 := Lib.hid hRS
        clear hb hRS hns K4 T84 T94 RL HRR
        go_wp2_with fail
        refine Calls.mono (Same8_any qr qs n' cr cs KK wo RL5.out RS5.out) ?_
        rintro e wp ⟨rfl, hb⟩
        have K6 : Hid (ESt w base be k t n' qn cn v' DD KK wp) := ⟨bl K5.out.bel hb K5.out.bel.size, K5.out.elm.keep hb, K5.out.sys, K5.out.fit, RwN.keep K5.out.d hb⟩
        have T86 := Lib.hid (T85.out.keep hb); have T96 := Lib.hid (T95.out.keep hb)
        clear hb K5 T85 T95 RL5 RS5
        generalize knownS k KK i = KN at T86 T96 ⊢
        go_wp2_with fail
        refine Calls.mono (Same_any q8 q9 m8 m9 c8 c9 KN.1 KN.1 wp T86.out T96.out) ?_
        rintro e wq ⟨rfl, hb⟩
        rw [decide_eq_true rfl]
        have K7 : Hid (ESt w base be k t n' qn cn v' DD KK wq) := ⟨bl K6.out.bel hb K6.out.bel.size, K6.out.elm.keep hb, K6.out.sys, K6.out.fit, RwN.keep K6.out.d hb⟩
        clear hb K6 T86 T96 RED HRM HT2
        go_wp2
        go_roundw
        case rel => exact ⟨j + 1, n', qn, cn, v', DD, KK, by omega, hnle, by go_num, rfl, K7.out⟩
        case measure => simp [intOf]; omega
      · have hne : n1 ≠ k ∨ n2 ≠ t := by omega
        refine Calls.mono (ERest_size base be k t nd n1 n2 v K q1 q2 g1 g2 w6 R6.out.elm hne) ?_
        rintro e w7 ⟨rfl, hb⟩
        have R7 := Lib.hid (R6.out.keep hb)
        clear hb R6 T1 T2
        obtain ⟨y0, y1⟩ := cells2 (hal (o := .cells #[.slice none 0 0, .slice none 0 0] 61) R7.out.box)
        go_wp2_with fail
        clear y0 y1
        refine use_w1 (fun W => Below w7.heap.size w7 W ∧ W.heap[w7.heap.size]? = some (.cells #[.slice none 0 0, .slice none 0 0] 61 (0, 0))) ⟨al (Below.refl _ _) (Nat.le_refl _), hnew rfl⟩ ?_
        rintro w8 ⟨b8, x8⟩
        have U17 : Hid (∀ g, u.ownBlock = some g → g < w7.heap.size) := fun g hg => (R7.out.cln.rows.lt g hg).2
        obtain ⟨b17, hb17⟩ : ∃ b17, b17 = w7.heap.size := ⟨_, rfl⟩
        rw [← hb17] at x8 U17 ⊢
        have R8 := Lib.hid (R7.out.keep b8)
        have Q8 : Hid (RBx 61 b17 #[.slice none 0 0, .slice none 0 0] w8 (.slice none 0 0) (.slice none 0 0) ([], [])) := ⟨x8, rfl, ⟨0, none, 0, 0, rfl, rfl, World.ownsRow_nil _ _ _ _⟩, ⟨0, none, 0, 0, rfl, rfl, World.ownsRow_nil _ _ _ _⟩⟩
        clear b8 x8 hb17 R7
        refine Calls.mono (OMake_any p1 p2 n1 c1 n2 c2 x.1 x.2 w8 (S1.out.keep R8.out.bel) (S2.out.keep R8.out.bel) (RM.out _ hn1) (RM.out _ hn2)) ?_
        rintro e w9 ⟨q1, m3, g1, q2, m4, g2, l1, l2, rfl, o1, o2, hb⟩
        obtain rfl : n1 = m3 := by have g1 := l1.out; have g2 := S1.out.len; simp only at g1; omega
        obtain rfl : n2 = m4 := by have g1 := l2.out; have g2 := S2.out.len; simp only at g1; omega
        have R9 := Lib.hid (R8.out.keep hb); have Q9 := Lib.hid (Q8.out.keep hb)
        clear o1 o2 hb R8 Q8 l1 l2
        go_wp2_with fail
        refine Calls.mono (EPut_size base be k t nd n1 n2 v K q1 q2 g1 g2 w9 R9.out.elm hne) ?_
        rintro e wa ⟨rfl, hb⟩
        have RA := Lib.hid (R9.out.keep hb)
        have QA := Lib.hid (Q9.out.keep hb)
        clear hb R9 Q9
        go_wp2_with fail
        refine use_w1 (fun W => Below wa.heap.size wa W ∧ Sl B8 W (some ⟨wa.heap.size, 0, none⟩) 2 2 [0, 7]) ⟨al (Below.refl _ _) (Nat.le_refl _), sl_block [0, 7] 2 (hnew rfl) rfl rfl (by simp [maxLen])⟩ ?_
        rintro wb ⟨bb, sb⟩
        refine Calls.mono (Fit8_any k t _ _ 2 2 0 0 ([0, 7], []) wb sb (Sl.nil0 _ _) (by omega) (by omega)) ?_
        rintro e wc ⟨q1, f1, q2, f2, xs, ys, rfl, t1, t2, hb⟩
        have RC := Lib.hid ((RA.out.keep bb).keep hb); have QC := Lib.hid ((QA.out.keep bb).keep hb)
        have T1 := Lib.hid t1; have T2 := Lib.hid t2
        clear bb sb hb t1 t2 RA QA
        go_wp2_with fail
        refine Calls.mono (OMake_any q1 q2 k f1 t f2 xs ys wc T1.out T2.out (RM.out _ h2) (RM.out _ h3)) ?_
        rintro e wd ⟨q3, m3, g3, q4, m4, g4, l1, l2, rfl, o1, o2, hb⟩
        obtain rfl : k = m3 := by have g1 := l1.out; have g2 := T1.out.len; simp only at g1; omega
        obtain rfl : t = m4 := by have g1 := l2.out; have g2 := T2.out.len; simp only at g1; omega
        have RD := Lib.hid (RC.out.keep hb); have QD := Lib.hid (QC.out.keep hb)
        have T3 : Hid (Sl B8 wd q3 k g3 (xs, ys).1) := Sl.of_owns o1; have T4 : Hid (Sl B8 wd q4 t g4 (xs, ys).2) := Sl.of_owns o2
        clear o1 o2 hb RC QC l1 l2 T1 T2
        go_wp2_with fail
        refine Calls.mono (EPut_fit cb bc k t nd u K q3 q4 g3 g4 (xs, ys) wd RD.out.cln T3.out T4.out RED.out (by omega) (by omega) (by omega)) ?_
        rintro e we ⟨rfl, u', n2', hE, hC, hv⟩
        have RE := Lib.hid (RD.out.chgC hC hE hv)
        have QE := Lib.hid (QD.out.chg hC RD.out.cln (by decide) U17.out)
        generalize codeF K (xs, ys) = CC
        have K1 : Hid (ESt w base be k t nd qd cd v D K we) := ⟨RE.out.bel, RE.out.elm, HSYS.out, HFIT.out, RE.out.d⟩
        clear hE hC hv RD QD T3 T4 U17
        obtain ⟨y0, y1⟩ := cells2 RE.out.box
        obtain ⟨v0, v1⟩ := cells2 QE.out.box
        by_cases e1 : n1 = k
        · have dd1 : ((n1 : Int) != (k : Int)) = false := by simp; omega
          have dd2 : ((n2 : Int) != (t : Int)) = true := by simp; omega
          clear e1 hne hfit
          go_wp2
          go_roundw
          case rel => exact ⟨j + 1, nd, qd, cd, v, D, K, by omega, by omega, by go_num, rfl, K1.out⟩
          case measure => simp [intOf]; omega
        · have dd1 : ((n1 : Int) != (k : Int)) = true := by simp; omega
          clear e1 hne hfit
          go_wp2
          go_roundw
          case rel => exact ⟨j + 1, nd, qd, cd, v, D, K, by omega, by omega, by go_num, rfl, K1.out⟩
          case measure => simp [intOf]; omega
    · have hge : (m : Int) ≤ (j : Int) := by omega
      by_cases hlt : nd < k
      · have hlt' : (nd : Int) < (k : Int) := by omega
        go_wp2_with fail
        refine Calls.mono (ESolve_less base be k t nd v K wr hST.out.elm hlt) ?_
        rintro e w5 ⟨rfl, hb⟩
        have BF := Lib.hid (bl hST.out.bel hb hST.out.bel.size)
        clear hb hST hlt RED HKL HDL HRM
        go_wp2
        go_ret
        exact ⟨rfl, BF.out⟩
      · have hnk : k = nd := by have g1 := RED.out.le; have g2 := HKL.out; omega
        subst hnk
        have HE := Lib.hid hST.out.elm; have HB := Lib.hid hST.out.bel
        have HT2 : Hid (∀ r, r ∈ K → r.2.length ≤ 65535) := fun r hr => by
          obtain ⟨hf, -⟩ := RED.out.kept.rows r hr
          rw [hf.2]; omega
        clear hlt hST HDL
        go_wp2_with fail
        refine Calls.mono (ESolve_full base be k t v K wr HE.out (fun r hr => (HRM.out r hr).2) (by omega)) ?_
        rintro e w5 ⟨qs, cs, rfl, hO, hb⟩
        have E5 := Lib.hid (HE.out.keep hb); have B5 := Lib.hid (bl HB.out hb HB.out.size); have O5 := Lib.hid hO.sl2
        clear hO hb HE HB HRM
        go_wp2
        go_loopw [233] (fun x wr => ∃ a : Nat, a ≤ k ∧ x = .int .i64 a ∧ Hid (Below w.heap.size w wr) ∧ Hid (Elm wr base be k t v k K) ∧ Hid (Sl2 wr qs k cs (K.map (·.2)))) (fun x _ => k - (intOf x).toNat)
        case atStart => exact ⟨0, Nat.zero_le _, rfl, B5.out, E5.out, O5.out⟩
        case round =>
          clear B5 E5 O5
          obtain ⟨a, ha, rfl, hB, hE, hO⟩ := hrel
          by_cases hak : a < k
          · have an : (a : Int) < (k : Int) := by omega
            obtain ⟨kk, hkk⟩ : ∃ kk, K[a]? = some kk := ⟨_, List.getElem?_eq_getElem (by rw [HKL.out]; exact hak)⟩
            have HKN : Hid (∀ W, Elm W base be k t v k K → Calls Try.prog 42 #[.pointer (some ⟨be, 0, none⟩), .int .i64 a] W (RetK2 W (kk.2, true))) := fun W hW => by
              have := Known_any base be k t k v K a W hW HT2.out
              rwa [known_full RED.out HKL.out (by omega) hkk] at this
            obtain ⟨b, o, q, mx, cx, row, rfl, hc, hs, hx⟩ := hO.out.at a hak
            obtain rfl : kk.2 = row := by have g := hx.out; rw [List.getElem?_map, hkk] at g; simpa using g
            have HC := Lib.hid hc; have HSR := Lib.hid hs
            clear hc hs hx hkk
            go_wp2_with fail
            refine Calls.mono (HKN.out wr hE.out) ?_
            rintro e w6 ⟨q8, m8, c8, rfl, t8, hb⟩
            have B6 := Lib.hid (bl hB.out hb hB.out.size); have E6 := Lib.hid (hE.out.keep hb); have O6 := Lib.hid (hO.out.keep hb); have T8 := Lib.hid t8; have S6 := Lib.hid (HSR.out.keep hb)
            have c6 := (hb.cell (p := ⟨b, o + a, none⟩) (lt_of_cell HC.out)).trans HC.out
            clear hb t8 HC HSR hB hE hO HKN
            go_wp2_with fail
            refine Calls.mono (Same_any q8 q m8 mx c8 cx kk.2 kk.2 w6 T8.out S6.out) ?_
            rintro e w7 ⟨rfl, hb⟩
            rw [decide_eq_true rfl]
            have B7 := Lib.hid (bl B6.out hb B6.out.size); have E7 := Lib.hid (E6.out.keep hb); have O7 := Lib.hid (O6.out.keep hb)
            clear hb c6 B6 E6 O6 T8 S6
            go_wp2
            go_roundw
            case rel => exact ⟨a + 1, by omega, by go_num, B7.out, E7.out, O7.out⟩
            case measure => simp [intOf]; omega
          · have hge2 : (k : Int) ≤ (a : Int) := by omega
            have BF := Lib.hid hB.out
            clear hB hE hO
            go_wp2
            go_ret
            exact ⟨rfl, BF.out⟩
end Go.Proofs.Ytofhdakggapahaa
namespace Go.Proofs.Ytofhdakggapahaa
open Go.RowKit Go.By
set_option maxRecDepth 100000 in
set_option maxHeartbeats 4000000 in
theorem EP_skip (k t : Int) (i : Int) (p : Option Addr) (m c : Nat) (L : List Rw) (w : World) (h : RwS w p m c L) (hf : few8 m L = false) :
    Calls Try.prog 6 #[.int .i64 k, .int .i64 t, .slice p m c, .int .i64 i] w fun e w' => e = .returned (.bool true) ∧ Below w.heap.size w w' := by
  have HF : Hid (∀ W, RwS W p m c L → Calls Try.prog 29 #[.slice p m c] W fun e w' => e = .returned (.bool false) ∧ Below W.heap.size W w') := fun W hW => by have := Few8_any p m c L W hW; rwa [hf] at this
  have H := Lib.hid h
  clear h hf
  go_enter Try.func6, Try.ntmps6
  go_wp2_with fail
  refine Calls.mono (awake08 _) ?_
  rintro e w1 ⟨rfl, hb⟩
  have B1 := Lib.hid hb
  clear hb
  go_wp2_with fail
  refine Calls.mono (HF.out _ (H.out.keep B1.out)) ?_
  rintro e w2 ⟨rfl, hb⟩
  have B2 := Lib.hid (bl B1.out hb B1.out.size)
  clear hb B1 HF
  go_wp2
  go_ret
  exact ⟨rfl, B2.out⟩
set_option maxRecDepth 100000 in
set_option maxHeartbeats 4000000 in
theorem EP_bad (k t : Int) (i : Int) (p : Option Addr) (m c : Nat) (L : List Rw) (w : World) (h : RwS w p m c L) (hf : few8 m L = true) (hr : k < 1 ∨ 4096 < k ∨ t < 0 ∨ 65535 < t) :
    Calls Try.prog 6 #[.int .i64 k, .int .i64 t, .slice p m c, .int .i64 i] w fun e w' => e = .returned (.bool true) ∧ Below w.heap.size w w' := by
  have HF : Hid (∀ W, RwS W p m c L → Calls Try.prog 29 #[.slice p m c] W fun e w' => e = .returned (.bool true) ∧ Below W.heap.size W w') := fun W hW => by have := Few8_any p m c L W hW; rwa [hf] at this
  have H := Lib.hid h
  have HN : Hid (∀ W, Calls Try.prog 30 #[.int .i64 k, .int .i64 t] W fun e w' => e = .returned (.tuple #[.pointer none, .int .i64 2]) ∧ W = w') := fun W => New_bad k t W hr
  clear h hf
  go_enter Try.func6, Try.ntmps6
  go_wp2_with fail
  refine Calls.mono (awake08 _) ?_
  rintro e w1 ⟨rfl, hb⟩
  have B1 := Lib.hid hb
  clear hb
  go_wp2_with fail
  refine Calls.mono (HF.out _ (H.out.keep B1.out)) ?_
  rintro e w2 ⟨rfl, hb⟩
  have B2 := Lib.hid (bl B1.out hb B1.out.size)
  clear hb B1 HF
  go_wp2_with fail
  refine Calls.mono (HN.out _) ?_
  rintro e w' ⟨rfl, rfl⟩
  by_cases h1 : k < 1
  · clear hr HN
    go_wp2
    go_ret
    exact ⟨rfl, B2.out⟩
  have g1 : 1 ≤ k := by omega
  by_cases h2 : 4096 < k
  · clear hr HN h1
    go_wp2
    go_ret
    exact ⟨rfl, B2.out⟩
  have g2 : k ≤ 4096 := by omega
  by_cases h3 : t < 0
  · clear hr HN h1 h2
    go_wp2
    go_ret
    exact ⟨rfl, B2.out⟩
  have g3 : 0 ≤ t := by omega
  have h4 : 65535 < t := by omega
  clear hr HN h1 h2 h3
  go_wp2
  go_ret
  exact ⟨rfl, B2.out⟩
set_option maxRecDepth 100000 in
set_option maxHeartbeats 4000000 in
theorem EP_big (k t : Nat) (i : Int) (p : Option Addr) (m c : Nat) (L : List Rw) (w : World) (h : RwS w p m c L) (hf : few8 m L = true) (h1 : 1 ≤ k) (h2 : k ≤ 4096) (h3 : t ≤ 65535) (hr : 20 < k ∨ 20 < t) :
    Calls Try.prog 6 #[.int .i64 k, .int .i64 t, .slice p m c, .int .i64 i] w fun e w' => e = .returned (.bool true) ∧ Below w.heap.size w w' := by
  have HF : Hid (∀ W, RwS W p m c L → Calls Try.prog 29 #[.slice p m c] W fun e w' => e = .returned (.bool true) ∧ Below W.heap.size W w') := fun W hW => by have := Few8_any p m c L W hW; rwa [hf] at this
  have H := Lib.hid h
  clear h hf
  go_enter Try.func6, Try.ntmps6
  go_wp2_with fail
  refine Calls.mono (awake08 _) ?_
  rintro e w1 ⟨rfl, hb⟩
  have B1 := Lib.hid hb
  clear hb
  go_wp2_with fail
  refine Calls.mono (HF.out _ (H.out.keep B1.out)) ?_
  rintro e w2 ⟨rfl, hb⟩
  have B2 := Lib.hid (bl B1.out hb B1.out.size)
  clear hb B1 HF
  go_wp2_with fail
  refine Calls.mono (New_good k t w2 h1 h2 h3) ?_
  rintro e w3 ⟨be, rfl, hE, hb⟩
  have B3 := Lib.hid (bl B2.out hb B2.out.size); have E3 := Lib.hid hE
  clear hb hE B2
  have a1 : (1 : Int) ≤ (k : Int) := by omega
  have a2 : (k : Int) ≤ 4096 := by omega
  have a3 : (t : Int) ≤ 65535 := by omega
  go_wp2_with fail
  refine Calls.mono (Size_any _ be k t 0 _ [] w3 E3.out) ?_
  rintro e w4 ⟨rfl, hb⟩
  have B4 := Lib.hid (bl B3.out hb B3.out.size)
  clear hb B3 E3 a1 a2 a3
  by_cases hk : 20 < k
  · have hk' : (20 : Int) < (k : Int) := by omega
    clear hr
    go_wp2
    go_ret
    exact ⟨rfl, B4.out⟩
  · have hk' : (k : Int) ≤ 20 := by omega
    have ht' : (20 : Int) < (t : Int) := by omega
    clear hr hk
    go_wp2
    go_ret
    exact ⟨rfl, B4.out⟩
theorem ElimPuts_any (k t : Int) (p : Option Addr) (m c : Nat) (L : List Rw) (i : Int) (w : World) (_ : (Lit.int .i64 k).wf = true) (_ : (Lit.int .i64 t).wf = true) (h : RwS w p m c L) (_ : (Lit.int .i64 i).wf = true) :
    Calls Try.prog 6 #[.int .i64 k, .int .i64 t, .slice p m c, .int .i64 i] w fun e w' => e = .returned (.bool true) ∧ Below w.heap.size w w' := by
  cases hf : few8 m L with
  | false => exact EP_skip k t i p m c L w h hf
  | true =>
    by_cases hr : k < 1 ∨ 4096 < k ∨ t < 0 ∨ 65535 < t
    · exact EP_bad k t i p m c L w h hf hr
    · obtain ⟨a, rfl⟩ := Int.eq_ofNat_of_zero_le (show 0 ≤ k by omega)
      obtain ⟨b, rfl⟩ := Int.eq_ofNat_of_zero_le (show 0 ≤ t by omega)
      by_cases hb : 20 < a ∨ 20 < b
      · exact EP_big a b i p m c L w h hf (by omega) (by omega) (by omega) hb
      · exact EP_main a b i p m c L w h hf (by omega) (by omega) (by omega)
end Go.Proofs.Ytofhdakggapahaa
namespace Go.By
open Go.RowKit
theorem byte_of_wf {a : Int} (h : (Lit.int .u8 a).wf = true) : ∃ x : UInt8, Value.int .u8 a = B8 x ∧ a = (x.toNat : Int) := by
  have hb := bounds_u8 h
  have e : a = ((UInt8.ofNat a.toNat).toNat : Int) := by simp; omega
  exact ⟨UInt8.ofNat a.toNat, B8_congr e, e⟩
theorem sl_of_row {w : World} {a : Option Addr} {len cap : Nat} {zs : List Int}
    (h : (a = none ∧ len = 0 ∧ cap = 0 ∧ zs = []) ∨ ∃ x, a = some x ∧ len ≤ cap ∧ cap ≤ maxLen ∧ zs.length = cap ∧ (∀ i, i < zs.length → w.cell? (x.add i) = some (.int .u8 (zs.getD i 0))) ∧ ∀ n ∈ zs, (Lit.int .u8 n).wf = true) :
    ∃ xs, Sl B8 w a len cap xs := by
  rcases h with ⟨rfl, rfl, rfl, _⟩ | ⟨x, rfl, hl, hm, hz, hc, hw⟩
  · exact ⟨[], Sl.nil0 _ _⟩
  · refine ⟨(zs.take len).map fun z => UInt8.ofNat z.toNat, ⟨by simp; omega, hl, hm, fun h => by simp at h, ?_⟩⟩
    intro i hi
    have hi' : i < zs.length := by simp at hi; omega
    obtain ⟨b, o, hx, hc'⟩ := ints_at hc (by omega)
    refine ⟨b, o, by rw [hx], ?_⟩
    have hh := hc i hi'
    rw [hx, Addr.add_lit] at hh
    rw [hh]
    have e : zs.getD i 0 = zs[i] := by simp [hi']
    rw [e]
    have hb := bounds_u8 (hw _ (List.getElem_mem hi'))
    simp
    omega
end Go.By
namespace Go.By
open Go.RowKit
theorem spot_none {w : World} {x : Addr} {v : Value} (h : w.cell? (x.add 0) = some v) : ∃ b o, x = ⟨b, o, none⟩ := by
  obtain ⟨b, off, spot⟩ := x
  have hspot : spot = none := by simpa [Addr.add] using World.cell?_spot h
  subst hspot
  exact ⟨b, off, rfl⟩
theorem sl2_of_rows {w : World} {a : Option Addr} {len cap : Nat} (hl : len ≤ cap) (hm : cap ≤ maxLen) (hn : a = none → len = 0 ∧ cap = 0) (A : Nat → Option Addr) (L C : Nat → Nat) (Z : Nat → List Int)
    (h : ∀ x, a = some x → ∀ r, r < cap → w.cell? (x.add r) = some (.slice (A r) (L r) (C r)) ∧ L r ≤ C r ∧ C r ≤ maxLen ∧ (Z r).length = C r ∧ (∀ n ∈ Z r, (Lit.int .u8 n).wf = true) ∧ (A r = none → C r = 0) ∧
        ∀ a', A r = some a' → ∀ c, c < C r → w.cell? (a'.add c) = some (.int .u8 ((Z r).getD c 0))) : ∃ xss, Sl2 w a len cap xss := by
  have each : ∀ r, ∃ xs, r < len → Sl B8 w (A r) (L r) (C r) xs := by
    intro r
    by_cases hr : r < len
    · cases ha : a with
      | none => have := hn ha; omega
      | some x =>
        obtain ⟨_, h1, h2, h3, h4, h5, h6⟩ := h x ha r (by omega)
        cases hA : A r with
        | none =>
          have := h5 hA
          have hL : L r = 0 := by omega
          exact ⟨[], fun _ => by rw [hL, this]; exact Sl.nil0 _ _⟩
        | some a' =>
          obtain ⟨xs, hx⟩ := sl_of_row (w := w) (a := some a') (len := L r) (cap := C r) (zs := Z r) (.inr ⟨a', rfl, h1, h2, h3, fun i hi => h6 a' hA i (by omega), h4⟩)
          exact ⟨xs, fun _ => hx⟩
    · exact ⟨[], fun h => absurd h hr⟩
  refine ⟨(List.range len).map fun r => Classical.choose (each r), ⟨by simp, hl, hm, hn, ?_⟩⟩
  intro i xs hi
  obtain ⟨hi', e⟩ := List.getElem?_eq_some_iff.1 hi
  simp at hi' e
  have hs := Classical.choose_spec (each i) hi'
  rw [e] at hs
  cases ha : a with
  | none => have := hn ha; omega
  | some x =>
    obtain ⟨hc, _⟩ := h x ha i (by omega)
    obtain ⟨b, o, rfl⟩ := spot_none (h x ha 0 (by omega)).1
    rw [Addr.add_lit] at hc
    exact ⟨b, o, A i, C i, rfl, by rw [hs.len]; exact hc, by rw [hs.len]; exact hs⟩
end Go.By
namespace Go.Proofs.Ytofhdakggapahaa
open Go.RowKit Go.By Go.ChangeShapes Go.WideShapes Go.Deep
section
variable {H : Type} {enc : TypeId × Value → H} {P : Program} {w : World} {base : Nat} {held : Bool}
theorem trod_struct2 {t : TypeId} {f0 f1 : Field} {fuel : Nat} {cs : List Value} {x : DataW H × List MemPlace} {spare : Nat → Bool} (ht : P.underlying t = some (.struct #[f0, f1])) (h : DataW.trod enc P w base spare held fuel t cs = some x) :
    ∃ y0 y1 n, cs.length = P.cellsOf t ∧ DataW.trod enc P w base spare held n f0.type ((cs.drop f0.offset).take (P.cellsOf f0.type)) = some y0 ∧
      DataW.trod enc P w base spare held n f1.type ((cs.drop f1.offset).take (P.cellsOf f1.type)) = some y1 := by
  obtain ⟨xs, n, _, rfl, hl, hlen, hf⟩ := DataW.trod_struct ht h
  match xs, hlen with
  | [y0, y1], _ => exact ⟨y0, y1, n, hl, by simpa using hf 0 f0 rfl, by simpa using hf 1 f1 rfl⟩
theorem list2 {α : Type} {cs : List α} (h : cs.length = 2) : ∃ c0 c1, cs = [c0, c1] := by
  match cs, h with
  | [c0, c1], _ => exact ⟨c0, c1, rfl⟩
theorem open_bytes1 {t q : TypeId} {fuel : Nat} {c4 : Value} {x : DataW H × List MemPlace} (h4 : P.underlying t = some (.slice q)) (hq : P.underlying q = some (.int .u8)) (cq : P.cellsOf q = 1) (g4 : DataW.trod enc P w base (fun _ => true) held fuel t [c4] = some x) : ∃ p m c bs, c4 = .slice p m c ∧ Sl B8 w p m c bs := by
  rcases open_ints h4 hq cq g4 with ⟨hcs, _⟩ | ⟨x, l, c, zs, hcs, _, hl, hm, hz, _, hcell, hwz⟩
  · simp at hcs
    exact ⟨none, 0, 0, [], hcs, Sl.nil0 _ _⟩
  · simp at hcs
    obtain ⟨xs, hx⟩ := sl_of_row (.inr ⟨_, rfl, hl, hm, by simpa using hz, hcell, hwz⟩)
    exact ⟨_, _, _, xs, hcs, hx⟩
/-- one, cell by cell -/
theorem open_one {t q : TypeId} {f0 f1 : Field} {fuel : Nat} {cs : List Value} {x : DataW H × List MemPlace} (ht : P.underlying t = some (.struct #[f0, f1])) (hone : oneCellFields P #[f0, f1] = true) (hC : P.cellsOf t = 2)
    (h0 : P.underlying f0.type = some (.slice q)) (h1 : P.underlying f1.type = some (.slice q)) (hq : P.underlying q = some (.int .u8)) (cq : P.cellsOf q = 1)
    (h : DataW.trod enc P w base (fun _ => true) held fuel t cs = some x) :
    ∃ (r : List UInt8 × List UInt8) (p1 : Option Addr) (m1 c1 : Nat) (p2 : Option Addr) (m2 c2 : Nat), cs = [.slice p1 m1 c1, .slice p2 m2 c2] ∧ Sl B8 w p1 m1 c1 r.1 ∧ Sl B8 w p2 m2 c2 r.2 := by
  obtain ⟨y0, y1, n, hl, g0, g1⟩ := trod_struct2 ht h
  obtain ⟨c0, c1, rfl⟩ := list2 (hl.trans hC)
  obtain ⟨o0, k0⟩ := hone_of hone 0 f0 rfl
  obtain ⟨o1, k1⟩ := hone_of hone 1 f1 rfl
  rw [o0, k0] at g0; rw [o1, k1] at g1
  obtain ⟨p1, m1, d1, b1, rfl, s1⟩ := open_bytes1 h0 hq cq g0
  obtain ⟨p2, m2, d2, b2, rfl, s2⟩ := open_bytes1 h1 hq cq g1
  exact ⟨(b1, b2), p1, m1, d1, p2, m2, d2, rfl, s1, s2⟩
theorem open_ones {t e q : TypeId} {f0 f1 : Field} {fuel : Nat} {cs : List Value} {x : DataW H × List MemPlace} (ht : P.underlying t = some (.slice e)) (he : P.underlying e = some (.struct #[f0, f1])) (hone : oneCellFields P #[f0, f1] = true) (hC : P.cellsOf e = 2)
    (h0 : P.underlying f0.type = some (.slice q)) (h1 : P.underlying f1.type = some (.slice q)) (hq : P.underlying q = some (.int .u8)) (cq : P.cellsOf q = 1)
    (h : DataW.trod enc P w base (fun _ => true) held fuel t cs = some x) : ∃ p n c K, cs = [.slice p n c] ∧ RwS w p n c K := by
  rcases open_slice ht h with ⟨hcs, _⟩ | ⟨a, len, cap, m, n, D, Pl, rfl, hb, hl, hm, hmm, rfl, hx⟩
  · exact ⟨none, 0, 0, [], hcs, RwS.nil0 _⟩
  simp only [if_true] at hmm
  have hmm' := hmm.symm
  subst hmm'
  have hsp : 0 < len → a.spot = none := fun h => by
    obtain ⟨cs', hc, htr⟩ := hx 0 (by omega)
    obtain ⟨y, p, m', c', p2, m2, c2, rfl, -⟩ := open_one he hone hC h0 h1 hq cq htr
    obtain ⟨_, _, hcell⟩ := World.cells?_some hc
    have z0 := hcell 0 (by omega)
    simpa [Addr.add] using World.cell?_spot (z0.trans rfl)
  have each : ∀ k, k < len → ∃ y : List UInt8 × List UInt8, ∃ b o q1 m1 c1 q2 m2 c2, a = ⟨b, o, none⟩ ∧ w.cell? ⟨b, o + k * 2, none⟩ = some (.slice q1 m1 c1) ∧ w.cell? ⟨b, o + k * 2 + 1, none⟩ = some (.slice q2 m2 c2) ∧ Sl B8 w q1 m1 c1 y.1 ∧ Sl B8 w q2 m2 c2 y.2 := by
    intro k hk
    obtain ⟨cs', hc, htr⟩ := hx k (by omega)
    obtain ⟨y, p, m', c', p2, m2, c2, rfl, s1, s2⟩ := open_one he hone hC h0 h1 hq cq htr
    obtain ⟨_, _, hcell⟩ := World.cells?_some hc
    rw [hC] at hcell
    obtain ⟨b, o, spot⟩ := a
    have z0 := hcell 0 (by omega)
    have hspot : spot = none := hsp (by omega)
    subst hspot
    have z1 := hcell 1 (by omega)
    simp only [add_plain] at z0 z1
    exact ⟨y, b, o, p, m', c', p2, m2, c2, rfl, z0, z1, s1, s2⟩
  obtain ⟨f, hf⟩ : ∃ f : Nat → List UInt8 × List UInt8, ∀ k, k < len → ∃ b o q1 m1 c1 q2 m2 c2, a = ⟨b, o, none⟩ ∧ w.cell? ⟨b, o + k * 2, none⟩ = some (.slice q1 m1 c1) ∧ w.cell? ⟨b, o + k * 2 + 1, none⟩ = some (.slice q2 m2 c2) ∧ Sl B8 w q1 m1 c1 (f k).1 ∧ Sl B8 w q2 m2 c2 (f k).2 :=
    ⟨fun k => if hk : k < len then Classical.choose (each k hk) else ([], []), fun k hk => by simp only [dif_pos hk]; exact Classical.choose_spec (each k hk)⟩
  refine ⟨some a, len, cap, (List.range len).map f, rfl, ⟨by simp, hl, hm, fun h => (by cases h), fun k y hk => ?_⟩⟩
  rw [List.getElem?_map] at hk
  cases hr : (List.range len)[k]? with
  | none => rw [hr] at hk; simp at hk
  | some k' =>
    rw [hr] at hk
    obtain ⟨hk1, hk2⟩ := List.getElem?_eq_some_iff.1 hr
    simp at hk1 hk2 hk
    subst hk2; subst hk
    obtain ⟨b, o, q1, m1, c1, q2, m2, c2, e, r⟩ := hf k hk1
    exact ⟨b, o, q1, m1, c1, q2, m2, c2, by rw [e], r⟩
end
end Go.Proofs.Ytofhdakggapahaa
