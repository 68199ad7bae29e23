/- The walk of the law GlueBack. -/
import Derived.Test.YtnlfohbmdmeodaaCG
import Derived.Test.YtnlfohbmdmeodaaP8
import Derived.Test.YtnlfohbmdmeodaaR6
import Derived.OpenShut
namespace Go.By
open Go.RowKit
theorem flatC_take {o : List UInt8} {s : Nat} : ∀ j : Nat, (∀ i, i < j → i * s ≤ o.length) → ((List.range j).map (pieceS o s)).flatten = o.take (j * s) ++ List.replicate (j * s - o.length) 0
  | 0, _ => by simp
  | j + 1, h => by
    have hj := h j (by omega)
    have ih := flatC_take j (fun i hi => h i (by omega))
    rw [List.range_succ, List.map_append, List.flatten_append, ih]
    have e1 : j * s - o.length = 0 := by omega
    have e2 : (j + 1) * s = j * s + s := by rw [Nat.add_mul]; omega
    rw [e1, e2]
    simp only [List.replicate_zero, List.append_nil, List.map_cons, List.map_nil, List.flatten_cons, List.flatten_nil]
    unfold pieceS fillC
    rw [List.length_replicate, List.drop_replicate, List.length_drop, ← List.append_assoc, List.take_add]
    congr 2
    omega
theorem flatC {o : List UInt8} {s m : Nat} (h : ∀ i, i < m → i * s ≤ o.length) (hm : o.length ≤ m * s) : ((List.range m).map (pieceS o s)).flatten = o ++ List.replicate (m * s - o.length) 0 := by
  rw [flatC_take m h, List.take_of_length_le hm]
theorem piece_at {o : List UInt8} {s a : Nat} (hs : 1 ≤ s) (ha : a < o.length) : some ((pieceS o s (a / s)).getD (a % s) 0) = o[a]? := by
  have h1 := Nat.div_add_mod a s
  have h2 := Nat.mod_lt a (show 0 < s by omega)
  have e : a / s * s + a % s = a := by rw [Nat.mul_comm]; exact h1
  unfold pieceS fillC
  have hl : a % s < ((o.drop (a / s * s)).take s).length := by rw [List.length_take, List.length_drop]; omega
  rw [List.length_replicate, List.getD_eq_getElem?_getD, List.getElem?_append_left hl, List.getElem?_take, if_pos h2, List.getElem?_drop, e, List.getElem?_eq_getElem ha]; rfl
end Go.By
namespace Go.Proofs.Ytnlfohbmdmeodaa
open Go.RowKit Go.By
theorem wholeC {o : List UInt8} {s m : Nat} (hk : checkS o.length s m = 0) (h : ∀ i, i < m → i * s ≤ o.length) (hm : o.length ≤ m * s) : wholeS o.length s m ((List.range m).map (pieceS o s)) = (o ++ List.replicate (m * s - o.length) 0, 0) := by
  unfold wholeS
  rw [if_pos hk, if_pos (by simp), if_pos ?_, flatC h hm]
  rw [List.all_eq_true]
  intro y hy
  obtain ⟨i, _, rfl⟩ := List.mem_map.1 hy
  rw [pieceS_len]; simp
/-- what is known behind some numbers -/
def SetC (xs : List UInt8) (m j : Nat) (i : Nat) : Bool := (xs.take j).any (fun x => decide (x.toNat % m = i))
theorem SetC_next {xs : List UInt8} {m j : Nat} {x : UInt8} (h : xs[j]? = some x) : SetC xs m (j + 1) = fun i => SetC xs m j i || decide (i = x.toNat % m) := by
  funext i
  unfold SetC
  rw [List.take_add_one, h, List.any_append]
  congr 1
  simp only [Option.toList, List.any_cons, List.any_nil, Bool.or_false]
  exact decide_eq_decide.2 eq_comm
theorem fit_badC {n s : Int} (hn : 0 ≤ n) (hf : fitS n s ≠ 0) (hs : s ≤ 2000) : s < 1 ∨ (1 ≤ s ∧ 4096 * s < n) := by
  by_cases h1 : s < 1
  · exact .inl h1
  · refine .inr ⟨by omega, ?_⟩
    unfold fitS at hf
    rw [if_neg (by omega), if_neg (by omega)] at hf
    by_cases h2 : 4096 < needS n s
    · by_cases h0 : n = 0
      · rw [h0] at h2; simp [needS] at h2
      · have h3 := (needS_spec (l := n) (s := s) (by omega) (by omega)).1
        have h4 : 4096 * s ≤ (needS n s - 1) * s := Int.mul_le_mul_of_nonneg_right (by omega) (by omega)
        omega
    · rw [if_neg h2] at hf; exact absurd rfl hf
theorem fit_goodC {n s : Nat} (hf : fitS n s = 0) : ∃ m : Nat, (m : Int) = needS n s ∧ 1 ≤ m ∧ checkS n s m = 0 ∧ (∀ i, i < m → i * s ≤ n) ∧ n ≤ m * s ∧ ∀ d, ofS n s d = .tuple #[.agg #[.int .i64 n, .int .i64 s, .int .i64 m, .int .u32 d], .int .i64 0] := by
  rcases fitS_cases n s with ⟨a, _⟩ | ⟨_, h1, h2, h3, h4⟩
  · exact absurd hf a
  · have hp := (needS_pos h1 h2).1
    obtain ⟨m, hm⟩ := Int.eq_ofNat_of_zero_le (show 0 ≤ needS n s by omega)
    refine ⟨m, hm.symm, by omega, ?_, ?_, ?_, fun d => ?_⟩
    · unfold checkS; rw [if_pos hf, if_pos hm.symm]
    · intro i hi
      by_cases h0 : (n : Int) = 0
      · have : needS n s = 1 := by unfold needS; rw [if_pos h0]
        have : i = 0 := by omega
        subst this; omega
      · have h5 := (needS_spec (l := n) (s := s) (by omega) h2).1
        rw [hm] at h5
        have h6 : (i : Int) * s ≤ ((m : Int) - 1) * s := Int.mul_le_mul_of_nonneg_right (by omega) (by omega)
        have h7 : ((i * s : Nat) : Int) ≤ (n : Int) := by rw [Int.natCast_mul]; exact Int.le_of_lt (Int.lt_of_le_of_lt h6 h5)
        omega
    · by_cases h0 : (n : Int) = 0
      · have : n = 0 := by omega
        subst this; omega
      · have h5 := (needS_spec (l := n) (s := s) (by omega) h2).2
        rw [hm] at h5
        have h7 : (n : Int) ≤ ((m * s : Nat) : Int) := by rw [Int.natCast_mul]; exact h5
        omega
    · unfold ofS; rw [if_pos hf, hm]
set_option maxRecDepth 100000 in
set_option maxHeartbeats 8000000 in
theorem GlueBack_big (q q2 : Option Addr) (n c n2 c2 : Nat) (s d : Int) (w : World) (hn : n ≤ 9223372036854775807) (h : (2000 : Int) < (n : Int) ∨ (¬ (2000 : Int) < (n : Int) ∧ (2000 : Int) < s) ∨ (¬ (2000 : Int) < (n : Int) ∧ ¬ (2000 : Int) < s ∧ (100 : Int) < (n2 : Int))) :
    Calls Try.prog 4 #[.slice q n c, .int .i64 s, .int .u32 d, .slice q2 n2 c2] w fun e w' => e = .returned (.bool true) ∧ Below w.heap.size w w' := by
  rcases h with h1 | ⟨h1, h2⟩ | ⟨h1, h2, h3⟩
  all_goals
    go_enter Try.func4, Try.ntmps4
    go_wp2_with fail
    refine Calls.mono (awake12 _) ?_
    rintro e w1 ⟨rfl, hb⟩
    have B1 := Lib.hid hb; clear hb
    go_wp2
    go_ret
    exact ⟨rfl, B1.out⟩
set_option maxRecDepth 100000 in
set_option maxHeartbeats 8000000 in
theorem GlueBack_bad (q q2 : Option Addr) (n c n2 c2 : Nat) (s d : Int) (w : World) (hn : n ≤ 2000) (hs : s ≤ 2000) (hn2 : n2 ≤ 100) (hs0 : -9223372036854775808 ≤ s) (hf : fitS n s ≠ 0) :
    Calls Try.prog 4 #[.slice q n c, .int .i64 s, .int .u32 d, .slice q2 n2 c2] w fun e w' => e = .returned (.bool true) ∧ Below w.heap.size w w' := by
  have h1 : ¬ (2000 : Int) < (n : Int) := by omega
  have h2 : ¬ (2000 : Int) < s := by omega
  have h3 : ¬ (100 : Int) < (n2 : Int) := by omega
  have HO : Hid (∀ W, Calls Try.prog 12 #[.int .i64 (n : Int), .int .i64 s, .int .u32 d] W fun e w' => e = .returned (.tuple #[.agg #[.int .i64 0, .int .i64 0, .int .i64 0, .int .u32 0], .int .i64 (fitS n s)]) ∧ Below W.heap.size W w') := fun W => by
    have := POf_any n s d W (by omega)
    rwa [show ofS n s d = .tuple #[.agg #[.int .i64 0, .int .i64 0, .int .i64 0, .int .u32 0], .int .i64 (fitS n s)] from if_neg hf] at this
  have hfb : (fitS n s != 0) = true := by simpa using hf
  have hbad := fit_badC (by omega) hf hs
  clear hf
  generalize fitS n s = f at *
  have hb1 : s < 1 := by
    rcases hbad with h | ⟨h, h'⟩
    · exact h
    · omega
  clear hbad
  · go_enter Try.func4, Try.ntmps4
    go_wp2_with fail
    refine Calls.mono (awake12 _) ?_
    rintro e w1 ⟨rfl, hb⟩
    have B1 := Lib.hid hb; clear hb
    go_wp2_with fail
    refine Calls.mono (HO.out _) ?_
    rintro e w2 ⟨rfl, hb⟩
    have B2 : Hid (Below w.heap.size w w2) := bl B1.out hb B1.out.size
    clear hb
    go_wp2
    go_ret
    exact ⟨by first | rfl | simp [hb1], al B2.out B2.out.size⟩
theorem B8_int (x : UInt8) : B8 x = .int .u8 (x.toNat : Int) := rfl
set_option maxRecDepth 100000 in
set_option maxHeartbeats 16000000 in
theorem GlueBack_good (q q2 : Option Addr) (n c n2 c2 s m : Nat) (d : Int) (o xs : List UInt8) (w : World) (ho : Sl B8 w q n c o) (hx : Sl B8 w q2 n2 c2 xs) (hn : n ≤ 2000) (hs : s ≤ 2000) (hn2 : n2 ≤ 100) (hm1 : 1 ≤ m) (hk : checkS n s m = 0) (hfit : ∀ i, i < m → i * s ≤ n) (hms : n ≤ m * s) (hof : ∀ d, ofS n s d = .tuple #[.agg #[.int .i64 n, .int .i64 s, .int .i64 m, .int .u32 d], .int .i64 0]) :
    Calls Try.prog 4 #[.slice q n c, .int .i64 (s : Int), .int .u32 d, .slice q2 n2 c2] w fun e w' => e = .returned (.bool true) ∧ Below w.heap.size w w' := by
  have h1 : ¬ (2000 : Int) < (n : Int) := by omega
  have h2 : ¬ (2000 : Int) < (s : Int) := by omega
  have h3 : ¬ (100 : Int) < (n2 : Int) := by omega
  have hol := ho.len
  obtain ⟨-, hs1, -, -, hm4⟩ := checkS_okC hk
  have hs1 : 1 ≤ s := by omega
  have hm4 : m ≤ 4096 := by omega
  have HO := Lib.hid ho; have HX := Lib.hid hx
  have HOF : Hid (∀ W, Calls Try.prog 12 #[.int .i64 (n : Int), .int .i64 (s : Int), .int .u32 d] W fun e w' => e = .returned (.tuple #[.agg #[.int .i64 n, .int .i64 s, .int .i64 m, .int .u32 d], .int .i64 0]) ∧ Below W.heap.size W w') := fun W => by
    have := POf_any n s d W (by omega)
    rwa [hof d] at this
  have hW := wholeC (o := o) (s := s) (m := m) (by rw [hol]; exact hk) (by rw [hol]; exact hfit) (by rw [hol]; exact hms)
  rw [hol] at hW
  have HCU : Hid (∀ W, Below w.heap.size w W → Calls Try.prog 13 #[.agg #[.int .i64 (n : Int), .int .i64 (s : Int), .int .i64 (m : Int), .int .u32 d], .slice q n c] W fun e w' => ∃ g, e = .returned (.tuple #[.slice (some ⟨g, 0, none⟩) m m, .int .i64 0]) ∧ W.heap.size ≤ g ∧ Sl2 w' (some ⟨g, 0, none⟩) m m ((List.range m).map (pieceS o s)) ∧ Below W.heap.size W w') := fun W hb => Cut_any d n s m q c o W (HO.out.keep hb) hk hfit
  have HJ : Hid (∀ g W, Sl2 W (some ⟨g, 0, none⟩) m m ((List.range m).map (pieceS o s)) → Calls Try.prog 7 #[.agg #[.int .i64 n, .int .i64 s, .int .i64 m, .int .u32 d], .slice (some ⟨g, 0, none⟩) m m] W (RetL W o 0)) := fun g W h => by
    have := Join_any n s m d (some ⟨g, 0, none⟩) m m _ W h (by omega)
    unfold joinS at this
    rw [hW] at this
    have e : (o ++ List.replicate (m * s - n) 0).take (n : Int).toNat = o := by
      rw [Int.toNat_natCast, ← hol, List.take_left']
      rfl
    simp only [e] at this
    exact this
  have HCL : Hid (∀ g W, Sl2 W (some ⟨g, 0, none⟩) m m ((List.range m).map (pieceS o s)) → Calls Try.prog 9 #[.agg #[.int .i64 n, .int .i64 s, .int .i64 m, .int .u32 d], .slice (some ⟨g, 0, none⟩) m m] W fun e w' => e = .returned (.bool true) ∧ Below W.heap.size W w') := fun g W h => by
    have := Clean_any n s m d (some ⟨g, 0, none⟩) m m _ W h (by omega)
    rw [hW] at this
    have e : zeroS ((o ++ List.replicate (m * s - n) 0).drop (n : Int).toNat) = true := by
      rw [Int.toNat_natCast, ← hol, List.drop_left]
      unfold zeroS
      rw [List.all_eq_true]
      intro x hx
      rw [List.eq_of_mem_replicate hx]; rfl
    simp only [e, decide_true, Bool.and_true] at this
    exact this
  have HSM : Hid (∀ p c3 W, Sl B8 W p n c3 o → Below w.heap.size w W → Calls Try.prog 10 #[.slice p n c3, .slice q n c] W fun e w' => e = .returned (.bool true) ∧ Below W.heap.size W w') := fun p c3 W h hb => by
    have := Same_any p q n n c3 c o o W h (HO.out.keep hb)
    rwa [decide_eq_true rfl] at this
  have HFI : Hid (∀ bm cnt S vs W, cnt ≤ 100000 → MapC bm cnt m S vs W → VsOk m s (pieceS o s) vs W → Calls Try.prog 14 #[.agg #[.int .i64 (n : Int), .int .i64 (s : Int), .int .i64 (m : Int), .int .u32 d], .map (some bm)] W fun e w' => ∃ gO gT, e = .returned (.tuple #[.slice (some ⟨gO, 0, none⟩) n n, .slice (some ⟨gT, 0, none⟩) n n, .int .i64 0]) ∧ W.heap.size ≤ gO ∧ W.heap.size ≤ gT ∧ w'.heap[gO]? = some (.cells ((objL n s (pieceS o s) S).map B8).toArray 5 (0, 0)) ∧ w'.heap[gT]? = some (.cells ((toldT n (fun a => S (a / s))).map Value.bool).toArray 4 (0, 0)) ∧ Below W.heap.size W w') := fun bm cnt S vs W hc h1 h2 => Fill_any d n s m bm cnt S (pieceS o s) vs W (by omega) hk hfit hms hc h1 h2
  have HSP : Hid (∀ a W, a < n → Calls Try.prog 15 #[.agg #[.int .i64 (n : Int), .int .i64 (s : Int), .int .i64 (m : Int), .int .u32 d], .int .i64 (a : Int)] W fun e w' => e = .returned (.tuple #[.int .i64 ((a / s : Nat) : Int), .int .i64 ((a % s : Nat) : Int), .int .i64 0]) ∧ Below W.heap.size W w') := fun a W ha => Spread_any d n s m a W (by omega) hk ha
  have HMS := Lib.hid hms
  have HOL := Lib.hid hol
  clear ho hx hk hfit hms hof hW hol
  go_enter Try.func4, Try.ntmps4
  go_wp2_with fail
  refine Calls.mono (awake12 _) ?_
  rintro e w1 ⟨rfl, hb⟩
  have B1 := Lib.hid hb; clear hb
  go_wp2_with fail
  refine Calls.mono (HOF.out _) ?_
  rintro e w2 ⟨rfl, hb⟩
  have B2 : Hid (Below w.heap.size w w2) := bl B1.out hb B1.out.size
  clear hb B1
  go_wp2_with fail
  refine use_w (fun W => W.heap[w2.heap.size]? = some (.cells #[.int .i64 (n : Int), .int .i64 (s : Int), .int .i64 (m : Int), .int .u32 d] 24 (0, 0)) ∧ Below w.heap.size w W) ⟨hnew rfl, al B2.out B2.out.size⟩ ?_
  rintro W3 ⟨x3, k3⟩
  refine Calls.mono (HCU.out _ k3) ?_
  rintro e w3 ⟨gL, rfl, hgL, hL, hb⟩
  obtain ⟨b0, hb0⟩ : ∃ b0, b0 = w2.heap.size := ⟨_, rfl⟩
  rw [← hb0] at x3 ⊢
  have X3 : Hid (w3.heap[b0]? = some (.cells #[.int .i64 (n : Int), .int .i64 (s : Int), .int .i64 (m : Int), .int .u32 d] 24 (0, 0))) := (hb.block _ (lt_of_blk x3)).trans x3
  have B3 : Hid (Below w.heap.size w w3) := bl k3 hb k3.size
  have L3 := Lib.hid hL
  clear hb hb0 x3 k3 hL hgL B2
  obtain ⟨p0, p1, p2, p3⟩ := cells4 X3.out
  go_wp2_with fail
  refine Calls.mono (HJ.out gL _ L3.out) ?_
  rintro e w4 ⟨pj, mj, cj, rfl, hj, hb⟩
  have X4 : Hid (w4.heap[b0]? = some (.cells #[.int .i64 (n : Int), .int .i64 (s : Int), .int .i64 (m : Int), .int .u32 d] 24 (0, 0))) := (hb.block _ (lt_of_blk X3.out)).trans X3.out
  have B4 : Hid (Below w.heap.size w w4) := bl B3.out hb B3.out.size
  have L4 := Lib.hid (L3.out.keep hb)
  have hmj : mj = n := by rw [← hj.len]; exact HOL.out
  subst hmj
  have J4 := Lib.hid hj
  clear hb X3 B3 L3 p0 p1 p2 p3 hj
  go_wp2_with fail
  refine Calls.mono (HSM.out _ _ _ J4.out B4.out) ?_
  rintro e w5 ⟨rfl, hb⟩
  have X5 : Hid (w5.heap[b0]? = some (.cells #[.int .i64 (mj : Int), .int .i64 (s : Int), .int .i64 (m : Int), .int .u32 d] 24 (0, 0))) := (hb.block _ (lt_of_blk X4.out)).trans X4.out
  have B5 : Hid (Below w.heap.size w w5) := bl B4.out hb B4.out.size
  have L5 := Lib.hid (L4.out.keep hb)
  clear hb X4 B4 L4 J4
  obtain ⟨p0, p1, p2, p3⟩ := cells4 X5.out
  go_wp2_with fail
  refine Calls.mono (HCL.out gL _ L5.out) ?_
  rintro e w6 ⟨rfl, hb⟩
  have X6 : Hid (w6.heap[b0]? = some (.cells #[.int .i64 (mj : Int), .int .i64 (s : Int), .int .i64 (m : Int), .int .u32 d] 24 (0, 0))) := (hb.block _ (lt_of_blk X5.out)).trans X5.out
  have B6 : Hid (Below w.heap.size w w6) := bl B5.out hb B5.out.size
  have L6 := Lib.hid (L5.out.keep hb)
  clear hb X5 B5 L5 p0 p1 p2 p3
  obtain ⟨vs, hvs, hvv⟩ := L6.out.vals
  have V6 : Hid (VsOk m s (pieceS o s) vs w6) := fun i hi => by
    obtain ⟨v, hv⟩ : ∃ v, vs[i]? = some v := ⟨vs[i]'(by rw [hvs.len]; exact hi), List.getElem?_eq_getElem _⟩
    obtain ⟨ys, qy, cy, h1, h2, h3⟩ := hvv i v hv
    rw [List.getElem?_map] at h1
    obtain ⟨k, hk, rfl⟩ := Option.map_eq_some_iff.1 h1
    obtain ⟨-, e⟩ := range_atC hk
    subst e
    rw [pieceS_len] at h2 h3
    cases hq : qy with
    | none =>
      rw [hq] at h3
      have := (h3.nil rfl).1
      omega
    | some ad =>
      rw [hq] at h2 h3
      exact ⟨ad, cy, by rw [List.getD_eq_getElem?_getD, hv, h2]; rfl, h3⟩
  have HVS := Lib.hid hvs
  clear hvs hvv L6
  have hmm := run_makeMap (P := Try.prog) 42 w6
  go_wp2_with (simp only [hmm])
  clear hmm
  have hbm0 : w6.heap.size ≤ w6.heap.size := Nat.le_refl _
  obtain ⟨bm, hbm⟩ : ∃ bm, bm = w6.heap.size := ⟨_, rfl⟩
  have HBM := Lib.hid hbm
  have hHV := V6.out.reads hs1
  have HVR := Lib.hid hHV
  have hM0 : MapC bm 0 m (SetC xs m 0) vs (w6.alloc (.map #[] 0)) := by
    rw [hbm]
    have e : SetC xs m 0 = fun _ => false := by funext i; unfold SetC; rw [List.take_zero]; rfl
    rw [e]; exact MapC.made
  have HM0 := Lib.hid hM0
  rw [← hbm]
  clear hbm hbm0 hHV hM0
  go_loopw [92] (fun i wr => ∃ j : Nat, j ≤ n2 ∧ i = .int .i64 (j : Int) ∧ Hid (MapC bm j m (SetC xs m j) vs wr) ∧ Hid (Below w6.heap.size w6 wr)) (fun i _ => n2 - (intOf i).toNat)
  case atStart => exact ⟨0, Nat.zero_le _, rfl, HM0.out, al (Below.refl _ _) (Nat.le_refl _)⟩
  case round =>
    obtain ⟨j, hj, rfl, hM, hB⟩ := hrel
    by_cases hlt : j < n2
    · obtain ⟨bx, ox, x, rfl, hcx, hxj⟩ := (HX.out.keep (bl B6.out hB.out B6.out.size)).at j hlt
      obtain ⟨xn, hxn⟩ : ∃ xn, xn = x.toNat := ⟨_, rfl⟩
      have hcx' : wr.cell? ⟨bx, ox + j, none⟩ = some (.int .u8 (xn : Int)) := by rw [hxn]; exact hcx
      have hx256 : xn < 256 := by rw [hxn]; exact x.toNat_lt
      obtain ⟨k, hk⟩ : ∃ k, k = xn % m := ⟨_, rfl⟩
      have hkm : k < m := by rw [hk]; exact Nat.mod_lt _ (by omega)
      have hrm : (xn : Int) % (m : Int) = (k : Int) := by rw [hk]; rfl
      have hrt : (xn : Int).tmod (m : Int) = (k : Int) := by rw [hk]; rfl
      have hm0 : ((m : Int) == 0) = false := by simp; omega
      have hm0n : (m == 0) = false := by simp; omega
      have hm0p : ¬ m = 0 := by omega
      obtain ⟨bv, ov, vk, hev, hck, hvk⟩ := (HVS.out.keep hB.out).at k hkm
      cases hev
      have hck' : wr.cell? ⟨gL, k, none⟩ = some vk := by
        have h := hck; rw [Nat.zero_add] at h; exact h
      have hvk2 : vk = vs.getD k undef := by rw [List.getD_eq_getElem?_getD, hvk.out]; rfl
      obtain ⟨y, hy⟩ := HVR.out k hkm
      obtain ⟨adk, ck, hvs, -⟩ := V6.out k hkm
      rw [← hvk2] at hvs
      subst hvs
      have HY := Lib.hid hy; have HVK := Lib.hid hvk2; have HXJ := Lib.hid hxj; have HKE := Lib.hid hk; have HXN := Lib.hid hxn
      have hlt' : (j : Int) < (n2 : Int) := by omega
      have hkl : (k : Int) < (m : Int) := by omega
      clear hcx hck hvk hvk2 hy hk hxn hlt
      go_wp2_with fail
      refine wp_region_last (fun ix => ([.val (.map (some bm)), .val (.int .u8 (xn : Nat)), .val (.int .i64 (xn : Nat)), .val (.slice (some ⟨gL, 0, none⟩) m m), .val (.int .i64 (m : Nat)), .val (.int .i64 (k : Nat)), .val (.slice (some ⟨gL, 0, none⟩) m m), .val (.int .u8 (xn : Nat)), .val (.int .i64 (xn : Nat)), .val (.slice (some ⟨gL, 0, none⟩) m m), .val (.int .i64 (m : Nat)), .val (.int .i64 (k : Nat)), .val (.pointer (some ⟨gL, k, none⟩)), .val (.slice (some adk) s ck), .any][ix]?).getD (.any)) 188 14 rfl (by kernel_rfl) (by decide) (by decide) (by decide) (by decide) ?_ ?_
      · refine ⟨?_, ?_, ?_, ?_, ?_, ?_, ?_, ?_, ?_, ?_, ?_, ?_, ?_, ?_, trivial⟩
        · intro a W hb0 hs hp hi; have hb := undrew hb0; clear hb0
          have t14 : sl a 14 = .map (some bm) := hi 14 (by decide)
          exact ite_y rfl (wp_val (sl a 14) rfl ⟨_, rfl, Below.refl _ _, t14⟩)
        · intro a W hb0 hs hp hi; have hb := undrew hb0; clear hb0
          have t16 : sl a 16 = .int .u8 (xn : Nat) := hi 16 (by decide)
          exact ite_y rfl (wp_val (sl a 16) rfl ⟨_, rfl, Below.refl _ _, t16⟩)
        · intro a W hb0 hs hp hi; have hb := undrew hb0; clear hb0
          have tt : sl a 97 = .int .u8 (xn : Nat) := hp 1 (by decide)
          refine ite_y rfl (wp_val (.int .i64 (xn : Nat)) ?_ ?_)
          · simp only [execOp, eval_tmp, tt]; simp [go_sem, Try.underlying5, Try.underlying3, show IntKind.i64.wrap (xn : Int) = (xn : Int) by rw [IntKind.wrap_i64]; omega]
          · exact ⟨_, rfl, Below.refl _ _, rfl⟩
        · intro a W hb0 hs hp hi; have hb := undrew hb0; clear hb0
          have t11 : sl a 11 = .slice (some ⟨gL, 0, none⟩) m m := hi 11 (by decide)
          exact ite_y rfl (wp_val (sl a 11) rfl ⟨_, rfl, Below.refl _ _, t11⟩)
        · intro a W hb0 hs hp hi; have hb := undrew hb0; clear hb0
          have t99 : sl a 99 = .slice (some ⟨gL, 0, none⟩) m m := hp 3 (by decide)
          refine ite_y rfl (wp_val (.int .i64 (m : Nat)) ?_ ?_)
          · simp only [execOp, resolve, List.map_toArray, List.map, eval_tmp, eval_func, eval_const, t99]; simp [go_sem]
          · exact ⟨_, rfl, Below.refl _ _, rfl⟩
        · intro a W hb0 hs hp hi; have hb := undrew hb0; clear hb0
          have t98 : sl a 98 = .int .i64 (xn : Nat) := hp 2 (by decide)
          have t100 : sl a 100 = .int .i64 (m : Nat) := hp 4 (by decide)
          refine ite_y rfl (wp_val (.int .i64 (k : Nat)) ?_ ?_)
          · simp only [execOp, eval_tmp, eval_const, t98, t100]; simp [go_sem, hm0p, hrm, hrt]
          · exact ⟨_, rfl, Below.refl _ _, rfl⟩
        · intro a W hb0 hs hp hi; have hb := undrew hb0; clear hb0
          have t11 : sl a 11 = .slice (some ⟨gL, 0, none⟩) m m := hi 11 (by decide)
          exact ite_y rfl (wp_val (sl a 11) rfl ⟨_, rfl, Below.refl _ _, t11⟩)
        · intro a W hb0 hs hp hi; have hb := undrew hb0; clear hb0
          have t16 : sl a 16 = .int .u8 (xn : Nat) := hi 16 (by decide)
          exact ite_y rfl (wp_val (sl a 16) rfl ⟨_, rfl, Below.refl _ _, t16⟩)
        · intro a W hb0 hs hp hi; have hb := undrew hb0; clear hb0
          have tt : sl a 103 = .int .u8 (xn : Nat) := hp 7 (by decide)
          refine ite_y rfl (wp_val (.int .i64 (xn : Nat)) ?_ ?_)
          · simp only [execOp, eval_tmp, tt]; simp [go_sem, Try.underlying5, Try.underlying3, show IntKind.i64.wrap (xn : Int) = (xn : Int) by rw [IntKind.wrap_i64]; omega]
          · exact ⟨_, rfl, Below.refl _ _, rfl⟩
        · intro a W hb0 hs hp hi; have hb := undrew hb0; clear hb0
          have t11 : sl a 11 = .slice (some ⟨gL, 0, none⟩) m m := hi 11 (by decide)
          exact ite_y rfl (wp_val (sl a 11) rfl ⟨_, rfl, Below.refl _ _, t11⟩)
        · intro a W hb0 hs hp hi; have hb := undrew hb0; clear hb0
          have t105 : sl a 105 = .slice (some ⟨gL, 0, none⟩) m m := hp 9 (by decide)
          refine ite_y rfl (wp_val (.int .i64 (m : Nat)) ?_ ?_)
          · simp only [execOp, resolve, List.map_toArray, List.map, eval_tmp, eval_func, eval_const, t105]; simp [go_sem]
          · exact ⟨_, rfl, Below.refl _ _, rfl⟩
        · intro a W hb0 hs hp hi; have hb := undrew hb0; clear hb0
          have t104 : sl a 104 = .int .i64 (xn : Nat) := hp 8 (by decide)
          have t106 : sl a 106 = .int .i64 (m : Nat) := hp 10 (by decide)
          refine ite_y rfl (wp_val (.int .i64 (k : Nat)) ?_ ?_)
          · simp only [execOp, eval_tmp, eval_const, t104, t106]; simp [go_sem, hm0p, hrm, hrt]
          · exact ⟨_, rfl, Below.refl _ _, rfl⟩
        · intro a W hb0 hs hp hi; have hb := undrew hb0; clear hb0
          have ti0 : sl a 102 = .slice (some ⟨gL, 0, none⟩) m m := hp 6 (by decide)
          have ti1 : sl a 107 = .int .i64 (k : Nat) := hp 11 (by decide)
          refine ite_y rfl (wp_val (.pointer (some ⟨gL, k, none⟩)) ?_ ?_)
          · simp only [execOp, eval_tmp, eval_const, ti0, ti1]; simp [go_sem, hkl]
          · exact ⟨_, rfl, Below.refl _ _, rfl⟩
        · intro a W hb0 hs hp hi; have hb := undrew hb0; clear hb0
          have tt : sl a 108 = .pointer (some ⟨gL, k, none⟩) := hp 12 (by decide)
          have dd := (hb.cell (p := ⟨gL, k, none⟩) (lt_of_cell hck')).trans hck'
          refine ite_y rfl (wp_val (.slice (some adk) s ck) ?_ ?_)
          · simp only [execOp, eval_tmp, tt]; simp [go_sem, dd]
          · exact ⟨_, rfl, Below.refl _ _, rfl⟩
      intro a w9 o ho hb hs hd hI ht
      have ha := act_is [96, 97, 98, 99, 100, 101, 102, 103, 104, 105, 106, 107, 108, 109] hs hd ht (by decide)
      simp at ho; subst ho
      have t96 : sl a 96 = .map (some bm) := hI 0 (by decide)
      have t101 : sl a 101 = .int .i64 (k : Nat) := hI 5 (by decide)
      have t109 : sl a 109 = .slice (some adk) s ck := hI 13 (by decide)
      have hMw : MapC bm j m (SetC xs m j) vs w9 := hM.out.keep hb
      obtain ⟨W', hrun, hM2, hg⟩ := hMw.put hkm (by omega) (by unfold maxLen; omega) HY.out
      rw [← HVK.out] at hrun
      refine wp_skip_none rfl (w' := W') ?_ ?_
      · simp only [execOp, eval_tmp, t96, t101, t109, Sem.run_bind]
        rw [hrun]; rfl
      simp only [List.foldl, t96, t101, t109] at ha
      generalize sl a 97 = u97 at ha
      generalize sl a 98 = u98 at ha
      generalize sl a 99 = u99 at ha
      generalize sl a 100 = u100 at ha
      generalize sl a 102 = u102 at ha
      generalize sl a 103 = u103 at ha
      generalize sl a 104 = u104 at ha
      generalize sl a 105 = u105 at ha
      generalize sl a 106 = u106 at ha
      generalize sl a 107 = u107 at ha
      generalize sl a 108 = u108 at ha
      simp only [Act.put, List.setIfInBounds_toArray, List.set_cons_zero, List.set_cons_succ] at ha
      rw [ha]; clear ha hI ht hs hd hrun hMw t96 t101 t109
      have MC : Hid (MapC bm (j + 1) m (SetC xs m (j + 1)) vs W') := by
        have e := SetC_next (m := m) HXJ.out.out
        show MapC _ _ _ _ _ _
        rw [e, ← HXN.out, ← HKE.out]; exact hM2
      have B7 : Hid (Below w6.heap.size w6 W') := (bl hB.out hb hB.out.size).grown hg (Nat.le_trans hB.out.size hb.size) (fun r hr => by cases hr; exact Nat.le_of_eq HBM.out.symm)
      clear hM2 hg hb hM hB
      go_wp2
      go_roundw
      case rel => exact ⟨j + 1, by omega, by go_num, MC.out, B7.out⟩
      case measure => simp [intOf]; omega
    · have hge : ¬ (j : Int) < (n2 : Int) := by omega
      have hMe : Hid (MapC bm j m (SetC xs m j) vs wr) := hM
      have X7 : Hid (wr.heap[b0]? = some (.cells #[.int .i64 (mj : Int), .int .i64 (s : Int), .int .i64 (m : Int), .int .u32 d] 24 (0, 0))) := (hB.out.block _ (lt_of_blk X6.out)).trans X6.out
      have BB : Hid (Below w.heap.size w wr) := bl B6.out hB.out B6.out.size
      have V7 : Hid (VsOk m s (pieceS o s) vs wr) := V6.out.keep hB.out
      obtain ⟨p0, p1, p2, p3⟩ := cells4 X7.out
      clear hlt
      go_wp2_with fail
      refine Calls.mono (HFI.out bm j (SetC xs m j) vs wr (by omega) hMe.out V7.out) ?_
      rintro e w7 ⟨gO, gT, rfl, hgO, hgT, hO7, hT7, hb⟩
      have X8 : Hid (w7.heap[b0]? = some (.cells #[.int .i64 (mj : Int), .int .i64 (s : Int), .int .i64 (m : Int), .int .u32 d] 24 (0, 0))) := (hb.block _ (lt_of_blk X7.out)).trans X7.out
      have B8' : Hid (Below w.heap.size w w7) := bl BB.out hb BB.out.size
      have M8 := Lib.hid (hMe.out.keep hb)
      have O8 := Lib.hid hO7; have T8 := Lib.hid hT7
      clear hb hO7 hT7 hgO hgT p0 p1 p2 p3 X7 BB V7 hM hB hMe
      go_wp2
      go_loopw [136] (fun i wr => ∃ a : Nat, a ≤ mj ∧ i = .int .i64 (a : Int) ∧ Hid (Below w7.heap.size w7 wr)) (fun i _ => mj - (intOf i).toNat)
      case atStart => exact ⟨0, Nat.zero_le _, rfl, Below.refl _ _⟩
      case round =>
        obtain ⟨ai, ha, rfl, hB⟩ := hrel
        by_cases hlt : ai < mj
        · have hal : (ai : Int) < (mj : Int) := by omega
          obtain ⟨p0, p1, p2, p3⟩ := cells4 ((hB.out.block _ (lt_of_blk X8.out)).trans X8.out)
          have HSP2 := Lib.hid (fun W => HSP.out ai W hlt)
          have hdm : ai / s < m := (Nat.div_lt_iff_lt_mul (by omega)).2 (Nat.lt_of_lt_of_le hlt HMS.out)
          obtain ⟨i, hi⟩ : ∃ i, i = ai / s := ⟨_, rfl⟩
          obtain ⟨r, hr⟩ : ∃ r, r = ai % s := ⟨_, rfl⟩
          have HPA := Lib.hid (piece_at (o := o) (s := s) hs1 (show ai < o.length by rw [HOL.out]; exact hlt))
          rw [← hi, ← hr] at HSP2 HPA
          rw [← hi] at hdm
          have HI := Lib.hid hi; have HR := Lib.hid hr
          clear hi hr
          go_wp2_with fail
          refine Calls.mono (HSP2.out _) ?_
          rintro e w8 ⟨rfl, hb⟩
          have B9 : Hid (Below w7.heap.size w7 w8) := bl hB.out hb hB.out.size
          have hlk := (M8.out.keep B9.out).look hdm (by omega) HVR.out true
          obtain ⟨bo, oo, yb, rfl, hcy, hyo⟩ := (HO.out.keep (bl B8'.out B9.out B8'.out.size)).at ai hlt
          have cO : w8.cell? ⟨gO, ai, none⟩ = some (B8 (objF s (pieceS o s) (SetC xs m j) ai)) := by
            rw [cell_of_row _ _ _ _ _ _ ((B9.out.block _ (lt_of_blk O8.out)).trans O8.out), List.getElem?_toArray, List.getElem?_map, objL_at, if_pos hlt]; rfl
          have cT : w8.cell? ⟨gT, ai, none⟩ = some (.bool (SetC xs m j i)) := by
            rw [cell_of_row _ _ _ _ _ _ ((B9.out.block _ (lt_of_blk T8.out)).trans T8.out), told_cell hlt, ← HI.out]
          clear hb hB HSP2 p0 p1 p2 p3 hlt
          cases hS : SetC xs m j i with
          | true =>
            rw [hS] at cT
            rw [if_pos hS] at hlk
            have cO1 : w8.cell? ⟨gO, ai, none⟩ = some (B8 yb) := by
              rw [cO]
              unfold objF
              rw [← HI.out, ← HR.out, if_pos hS]
              have h := HPA.out
              rw [hyo.out] at h
              rw [Option.some.inj h]
            clear cO
            obtain ⟨vi, hvi⟩ : ∃ vi, vi = vs.getD i undef := ⟨_, rfl⟩
            rw [← hvi] at hlk
            simp only [if_true] at hlk
            clear hvi hS
            go_wp2_with (simp only [hlk])
            clear hlk
            refine wp_region_shapes (fun ix => ([.val (.int .i64 0), .val (.bool false), .val (.bool false), .val (.slice (some ⟨gT, 0, none⟩) mj mj), .val (.int .i64 (ai : Nat)), .val (.pointer (some ⟨gT, ai, none⟩)), .val (.bool true), .val (.bool true), .val (.bool false), .val (.bool false), .val (.bool false), .val (.bool true), .val (.bool true), .val (.slice (some ⟨gO, 0, none⟩) mj mj), .val (.int .i64 (ai : Nat)), .val (.pointer (some ⟨gO, ai, none⟩)), .val (B8 yb), .val (.slice (some ⟨bo, oo, none⟩) mj c), .val (.int .i64 (ai : Nat)), .val (.pointer (some ⟨bo, oo + ai, none⟩)), .val (B8 yb), .val (.bool false), .val (.bool false), .val (.bool false), .val (.bool false), .val (.bool true), .val (.bool false), .val (.bool false), .val (undef), .val (undef), .val (undef), .val (undef), .val (undef), .val (.bool false), .val (.bool false)][ix]?).getD (.any)) 188 rfl (by kernel_rfl) (by decide) (by decide) (by decide) ?_ ?_
            · refine ⟨?_, ?_, ?_, ?_, ?_, ?_, ?_, ?_, ?_, ?_, ?_, ?_, ?_, ?_, ?_, ?_, ?_, ?_, ?_, ?_, ?_, ?_, ?_, ?_, ?_, ?_, ?_, ?_, ?_, ?_, ?_, ?_, ?_, ?_, ?_, trivial⟩
              · intro a W hb0 hs hp hi; have hb := undrew hb0; clear hb0
                have t23 : sl a 23 = .int .i64 0 := hi 23 (by decide)
                exact ite_y rfl (wp_val (sl a 23) rfl ⟨_, rfl, Below.refl _ _, t23⟩)
              · intro a W hb0 hs hp hi; have hb := undrew hb0; clear hb0
                have t152 : sl a 152 = .int .i64 0 := hp 0 (by decide)
                refine ite_y rfl (wp_val (.bool false) ?_ ?_)
                · simp only [execOp, eval_tmp, eval_const, t152]; simp [go_sem]
                · exact ⟨_, rfl, Below.refl _ _, rfl⟩
              · intro a W hb0 hs hp hi; have hb := undrew hb0; clear hb0
                have t153 : sl a 153 = .bool false := hp 1 (by decide)
                exact ite_y rfl (wp_val (sl a 153) rfl ⟨_, rfl, Below.refl _ _, t153⟩)
              · intro a W hb0 hs hp hi; have hb := undrew hb0; clear hb0
                have tg : sl a 154 = .bool false := hp 2 (by decide)
                have t18 : sl a 18 = .slice (some ⟨gT, 0, none⟩) mj mj := hi 18 (by decide)
                exact ite_y (wanted_yes rfl rfl (by have hz : a.tmps.size = 188 := hs; rw [hz]; decide) tg) (wp_val (sl a 18) rfl ⟨_, rfl, Below.refl _ _, t18⟩)
              · intro a W hb0 hs hp hi; have hb := undrew hb0; clear hb0
                have tg : sl a 154 = .bool false := hp 2 (by decide)
                have t20 : sl a 20 = .int .i64 (ai : Nat) := hi 20 (by decide)
                exact ite_y (wanted_yes rfl rfl (by have hz : a.tmps.size = 188 := hs; rw [hz]; decide) tg) (wp_val (sl a 20) rfl ⟨_, rfl, Below.refl _ _, t20⟩)
              · intro a W hb0 hs hp hi; have hb := undrew hb0; clear hb0
                have tg : sl a 154 = .bool false := hp 2 (by decide)
                have ti0 : sl a 155 = .slice (some ⟨gT, 0, none⟩) mj mj := hp 3 (by decide)
                have ti1 : sl a 156 = .int .i64 (ai : Nat) := hp 4 (by decide)
                refine ite_y (wanted_yes rfl rfl (by have hz : a.tmps.size = 188 := hs; rw [hz]; decide) tg) (wp_val (.pointer (some ⟨gT, ai, none⟩)) ?_ ?_)
                · simp only [execOp, eval_tmp, eval_const, ti0, ti1]; simp [go_sem, hal]
                · exact ⟨_, rfl, Below.refl _ _, rfl⟩
              · intro a W hb0 hs hp hi; have hb := undrew hb0; clear hb0
                have tg : sl a 154 = .bool false := hp 2 (by decide)
                have tt : sl a 157 = .pointer (some ⟨gT, ai, none⟩) := hp 5 (by decide)
                have dd := (hb.cell (p := ⟨gT, ai, none⟩) (lt_of_cell cT)).trans cT
                refine ite_y (wanted_yes rfl rfl (by have hz : a.tmps.size = 188 := hs; rw [hz]; decide) tg) (wp_val (.bool true) ?_ ?_)
                · simp only [execOp, eval_tmp, tt]; simp [go_sem, dd]
                · exact ⟨_, rfl, Below.refl _ _, rfl⟩
              · intro a W hb0 hs hp hi; have hb := undrew hb0; clear hb0
                have tg : sl a 154 = .bool false := hp 2 (by decide)
                have t25 : sl a 25 = .bool true := hi 25 (by decide)
                exact ite_y (wanted_yes rfl rfl (by have hz : a.tmps.size = 188 := hs; rw [hz]; decide) tg) (wp_val (sl a 25) rfl ⟨_, rfl, Below.refl _ _, t25⟩)
              · intro a W hb0 hs hp hi; have hb := undrew hb0; clear hb0
                have tg : sl a 154 = .bool false := hp 2 (by decide)
                have t158 : sl a 158 = .bool true := hp 6 (by decide)
                have t159 : sl a 159 = .bool true := hp 7 (by decide)
                refine ite_y (wanted_yes rfl rfl (by have hz : a.tmps.size = 188 := hs; rw [hz]; decide) tg) (wp_val (.bool false) ?_ ?_)
                · simp only [execOp, eval_tmp, eval_const, t158, t159]; simp [go_sem]
                · exact ⟨_, rfl, Below.refl _ _, rfl⟩
              · intro a W hb0 hs hp hi; have hb := undrew hb0; clear hb0
                have t154 : sl a 154 = .bool false := hp 2 (by decide)
                have t160 : sl a 160 = .bool false := hp 8 (by decide)
                refine ite_y rfl (wp_val (.bool false) ?_ ?_)
                · simp only [execOp, eval_tmp, eval_const, t154, t160]; simp [go_sem]
                · exact ⟨_, rfl, Below.refl _ _, rfl⟩
              · intro a W hb0 hs hp hi; have hb := undrew hb0; clear hb0
                have t161 : sl a 161 = .bool false := hp 9 (by decide)
                exact ite_y rfl (wp_val (sl a 161) rfl ⟨_, rfl, Below.refl _ _, t161⟩)
              · intro a W hb0 hs hp hi; have hb := undrew hb0; clear hb0
                have tg : sl a 162 = .bool false := hp 10 (by decide)
                have t25 : sl a 25 = .bool true := hi 25 (by decide)
                exact ite_y (wanted_yes rfl rfl (by have hz : a.tmps.size = 188 := hs; rw [hz]; decide) tg) (wp_val (sl a 25) rfl ⟨_, rfl, Below.refl _ _, t25⟩)
              · intro a W hb0 hs hp hi; have hb := undrew hb0; clear hb0
                have tg : sl a 162 = .bool false := hp 10 (by decide)
                have t163 : sl a 163 = .bool true := hp 11 (by decide)
                exact ite_y (wanted_yes rfl rfl (by have hz : a.tmps.size = 188 := hs; rw [hz]; decide) tg) (wp_val (sl a 163) rfl ⟨_, rfl, Below.refl _ _, t163⟩)
              · intro a W hb0 hs hp hi; have hb := undrew hb0; clear hb0
                have tg : sl a 164 = .bool true := hp 12 (by decide)
                have t17 : sl a 17 = .slice (some ⟨gO, 0, none⟩) mj mj := hi 17 (by decide)
                exact ite_y (wanted_yes rfl rfl (by have hz : a.tmps.size = 188 := hs; rw [hz]; decide) tg) (wp_val (sl a 17) rfl ⟨_, rfl, Below.refl _ _, t17⟩)
              · intro a W hb0 hs hp hi; have hb := undrew hb0; clear hb0
                have tg : sl a 164 = .bool true := hp 12 (by decide)
                have t20 : sl a 20 = .int .i64 (ai : Nat) := hi 20 (by decide)
                exact ite_y (wanted_yes rfl rfl (by have hz : a.tmps.size = 188 := hs; rw [hz]; decide) tg) (wp_val (sl a 20) rfl ⟨_, rfl, Below.refl _ _, t20⟩)
              · intro a W hb0 hs hp hi; have hb := undrew hb0; clear hb0
                have tg : sl a 164 = .bool true := hp 12 (by decide)
                have ti0 : sl a 165 = .slice (some ⟨gO, 0, none⟩) mj mj := hp 13 (by decide)
                have ti1 : sl a 166 = .int .i64 (ai : Nat) := hp 14 (by decide)
                refine ite_y (wanted_yes rfl rfl (by have hz : a.tmps.size = 188 := hs; rw [hz]; decide) tg) (wp_val (.pointer (some ⟨gO, ai, none⟩)) ?_ ?_)
                · simp only [execOp, eval_tmp, eval_const, ti0, ti1]; simp [go_sem, hal]
                · exact ⟨_, rfl, Below.refl _ _, rfl⟩
              · intro a W hb0 hs hp hi; have hb := undrew hb0; clear hb0
                have tg : sl a 164 = .bool true := hp 12 (by decide)
                have tt : sl a 167 = .pointer (some ⟨gO, ai, none⟩) := hp 15 (by decide)
                have dd := (hb.cell (p := ⟨gO, ai, none⟩) (lt_of_cell cO1)).trans cO1
                refine ite_y (wanted_yes rfl rfl (by have hz : a.tmps.size = 188 := hs; rw [hz]; decide) tg) (wp_val (B8 yb) ?_ ?_)
                · simp only [execOp, eval_tmp, tt]; simp [go_sem, dd]
                · exact ⟨_, rfl, Below.refl _ _, rfl⟩
              · intro a W hb0 hs hp hi; have hb := undrew hb0; clear hb0
                have tg : sl a 164 = .bool true := hp 12 (by decide)
                have t0 : sl a 0 = .slice (some ⟨bo, oo, none⟩) mj c := hi 0 (by decide)
                exact ite_y (wanted_yes rfl rfl (by have hz : a.tmps.size = 188 := hs; rw [hz]; decide) tg) (wp_val (sl a 0) rfl ⟨_, rfl, Below.refl _ _, t0⟩)
              · intro a W hb0 hs hp hi; have hb := undrew hb0; clear hb0
                have tg : sl a 164 = .bool true := hp 12 (by decide)
                have t20 : sl a 20 = .int .i64 (ai : Nat) := hi 20 (by decide)
                exact ite_y (wanted_yes rfl rfl (by have hz : a.tmps.size = 188 := hs; rw [hz]; decide) tg) (wp_val (sl a 20) rfl ⟨_, rfl, Below.refl _ _, t20⟩)
              · intro a W hb0 hs hp hi; have hb := undrew hb0; clear hb0
                have tg : sl a 164 = .bool true := hp 12 (by decide)
                have ti0 : sl a 169 = .slice (some ⟨bo, oo, none⟩) mj c := hp 17 (by decide)
                have ti1 : sl a 170 = .int .i64 (ai : Nat) := hp 18 (by decide)
                refine ite_y (wanted_yes rfl rfl (by have hz : a.tmps.size = 188 := hs; rw [hz]; decide) tg) (wp_val (.pointer (some ⟨bo, oo + ai, none⟩)) ?_ ?_)
                · simp only [execOp, eval_tmp, eval_const, ti0, ti1]; simp [go_sem, hal]
                · exact ⟨_, rfl, Below.refl _ _, rfl⟩
              · intro a W hb0 hs hp hi; have hb := undrew hb0; clear hb0
                have tg : sl a 164 = .bool true := hp 12 (by decide)
                have tt : sl a 171 = .pointer (some ⟨bo, oo + ai, none⟩) := hp 19 (by decide)
                have dd := (hb.cell (p := ⟨bo, oo + ai, none⟩) (lt_of_cell hcy)).trans hcy
                refine ite_y (wanted_yes rfl rfl (by have hz : a.tmps.size = 188 := hs; rw [hz]; decide) tg) (wp_val (B8 yb) ?_ ?_)
                · simp only [execOp, eval_tmp, tt]; simp [go_sem, dd]
                · exact ⟨_, rfl, Below.refl _ _, rfl⟩
              · intro a W hb0 hs hp hi; have hb := undrew hb0; clear hb0
                have tg : sl a 164 = .bool true := hp 12 (by decide)
                have t168 : sl a 168 = B8 yb := hp 16 (by decide)
                have t172 : sl a 172 = B8 yb := hp 20 (by decide)
                refine ite_y (wanted_yes rfl rfl (by have hz : a.tmps.size = 188 := hs; rw [hz]; decide) tg) (wp_val (.bool false) ?_ ?_)
                · simp only [execOp, eval_tmp, eval_const, t168, t172]; simp [go_sem]
                · exact ⟨_, rfl, Below.refl _ _, rfl⟩
              · intro a W hb0 hs hp hi; have hb := undrew hb0; clear hb0
                have tg : sl a 162 = .bool false := hp 10 (by decide)
                have t164 : sl a 164 = .bool true := hp 12 (by decide)
                have t173 : sl a 173 = .bool false := hp 21 (by decide)
                refine ite_y (wanted_yes rfl rfl (by have hz : a.tmps.size = 188 := hs; rw [hz]; decide) tg) (wp_val (.bool false) ?_ ?_)
                · simp only [execOp, eval_tmp, eval_const, t164, t173]; simp [go_sem]
                · exact ⟨_, rfl, Below.refl _ _, rfl⟩
              · intro a W hb0 hs hp hi; have hb := undrew hb0; clear hb0
                have t162 : sl a 162 = .bool false := hp 10 (by decide)
                have t174 : sl a 174 = .bool false := hp 22 (by decide)
                refine ite_y rfl (wp_val (.bool false) ?_ ?_)
                · simp only [execOp, eval_tmp, eval_const, t162, t174]; simp [go_sem]
                · exact ⟨_, rfl, Below.refl _ _, rfl⟩
              · intro a W hb0 hs hp hi; have hb := undrew hb0; clear hb0
                have t175 : sl a 175 = .bool false := hp 23 (by decide)
                exact ite_y rfl (wp_val (sl a 175) rfl ⟨_, rfl, Below.refl _ _, t175⟩)
              · intro a W hb0 hs hp hi; have hb := undrew hb0; clear hb0
                have tg : sl a 176 = .bool false := hp 24 (by decide)
                have t25 : sl a 25 = .bool true := hi 25 (by decide)
                exact ite_y (wanted_yes rfl rfl (by have hz : a.tmps.size = 188 := hs; rw [hz]; decide) tg) (wp_val (sl a 25) rfl ⟨_, rfl, Below.refl _ _, t25⟩)
              · intro a W hb0 hs hp hi; have hb := undrew hb0; clear hb0
                have tg : sl a 176 = .bool false := hp 24 (by decide)
                have t177 : sl a 177 = .bool true := hp 25 (by decide)
                refine ite_y (wanted_yes rfl rfl (by have hz : a.tmps.size = 188 := hs; rw [hz]; decide) tg) (wp_val (.bool false) ?_ ?_)
                · simp only [execOp, eval_tmp, eval_const, t177]; simp [go_sem]
                · exact ⟨_, rfl, Below.refl _ _, rfl⟩
              · intro a W hb0 hs hp hi; have hb := undrew hb0; clear hb0
                have tg : sl a 176 = .bool false := hp 24 (by decide)
                have t178 : sl a 178 = .bool false := hp 26 (by decide)
                exact ite_y (wanted_yes rfl rfl (by have hz : a.tmps.size = 188 := hs; rw [hz]; decide) tg) (wp_val (sl a 178) rfl ⟨_, rfl, Below.refl _ _, t178⟩)
              · intro a W hb0 hs hp hi; have hb := undrew hb0; clear hb0
                have tg : sl a 179 = .bool false := hp 27 (by decide)
                exact ite_n (wanted_no rfl rfl (by have hz : a.tmps.size = 188 := hs; rw [hz]; decide) tg (by decide)) rfl
              · intro a W hb0 hs hp hi; have hb := undrew hb0; clear hb0
                have tg : sl a 179 = .bool false := hp 27 (by decide)
                exact ite_n (wanted_no rfl rfl (by have hz : a.tmps.size = 188 := hs; rw [hz]; decide) tg (by decide)) rfl
              · intro a W hb0 hs hp hi; have hb := undrew hb0; clear hb0
                have tg : sl a 179 = .bool false := hp 27 (by decide)
                exact ite_n (wanted_no rfl rfl (by have hz : a.tmps.size = 188 := hs; rw [hz]; decide) tg (by decide)) rfl
              · intro a W hb0 hs hp hi; have hb := undrew hb0; clear hb0
                have tg : sl a 179 = .bool false := hp 27 (by decide)
                exact ite_n (wanted_no rfl rfl (by have hz : a.tmps.size = 188 := hs; rw [hz]; decide) tg (by decide)) rfl
              · intro a W hb0 hs hp hi; have hb := undrew hb0; clear hb0
                have tg : sl a 179 = .bool false := hp 27 (by decide)
                exact ite_n (wanted_no rfl rfl (by have hz : a.tmps.size = 188 := hs; rw [hz]; decide) tg (by decide)) rfl
              · intro a W hb0 hs hp hi; have hb := undrew hb0; clear hb0
                have tg : sl a 176 = .bool false := hp 24 (by decide)
                have t179 : sl a 179 = .bool false := hp 27 (by decide)
                have t184 : sl a 184 = undef := hp 32 (by decide)
                refine ite_y (wanted_yes rfl rfl (by have hz : a.tmps.size = 188 := hs; rw [hz]; decide) tg) (wp_val (.bool false) ?_ ?_)
                · simp only [execOp, eval_tmp, eval_const, t179, t184]; simp [go_sem]
                · exact ⟨_, rfl, Below.refl _ _, rfl⟩
              · intro a W hb0 hs hp hi; have hb := undrew hb0; clear hb0
                have t176 : sl a 176 = .bool false := hp 24 (by decide)
                have t185 : sl a 185 = .bool false := hp 33 (by decide)
                refine ite_y rfl (wp_val (.bool false) ?_ ?_)
                · simp only [execOp, eval_tmp, eval_const, t176, t185]; simp [go_sem]
                · exact ⟨_, rfl, Below.refl _ _, rfl⟩
            intro a w9 hb hs hd hI ht
            have ha := act_is [152, 153, 154, 155, 156, 157, 158, 159, 160, 161, 162, 163, 164, 165, 166, 167, 168, 169, 170, 171, 172, 173, 174, 175, 176, 177, 178, 179, 180, 181, 182, 183, 184, 185, 186] hs hd ht (by decide)
            have t186 : sl a 186 = .bool false := hI 34 (by decide)
            simp only [List.foldl, t186] at ha
            generalize sl a 152 = u152 at ha
            generalize sl a 153 = u153 at ha
            generalize sl a 154 = u154 at ha
            generalize sl a 155 = u155 at ha
            generalize sl a 156 = u156 at ha
            generalize sl a 157 = u157 at ha
            generalize sl a 158 = u158 at ha
            generalize sl a 159 = u159 at ha
            generalize sl a 160 = u160 at ha
            generalize sl a 161 = u161 at ha
            generalize sl a 162 = u162 at ha
            generalize sl a 163 = u163 at ha
            generalize sl a 164 = u164 at ha
            generalize sl a 165 = u165 at ha
            generalize sl a 166 = u166 at ha
            generalize sl a 167 = u167 at ha
            generalize sl a 168 = u168 at ha
            generalize sl a 169 = u169 at ha
            generalize sl a 170 = u170 at ha
            generalize sl a 171 = u171 at ha
            generalize sl a 172 = u172 at ha
            generalize sl a 173 = u173 at ha
            generalize sl a 174 = u174 at ha
            generalize sl a 175 = u175 at ha
            generalize sl a 176 = u176 at ha
            generalize sl a 177 = u177 at ha
            generalize sl a 178 = u178 at ha
            generalize sl a 179 = u179 at ha
            generalize sl a 180 = u180 at ha
            generalize sl a 181 = u181 at ha
            generalize sl a 182 = u182 at ha
            generalize sl a 183 = u183 at ha
            generalize sl a 184 = u184 at ha
            generalize sl a 185 = u185 at ha
            simp only [Act.put, List.setIfInBounds_toArray, List.set_cons_zero, List.set_cons_succ] at ha
            rw [ha]
            clear ha hI ht
            have B10 : Hid (Below w7.heap.size w7 w9) := bl B9.out hb B9.out.size
            clear hb cT cO1 hcy
            go_wp2
            go_roundw
            case rel => exact ⟨ai + 1, by omega, by go_num, B10.out⟩
            case measure => simp [intOf]; omega
          | false =>
            rw [hS] at cT
            rw [if_neg (by rw [hS]; decide)] at hlk
            have cO1 : w8.cell? ⟨gO, ai, none⟩ = some (.int .u8 0) := by
              rw [cO]
              unfold objF
              rw [← HI.out, if_neg (by rw [hS]; decide)]; rfl
            clear cO
            simp only [if_true] at hlk
            clear hS
            go_wp2_with (simp only [hlk])
            clear hlk
            refine wp_region_shapes (fun ix => ([.val (.int .i64 0), .val (.bool false), .val (.bool false), .val (.slice (some ⟨gT, 0, none⟩) mj mj), .val (.int .i64 (ai : Nat)), .val (.pointer (some ⟨gT, ai, none⟩)), .val (.bool false), .val (.bool false), .val (.bool false), .val (.bool false), .val (.bool false), .val (.bool false), .val (.bool false), .val (undef), .val (undef), .val (undef), .val (undef), .val (undef), .val (undef), .val (undef), .val (undef), .val (undef), .val (.bool false), .val (.bool false), .val (.bool false), .val (.bool false), .val (.bool true), .val (.bool true), .val (.slice (some ⟨gO, 0, none⟩) mj mj), .val (.int .i64 (ai : Nat)), .val (.pointer (some ⟨gO, ai, none⟩)), .val (.int .u8 0), .val (.bool false), .val (.bool false), .val (.bool false)][ix]?).getD (.any)) 188 rfl (by kernel_rfl) (by decide) (by decide) (by decide) ?_ ?_
            · refine ⟨?_, ?_, ?_, ?_, ?_, ?_, ?_, ?_, ?_, ?_, ?_, ?_, ?_, ?_, ?_, ?_, ?_, ?_, ?_, ?_, ?_, ?_, ?_, ?_, ?_, ?_, ?_, ?_, ?_, ?_, ?_, ?_, ?_, ?_, ?_, trivial⟩
              · intro a W hb0 hs hp hi; have hb := undrew hb0; clear hb0
                have t23 : sl a 23 = .int .i64 0 := hi 23 (by decide)
                exact ite_y rfl (wp_val (sl a 23) rfl ⟨_, rfl, Below.refl _ _, t23⟩)
              · intro a W hb0 hs hp hi; have hb := undrew hb0; clear hb0
                have t152 : sl a 152 = .int .i64 0 := hp 0 (by decide)
                refine ite_y rfl (wp_val (.bool false) ?_ ?_)
                · simp only [execOp, eval_tmp, eval_const, t152]; simp [go_sem]
                · exact ⟨_, rfl, Below.refl _ _, rfl⟩
              · intro a W hb0 hs hp hi; have hb := undrew hb0; clear hb0
                have t153 : sl a 153 = .bool false := hp 1 (by decide)
                exact ite_y rfl (wp_val (sl a 153) rfl ⟨_, rfl, Below.refl _ _, t153⟩)
              · intro a W hb0 hs hp hi; have hb := undrew hb0; clear hb0
                have tg : sl a 154 = .bool false := hp 2 (by decide)
                have t18 : sl a 18 = .slice (some ⟨gT, 0, none⟩) mj mj := hi 18 (by decide)
                exact ite_y (wanted_yes rfl rfl (by have hz : a.tmps.size = 188 := hs; rw [hz]; decide) tg) (wp_val (sl a 18) rfl ⟨_, rfl, Below.refl _ _, t18⟩)
              · intro a W hb0 hs hp hi; have hb := undrew hb0; clear hb0
                have tg : sl a 154 = .bool false := hp 2 (by decide)
                have t20 : sl a 20 = .int .i64 (ai : Nat) := hi 20 (by decide)
                exact ite_y (wanted_yes rfl rfl (by have hz : a.tmps.size = 188 := hs; rw [hz]; decide) tg) (wp_val (sl a 20) rfl ⟨_, rfl, Below.refl _ _, t20⟩)
              · intro a W hb0 hs hp hi; have hb := undrew hb0; clear hb0
                have tg : sl a 154 = .bool false := hp 2 (by decide)
                have ti0 : sl a 155 = .slice (some ⟨gT, 0, none⟩) mj mj := hp 3 (by decide)
                have ti1 : sl a 156 = .int .i64 (ai : Nat) := hp 4 (by decide)
                refine ite_y (wanted_yes rfl rfl (by have hz : a.tmps.size = 188 := hs; rw [hz]; decide) tg) (wp_val (.pointer (some ⟨gT, ai, none⟩)) ?_ ?_)
                · simp only [execOp, eval_tmp, eval_const, ti0, ti1]; simp [go_sem, hal]
                · exact ⟨_, rfl, Below.refl _ _, rfl⟩
              · intro a W hb0 hs hp hi; have hb := undrew hb0; clear hb0
                have tg : sl a 154 = .bool false := hp 2 (by decide)
                have tt : sl a 157 = .pointer (some ⟨gT, ai, none⟩) := hp 5 (by decide)
                have dd := (hb.cell (p := ⟨gT, ai, none⟩) (lt_of_cell cT)).trans cT
                refine ite_y (wanted_yes rfl rfl (by have hz : a.tmps.size = 188 := hs; rw [hz]; decide) tg) (wp_val (.bool false) ?_ ?_)
                · simp only [execOp, eval_tmp, tt]; simp [go_sem, dd]
                · exact ⟨_, rfl, Below.refl _ _, rfl⟩
              · intro a W hb0 hs hp hi; have hb := undrew hb0; clear hb0
                have tg : sl a 154 = .bool false := hp 2 (by decide)
                have t25 : sl a 25 = .bool false := hi 25 (by decide)
                exact ite_y (wanted_yes rfl rfl (by have hz : a.tmps.size = 188 := hs; rw [hz]; decide) tg) (wp_val (sl a 25) rfl ⟨_, rfl, Below.refl _ _, t25⟩)
              · intro a W hb0 hs hp hi; have hb := undrew hb0; clear hb0
                have tg : sl a 154 = .bool false := hp 2 (by decide)
                have t158 : sl a 158 = .bool false := hp 6 (by decide)
                have t159 : sl a 159 = .bool false := hp 7 (by decide)
                refine ite_y (wanted_yes rfl rfl (by have hz : a.tmps.size = 188 := hs; rw [hz]; decide) tg) (wp_val (.bool false) ?_ ?_)
                · simp only [execOp, eval_tmp, eval_const, t158, t159]; simp [go_sem]
                · exact ⟨_, rfl, Below.refl _ _, rfl⟩
              · intro a W hb0 hs hp hi; have hb := undrew hb0; clear hb0
                have t154 : sl a 154 = .bool false := hp 2 (by decide)
                have t160 : sl a 160 = .bool false := hp 8 (by decide)
                refine ite_y rfl (wp_val (.bool false) ?_ ?_)
                · simp only [execOp, eval_tmp, eval_const, t154, t160]; simp [go_sem]
                · exact ⟨_, rfl, Below.refl _ _, rfl⟩
              · intro a W hb0 hs hp hi; have hb := undrew hb0; clear hb0
                have t161 : sl a 161 = .bool false := hp 9 (by decide)
                exact ite_y rfl (wp_val (sl a 161) rfl ⟨_, rfl, Below.refl _ _, t161⟩)
              · intro a W hb0 hs hp hi; have hb := undrew hb0; clear hb0
                have tg : sl a 162 = .bool false := hp 10 (by decide)
                have t25 : sl a 25 = .bool false := hi 25 (by decide)
                exact ite_y (wanted_yes rfl rfl (by have hz : a.tmps.size = 188 := hs; rw [hz]; decide) tg) (wp_val (sl a 25) rfl ⟨_, rfl, Below.refl _ _, t25⟩)
              · intro a W hb0 hs hp hi; have hb := undrew hb0; clear hb0
                have tg : sl a 162 = .bool false := hp 10 (by decide)
                have t163 : sl a 163 = .bool false := hp 11 (by decide)
                exact ite_y (wanted_yes rfl rfl (by have hz : a.tmps.size = 188 := hs; rw [hz]; decide) tg) (wp_val (sl a 163) rfl ⟨_, rfl, Below.refl _ _, t163⟩)
              · intro a W hb0 hs hp hi; have hb := undrew hb0; clear hb0
                have tg : sl a 164 = .bool false := hp 12 (by decide)
                exact ite_n (wanted_no rfl rfl (by have hz : a.tmps.size = 188 := hs; rw [hz]; decide) tg (by decide)) rfl
              · intro a W hb0 hs hp hi; have hb := undrew hb0; clear hb0
                have tg : sl a 164 = .bool false := hp 12 (by decide)
                exact ite_n (wanted_no rfl rfl (by have hz : a.tmps.size = 188 := hs; rw [hz]; decide) tg (by decide)) rfl
              · intro a W hb0 hs hp hi; have hb := undrew hb0; clear hb0
                have tg : sl a 164 = .bool false := hp 12 (by decide)
                exact ite_n (wanted_no rfl rfl (by have hz : a.tmps.size = 188 := hs; rw [hz]; decide) tg (by decide)) rfl
              · intro a W hb0 hs hp hi; have hb := undrew hb0; clear hb0
                have tg : sl a 164 = .bool false := hp 12 (by decide)
                exact ite_n (wanted_no rfl rfl (by have hz : a.tmps.size = 188 := hs; rw [hz]; decide) tg (by decide)) rfl
              · intro a W hb0 hs hp hi; have hb := undrew hb0; clear hb0
                have tg : sl a 164 = .bool false := hp 12 (by decide)
                exact ite_n (wanted_no rfl rfl (by have hz : a.tmps.size = 188 := hs; rw [hz]; decide) tg (by decide)) rfl
              · intro a W hb0 hs hp hi; have hb := undrew hb0; clear hb0
                have tg : sl a 164 = .bool false := hp 12 (by decide)
                exact ite_n (wanted_no rfl rfl (by have hz : a.tmps.size = 188 := hs; rw [hz]; decide) tg (by decide)) rfl
              · intro a W hb0 hs hp hi; have hb := undrew hb0; clear hb0
                have tg : sl a 164 = .bool false := hp 12 (by decide)
                exact ite_n (wanted_no rfl rfl (by have hz : a.tmps.size = 188 := hs; rw [hz]; decide) tg (by decide)) rfl
              · intro a W hb0 hs hp hi; have hb := undrew hb0; clear hb0
                have tg : sl a 164 = .bool false := hp 12 (by decide)
                exact ite_n (wanted_no rfl rfl (by have hz : a.tmps.size = 188 := hs; rw [hz]; decide) tg (by decide)) rfl
              · intro a W hb0 hs hp hi; have hb := undrew hb0; clear hb0
                have tg : sl a 164 = .bool false := hp 12 (by decide)
                exact ite_n (wanted_no rfl rfl (by have hz : a.tmps.size = 188 := hs; rw [hz]; decide) tg (by decide)) rfl
              · intro a W hb0 hs hp hi; have hb := undrew hb0; clear hb0
                have tg : sl a 162 = .bool false := hp 10 (by decide)
                have t164 : sl a 164 = .bool false := hp 12 (by decide)
                have t173 : sl a 173 = undef := hp 21 (by decide)
                refine ite_y (wanted_yes rfl rfl (by have hz : a.tmps.size = 188 := hs; rw [hz]; decide) tg) (wp_val (.bool false) ?_ ?_)
                · simp only [execOp, eval_tmp, eval_const, t164, t173]; simp [go_sem]
                · exact ⟨_, rfl, Below.refl _ _, rfl⟩
              · intro a W hb0 hs hp hi; have hb := undrew hb0; clear hb0
                have t162 : sl a 162 = .bool false := hp 10 (by decide)
                have t174 : sl a 174 = .bool false := hp 22 (by decide)
                refine ite_y rfl (wp_val (.bool false) ?_ ?_)
                · simp only [execOp, eval_tmp, eval_const, t162, t174]; simp [go_sem]
                · exact ⟨_, rfl, Below.refl _ _, rfl⟩
              · intro a W hb0 hs hp hi; have hb := undrew hb0; clear hb0
                have t175 : sl a 175 = .bool false := hp 23 (by decide)
                exact ite_y rfl (wp_val (sl a 175) rfl ⟨_, rfl, Below.refl _ _, t175⟩)
              · intro a W hb0 hs hp hi; have hb := undrew hb0; clear hb0
                have tg : sl a 176 = .bool false := hp 24 (by decide)
                have t25 : sl a 25 = .bool false := hi 25 (by decide)
                exact ite_y (wanted_yes rfl rfl (by have hz : a.tmps.size = 188 := hs; rw [hz]; decide) tg) (wp_val (sl a 25) rfl ⟨_, rfl, Below.refl _ _, t25⟩)
              · intro a W hb0 hs hp hi; have hb := undrew hb0; clear hb0
                have tg : sl a 176 = .bool false := hp 24 (by decide)
                have t177 : sl a 177 = .bool false := hp 25 (by decide)
                refine ite_y (wanted_yes rfl rfl (by have hz : a.tmps.size = 188 := hs; rw [hz]; decide) tg) (wp_val (.bool true) ?_ ?_)
                · simp only [execOp, eval_tmp, eval_const, t177]; simp [go_sem]
                · exact ⟨_, rfl, Below.refl _ _, rfl⟩
              · intro a W hb0 hs hp hi; have hb := undrew hb0; clear hb0
                have tg : sl a 176 = .bool false := hp 24 (by decide)
                have t178 : sl a 178 = .bool true := hp 26 (by decide)
                exact ite_y (wanted_yes rfl rfl (by have hz : a.tmps.size = 188 := hs; rw [hz]; decide) tg) (wp_val (sl a 178) rfl ⟨_, rfl, Below.refl _ _, t178⟩)
              · intro a W hb0 hs hp hi; have hb := undrew hb0; clear hb0
                have tg : sl a 179 = .bool true := hp 27 (by decide)
                have t17 : sl a 17 = .slice (some ⟨gO, 0, none⟩) mj mj := hi 17 (by decide)
                exact ite_y (wanted_yes rfl rfl (by have hz : a.tmps.size = 188 := hs; rw [hz]; decide) tg) (wp_val (sl a 17) rfl ⟨_, rfl, Below.refl _ _, t17⟩)
              · intro a W hb0 hs hp hi; have hb := undrew hb0; clear hb0
                have tg : sl a 179 = .bool true := hp 27 (by decide)
                have t20 : sl a 20 = .int .i64 (ai : Nat) := hi 20 (by decide)
                exact ite_y (wanted_yes rfl rfl (by have hz : a.tmps.size = 188 := hs; rw [hz]; decide) tg) (wp_val (sl a 20) rfl ⟨_, rfl, Below.refl _ _, t20⟩)
              · intro a W hb0 hs hp hi; have hb := undrew hb0; clear hb0
                have tg : sl a 179 = .bool true := hp 27 (by decide)
                have ti0 : sl a 180 = .slice (some ⟨gO, 0, none⟩) mj mj := hp 28 (by decide)
                have ti1 : sl a 181 = .int .i64 (ai : Nat) := hp 29 (by decide)
                refine ite_y (wanted_yes rfl rfl (by have hz : a.tmps.size = 188 := hs; rw [hz]; decide) tg) (wp_val (.pointer (some ⟨gO, ai, none⟩)) ?_ ?_)
                · simp only [execOp, eval_tmp, eval_const, ti0, ti1]; simp [go_sem, hal]
                · exact ⟨_, rfl, Below.refl _ _, rfl⟩
              · intro a W hb0 hs hp hi; have hb := undrew hb0; clear hb0
                have tg : sl a 179 = .bool true := hp 27 (by decide)
                have tt : sl a 182 = .pointer (some ⟨gO, ai, none⟩) := hp 30 (by decide)
                have dd := (hb.cell (p := ⟨gO, ai, none⟩) (lt_of_cell cO1)).trans cO1
                refine ite_y (wanted_yes rfl rfl (by have hz : a.tmps.size = 188 := hs; rw [hz]; decide) tg) (wp_val (.int .u8 0) ?_ ?_)
                · simp only [execOp, eval_tmp, tt]; simp [go_sem, dd]
                · exact ⟨_, rfl, Below.refl _ _, rfl⟩
              · intro a W hb0 hs hp hi; have hb := undrew hb0; clear hb0
                have tg : sl a 179 = .bool true := hp 27 (by decide)
                have t183 : sl a 183 = .int .u8 0 := hp 31 (by decide)
                refine ite_y (wanted_yes rfl rfl (by have hz : a.tmps.size = 188 := hs; rw [hz]; decide) tg) (wp_val (.bool false) ?_ ?_)
                · simp only [execOp, eval_tmp, eval_const, t183]; simp [go_sem]
                · exact ⟨_, rfl, Below.refl _ _, rfl⟩
              · intro a W hb0 hs hp hi; have hb := undrew hb0; clear hb0
                have tg : sl a 176 = .bool false := hp 24 (by decide)
                have t179 : sl a 179 = .bool true := hp 27 (by decide)
                have t184 : sl a 184 = .bool false := hp 32 (by decide)
                refine ite_y (wanted_yes rfl rfl (by have hz : a.tmps.size = 188 := hs; rw [hz]; decide) tg) (wp_val (.bool false) ?_ ?_)
                · simp only [execOp, eval_tmp, eval_const, t179, t184]; simp [go_sem]
                · exact ⟨_, rfl, Below.refl _ _, rfl⟩
              · intro a W hb0 hs hp hi; have hb := undrew hb0; clear hb0
                have t176 : sl a 176 = .bool false := hp 24 (by decide)
                have t185 : sl a 185 = .bool false := hp 33 (by decide)
                refine ite_y rfl (wp_val (.bool false) ?_ ?_)
                · simp only [execOp, eval_tmp, eval_const, t176, t185]; simp [go_sem]
                · exact ⟨_, rfl, Below.refl _ _, rfl⟩
            intro a w9 hb hs hd hI ht
            have ha := act_is [152, 153, 154, 155, 156, 157, 158, 159, 160, 161, 162, 163, 164, 165, 166, 167, 168, 169, 170, 171, 172, 173, 174, 175, 176, 177, 178, 179, 180, 181, 182, 183, 184, 185, 186] hs hd ht (by decide)
            have t186 : sl a 186 = .bool false := hI 34 (by decide)
            simp only [List.foldl, t186] at ha
            generalize sl a 152 = u152 at ha
            generalize sl a 153 = u153 at ha
            generalize sl a 154 = u154 at ha
            generalize sl a 155 = u155 at ha
            generalize sl a 156 = u156 at ha
            generalize sl a 157 = u157 at ha
            generalize sl a 158 = u158 at ha
            generalize sl a 159 = u159 at ha
            generalize sl a 160 = u160 at ha
            generalize sl a 161 = u161 at ha
            generalize sl a 162 = u162 at ha
            generalize sl a 163 = u163 at ha
            generalize sl a 164 = u164 at ha
            generalize sl a 165 = u165 at ha
            generalize sl a 166 = u166 at ha
            generalize sl a 167 = u167 at ha
            generalize sl a 168 = u168 at ha
            generalize sl a 169 = u169 at ha
            generalize sl a 170 = u170 at ha
            generalize sl a 171 = u171 at ha
            generalize sl a 172 = u172 at ha
            generalize sl a 173 = u173 at ha
            generalize sl a 174 = u174 at ha
            generalize sl a 175 = u175 at ha
            generalize sl a 176 = u176 at ha
            generalize sl a 177 = u177 at ha
            generalize sl a 178 = u178 at ha
            generalize sl a 179 = u179 at ha
            generalize sl a 180 = u180 at ha
            generalize sl a 181 = u181 at ha
            generalize sl a 182 = u182 at ha
            generalize sl a 183 = u183 at ha
            generalize sl a 184 = u184 at ha
            generalize sl a 185 = u185 at ha
            simp only [Act.put, List.setIfInBounds_toArray, List.set_cons_zero, List.set_cons_succ] at ha
            rw [ha]
            clear ha hI ht
            have B10 : Hid (Below w7.heap.size w7 w9) := bl B9.out hb B9.out.size
            clear hb cT cO1 hcy
            go_wp2
            go_roundw
            case rel => exact ⟨ai + 1, by omega, by go_num, B10.out⟩
            case measure => simp [intOf]; omega
        · have hge : ¬ (ai : Int) < (mj : Int) := by omega
          have BF := Lib.hid (bl B8'.out hB.out B8'.out.size)
          clear hlt hB
          go_wp2
          go_ret
          exact ⟨rfl, BF.out⟩
theorem GlueBack_any (q : Option Addr) (n c : Nat) (o : List UInt8) (s d : Int) (q2 : Option Addr) (n2 c2 : Nat) (xs : List UInt8) (w : World) (h1 : Sl B8 w q n c o) (w1 : (Lit.int .i64 s).wf = true) (_w2 : (Lit.int .u32 d).wf = true) (h2 : Sl B8 w q2 n2 c2 xs) :
    Calls Try.prog 4 #[.slice q n c, .int .i64 s, .int .u32 d, .slice q2 n2 c2] w fun e w' => e = .returned (.bool true) ∧ Below w.heap.size w w' := by
  have hb := h1.bound
  by_cases g1 : (2000 : Int) < (n : Int)
  · exact GlueBack_big q q2 n c n2 c2 s d w hb (.inl g1)
  by_cases g2 : (2000 : Int) < s
  · exact GlueBack_big q q2 n c n2 c2 s d w hb (.inr (.inl ⟨g1, g2⟩))
  by_cases g3 : (100 : Int) < (n2 : Int)
  · exact GlueBack_big q q2 n c n2 c2 s d w hb (.inr (.inr ⟨g1, g2, g3⟩))
  by_cases hf : fitS n s = 0
  · rcases fitS_cases n s with ⟨a, _⟩ | ⟨_, e1, e2, _, _⟩
    · exact absurd hf a
    · obtain ⟨S, rfl⟩ := Int.eq_ofNat_of_zero_le (show 0 ≤ s by omega)
      obtain ⟨m, _, hm1, hk, hfit, hms, hof⟩ := fit_goodC hf
      exact GlueBack_good q q2 n c n2 c2 S m d o xs w h1 h2 (by omega) (by omega) (by omega) hm1 hk hfit hms hof
  · exact GlueBack_bad q q2 n c n2 c2 s d w (by omega) (by omega) (by omega) (Go.bounds_i64 w1).1 hf
end Go.Proofs.Ytnlfohbmdmeodaa
