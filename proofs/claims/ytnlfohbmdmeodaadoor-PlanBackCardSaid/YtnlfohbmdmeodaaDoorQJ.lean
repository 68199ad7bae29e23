/- The plan's Parse. -/
import Derived.Test.YtnlfohbmdmeodaaDoorQH
import Derived.Test.YtnlfohbmdmeodaaDoorQI
import Derived.Test.YtnlfohbmdmeodaaDoorQD
namespace Go.By
open Go.RowKit
/-- four numbers, the first of them known -/
def padS4 (X : List Nat) : Array Value := (X.map (fun x : Nat => Value.int .u64 (x : Int)) ++ List.replicate (4 - X.length) (Value.int .u64 0)).toArray
theorem padS4_set {X : List Nat} {k x : Nat} (h : X.length = k) (hk : k < 4) : (padS4 X).setIfInBounds k (.int .u64 (x : Int)) = padS4 (X ++ [x]) := by
  subst h
  unfold padS4
  rw [List.setIfInBounds_toArray]
  congr 1
  have e : 4 - X.length = (4 - (X ++ [x]).length) + 1 := by simp; omega
  rw [e, List.replicate_succ, List.map_append, List.append_assoc]
  have hl : X.length = (X.map (fun x : Nat => Value.int .u64 (x : Int))).length := by simp
  conv => lhs; rw [hl]
  rw [List.set_append_right _ _ (Nat.le_refl _), Nat.sub_self]; rfl
theorem padS4_at {X : List Nat} {k : Nat} (h : X.length = k) (hk : k < 4) : (padS4 X)[k]? = some (.int .u64 0) := by
  subst h
  unfold padS4
  rw [List.getElem?_toArray, List.getElem?_append_right (by simp), List.length_map, Nat.sub_self, List.getElem?_replicate, if_pos (by omega)]
def bsN (k : Nat) : Int := if k = 0 then 32 else 31
theorem bs_bnd (k : Nat) : (bsN k = 32 ∧ bndN k = 4294967295) ∨ (bsN k = 31 ∧ bndN k = 2147483647) := by
  by_cases h : k = 0
  · left; exact ⟨if_pos h, if_pos h⟩
  · right; exact ⟨if_neg h, if_neg h⟩
end Go.By
namespace Go.Proofs.YtnlfohbmdmeodaaDoor
open Go.RowKit Go.By
/-- what Parse answers -/
def parseV (l : List UInt8) : Value := match parseO l with
  | some [d, L, S, N] => if checkS L S N = 0 then .tuple #[.agg #[.int .i64 L, .int .i64 S, .int .i64 N, .int .u32 d], .int .i64 0] else .tuple #[.agg #[.int .i64 0, .int .i64 0, .int .i64 0, .int .u32 0], .int .i64 (checkS L S N)]
  | _ => .tuple #[.agg #[.int .i64 0, .int .i64 0, .int .i64 0, .int .u32 0], .int .i64 14]
theorem parseV_none {l : List UInt8} (h : parseO l = none) : parseV l = .tuple #[.agg #[.int .i64 0, .int .i64 0, .int .i64 0, .int .u32 0], .int .i64 14] := by unfold parseV; rw [h]
theorem parseV_bad {l : List UInt8} {d L S N : Nat} (h : parseO l = some [d, L, S, N]) (hc : checkS L S N ≠ 0) : parseV l = .tuple #[.agg #[.int .i64 0, .int .i64 0, .int .i64 0, .int .u32 0], .int .i64 (checkS L S N)] := by unfold parseV; rw [h]; exact if_neg hc
theorem parseV_good {l : List UInt8} {d L S N : Nat} (h : parseO l = some [d, L, S, N]) (hc : checkS L S N = 0) : parseV l = .tuple #[.agg #[.int .i64 L, .int .i64 S, .int .i64 N, .int .u32 d], .int .i64 0] := by unfold parseV; rw [h]; exact if_pos hc
set_option maxRecDepth 100000 in
set_option maxHeartbeats 8000000 in
theorem PParse_any (l : List UInt8) (w : World) (hl : l.length ≤ 1000000) (hM : MaxI w) (hE : ErrI w) :
    Calls Tryd.prog 15 #[.string (strB l)] w fun e w' => e = .returned (parseV l) ∧ Below w.heap.size w w' := by
  have hi := info_plan
  have HBA : Hid (∀ (W : World) o, Below W.heap.size W (W.alloc o)) := fun W o => al (Below.refl _ _) (Nat.le_refl _)
  have hix : Hid (∀ k : Nat, k < 4 → ∀ w, (Instr.index 49 (.agg #[.int .i64 32, .int .i64 31, .int .i64 31, .int .i64 31]) (.int .i64 (k : Int))).run Tryd.prog w = .ok (.int .i64 (bsN k)) w) := fun k hk w => by
    have : k = 0 ∨ k = 1 ∨ k = 2 ∨ k = 3 := by omega
    rcases this with rfl | rfl | rfl | rfl <;> simp [Instr.index, run_underlying Tryd.underlying49, asIntOf, go_sem, bsN]
  have HSP : Hid (∀ W, MaxI W → Calls Tryd.prog 22 #[.string (strB l), .string ⟨#[32]⟩, .int .i64 6] W fun e w' => ∃ b c, e = .returned (.slice (some ⟨b, 0, none⟩) (spl 32 5 l).length c) ∧ (spl 32 5 l).length ≤ c ∧ StrRow w' b (spl 32 5 l) ∧ Below W.heap.size W w') := fun W h => SplitN_any l W hl h
  have HSH : Hid (∀ x ∈ spl 32 5 l, x.length ≤ 1000000) := fun x hx => Nat.le_trans (spl_short 5 l x hx) hl
  have HM := Lib.hid hM; have HE := Lib.hid hE
  have HXB : Hid (∀ o, (w.alloc o).heap[w.heap.size]? = some o) := fun o => hnew rfl
  obtain ⟨S0, hS0⟩ : ∃ S0, S0 = strB l := ⟨_, rfl⟩
  rw [← hS0] at HSP ⊢
  clear hS0 hl hM hE
  go_enter Tryd.func15, Tryd.ntmps15
  go_wp2_with fail
  refine Calls.mono (HSP.out _ (HM.out.keep (HBA.out _ _))) ?_
  rintro e w1 ⟨b, c, rfl, hc, hs, hb⟩
  have XB : Hid (PC4 w.heap.size 24 0 0 0 0 w1) := PC4.keep (HXB.out _) hb
  have B1 : Hid (Below w.heap.size w w1) := bl (HBA.out _ _) hb (by simp)
  have E1 := Lib.hid (HE.out.keep B1.out)
  have SR := Lib.hid hs
  obtain ⟨b2, hb2⟩ : ∃ b2, b2 = w.heap.size := ⟨_, rfl⟩
  have HB2 := Lib.hid hb2
  rw [← hb2] at XB ⊢
  clear hs hb HSP hb2 HXB
  have hn1 := (spl_len 32 5 l).1
  obtain ⟨o, ws, hw⟩ : ∃ o ws, spl 32 5 l = o :: ws := by
    cases h : spl 32 5 l with
    | nil => rw [h] at hn1; simp at hn1
    | cons o ws => exact ⟨o, ws, rfl⟩
  have HW := Lib.hid hw
  rw [hw] at SR HSH hc hn1 ⊢
  rw [List.length_cons] at hc hn1 ⊢
  have hfin0 : ∀ W, PC4 b2 24 0 0 0 0 W → PC4 b2 24 0 0 0 0 ((((W.setCell ⟨b2, 0, none⟩ (.int .i64 0)).setCell ⟨b2, 1, none⟩ (.int .i64 0)).setCell ⟨b2, 2, none⟩ (.int .i64 0)).setCell ⟨b2, 3, none⟩ (.int .u32 0)) := fun W h => hss (hss (hss (hss h)))
  have hset : ∀ W x y z u, Below w.heap.size w W → Below w.heap.size w ((((W.setCell ⟨b2, 0, none⟩ x).setCell ⟨b2, 1, none⟩ y).setCell ⟨b2, 2, none⟩ z).setCell ⟨b2, 3, none⟩ u) := fun W x y z u h => by
    have e : w.heap.size ≤ b2 := Nat.le_of_eq HB2.out.symm
    exact (((h.setCell e _).setCell e _).setCell e _).setCell e _
  have HF0 := Lib.hid hfin0; have HST := Lib.hid hset
  clear hfin0 hset hw
  have hne0 : (ws.length + 1 = 5) ∨ ((((ws.length + 1 : Nat) : Int) != 5) = true ∧ parseO l = none) := by
    by_cases h : ws.length + 1 = 5
    · exact .inl h
    · refine .inr ⟨by simp; omega, ?_⟩
      by_cases ho : o = objW
      · subst ho; exact SoFar.short (SoFar.zero HW.out) (by omega)
      · exact parse_obj HW.out ho
  obtain ⟨n, hn⟩ : ∃ n, n = ws.length + 1 := ⟨_, rfl⟩
  rw [← hn] at hne0 hc hn1 ⊢
  have HN := Lib.hid hn
  clear hn
  rcases hne0 with h5 | ⟨hne, hp⟩
  · subst h5
    obtain ⟨c0, c1, c2, c3⟩ := XB.out.cells
    have f0 := XB.out.froz 0
    have f1 := XB.out.froz 1
    have f2 := XB.out.froz 2
    have f3 := XB.out.froz 3
    by_cases ho : o = objW
    · have d0 : w1.cell? ⟨b, 0, none⟩ = some (.string ⟨#[111, 98, 106, 101, 99, 116]⟩) := by
        have := SR.out 0 o rfl
        rw [ho] at this; exact this
      have SF0 : Hid (SoFar l 0 [] ws) := SoFar.zero (by rw [HW.out, ho])
      clear ho hn1 c0 c1 c2 c3 f0 f1 f2 f3
      go_wp2
      go_loopw [27] (fun i wr => ∃ (k : Nat) (X : List Nat), i = .int .i64 k ∧ k ≤ 4 ∧ Hid (SoFar l k X (ws.drop k)) ∧ Hid (wr.heap[w1.heap.size + 1]? = some (.cells (padS4 X) 50 (0, 0))) ∧ Hid (PC4 b2 24 0 0 0 0 wr) ∧ Hid (StrRow wr b (o :: ws)) ∧ Hid (Below w.heap.size w wr)) (fun i _ => 4 - (intOf i).toNat)
      case atStart =>
        have q1 : Below w1.heap.size w1 ((w1.alloc (.cells #[.int .i64 32, .int .i64 31, .int .i64 31, .int .i64 31] 49)).alloc (.cells (padS4 []) 50)) := al (HBA.out _ _) (by simp)
        exact ⟨0, [], rfl, by omega, SF0.out, hnew (by simp), XB.out.keep q1, SR.out.keep q1, bl B1.out q1 B1.out.size⟩
      case round =>
        obtain ⟨k, X, rfl, hk, hS, hX, hP, hR, hBw⟩ := hrel
        by_cases hlt : k < 4
        · obtain ⟨x, hx⟩ : ∃ x, ws[k]? = some x := ⟨ws[k]'(by have := HN.out; omega), List.getElem?_eq_getElem _⟩
          have hw1 : wr.cell? ⟨b, k + 1, none⟩ = some (.string (strB x)) := hR.out (k + 1) x (by simpa using hx)
          have hk5 : (k : Int) + 1 < 5 := by omega
          have hix0 := hix.out k hlt
          have hdr : ws.drop k = x :: ws.drop (k + 1) := by
            obtain ⟨hh, e⟩ := List.getElem?_eq_some_iff.1 hx
            rw [List.drop_eq_getElem_cons hh, e]
          have HNU : Hid (∀ W, ErrI W → Calls Tryd.prog 23 #[.string (strB x), .int .i64 (bsN k)] W fun e w' => ∃ v, e = .returned v ∧ NumRes .u64 (bndN k) x v ∧ Below W.heap.size W w') := fun W h => number_any x (bsN k) (bndN k) (bs_bnd k) W (HSH.out x (by right; exact List.mem_of_getElem? hx)) h
          have S1 := hS.out
          rw [hdr] at S1
          have HS1 := Lib.hid S1
          have HLT := Lib.hid hlt
          obtain ⟨sx, hsx⟩ : ∃ sx, sx = strB x := ⟨_, rfl⟩
          obtain ⟨bs, hbs⟩ : ∃ bs, bs = bsN k := ⟨_, rfl⟩
          rw [← hsx] at hw1 HNU
          rw [← hbs] at hix0 HNU
          have hlt' : (k : Int) < 4 := by omega
          clear hx hdr S1 hS hsx hbs hlt
          go_wp2_with (first | simp only [hix0] | fail)
          refine Calls.mono (HNU.out _ (HE.out.keep hBw.out)) ?_
          rintro e w3 ⟨v, rfl, ⟨y, rfl, hy⟩, hb⟩
          have P3 := Lib.hid (hP.out.keep hb)
          have R3 := Lib.hid (hR.out.keep hb)
          have X3 : Hid (w3.heap[w1.heap.size + 1]? = some (.cells (padS4 X) 50 (0, 0))) := (hb.block _ (lt_blkq hX.out)).trans hX.out
          have B3 : Hid (Below w.heap.size w w3) := bl hBw.out hb hBw.out.size
          clear hb hP hR hX hBw hw1 hk5 hix0 HNU
          cases hnb : numB (bndN k) x with
          | none =>
            have HP0 : Hid (parseV l = .tuple #[.agg #[.int .i64 0, .int .i64 0, .int .i64 0, .int .u32 0], .int .i64 14]) := parseV_none (HS1.out.bad HLT.out hnb)
            obtain ⟨c0, c1, c2, c3⟩ := P3.out.cells
            have f0 := P3.out.froz 0
            have f1 := P3.out.froz 1
            have f2 := P3.out.froz 2
            have f3 := P3.out.froz 3
            clear hy hnb
            go_wp2
            refine bodyPost_ret (results_ct rfl _ _ _ 24 #[.int .i64 0, .int .i64 0, .int .i64 0, .int .u32 0] (0, 0) _ (.int .i64 14) rfl (HF0.out _ P3.out) rfl Tryd.underlying24 rfl hi) rfl ⟨by rw [HP0.out], HST.out _ _ _ _ _ B3.out⟩
          | some y0 =>
            obtain rfl : y = y0 := hy y0 hnb
            have HS4 : Hid (SoFar l (k + 1) (X ++ [y]) (ws.drop (k + 1))) := HS1.out.next HLT.out hnb
            have hXl : X.length = k := HS1.out.2.1
            have g0 : w3.cell? ⟨w1.heap.size + 1, k, none⟩ = some (.int .u64 0) := by
              rw [cell_of_row _ _ _ _ _ _ X3.out]; exact padS4_at hXl HLT.out
            have g1 : w3.frozen? ⟨w1.heap.size + 1, k, none⟩ = false := frozen_of_row _ _ k _ _ X3.out
            have X4 : Hid ((w3.setCell ⟨w1.heap.size + 1, k, none⟩ (.int .u64 (y : Int))).heap[w1.heap.size + 1]? = some (.cells (padS4 (X ++ [y])) 50 (0, 0))) := by
              have := hss (i := k) (v := .int .u64 (y : Int)) X3.out
              rw [padS4_set hXl HLT.out] at this; exact this
            have hwb : Hid (b2 < w1.heap.size + 1) := Nat.lt_succ_of_lt XB.out.lt
            have hsb : Hid (∀ i x, (o :: ws)[i]? = some x → b < w1.heap.size) := fun i x hx => lt_of_cell (SR.out i x hx)
            have Y : Hid (PC4 b2 24 0 0 0 0 (w3.setCell ⟨w1.heap.size + 1, k, none⟩ (.int .u64 (y : Int))) ∧ StrRow (w3.setCell ⟨w1.heap.size + 1, k, none⟩ (.int .u64 (y : Int))) b (o :: ws) ∧ Below w.heap.size w (w3.setCell ⟨w1.heap.size + 1, k, none⟩ (.int .u64 (y : Int)))) := by
              refine ⟨hsc P3.out (by have := hwb.out; show b2 ≠ w1.heap.size + 1; omega), fun i x hx => ?_, B3.out.setCell (by have := B1.out.size; show w.heap.size ≤ w1.heap.size + 1; omega) _⟩
              rw [World.cell?_setCell_other _ _ _ _ (by intro e; have e2 := congrArg Addr.block e; have := hsb.out i x hx; simp at e2; omega)]
              exact R3.out i x hx
            clear hy hnb hXl
            go_wp2
            go_roundw
            case rel => exact ⟨k + 1, X ++ [y], by go_num, by omega, HS4.out, X4.out, Y.out.1, Y.out.2.1, Y.out.2.2⟩
            case measure => simp [intOf]; omega
        · have hk4 : k = 4 := by omega
          subst hk4
          have hdr : ws.drop 4 = [] := List.drop_of_length_le (by have := HN.out; omega)
          obtain ⟨d, L, S, N, rfl, hd, hL, hSS, hN⟩ := hS.out.four
          have HPO : Hid (parseO l = some [d, L, S, N]) := by
            have := hS.out
            rw [hdr] at this
            exact this.done
          clear hdr hS
          have g0 : wr.cell? ⟨w1.heap.size + 1, 0, none⟩ = some (.int .u64 (d : Int)) := by rw [cell_of_row _ _ _ _ _ _ hX.out]; rfl
          have g1 : wr.cell? ⟨w1.heap.size + 1, 1, none⟩ = some (.int .u64 (L : Int)) := by rw [cell_of_row _ _ _ _ _ _ hX.out]; rfl
          have g2 : wr.cell? ⟨w1.heap.size + 1, 2, none⟩ = some (.int .u64 (S : Int)) := by rw [cell_of_row _ _ _ _ _ _ hX.out]; rfl
          have g3 : wr.cell? ⟨w1.heap.size + 1, 3, none⟩ = some (.int .u64 (N : Int)) := by rw [cell_of_row _ _ _ _ _ _ hX.out]; rfl
          have HC : Hid (∀ W, Calls Tryd.prog 10 #[.agg #[.int .i64 L, .int .i64 S, .int .i64 N, .int .u32 d]] W fun e w' => e = .returned (.int .i64 (checkS L S N)) ∧ Below W.heap.size W w') := fun W => Check_any L S N d W (by omega)
          clear hlt
          go_wp2_with fail
          refine use_wq (fun W => PC4 wr.heap.size 24 L S N d W ∧ PC4 b2 24 0 0 0 0 W ∧ Below w.heap.size w W) ⟨hnew rfl, hal hP.out, al hBw.out hBw.out.size⟩ ?_
          rintro W2 ⟨z1, z2, z3⟩
          refine Calls.mono (HC.out _) ?_
          rintro e w3 ⟨rfl, hb⟩
          have P1 := Lib.hid (z1.keep hb)
          have P2 := Lib.hid (z2.keep hb)
          have B3 : Hid (Below w.heap.size w w3) := bl z3 hb z3.size
          obtain ⟨bw, hbw⟩ : ∃ bw, bw = wr.heap.size := ⟨_, rfl⟩
          rw [← hbw] at P1 ⊢
          clear z1 z2 z3 hb g0 g1 g2 g3 hX hP hR hBw hbw
          obtain ⟨c0, c1, c2, c3⟩ := P2.out.cells
          have f0 := P2.out.froz 0
          have f1 := P2.out.froz 1
          have f2 := P2.out.froz 2
          have f3 := P2.out.froz 3
          by_cases hz : checkS L S N = 0
          · have HP0 := Lib.hid (parseV_good HPO.out hz)
            obtain ⟨d0, d1, d2, d3⟩ := P1.out.cells
            have HQ : Hid (PC4 b2 24 L S N d ((((w3.setCell ⟨b2, 0, none⟩ (.int .i64 L)).setCell ⟨b2, 1, none⟩ (.int .i64 S)).setCell ⟨b2, 2, none⟩ (.int .i64 N)).setCell ⟨b2, 3, none⟩ (.int .u32 d))) := hss (hss (hss (hss P2.out)))
            rw [hz]
            clear hz
            go_wp2
            refine bodyPost_ret (results_ct rfl _ _ _ 24 #[.int .i64 L, .int .i64 S, .int .i64 N, .int .u32 d] (0, 0) _ (.int .i64 0) rfl HQ.out rfl Tryd.underlying24 rfl hi) rfl ⟨by rw [HP0.out], HST.out _ _ _ _ _ B3.out⟩
          · have HP0 := Lib.hid (parseV_bad HPO.out hz)
            have hzb : (checkS L S N != 0) = true := by simpa using hz
            clear hz
            generalize checkS L S N = f at *
            go_wp2
            refine bodyPost_ret (results_ct rfl _ _ _ 24 #[.int .i64 0, .int .i64 0, .int .i64 0, .int .u32 0] (0, 0) _ (.int .i64 f) rfl (HF0.out _ P2.out) rfl Tryd.underlying24 rfl hi) rfl ⟨by rw [HP0.out], HST.out _ _ _ _ _ B3.out⟩
    · have HP0 : Hid (parseV l = .tuple #[.agg #[.int .i64 0, .int .i64 0, .int .i64 0, .int .u32 0], .int .i64 14]) := parseV_none (parse_obj HW.out ho)
      have d0 : w1.cell? ⟨b, 0, none⟩ = some (.string (strB o)) := SR.out 0 o rfl
      have hne : ((strB o).toList == [111, 98, 106, 101, 99, 116]) = false := by
        rw [ByteArray.toList_eq, strB_data]
        exact beq_eq_false_iff_ne.2 ho
      generalize strB o = so at *
      clear ho hn1
      go_wp2
      refine bodyPost_ret (results_ct rfl _ _ _ 24 #[.int .i64 0, .int .i64 0, .int .i64 0, .int .u32 0] (0, 0) _ (.int .i64 14) rfl (HF0.out _ XB.out) rfl Tryd.underlying24 rfl hi) rfl ⟨by rw [HP0.out], HST.out _ _ _ _ _ B1.out⟩
  · have HP0 : Hid (parseV l = .tuple #[.agg #[.int .i64 0, .int .i64 0, .int .i64 0, .int .u32 0], .int .i64 14]) := parseV_none hp
    obtain ⟨c0, c1, c2, c3⟩ := XB.out.cells
    have f0 := XB.out.froz 0
    have f1 := XB.out.froz 1
    have f2 := XB.out.froz 2
    have f3 := XB.out.froz 3
    clear hp hn1
    go_wp2
    refine bodyPost_ret (results_ct rfl _ _ _ 24 #[.int .i64 0, .int .i64 0, .int .i64 0, .int .u32 0] (0, 0) _ (.int .i64 14) rfl (HF0.out _ XB.out) rfl Tryd.underlying24 rfl hi) rfl ⟨by rw [HP0.out], HST.out _ _ _ _ _ B1.out⟩
end Go.Proofs.YtnlfohbmdmeodaaDoor
