/- The reference's Parse. -/
import Derived.Test.YtnlfohbmdmeodaaDoorQJ
import Derived.Test.YtnlfohbmdmeodaaDoorR6
namespace Go.By
open Go.RowKit
abbrev I64q : Int → Value := Value.int .i64
theorem one_cellq {w : World} {v : Value} {T g : Nat} (hg : g = w.heap.size) : ∀ (j : Nat) (u : Value), [v][j]? = some u → (w.alloc (.cells #[v] T)).cell? ((⟨g, 0, none⟩ : Addr).add j) = some u := by
  intro j u hj
  rw [Addr.add_lit, Nat.zero_add, cell_of_row _ _ j _ _ _ (hnew hg)]
  match j with
  | 0 => simpa using hj
  | j + 1 => simp at hj
theorem four_at {w : World} {base T : Nat} {q : Option Addr} {n c : Nat} {a b d e : Value} (h : w.ownsRow base T 1 (.slice q n c) 4 [a, b, d, e]) : ∃ g, q = some ⟨g, 0, none⟩ ∧ w.cell? ⟨g, 0, none⟩ = some a ∧ w.cell? ⟨g, 1, none⟩ = some b ∧ w.cell? ⟨g, 2, none⟩ = some d ∧ w.cell? ⟨g, 3, none⟩ = some e := by
  rcases h.2 with ⟨e1, _, e2⟩ | ⟨g', cap, cur, e1, _, hc, h3⟩
  cases e1
  have hh := h3.2.2.2
  have key : ∀ (i : Nat) (u : Value), [a, b, d, e][i]? = some u → w.cell? ⟨g', i, none⟩ = some u := fun i u hu => by
    rw [cell_of_row _ _ i _ _ _ hc]
    rw [← hh, List.getElem?_take] at hu
    split at hu
    · rw [Array.getElem?_toList] at hu; exact hu
    · cases hu
  exact ⟨g', rfl, key 0 _ rfl, key 1 _ rfl, key 2 _ rfl, key 3 _ rfl⟩
/-- a new plan's box -/
def ShpPl (T : TypeId) (B : Nat) : Shp := ⟨fun v w => ∃ b, v = .pointer (some ⟨b, 0, none⟩) ∧ B ≤ b ∧ w.heap[b]? = some (.cells #[.int .i64 0, .int .i64 0, .int .i64 0, .int .u32 0] T (0, 0)), fun _ _ _ ⟨b, e, hB, h⟩ hb => ⟨b, e, hB, (hb.block _ (lt_of_block h)).trans h⟩⟩
end Go.By
namespace Go.Proofs.YtnlfohbmdmeodaaDoor
open Go.RowKit Go.By
theorem info_intq : (Tryd.prog.info? 3).map (fun i => (i.zero, i.size, i.bytes)) = some (some (.int .i64 0), 1, 8) := by kernel_rfl
theorem info_rplan : (Tryd.prog.info? 26).map (·.size) = some 4 := by kernel_rfl
set_option maxRecDepth 100000 in
set_option maxHeartbeats 8000000 in
theorem RParse_any (l : List UInt8) (w : World) (hl : l.length ≤ 1000000) :
    Calls Tryd.prog 16 #[.string (strB l)] w fun e w' => e = .returned (parseV l) ∧ Below w.heap.size w w' := by
  have hi := info_rplan
  obtain ⟨t0, ht0, htz, ht1, ht2⟩ := info_parts info_intq
  have HBA : Hid (∀ (W : World) o, Below W.heap.size W (W.alloc o)) := fun W o => al (Below.refl _ _) (Nat.le_refl _)
  have HW0 : Hid (∀ W, Calls Tryd.prog 24 #[.string (strB l)] W fun e w' => e = .returned (.tuple #[.string (strB (cutW 32 l).1), .string (strB ((cutW 32 l).2.getD [])), .bool (cutW 32 l).2.isSome]) ∧ Below W.heap.size W w') := fun W => Word_any l W hl
  have HXB : Hid (∀ o, (w.alloc o).heap[w.heap.size]? = some o) := fun o => hnew rfl
  have HSC := Lib.hid (spl_cut 4 l)
  have hrl : Hid (((cutW 32 l).2.getD []).length ≤ 1000000) := Nat.le_trans cut_len.1 hl
  obtain ⟨S0, hS0⟩ : ∃ S0, S0 = strB l := ⟨_, rfl⟩
  rw [← hS0] at HW0 ⊢
  clear hS0 hl
  generalize (cutW 32 l).1 = o at *
  generalize (cutW 32 l).2.getD [] = r0 at *
  generalize (cutW 32 l).2.isSome = m0 at *
  obtain ⟨b2, hb2⟩ : ∃ b2, b2 = w.heap.size := ⟨_, rfl⟩
  have HB2 := Lib.hid hb2
  have hfin0 : ∀ W, PC4 b2 26 0 0 0 0 W → PC4 b2 26 0 0 0 0 ((((W.setCell ⟨b2, 0, none⟩ (.int .i64 0)).setCell ⟨b2, 1, none⟩ (.int .i64 0)).setCell ⟨b2, 2, none⟩ (.int .i64 0)).setCell ⟨b2, 3, none⟩ (.int .u32 0)) := fun W h => hss (hss (hss (hss h)))
  have hset : ∀ W x y z u, Below w.heap.size w W → Below w.heap.size w ((((W.setCell ⟨b2, 0, none⟩ x).setCell ⟨b2, 1, none⟩ y).setCell ⟨b2, 2, none⟩ z).setCell ⟨b2, 3, none⟩ u) := fun W x y z u h => by
    have e : w.heap.size ≤ b2 := Nat.le_of_eq HB2.out.symm
    exact (((h.setCell e _).setCell e _).setCell e _).setCell e _
  have HF0 := Lib.hid hfin0; have HST := Lib.hid hset
  clear hfin0 hset
  go_enter Tryd.func16, Tryd.ntmps16
  go_wp2_with fail
  refine Calls.mono (HW0.out _) ?_
  rintro e w1 ⟨rfl, hb⟩
  have XB : Hid (PC4 w.heap.size 26 0 0 0 0 w1) := PC4.keep (HXB.out _) hb
  have B1 : Hid (Below w.heap.size w w1) := bl (HBA.out _ _) hb (by simp)
  rw [← hb2] at XB ⊢
  clear hb hb2 HXB HW0
  by_cases ho : o = objW
  · have SF0 : Hid (SoFar l 0 [] (restS m0 4 r0)) := SoFar.zero (by rw [HSC.out, ho])
    have eo : strB o = ⟨#[111, 98, 106, 101, 99, 116]⟩ := by rw [ho]; rfl
    rw [eo]
    clear ho eo
    go_wp2
    go_loopw [4, 6, 7, 8] (fun nv rv mv i wr => ∃ (k : Nat) (X : List Nat) (q : Option Addr) (c : Nat) (r : List UInt8) (m : Bool), i = .int .i64 k ∧ nv = .slice q k c ∧ rv = .string (strB r) ∧ mv = .bool m ∧ k ≤ 4 ∧ Hid (SoFar l k X (restS m (4 - k) r)) ∧ Hid (r.length ≤ 1000000) ∧ Hid (wr.ownsRow w1.heap.size 3 1 (.slice q k c) k (X.map fun x : Nat => Value.int .i64 (x : Int))) ∧ Hid (PC4 b2 26 0 0 0 0 wr) ∧ Hid (Below w1.heap.size w1 wr)) (fun _ _ _ i _ => 4 - (intOf i).toNat)
    case atStart => exact ⟨0, [], none, 0, r0, m0, rfl, rfl, rfl, rfl, by omega, SF0.out, hrl.out, World.ownsRow_nil _ _ _ _, XB.out, Below.refl _ _⟩
    case round =>
      obtain ⟨k, X, q, c, r, m, rfl, rfl, rfl, rfl, hk, hS, hr, hO, hP, hBw⟩ := hrel
      have hsz := hBw.out.size
      by_cases hlt : k < 4
      · have hlt' : (k : Int) < 4 := by omega
        have HLT := Lib.hid hlt
        cases m with
        | false =>
          have HP0 : Hid (parseV l = .tuple #[.agg #[.int .i64 0, .int .i64 0, .int .i64 0, .int .u32 0], .int .i64 14]) := parseV_none (hS.out.short (by show k + 0 ≠ 4; omega))
          obtain ⟨c0, c1, c2, c3⟩ := hP.out.cells
          have f0 := hP.out.froz 0
          have f1 := hP.out.froz 1
          have f2 := hP.out.froz 2
          have f3 := hP.out.froz 3
          clear hlt
          go_wp2
          refine bodyPost_ret (results_ct rfl _ _ _ 26 #[.int .i64 0, .int .i64 0, .int .i64 0, .int .u32 0] (0, 0) _ (.int .i64 14) rfl (HF0.out _ hP.out) rfl Tryd.underlying26 rfl hi) rfl ⟨by rw [HP0.out], HST.out _ _ _ _ _ (bl B1.out hBw.out B1.out.size)⟩
        | true =>
          have HWR : Hid (∀ W, Calls Tryd.prog 24 #[.string (strB r)] W fun e w' => e = .returned (.tuple #[.string (strB (cutW 32 r).1), .string (strB ((cutW 32 r).2.getD [])), .bool (cutW 32 r).2.isSome]) ∧ Below W.heap.size W w') := fun W => Word_any r W hr.out
          have HS1 : Hid (SoFar l k X ((cutW 32 r).1 :: restS (cutW 32 r).2.isSome (4 - (k + 1)) ((cutW 32 r).2.getD []))) := by
            have h := hS.out
            have e : 4 - k = (4 - (k + 1)) + 1 := by omega
            rw [show restS true (4 - k) r = spl 32 (4 - k) r from rfl, e, spl_cut] at h
            exact h
          have hr2 : Hid (((cutW 32 r).2.getD []).length ≤ 1000000) := Nat.le_trans cut_len.1 hr.out
          have hr3 : Hid ((cutW 32 r).1.length ≤ 1000000) := Nat.le_trans cut_len.2 hr.out
          obtain ⟨sr, hsr⟩ : ∃ sr, sr = strB r := ⟨_, rfl⟩
          rw [← hsr] at HWR ⊢
          clear hsr hr hS
          generalize (cutW 32 r).1 = x at *
          generalize (cutW 32 r).2.getD [] = r2 at *
          generalize (cutW 32 r).2.isSome = m2 at *
          have hcase : ((((k : Int) == 0) = true ∧ (k = 0 ∨ k = 0)) ∧ Hid (∀ W, Calls Tryd.prog 25 #[.string (strB x), .int .i64 4294967296] W fun e w' => ∃ v, e = .returned v ∧ NumRes .i64 (bndN k) x v ∧ Below W.heap.size W w')) ∨ ((((k : Int) == 0) = false ∧ (k ≠ 0 ∨ k ≠ 0)) ∧ Hid (∀ W, Calls Tryd.prog 25 #[.string (strB x), .int .i64 2147483648] W fun e w' => ∃ v, e = .returned v ∧ NumRes .i64 (bndN k) x v ∧ Below W.heap.size W w')) := by
            by_cases h0 : k = 0
            · left
              subst h0
              exact ⟨⟨rfl, .inl rfl⟩, fun W => RNumber_any x 4294967295 4294967296 rfl (by omega) W hr3.out⟩
            · right
              have e : bndN k = 2147483647 := if_neg h0
              rw [e]
              exact ⟨⟨by simp; omega, .inl h0⟩, fun W => RNumber_any x 2147483647 2147483648 rfl (by omega) W hr3.out⟩
          clear hlt hr3
          rcases hcase with ⟨⟨hk0, -⟩, HNU⟩ | ⟨⟨hk0, -⟩, HNU⟩
          all_goals
            obtain ⟨sx, hsx⟩ : ∃ sx, sx = strB x := ⟨_, rfl⟩
            rw [← hsx] at HNU HWR
            clear hsx
            go_wp2_with fail
            refine Calls.mono (HWR.out _) ?_
            rintro e w2 ⟨rfl, hb⟩
            have P2 := Lib.hid (hP.out.keep hb)
            have O2 := Lib.hid (owns_keep hO.out hb)
            have B2 : Hid (Below w1.heap.size w1 w2) := bl hBw.out hb hsz
            clear hb hP hO hBw hsz HWR
            go_wp2_with fail
            refine Calls.mono (HNU.out _) ?_
            rintro e w3 ⟨v, rfl, ⟨y, rfl, hy⟩, hb⟩
            have P3 := Lib.hid (P2.out.keep hb)
            have O3 := Lib.hid (owns_keep O2.out hb)
            have B3 : Hid (Below w1.heap.size w1 w3) := bl B2.out hb B2.out.size
            clear hb P2 O2 B2 HNU hk0
            have hsz3 := B3.out.size
            cases hnb : numB (bndN k) x with
            | none =>
              have HP0 : Hid (parseV l = .tuple #[.agg #[.int .i64 0, .int .i64 0, .int .i64 0, .int .u32 0], .int .i64 14]) := parseV_none (HS1.out.bad HLT.out hnb)
              obtain ⟨c0, c1, c2, c3⟩ := P3.out.cells
              have f0 := P3.out.froz 0
              have f1 := P3.out.froz 1
              have f2 := P3.out.froz 2
              have f3 := P3.out.froz 3
              clear hy hnb
              go_wp2
              refine bodyPost_ret (results_ct rfl _ _ _ 26 #[.int .i64 0, .int .i64 0, .int .i64 0, .int .u32 0] (0, 0) _ (.int .i64 14) rfl (HF0.out _ P3.out) rfl Tryd.underlying26 rfl hi) rfl ⟨by rw [HP0.out], HST.out _ _ _ _ _ (bl B1.out B3.out B1.out.size)⟩
            | some y0 =>
              obtain rfl : y = y0 := hy y0 hnb
              have HS4 : Hid (SoFar l (k + 1) (X ++ [y]) (restS m2 (4 - (k + 1)) r2)) := HS1.out.next HLT.out hnb
              have hAa : Hid (∀ o, (w3.alloc o).ownsRow w1.heap.size 3 1 (.slice q k c) k (X.map fun x : Nat => Value.int .i64 (x : Int))) := fun o => owns_keep O3.out (HBA.out _ _)
              clear hy hnb
              go_wp2_with (at_builtin; refine wpList_append_own _ rfl _ _ 53 rfl w1.heap.size 3 t0 (.int .i64 0) 1 8 Tryd.underlying53 ht0 htz ht1 ht2 rfl (by omega) _ k _ rfl (hAa.out _) ⟨w3.heap.size, 0, none⟩ 1 1 [.int .i64 (y : Int)] rfl rfl (one_cellq rfl) ?c2 ?c3 ?c4 ?c5 ?_)
              case c2 => intro x hx; simp at hx; subst hx; rfl
              case c3 => unfold maxLen; omega
              case c4 => omega
              case c5 => simp; omega
              intro va wa hoa hga _
              obtain ⟨qa, da, rfl⟩ := owns_shape hoa
              have Ka : Hid (Below w1.heap.size w1 wa) := (al B3.out hsz3).grown hga (by simp; omega) (fun rr hr => (O3.out.lt rr hr).1)
              have Ra : Hid (wa.ownsRow w1.heap.size 3 1 (.slice qa (k + 1) da) (k + 1) ((X ++ [y]).map fun x : Nat => Value.int .i64 (x : Int))) := by first | exact hoa | (show World.ownsRow _ _ _ _ _ _ _; simpa using hoa)
              have Pa : Hid (PC4 b2 26 0 0 0 0 wa) := (XB.out.keep Ka.out)
              clear hoa hga P3 O3 B3 hAa
              go_wp2
              go_roundw
              case rel => exact ⟨k + 1, X ++ [y], qa, da, r2, m2, by go_num, rfl, rfl, rfl, by have := HLT.out; omega, HS4.out, hr2.out, Ra.out, Pa.out, Ka.out⟩
              case measure => simp [intOf]; omega
      · obtain rfl : k = 4 := by omega
        obtain ⟨d, L, S, N, rfl, hd, hL, hSS, hN⟩ := hS.out.four
        clear hlt
        cases m with
        | true =>
          have HP0 : Hid (parseV l = .tuple #[.agg #[.int .i64 0, .int .i64 0, .int .i64 0, .int .u32 0], .int .i64 14]) := parseV_none (hS.out.short (by show 4 + 1 ≠ 4; omega))
          obtain ⟨c0, c1, c2, c3⟩ := hP.out.cells
          have f0 := hP.out.froz 0
          have f1 := hP.out.froz 1
          have f2 := hP.out.froz 2
          have f3 := hP.out.froz 3
          go_wp2
          refine bodyPost_ret (results_ct rfl _ _ _ 26 #[.int .i64 0, .int .i64 0, .int .i64 0, .int .u32 0] (0, 0) _ (.int .i64 14) rfl (HF0.out _ hP.out) rfl Tryd.underlying26 rfl hi) rfl ⟨by rw [HP0.out], HST.out _ _ _ _ _ (bl B1.out hBw.out B1.out.size)⟩
        | false =>
          have HPO : Hid (parseO l = some [d, L, S, N]) := hS.out.done
          obtain ⟨g, rfl, a0, a1, a2, a3⟩ := four_at hO.out
          have HC : Hid (∀ W, Calls Tryd.prog 9 #[.agg #[.int .i64 L, .int .i64 S, .int .i64 N, .int .u32 d]] W fun e w' => e = .returned (.int .i64 (checkS L S N)) ∧ Below W.heap.size W w') := fun W => RCheck_any L S N d W (by omega)
          clear hS
          go_wp2
          refine wp_region_last (fun ix => ([.val (.slice (some ⟨g, 0, none⟩) 4 c), .val (.pointer (some ⟨g, 1, none⟩)), .val (.int .i64 (L : Nat)), .val (.slice (some ⟨g, 0, none⟩) 4 c), .val (.pointer (some ⟨g, 2, none⟩)), .val (.int .i64 (S : Nat)), .val (.slice (some ⟨g, 0, none⟩) 4 c), .val (.pointer (some ⟨g, 3, none⟩)), .val (.int .i64 (N : Nat)), .val (.slice (some ⟨g, 0, none⟩) 4 c), .val (.pointer (some ⟨g, 0, none⟩)), .val (.int .i64 (d : Nat)), .val (.int .u32 (d : Nat)), (.val (.agg #[.int .i64 (L : Nat), .int .i64 (S : Nat), .int .i64 (N : Nat), .int .u32 (d : Nat)])), (ShpPl 26 wr.heap.size), .any][ix]?).getD (.any)) 74 15 rfl (by kernel_rfl) (by decide) (by decide) (by decide) (by decide) ?_ ?_
          · refine ⟨?_, ?_, ?_, ?_, ?_, ?_, ?_, ?_, ?_, ?_, ?_, ?_, ?_, ?_, ?_, trivial⟩
            · intro a W hb0 hs hp hi; have hb := undrew hb0; clear hb0
              have t4 : sl a 4 = .slice (some ⟨g, 0, none⟩) 4 c := hi 4 (by decide)
              exact ite_y rfl (wp_val (sl a 4) rfl ⟨_, rfl, Below.refl _ _, t4⟩)
            · intro a W hb0 hs hp hi; have hb := undrew hb0; clear hb0
              have ti0 : sl a 53 = .slice (some ⟨g, 0, none⟩) 4 c := hp 0 (by decide)
              refine ite_y rfl (wp_val (.pointer (some ⟨g, 1, none⟩)) ?_ ?_)
              · simp only [execOp, eval_tmp, eval_const, ti0]; simp [go_sem]
              · exact ⟨_, rfl, Below.refl _ _, rfl⟩
            · intro a W hb0 hs hp hi; have hb := undrew hb0; clear hb0
              have tt : sl a 54 = .pointer (some ⟨g, 1, none⟩) := hp 1 (by decide)
              have dd := (hb.cell (p := ⟨g, 1, none⟩) (lt_of_cell a1)).trans a1
              refine ite_y rfl (wp_val (.int .i64 (L : Nat)) ?_ ?_)
              · simp only [execOp, eval_tmp, tt]; simp [go_sem, dd]
              · exact ⟨_, rfl, Below.refl _ _, rfl⟩
            · intro a W hb0 hs hp hi; have hb := undrew hb0; clear hb0
              have t4 : sl a 4 = .slice (some ⟨g, 0, none⟩) 4 c := hi 4 (by decide)
              exact ite_y rfl (wp_val (sl a 4) rfl ⟨_, rfl, Below.refl _ _, t4⟩)
            · intro a W hb0 hs hp hi; have hb := undrew hb0; clear hb0
              have ti0 : sl a 56 = .slice (some ⟨g, 0, none⟩) 4 c := hp 3 (by decide)
              refine ite_y rfl (wp_val (.pointer (some ⟨g, 2, none⟩)) ?_ ?_)
              · simp only [execOp, eval_tmp, eval_const, ti0]; simp [go_sem]
              · exact ⟨_, rfl, Below.refl _ _, rfl⟩
            · intro a W hb0 hs hp hi; have hb := undrew hb0; clear hb0
              have tt : sl a 57 = .pointer (some ⟨g, 2, none⟩) := hp 4 (by decide)
              have dd := (hb.cell (p := ⟨g, 2, none⟩) (lt_of_cell a2)).trans a2
              refine ite_y rfl (wp_val (.int .i64 (S : Nat)) ?_ ?_)
              · simp only [execOp, eval_tmp, tt]; simp [go_sem, dd]
              · exact ⟨_, rfl, Below.refl _ _, rfl⟩
            · intro a W hb0 hs hp hi; have hb := undrew hb0; clear hb0
              have t4 : sl a 4 = .slice (some ⟨g, 0, none⟩) 4 c := hi 4 (by decide)
              exact ite_y rfl (wp_val (sl a 4) rfl ⟨_, rfl, Below.refl _ _, t4⟩)
            · intro a W hb0 hs hp hi; have hb := undrew hb0; clear hb0
              have ti0 : sl a 59 = .slice (some ⟨g, 0, none⟩) 4 c := hp 6 (by decide)
              refine ite_y rfl (wp_val (.pointer (some ⟨g, 3, none⟩)) ?_ ?_)
              · simp only [execOp, eval_tmp, eval_const, ti0]; simp [go_sem]
              · exact ⟨_, rfl, Below.refl _ _, rfl⟩
            · intro a W hb0 hs hp hi; have hb := undrew hb0; clear hb0
              have tt : sl a 60 = .pointer (some ⟨g, 3, none⟩) := hp 7 (by decide)
              have dd := (hb.cell (p := ⟨g, 3, none⟩) (lt_of_cell a3)).trans a3
              refine ite_y rfl (wp_val (.int .i64 (N : Nat)) ?_ ?_)
              · simp only [execOp, eval_tmp, tt]; simp [go_sem, dd]
              · exact ⟨_, rfl, Below.refl _ _, rfl⟩
            · intro a W hb0 hs hp hi; have hb := undrew hb0; clear hb0
              have t4 : sl a 4 = .slice (some ⟨g, 0, none⟩) 4 c := hi 4 (by decide)
              exact ite_y rfl (wp_val (sl a 4) rfl ⟨_, rfl, Below.refl _ _, t4⟩)
            · intro a W hb0 hs hp hi; have hb := undrew hb0; clear hb0
              have ti0 : sl a 62 = .slice (some ⟨g, 0, none⟩) 4 c := hp 9 (by decide)
              refine ite_y rfl (wp_val (.pointer (some ⟨g, 0, none⟩)) ?_ ?_)
              · simp only [execOp, eval_tmp, eval_const, ti0]; simp [go_sem]
              · exact ⟨_, rfl, Below.refl _ _, rfl⟩
            · intro a W hb0 hs hp hi; have hb := undrew hb0; clear hb0
              have tt : sl a 63 = .pointer (some ⟨g, 0, none⟩) := hp 10 (by decide)
              have dd := (hb.cell (p := ⟨g, 0, none⟩) (lt_of_cell a0)).trans a0
              refine ite_y rfl (wp_val (.int .i64 (d : Nat)) ?_ ?_)
              · simp only [execOp, eval_tmp, tt]; simp [go_sem, dd]
              · exact ⟨_, rfl, Below.refl _ _, rfl⟩
            · intro a W hb0 hs hp hi; have hb := undrew hb0; clear hb0
              have tt : sl a 64 = .int .i64 (d : Nat) := hp 11 (by decide)
              refine ite_y rfl (wp_val (.int .u32 (d : Nat)) ?_ ?_)
              · simp only [execOp, eval_tmp, tt]; simp [go_sem, Tryd.underlying3, Tryd.underlying22, show IntKind.u32.wrap (d : Int) = d by rw [IntKind.wrap_u32]; omega]
              · exact ⟨_, rfl, Below.refl _ _, rfl⟩
            · intro a W hb0 hs hp hi; have hb := undrew hb0; clear hb0
              have x0 : sl a 55 = .int .i64 (L : Nat) := hp 2 (by decide)
              have x1 : sl a 58 = .int .i64 (S : Nat) := hp 5 (by decide)
              have x2 : sl a 61 = .int .i64 (N : Nat) := hp 8 (by decide)
              have x3 : sl a 65 = .int .u32 (d : Nat) := hp 12 (by decide)
              refine ite_y rfl (wp_val (.agg #[.int .i64 (L : Nat), .int .i64 (S : Nat), .int .i64 (N : Nat), .int .u32 (d : Nat)]) ?_ ?_)
              · simp only [execOp, eval_tmp, eval_const, List.map_toArray, List.map, x0, x1, x2, x3]; simp [go_sem, x0, x1, x2, x3]
              · exact ⟨_, rfl, Below.refl _ _, rfl⟩
            · intro a W hb0 hs hp hi; have hb := undrew hb0; clear hb0
              refine ite_y rfl (wp_val' (w' := W.alloc (.cells #[.int .i64 0, .int .i64 0, .int .i64 0, .int .u32 0] 26)) (.pointer (some ⟨W.heap.size, 0, none⟩)) ?_ ?_)
              · simp only [execOp]; simp [go_sem]
              · exact ⟨_, rfl, al (Below.refl _ _) (Nat.le_refl _), W.heap.size, rfl, hb.size, hnew rfl⟩
          intro a w9 o ho hb hs hd hI ht
          have ha := act_is [53, 54, 55, 56, 57, 58, 59, 60, 61, 62, 63, 64, 65, 66, 12] hs hd ht (by decide)
          simp at ho; subst ho
          have t12 := hI 14 (by decide)
          have t66 := hI 13 (by decide)
          obtain ⟨bb, tb, hB, hh⟩ := t12
          have t66 : sl a 66 = .agg #[.int .i64 (L : Nat), .int .i64 (S : Nat), .int .i64 (N : Nat), .int .u32 (d : Nat)] := t66
          have e0 : w9.cell? ⟨bb, 0, none⟩ = some (.int .i64 0) := cell_of_row _ _ 0 _ _ _ hh
          have e1 : w9.cell? ⟨bb, 1, none⟩ = some (.int .i64 0) := cell_of_row _ _ 1 _ _ _ hh
          have e2 : w9.cell? ⟨bb, 2, none⟩ = some (.int .i64 0) := cell_of_row _ _ 2 _ _ _ hh
          have e3 : w9.cell? ⟨bb, 3, none⟩ = some (.int .u32 0) := cell_of_row _ _ 3 _ _ _ hh
          have z0 := frozen_of_row _ _ 0 _ _ hh
          have z1 := frozen_of_row _ _ 1 _ _ hh
          have z2 := frozen_of_row _ _ 2 _ _ hh
          have z3 := frozen_of_row _ _ 3 _ _ hh
          have hPW := hP.out.keep hb
          have hBW := bl hBw.out hb hsz
          have hne : b2 ≠ bb := by have := hP.out.lt; omega
          have hBb : w1.heap.size ≤ bb := Nat.le_trans hsz hB
          obtain ⟨wn, hwn⟩ : ∃ wn, wn = (((w9.setCell ⟨bb, 0, none⟩ (.int .i64 (L : Nat))).setCell ⟨bb, 1, none⟩ (.int .i64 (S : Nat))).setCell ⟨bb, 2, none⟩ (.int .i64 (N : Nat))).setCell ⟨bb, 3, none⟩ (.int .u32 (d : Nat)) := ⟨_, rfl⟩
          have Z1 : Hid (PC4 bb 26 L S N d wn) := by rw [hwn]; exact hss (hss (hss (hss hh)))
          have Z2 : Hid (PC4 b2 26 0 0 0 0 wn) := by rw [hwn]; exact hsc (hsc (hsc (hsc hPW hne) hne) hne) hne
          have Z3 : Hid (Below w.heap.size w wn) := by
            rw [hwn]
            have h := bl B1.out hBW B1.out.size
            have hs0 := B1.out.size
            have hle : w.heap.size ≤ bb := Nat.le_trans hs0 hBb
            exact (((h.setCell hle _).setCell hle _).setCell hle _).setCell hle _
          refine wp_skip_none rfl (w' := wn) ?_ ?_
          · rw [hwn]; simp only [execOp, eval_tmp, tb, t66]; simp [go_sem, e0, e1, e2, e3, z0, z1, z2, z3]
          simp only [List.foldl, tb, t66] at ha
          generalize sl a 53 = u53 at ha
          generalize sl a 54 = u54 at ha
          generalize sl a 55 = u55 at ha
          generalize sl a 56 = u56 at ha
          generalize sl a 57 = u57 at ha
          generalize sl a 58 = u58 at ha
          generalize sl a 59 = u59 at ha
          generalize sl a 60 = u60 at ha
          generalize sl a 61 = u61 at ha
          generalize sl a 62 = u62 at ha
          generalize sl a 63 = u63 at ha
          generalize sl a 64 = u64 at ha
          generalize sl a 65 = u65 at ha
          simp only [Act.put, List.setIfInBounds_toArray, List.set_cons_zero, List.set_cons_succ] at ha
          rw [ha]; clear ha hwn hI ht e0 e1 e2 e3 z0 z1 z2 z3 hb hh hPW hBW hne hBb hB
          obtain ⟨c0, c1, c2, c3⟩ := Z1.out.cells
          go_wp2_with fail
          have z1 := Z1.out; have z2 := Z2.out; have z3 := Z3.out
          clear Z1 Z2 Z3 c0 c1 c2 c3
          refine Calls.mono (HC.out _) ?_
          rintro e w3 ⟨rfl, hb⟩
          have P1 := Lib.hid (z1.keep hb)
          have P2 := Lib.hid (z2.keep hb)
          have B3 : Hid (Below w.heap.size w w3) := bl z3 hb z3.size
          clear z1 z2 z3 hb a0 a1 a2 a3 hO hP hBw
          obtain ⟨c0, c1, c2, c3⟩ := P2.out.cells
          have f0 := P2.out.froz 0
          have f1 := P2.out.froz 1
          have f2 := P2.out.froz 2
          have f3 := P2.out.froz 3
          by_cases hz : checkS L S N = 0
          · have HP0 := Lib.hid (parseV_good HPO.out hz)
            obtain ⟨d0, d1, d2, d3⟩ := P1.out.cells
            have HQ : Hid (PC4 b2 26 L S N d ((((w3.setCell ⟨b2, 0, none⟩ (.int .i64 L)).setCell ⟨b2, 1, none⟩ (.int .i64 S)).setCell ⟨b2, 2, none⟩ (.int .i64 N)).setCell ⟨b2, 3, none⟩ (.int .u32 d))) := hss (hss (hss (hss P2.out)))
            rw [hz]
            clear hz
            go_wp2
            refine bodyPost_ret (results_ct rfl _ _ _ 26 #[.int .i64 L, .int .i64 S, .int .i64 N, .int .u32 d] (0, 0) _ (.int .i64 0) rfl HQ.out rfl Tryd.underlying26 rfl hi) rfl ⟨by rw [HP0.out], HST.out _ _ _ _ _ B3.out⟩
          · have HP0 := Lib.hid (parseV_bad HPO.out hz)
            have hzb : (checkS L S N != 0) = true := by simpa using hz
            clear hz
            generalize checkS L S N = f at *
            go_wp2
            refine bodyPost_ret (results_ct rfl _ _ _ 26 #[.int .i64 0, .int .i64 0, .int .i64 0, .int .u32 0] (0, 0) _ (.int .i64 f) rfl (HF0.out _ P2.out) rfl Tryd.underlying26 rfl hi) rfl ⟨by rw [HP0.out], HST.out _ _ _ _ _ B3.out⟩
  · have HP0 : Hid (parseV l = .tuple #[.agg #[.int .i64 0, .int .i64 0, .int .i64 0, .int .u32 0], .int .i64 14]) := parseV_none (parse_obj HSC.out ho)
    have hne : ((strB o).toList == [111, 98, 106, 101, 99, 116]) = false := by
      rw [ByteArray.toList_eq, strB_data]
      exact beq_eq_false_iff_ne.2 ho
    obtain ⟨c0, c1, c2, c3⟩ := XB.out.cells
    have f0 := XB.out.froz 0
    have f1 := XB.out.froz 1
    have f2 := XB.out.froz 2
    have f3 := XB.out.froz 3
    generalize strB o = so at *
    clear ho
    go_wp2
    refine bodyPost_ret (results_ct rfl _ _ _ 26 #[.int .i64 0, .int .i64 0, .int .i64 0, .int .u32 0] (0, 0) _ (.int .i64 14) rfl (HF0.out _ XB.out) rfl Tryd.underlying26 rfl hi) rfl ⟨by rw [HP0.out], HST.out _ _ _ _ _ B1.out⟩
end Go.Proofs.YtnlfohbmdmeodaaDoor
