/- The contract of the law's Few of layer 20; the chapter's example. -/
import Derived.Test.YtlfcijpkdhdmeaaAf
namespace Go.Proofs.Ytlfcijpkdhdmeaa
open Go.RowKit Go.By
def few20 (xss : List (List UInt8)) (acs : List ActD) : Bool := xss.all (fun x => decide (x.length ≤ 300)) && acs.all (fun a => decide (a.bs.length ≤ 300)) && (decide (xss.length ≤ 40) && decide (acs.length ≤ 40))
set_option maxRecDepth 100000 in
set_option maxHeartbeats 2000000 in
theorem Few20_any (p1 p2 : Option Addr) (n1 c1 n2 c2 : Nat) (xss : List (List UInt8)) (acs : List ActD) (w : World) (h1 : Sl2 w p1 n1 c1 xss) (h2 : SlA w p2 n2 c2 acs) :
    Calls Try.prog 19 #[.slice p1 n1 c1, .slice p2 n2 c2] w fun e w' => e = .returned (.bool (few20 xss acs)) ∧ Below w.heap.size w w' := by
  have b1 := h1.bound; have b2 := h2.bound
  have H1 := Lib.hid h1; have H2 := Lib.hid h2
  clear h1 h2
  go_enter Try.func19, Try.ntmps19
  go_wp2
  go_loop [11] (fun i => ∃ k : Nat, k ≤ n1 ∧ i = .int .i64 k ∧ Hid (∀ j x, j < k → xss[j]? = some x → x.length ≤ 300)) (fun i => n1 - (intOf i).toNat)
  case atStart => exact ⟨0, Nat.zero_le _, rfl, fun j x hj => by omega⟩
  case round =>
    obtain ⟨k, hk, rfl, hj⟩ := hrel
    by_cases hlt : k < n1
    · obtain ⟨b, o, q, m, c', x, rfl, hc, hs, hx⟩ := H1.out.at k hlt
      have hml := Lib.hid hs.len
      have hmb := hs.bound
      clear hs
      by_cases hm : m ≤ 300
      · have hm' : (m : Int) ≤ 300 := by omega
        have HM := Lib.hid hm
        clear hm
        go_wp2
        go_round
        case rel => exact ⟨k + 1, by omega, by go_num, fun j y hj' hy => by
          by_cases e : j = k
          · subst e; have := hx.out.symm.trans hy; cases this; rw [hml.out]; exact HM.out
          · exact hj.out j y (by omega) hy⟩
        case measure => simp [intOf]; omega
      · have hm' : (300 : Int) < (m : Int) := by omega
        have HM := Lib.hid hm
        clear hm
        go_wp2
        go_ret
        refine ⟨?_, Below.refl _ _⟩
        have : few20 xss acs = false := by
          unfold few20
          have : xss.all (fun x => decide (x.length ≤ 300)) = false := by
            rw [List.all_eq_false]; exact ⟨x, List.mem_of_getElem? hx.out, by have := hml.out; have := HM.out; simp; omega⟩
          rw [this]; rfl
        rw [this]; rfl
    · have HA : Hid (xss.all (fun x => decide (x.length ≤ 300)) = true) := List.all_eq_true.2 fun x hx => by
        obtain ⟨r, hr, e⟩ := List.getElem_of_mem hx
        exact decide_eq_true (hj.out r x (by have := H1.out.len; omega) (by rw [List.getElem?_eq_getElem hr, e]))
      clear hj
      go_wp2
      go_loopw [21] (fun i wr => ∃ k : Nat, k ≤ n2 ∧ i = .int .i64 k ∧ Hid (∀ j a, j < k → acs[j]? = some a → a.bs.length ≤ 300) ∧ Hid (Below w.heap.size w wr)) (fun i _ => n2 - (intOf i).toNat)
      case atStart => exact ⟨0, Nat.zero_le _, rfl, fun j x hj => by omega, Below.refl _ _⟩
      case round =>
        obtain ⟨j, hj, rfl, hall, hB⟩ := hrel
        by_cases hjn : j < n2
        · obtain ⟨a, ha⟩ : ∃ a, acs[j]? = some a := ⟨_, List.getElem?_eq_getElem (by rw [H2.out.len]; exact hjn)⟩
          obtain ⟨b, o, q, m, c', rfl, y0, y1, y2, y3, y4, hs, bi, bj, bb⟩ := (H2.out.keep hB.out).rs j a ha
          have hml := Lib.hid hs.len
          have hmb := hs.bound
          have hsz := hB.out.size
          have HAa := Lib.hid ha
          obtain ⟨d, i, jj, bt, bs⟩ := a
          simp only at y0 y1 y2 y3 y4 hml bi bj bb
          have i1 : (j : Int) < (n2 : Int) := by omega
          clear hs ha
          have hBn : Hid (∀ o, Below w.heap.size w (wr.alloc o)) := fun o => al hB.out hsz
          by_cases hm : m ≤ 300
          · have hm' : (m : Int) ≤ 300 := by omega
            have HM := Lib.hid hm
            clear hm
            go_wp2
            go_roundw
            case rel => exact ⟨j + 1, by omega, by go_num, fun r y hr hy => by
              by_cases e : r = j
              · subst e; have := HAa.out.symm.trans hy; cases this; show bs.length ≤ 300; rw [hml.out]; exact HM.out
              · exact hall.out r y (by omega) hy, hBn.out _⟩
            case measure => simp [intOf]; omega
          · have hm' : (300 : Int) < (m : Int) := by omega
            have HM := Lib.hid hm
            clear hm
            go_wp2
            go_ret
            refine ⟨?_, hBn.out _⟩
            have : few20 xss acs = false := by
              unfold few20
              have : acs.all (fun a => decide (a.bs.length ≤ 300)) = false := by
                rw [List.all_eq_false]; exact ⟨_, List.mem_of_getElem? HAa.out, by have := hml.out; have := HM.out; simp; omega⟩
              rw [HA.out, this]; rfl
            rw [this]; rfl
        · have HAA : Hid (acs.all (fun a => decide (a.bs.length ≤ 300)) = true) := List.all_eq_true.2 fun a ha => by
            obtain ⟨r, hr, e⟩ := List.getElem_of_mem ha
            exact decide_eq_true (hall.out r a (by have := H2.out.len; omega) (by rw [List.getElem?_eq_getElem hr, e]))
          have HR : Hid (few20 xss acs = (decide (n1 ≤ 40) && decide (n2 ≤ 40))) := by unfold few20; rw [Hid, HA.out, HAA.out, H1.out.len, H2.out.len]; rfl
          by_cases g1 : n1 ≤ 40
          · have g1' : (n1 : Int) ≤ 40 := by omega
            by_cases g2 : n2 ≤ 40
            · have g2' : (n2 : Int) ≤ 40 := by omega
              rw [decide_eq_true g1, decide_eq_true g2] at HR
              go_wp2
              go_ret
              exact ⟨by rw [HR.out]; rfl, hB.out⟩
            · have g2' : (40 : Int) < (n2 : Int) := by omega
              rw [decide_eq_true g1, decide_eq_false g2] at HR
              clear g2
              go_wp2
              have g3 : ¬ (n2 : Int) ≤ 40 := by omega
              go_ret
              exact ⟨by rw [HR.out]; simp [g3], hB.out⟩
          · have g1' : (40 : Int) < (n1 : Int) := by omega
            rw [decide_eq_false g1, Bool.false_and] at HR
            clear g1
            go_wp2
            go_ret
            exact ⟨by rw [HR.out]; rfl, hB.out⟩
theorem use_w2 {P : Program} {f : FuncId} {args : Array Value} {W : World} {Q : Ending → World → Prop} (I : World → Prop) (h : I W) (k : ∀ W', I W' → Calls P f args W' Q) : Calls P f args W Q := k W h
theorem sl2_three {W : World} {g T : Nat} {fr : Nat × Nat} {p1 p2 p3 : Option Addr} {n1 n2 n3 c1 c2 c3 : Nat} {xs ys zs : List UInt8} (hW : W.heap[g]? = some (.cells #[.slice p1 n1 c1, .slice p2 n2 c2, .slice p3 n3 c3] T fr)) (h1 : Sl B8 W p1 n1 c1 xs) (h2 : Sl B8 W p2 n2 c2 ys) (h3 : Sl B8 W p3 n3 c3 zs) :
    Sl2 W (some ⟨g, 0, none⟩) 3 3 [xs, ys, zs] := by
  refine sl2_block [xs, ys, zs] 3 hW rfl rfl (by simp [maxLen]) ?_
  intro i us hi
  match i, hi with
  | 0, hi => simp at hi; subst hi; exact ⟨p1, n1, c1, rfl, h1⟩
  | 1, hi => simp at hi; subst hi; exact ⟨p2, n2, c2, rfl, h2⟩
  | 2, hi => simp at hi; subst hi; exact ⟨p3, n3, c3, rfl, h3⟩
theorem sla_one {W : World} {g T : Nat} {fr : Nat × Nat} {q : Option Addr} {m c : Nat} (a : ActD) (hW : W.heap[g]? = some (.cells #[.int .i64 a.d, .int .i64 a.i, .int .i64 a.j, .int .u32 a.b, .slice q m c] T fr)) (hs : Sl B8 W q m c a.bs) (b1 : a.i ≤ 9223372036854775807) (b2 : a.j ≤ 9223372036854775807) (b3 : a.b < 4294967296) :
    SlA W (some ⟨g, 0, none⟩) 1 1 [a] := by
  refine ⟨rfl, by simp [maxLen], Nat.le_refl _, fun k y hk => ?_⟩
  match k, hk with
  | 0, hk =>
    simp at hk; subst hk
    exact ⟨g, 0, q, m, c, rfl, cell_of_row _ _ 0 _ _ _ hW, cell_of_row _ _ 1 _ _ _ hW, cell_of_row _ _ 2 _ _ _ hW, cell_of_row _ _ 3 _ _ _ hW, cell_of_row _ _ 4 _ _ _ hW, hs, b1, b2, b3⟩
theorem sla_two {W : World} {g T : Nat} {fr : Nat × Nat} (hW : W.heap[g]? = some (.cells #[.int .i64 2, .int .i64 0, .int .i64 2, .int .u32 0, .slice none 0 0, .int .i64 0, .int .i64 0, .int .i64 0, .int .u32 0, .slice none 0 0] T fr)) :
    SlA W (some ⟨g, 0, none⟩) 2 2 [⟨2, 0, 2, 0, []⟩, ⟨0, 0, 0, 0, []⟩] := by
  refine ⟨rfl, by simp [maxLen], Nat.le_refl _, fun k y hk => ?_⟩
  match k, hk with
  | 0, hk =>
    simp at hk; subst hk
    exact ⟨g, 0, none, 0, 0, rfl, cell_of_row _ _ 0 _ _ _ hW, cell_of_row _ _ 1 _ _ _ hW, cell_of_row _ _ 2 _ _ _ hW, cell_of_row _ _ 3 _ _ _ hW, cell_of_row _ _ 4 _ _ _ hW, Sl.nil0 _ _, by decide, by decide, by decide⟩
  | 1, hk =>
    simp at hk; subst hk
    exact ⟨g, 0, none, 0, 0, rfl, cell_of_row _ _ 5 _ _ _ hW, cell_of_row _ _ 6 _ _ _ hW, cell_of_row _ _ 7 _ _ _ hW, cell_of_row _ _ 8 _ _ _ hW, cell_of_row _ _ 9 _ _ _ hW, Sl.nil0 _ _, by decide, by decide, by decide⟩
set_option maxRecDepth 100000 in
set_option maxHeartbeats 2000000 in
theorem awake20 (w : World) : Calls Try.prog 15 #[] w fun e w' => e = .returned (.bool true) ∧ Below w.heap.size w w' := by
  have HP : Hid ((playS (initS [[1], [2], [3]]) [⟨2, 0, 2, 0, []⟩, ⟨0, 0, 0, 0, []⟩]).map (·.1) = [[3], [1]]) := by show _ = _; decide +kernel
  have HC := Lib.hid (fun p1 p2 n1 c1 n2 c2 w h1 h2 => Apply_any p1 p2 n1 c1 n2 c2 [[1], [2], [3]] [⟨2, 0, 2, 0, []⟩, ⟨0, 0, 0, 0, []⟩] w h1 h2 (by intro xs hx; simp at hx; rcases hx with rfl | rfl | rfl <;> simp [Room]) (by intro a ha; simp at ha; rcases ha with rfl | rfl <;> simp [Room]))
  go_enter Try.func15, Try.ntmps15
  go_wp2_with fail
  refine use_w2 (fun W => Sl2 W (some ⟨w.heap.size + 1 + 1 + 1, 0, none⟩) 3 3 [[1], [2], [3]] ∧ SlA W (some ⟨w.heap.size + 1 + 1 + 1 + 1, 0, none⟩) 2 2 [⟨2, 0, 2, 0, []⟩, ⟨0, 0, 0, 0, []⟩] ∧ Below w.heap.size w W) ⟨?_, ?_, ?_⟩ ?_
  · refine sl2_three (hal (hnew (by simp))) ?_ ?_ ?_
    · exact sl_block [1] 1 (hal (hal (hal (hal (hnew rfl))))) rfl rfl (by simp [maxLen])
    · exact sl_block [2] 1 (hal (hal (hal (hnew (by simp))))) rfl rfl (by simp [maxLen])
    · exact sl_block [3] 1 (hal (hal (hnew (by simp)))) rfl rfl (by simp [maxLen])
  · exact sla_two (hnew (by simp))
  · exact al (al (al (al (al (Below.refl _ _) (Nat.le_refl _)) (by simp)) (by simp; omega)) (by simp; omega)) (by simp; omega)
  rintro W2 ⟨hS, hA, hb2⟩
  have HA := Lib.hid (HC.out _ _ 3 3 2 2 W2 hS hA (by decide))
  rw [HP.out] at HA
  clear hS hA
  refine Calls.mono HA.out ?_; rintro e w3 ⟨q, c, rfl, ho, hb3⟩
  have HO := Lib.hid ho; clear ho
  have k3 := bl hb2 hb3 hb2.size
  go_wp2_with fail
  refine Calls.mono (Same7_any _ _ 2 2 _ _ [[3], [1]] [[3], [1]] _ (HO.out.sl2.keep (al (al (al (Below.refl _ _) (Nat.le_refl _)) (by simp)) (by simp; omega))) (sl2_pair (hnew (by simp)) (sl_block [3] 1 (hal (hal (hnew rfl))) rfl rfl (by simp [maxLen])) (sl_block [1] 1 (hal (hnew (by simp))) rfl rfl (by simp [maxLen])))) ?_
  rintro e w4 ⟨rfl, hb4⟩
  rw [decide_eq_true rfl]
  have k4 : Below w.heap.size w w4 := bl (al (al (al k3 k3.size) (by have := k3.size; simp; omega)) (by have := k3.size; simp; omega)) hb4 (by have := k3.size; simp; omega)
  go_wp2
  go_ret
  exact ⟨rfl, k4⟩
end Go.Proofs.Ytlfcijpkdhdmeaa
