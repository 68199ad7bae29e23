/- The contracts of Whole, of slices.Equal at ints, of Harms; of the law's Few; the chapter's example. The contract of the law's Few of layer 20; the chapter's example. The plain law of WayWhole: what came whole is what was sent; acts that harm nothing leave all whole; acts one by one are as all at once. Chapter 22: what a trip comes to (plain); what a sender and a taker carry along while other blocks turn. Chapters 11, 17: a plan and an object that do not fit. Chapter 22: trip.Run of a plan and an object that fit. Chapter 22: the law's awake. Chapter 22: the law's Few; trip.Run of what does not fit. Plain law of TripArrives: which ones came hangs on lengths alone; what is harmed, calmly, is not let in. Chapter 22: trip.Vectors. Chapter 22: the law's calm. -/
import Derived.Test.YtfbmdlfkipipfaaGreatDoorZv8
import Derived.Deep.DeepCutAuto
namespace Go.Proofs.YtfbmdlfkipipfaaGreatDoor
open Go.RowKit Go.By
set_option maxRecDepth 100000 in
set_option maxHeartbeats 2000000 in
theorem Whole_any (p1 p2 : Option Addr) (n1 c1 n2 c2 : Nat) (xss : List (List UInt8)) (acs : List ActD) (w : World) (h1 : Sl2 w p1 n1 c1 xss) (h2 : SlA w p2 n2 c2 acs) (hr : ∀ xs, xs ∈ xss → Room xs.length) (hra : ∀ a, a ∈ acs → Room a.bs.length) (hlen : n1 + n2 < 4096) :
    Calls Tryz.prog 97 #[.slice p1 n1 c1, .slice p2 n2 c2] w (RetInts w ((playS (initS xss) acs).map (·.2))) := by
  obtain ⟨i0, hi0, hz0, hz1, hz2⟩ := info_parts info_int
  have HC := Lib.hid (play_any p1 p2 n1 c1 n2 c2 xss acs w h1 h2 hr hra hlen)
  have HL : Hid ((playS (initS xss) acs).length < 4096) := by
    have := playS_len (initS xss) acs
    rw [initS_len, h1.len, h2.len] at this; show _ < _; omega
  clear h1 h2 hr hra hlen
  generalize playS (initS xss) acs = PS at *
  go_enter Tryz.func97, Tryz.ntmps97
  go_wp2_with fail
  refine Calls.mono HC.out ?_; rintro e w1 ⟨u, ss, rfl, hP, hS, hB⟩
  obtain ⟨q, c, rfl⟩ := Pl.shape hP
  have HP := Lib.hid hP; have HS := Lib.hid hS; have HB := Lib.hid hB
  have hl4 := HL.out
  have hsl : Hid (ss.length = PS.length) := hP.len
  clear hP hS hB
  obtain ⟨n, hn⟩ : ∃ n, n = PS.length := ⟨_, rfl⟩
  rw [← hn] at HP hl4 hsl ⊢
  have HN := Lib.hid hn; clear hn
  go_wp2
  go_loopw [5, 12] (fun v i wr => ∃ (k : Nat) (vs : List Value) (uq : Option Addr) (uc : Nat), k ≤ n ∧ i = .int .i64 k ∧ v = .slice uq k uc ∧ Hid (wr.ownsRow w.heap.size 3 1 (.slice uq k uc) k vs) ∧ Hid (vs = (ss.take k).map (fun t => Value.int .i64 t.2.1)) ∧ Hid (Below w.heap.size w wr) ∧
    Hid (PL wr w.heap.size (.slice q n c) n ss)) (fun _ i _ => n - (intOf i).toNat)
  case atStart => exact ⟨0, [], none, 0, Nat.zero_le _, rfl, rfl, World.ownsRow_nil _ _ _ _, rfl, HB.out, HP.out⟩
  case round =>
    obtain ⟨k, vs, uq, uc, hk, rfl, rfl, hO, hV, hBw, hPw⟩ := hrel
    by_cases hlt : k < n
    · obtain ⟨t, ht⟩ : ∃ t, ss[k]? = some t := ⟨_, List.getElem?_eq_getElem (by rw [hsl.out]; exact hlt)⟩
      obtain ⟨g, cur, rfl, hg, -⟩ := owns2_open hPw.out.own (by omega)
      obtain ⟨y0, y1⟩ := par_cells hPw.out ht
      obtain ⟨q1, m1, c1', e1, hrow⟩ := hPw.out.row t (List.mem_of_getElem? ht)
      rw [e1] at y0
      have i1 : (k : Int) < (n : Int) := by omega
      have hsz := hBw.out.size
      have hVS := Lib.hid (take_map_snoc (fun t : Par => Value.int .i64 t.2.1) ht)
      clear e1 hrow ht
      have hOA : Hid (∀ o1 o2, ((wr.alloc o1).alloc o2).ownsRow w.heap.size 3 1 (.slice uq k uc) k vs) := fun o1 o2 => owns_keep hO.out (al (al (Below.refl _ _) (Nat.le_refl _)) (by simp))
      go_wp2_with (at_builtin; refine wpList_append_own _ rfl _ _ 109 rfl w.heap.size 3 i0 (.int .i64 0) 1 8 Tryz.underlying109 hi0 hz0 hz1 hz2 rfl (by omega) _ k vs rfl (hOA.out _ _) ⟨wr.heap.size + 1, 0, none⟩ 1 1 [.int .i64 t.2.1] rfl rfl ?c1 ?c2 ?c3 ?c4 ?c5 ?_)
      case c1 =>
        intro j x hj
        rw [Addr.add_lit, Nat.zero_add, cell_of_row _ _ j _ _ _ (hnew (by simp))]
        match j with
        | 0 => simpa using hj
        | j + 1 => simp at hj
      case c2 => intro x hx; simp at hx; subst hx; rfl
      case c3 => unfold maxLen; omega
      case c4 => omega
      case c5 => simp; omega
      intro v' w' ho' hg' _
      obtain ⟨uq', uc', rfl⟩ := owns_shape ho'
      have FIN : Hid (Below w.heap.size w w' ∧ PL w' w.heap.size (.slice (some ⟨g, 0, none⟩) n c) n ss) := by
        have hb2 := fun o1 o2 => al (o := o2) (al (o := o1) (Below.refl wr.heap.size wr) (Nat.le_refl _)) (by simp)
        refine ⟨(hBw.out.trans ((hb2 _ _).mono hsz)).grown hg' (by simp; omega) (fun r hr => (hO.out.lt r hr).1), ?_⟩
        have hpk := hPw.out.keep (hb2 (.cells #[.slice q1 m1 c1', .int .i64 t.2.1] 174) (.cells #[.int .i64 t.2.1] 3))
        refine ⟨hpk.len, owns_kept hpk.own hg' (owns_ne hpk.own (hOA.out _ _) (by decide)), fun s hs => ?_, hpk.dis⟩
        obtain ⟨q3, m3, c3, e3, hr3⟩ := hpk.row s hs
        exact ⟨q3, m3, c3, e3, owns_kept hr3 hg' (owns_ne hr3 (hOA.out _ _) (by decide))⟩
      have HO' := Lib.hid ho'
      clear ho' hg'
      go_wp2
      go_roundw
      case rel => exact ⟨k + 1, _, uq', uc', by omega, by go_num, rfl, HO'.out, by rw [Hid, hVS.out, hV.out], FIN.out.1, FIN.out.2⟩
      case measure => simp [intOf]; omega
    · have hkn : k = n := by omega
      subst hkn
      have hfin : Hid (RetInts w (PS.map (·.2)) (.returned (.slice uq k uc)) wr) := by
        have hl : (PS.map (·.2)).length = k := by rw [List.length_map, HN.out]
        refine ⟨uq, uc, by rw [hl], ?_, hBw.out⟩
        rw [hl]
        have e : (PS.map (·.2)).map (Value.int .i64) = vs := by
          rw [hV.out, ← HS.out, List.take_of_length_le (by rw [hsl.out]; omega), List.map_map, List.map_map]; rfl
        rw [e]; exact hO.out
      go_wp2
      go_ret
      exact hfin.out
def harmsS (d : Int) : Bool := decide (d = 3) || decide (d = 4) || decide (d = 5)
set_option maxHeartbeats 1000000 in
theorem Harms_any (d i j b : Int) (av : Value) (w : World) :
    Calls Tryz.prog 95 #[actV d i j b av] w fun e w' => e = .returned (.bool (harmsS d)) ∧ Below w.heap.size w w' := by
  by_cases h3 : d = 3
  · subst h3
    go_enter Tryz.func95, Tryz.ntmps95
    go_wp2
    go_ret
    exact ⟨rfl, al (Below.refl _ _) (Nat.le_refl _)⟩
  · by_cases h4 : d = 4
    · subst h4
      go_enter Tryz.func95, Tryz.ntmps95
      go_wp2
      go_ret
      exact ⟨rfl, al (Below.refl _ _) (Nat.le_refl _)⟩
    · have e3 : (d == 3) = false := by simpa using h3
      have e4 : (d == 4) = false := by simpa using h4
      have HR : Hid (harmsS d = (d == 5)) := by unfold harmsS; rw [Hid, decide_eq_false h3, decide_eq_false h4]; simp; rfl
      clear h3 h4
      go_enter Tryz.func95, Tryz.ntmps95
      go_wp2
      go_ret
      exact ⟨by rw [HR.out]; rfl, al (Below.refl _ _) (Nat.le_refl _)⟩
end Go.Proofs.YtfbmdlfkipipfaaGreatDoor
namespace Go.Proofs.YtfbmdlfkipipfaaGreatDoor
open Go.RowKit Go.By
def few20 (xss : List (List UInt8)) (acs : List ActD) : Bool := xss.all (fun x => decide (x.length ≤ 300)) && acs.all (fun a => decide (a.bs.length ≤ 300)) && (decide (xss.length ≤ 40) && decide (acs.length ≤ 40))
set_option maxRecDepth 100000 in
set_option maxHeartbeats 2000000 in
theorem Few20_any (p1 p2 : Option Addr) (n1 c1 n2 c2 : Nat) (xss : List (List UInt8)) (acs : List ActD) (w : World) (h1 : Sl2 w p1 n1 c1 xss) (h2 : SlA w p2 n2 c2 acs) :
    Calls Tryz.prog 93 #[.slice p1 n1 c1, .slice p2 n2 c2] w fun e w' => e = .returned (.bool (few20 xss acs)) ∧ Below w.heap.size w w' := by
  have b1 := h1.bound; have b2 := h2.bound
  have H1 := Lib.hid h1; have H2 := Lib.hid h2
  clear h1 h2
  go_enter Tryz.func93, Tryz.ntmps93
  go_wp2
  go_loop [11] (fun i => ∃ k : Nat, k ≤ n1 ∧ i = .int .i64 k ∧ Hid (∀ j x, j < k → xss[j]? = some x → x.length ≤ 300)) (fun i => n1 - (intOf i).toNat)
  case atStart => exact ⟨0, Nat.zero_le _, rfl, fun j x hj => by omega⟩
  case round =>
    obtain ⟨k, hk, rfl, hj⟩ := hrel
    by_cases hlt : k < n1
    · obtain ⟨b, o, q, m, c', x, rfl, hc, hs, hx⟩ := H1.out.at k hlt
      have hml := Lib.hid hs.len
      have hmb := hs.bound
      clear hs
      by_cases hm : m ≤ 300
      · have hm' : (m : Int) ≤ 300 := by omega
        have HM := Lib.hid hm
        clear hm
        go_wp2
        go_round
        case rel => exact ⟨k + 1, by omega, by go_num, fun j y hj' hy => by
          by_cases e : j = k
          · subst e; have := hx.out.symm.trans hy; cases this; rw [hml.out]; exact HM.out
          · exact hj.out j y (by omega) hy⟩
        case measure => simp [intOf]; omega
      · have hm' : (300 : Int) < (m : Int) := by omega
        have HM := Lib.hid hm
        clear hm
        go_wp2
        go_ret
        refine ⟨?_, Below.refl _ _⟩
        have : few20 xss acs = false := by
          unfold few20
          have : xss.all (fun x => decide (x.length ≤ 300)) = false := by
            rw [List.all_eq_false]; exact ⟨x, List.mem_of_getElem? hx.out, by have := hml.out; have := HM.out; simp; omega⟩
          rw [this]; rfl
        rw [this]; rfl
    · have HA : Hid (xss.all (fun x => decide (x.length ≤ 300)) = true) := List.all_eq_true.2 fun x hx => by
        obtain ⟨r, hr, e⟩ := List.getElem_of_mem hx
        exact decide_eq_true (hj.out r x (by have := H1.out.len; omega) (by rw [List.getElem?_eq_getElem hr, e]))
      clear hj
      go_wp2
      go_loopw [21] (fun i wr => ∃ k : Nat, k ≤ n2 ∧ i = .int .i64 k ∧ Hid (∀ j a, j < k → acs[j]? = some a → a.bs.length ≤ 300) ∧ Hid (Below w.heap.size w wr)) (fun i _ => n2 - (intOf i).toNat)
      case atStart => exact ⟨0, Nat.zero_le _, rfl, fun j x hj => by omega, Below.refl _ _⟩
      case round =>
        obtain ⟨j, hj, rfl, hall, hB⟩ := hrel
        by_cases hjn : j < n2
        · obtain ⟨a, ha⟩ : ∃ a, acs[j]? = some a := ⟨_, List.getElem?_eq_getElem (by rw [H2.out.len]; exact hjn)⟩
          obtain ⟨b, o, q, m, c', rfl, y0, y1, y2, y3, y4, hs, bi, bj, bb⟩ := (H2.out.keep hB.out).rs j a ha
          have hml := Lib.hid hs.len
          have hmb := hs.bound
          have hsz := hB.out.size
          have HAa := Lib.hid ha
          obtain ⟨d, i, jj, bt, bs⟩ := a
          simp only at y0 y1 y2 y3 y4 hml bi bj bb
          have i1 : (j : Int) < (n2 : Int) := by omega
          clear hs ha
          have hBn : Hid (∀ o, Below w.heap.size w (wr.alloc o)) := fun o => al hB.out hsz
          by_cases hm : m ≤ 300
          · have hm' : (m : Int) ≤ 300 := by omega
            have HM := Lib.hid hm
            clear hm
            go_wp2
            go_roundw
            case rel => exact ⟨j + 1, by omega, by go_num, fun r y hr hy => by
              by_cases e : r = j
              · subst e; have := HAa.out.symm.trans hy; cases this; show bs.length ≤ 300; rw [hml.out]; exact HM.out
              · exact hall.out r y (by omega) hy, hBn.out _⟩
            case measure => simp [intOf]; omega
          · have hm' : (300 : Int) < (m : Int) := by omega
            have HM := Lib.hid hm
            clear hm
            go_wp2
            go_ret
            refine ⟨?_, hBn.out _⟩
            have : few20 xss acs = false := by
              unfold few20
              have : acs.all (fun a => decide (a.bs.length ≤ 300)) = false := by
                rw [List.all_eq_false]; exact ⟨_, List.mem_of_getElem? HAa.out, by have := hml.out; have := HM.out; simp; omega⟩
              rw [HA.out, this]; rfl
            rw [this]; rfl
        · have HAA : Hid (acs.all (fun a => decide (a.bs.length ≤ 300)) = true) := List.all_eq_true.2 fun a ha => by
            obtain ⟨r, hr, e⟩ := List.getElem_of_mem ha
            exact decide_eq_true (hall.out r a (by have := H2.out.len; omega) (by rw [List.getElem?_eq_getElem hr, e]))
          have HR : Hid (few20 xss acs = (decide (n1 ≤ 40) && decide (n2 ≤ 40))) := by unfold few20; rw [Hid, HA.out, HAA.out, H1.out.len, H2.out.len]; rfl
          by_cases g1 : n1 ≤ 40
          · have g1' : (n1 : Int) ≤ 40 := by omega
            by_cases g2 : n2 ≤ 40
            · have g2' : (n2 : Int) ≤ 40 := by omega
              rw [decide_eq_true g1, decide_eq_true g2] at HR
              go_wp2
              go_ret
              exact ⟨by rw [HR.out]; rfl, hB.out⟩
            · have g2' : (40 : Int) < (n2 : Int) := by omega
              rw [decide_eq_true g1, decide_eq_false g2] at HR
              clear g2
              go_wp2
              have g3 : ¬ (n2 : Int) ≤ 40 := by omega
              go_ret
              exact ⟨by rw [HR.out]; simp [g3], hB.out⟩
          · have g1' : (40 : Int) < (n1 : Int) := by omega
            rw [decide_eq_false g1, Bool.false_and] at HR
            clear g1
            go_wp2
            go_ret
            exact ⟨by rw [HR.out]; rfl, hB.out⟩
end Go.Proofs.YtfbmdlfkipipfaaGreatDoor
namespace Go.Proofs.YtfbmdlfkipipfaaGreatDoor
open Go.RowKit Go.By
theorem maskF_quiet (b j : Nat) (xs : List UInt8) : ∀ k, (maskF b j xs k).2 = false → (maskF b j xs k).1 = xs
  | 0, _ => rfl
  | k + 1, h => by
    unfold maskF at h ⊢
    split at h
    · simp at h
    · rename_i hc
      rw [if_neg hc]
      exact maskF_quiet b j xs k h
/-- each is harmed, or stands as it stood -/
def Good (xss : List (List UInt8)) (h : Bool) (ps : List Pack) : Prop := ∀ p, p ∈ ps → (p.2 = -1 ∧ h = true) ∨ ∃ k : Nat, p.2 = k ∧ xss[k]? = some p.1
theorem Good.init (xss : List (List UInt8)) : Good xss false (initS xss) := by
  intro p hp
  simp only [initS, List.mem_map, List.mem_range] at hp
  obtain ⟨i, hi, rfl⟩ := hp
  exact .inr ⟨i, rfl, by simp [List.getElem?_eq_getElem hi]⟩
theorem Good.step {xss : List (List UInt8)} {h : Bool} {ps : List Pack} (g : Good xss h ps) (a : ActD) : Good xss (h || harmsS a.d) (stepS ps a) := by
  have keep : ∀ p : Pack, ((p.2 = -1 ∧ h = true) ∨ ∃ k : Nat, p.2 = k ∧ xss[k]? = some p.1) → ((p.2 = -1 ∧ (h || harmsS a.d) = true) ∨ ∃ k : Nat, p.2 = k ∧ xss[k]? = some p.1) := fun p hp => by
    rcases hp with ⟨h1, h2⟩ | h1
    · exact .inl ⟨h1, by rw [h2]; rfl⟩
    · exact .inr h1
  intro x hx
  unfold stepS at hx
  split at hx
  · exact keep x (g x hx)
  · rename_i hn
    split at hx
    · rename_i h5
      rcases List.mem_append.1 hx with hx | hx
      · exact keep x (g x hx)
      · simp at hx; subst hx
        exact .inl ⟨rfl, by rw [h5]; simp [harmsS]⟩
    · rename_i h5
      split at hx
      · exact keep x (g x hx)
      · rename_i p hp
        have hpm := List.mem_of_getElem? hp
        split at hx
        · exact keep x (g x hx)
        · split at hx
          · exact keep x (g x ((dropAt_sub _ _).subset hx))
          · rename_i h0
            split at hx
            · rcases List.mem_append.1 hx with hx | hx
              · exact keep x (g x hx)
              · simp at hx; subst hx; exact keep _ (g _ hpm)
            · rename_i h1
              split at hx
              · rcases List.mem_cons.1 ((putAtP_perm _ _ _).subset hx) with rfl | hx
                · exact keep _ (g _ hpm)
                · exact keep x (g x ((dropAt_sub _ _).subset hx))
              · rename_i h2
                split at hx
                · rename_i h3
                  rcases List.mem_or_eq_of_mem_set hx with hx | rfl
                  · exact keep x (g x hx)
                  · unfold cutP
                    split
                    · exact .inl ⟨rfl, by rw [h3]; simp [harmsS]⟩
                    · exact keep _ (g _ hpm)
                · rename_i h3
                  rcases List.mem_or_eq_of_mem_set hx with hx | rfl
                  · exact keep x (g x hx)
                  · have h4 : a.d = 4 := by omega
                    unfold maskP
                    cases hm : (maskF a.b a.j.toNat p.1 32).2 with
                    | true => exact .inl ⟨rfl, by rw [h4]; simp [harmsS]⟩
                    | false =>
                      rw [maskF_quiet _ _ _ _ hm]
                      exact keep _ (g _ hpm)
theorem Good.play {xss : List (List UInt8)} : ∀ {acs : List ActD} {h : Bool} {ps : List Pack}, Good xss h ps → Good xss (h || acs.any (fun a => harmsS a.d)) (playS ps acs) := by
  intro acs
  induction acs with
  | nil => intro h ps g; simpa [playS] using g
  | cons a acs ih =>
    intro h ps g
    have := ih (g.step a)
    rw [Bool.or_assoc] at this
    exact this
theorem init_bytes (xss : List (List UInt8)) : (initS xss).map (·.1) = xss := by
  apply List.ext_getElem?
  intro i
  rw [List.getElem?_map]
  cases hx : xss[i]? with
  | none =>
    rw [List.getElem?_eq_none (by rw [initS_len]; exact List.getElem?_eq_none_iff.1 hx)]; rfl
  | some x => rw [initS_at hx]; rfl
end Go.Proofs.YtfbmdlfkipipfaaGreatDoor
namespace Go.Proofs.YtfbmdlfkipipfaaGreatDoor
open Go.RowKit Go.By Gf Go.Maps
/-- a taker's turn: its rows and its status -/
def tkF (k t D : Nat) (s : List Rw × Nat) (x : List UInt8) : List Rw × Nat := (takeK k t D s.1 s.2 x, takeS k t D s.1 s.2 x)
def tkR (k t D : Nat) (came : List (List UInt8)) : List Rw × Nat := came.foldl (tkF k t D) ([], 0)
theorem tkR_snoc {k t D : Nat} {came : List (List UInt8)} {i : Nat} {x : List UInt8} (h : came[i]? = some x) : tkR k t D (came.take (i + 1)) = tkF k t D (tkR k t D (came.take i)) x := by
  obtain ⟨hi, e⟩ := List.getElem?_eq_some_iff.1 h
  unfold tkR
  rw [foldl_take_succ _ _ _ _ hi, e]
theorem tkF_done {k t D : Nat} {s : List Rw × Nat} {x : List UInt8} (h : s.2 = 1 → s.1.length = k) : (tkF k t D s x).2 = 1 → (tkF k t D s x).1.length = k := by
  unfold tkF takeK takeS
  by_cases hc : readC k t D x = 0 ∧ s.2 = 0
  · rw [if_pos hc, if_pos hc]
    unfold nextS
    intro e
    simp only at e ⊢
    by_cases h2 : codeF s.1 (eqX k t x) = 2
    · rw [if_pos h2] at e; cases e
    · rw [if_neg h2] at e
      by_cases h3 : (putK s.1 (eqX k t x)).length = k
      · exact h3
      · rw [if_neg h3] at e; cases e
  · rw [if_neg hc, if_neg hc]; exact h
theorem tkF_st {k t D : Nat} {s : List Rw × Nat} {x : List UInt8} (h : s.2 ≤ 2) : (tkF k t D s x).2 ≤ 2 := by
  unfold tkF takeS
  simp only
  by_cases hc : readC k t D x = 0 ∧ s.2 = 0
  · rw [if_pos hc]
    unfold nextS
    split
    · omega
    · split <;> omega
  · rw [if_neg hc]; exact h
theorem tkR_good {k t D : Nat} (came : List (List UInt8)) : ((tkR k t D came).2 = 1 → (tkR k t D came).1.length = k) ∧ (tkR k t D came).2 ≤ 2 := by
  unfold tkR
  have : ∀ (l : List (List UInt8)) (s : List Rw × Nat), (s.2 = 1 → s.1.length = k) → s.2 ≤ 2 → ((l.foldl (tkF k t D) s).2 = 1 → (l.foldl (tkF k t D) s).1.length = k) ∧ (l.foldl (tkF k t D) s).2 ≤ 2 := by
    intro l
    induction l with
    | nil => exact fun s h1 h2 => ⟨h1, h2⟩
    | cons x l ih => exact fun s h1 h2 => ih _ (tkF_done h1) (tkF_st h2)
  exact this came _ (fun e => by cases e) (by decide)
/-- what is sent by sources, one after another -/
def sendF (D k : Nat) (FX : List (List UInt8)) (acc : List (List UInt8)) (a : SrcD) : List (List UInt8) := if srcC a.m a.xs.length k = 0 then acc ++ [pktB a.m D acc.length a.xs a.s (combS (vecS a.m a.xs a.s k) FX).1] else acc
def sendsS (D k : Nat) (FX : List (List UInt8)) (l : List SrcD) : List (List UInt8) := l.foldl (sendF D k FX) []
theorem sends_snoc {D k : Nat} {FX : List (List UInt8)} {l : List SrcD} {i : Nat} {a : SrcD} (h : l[i]? = some a) : sendsS D k FX (l.take (i + 1)) = sendF D k FX (sendsS D k FX (l.take i)) a := by
  obtain ⟨hi, e⟩ := List.getElem?_eq_some_iff.1 h
  unfold sendsS
  rw [foldl_take_succ _ _ _ _ hi, e]
theorem sendF_len {D k : Nat} {FX acc : List (List UInt8)} {a : SrcD} : acc.length ≤ (sendF D k FX acc a).length ∧ (sendF D k FX acc a).length ≤ acc.length + 1 := by
  unfold sendF
  split <;> simp
theorem sends_len (D k : Nat) (FX : List (List UInt8)) (l : List SrcD) : (sendsS D k FX l).length ≤ l.length := by
  unfold sendsS
  have : ∀ (l : List SrcD) (acc : List (List UInt8)), (l.foldl (sendF D k FX) acc).length ≤ acc.length + l.length := by
    intro l
    induction l with
    | nil => exact fun acc => Nat.le_refl _
    | cons a l ih => exact fun acc => Nat.le_trans (ih _) (by have := (sendF_len (D := D) (k := k) (FX := FX) (acc := acc) (a := a)).2; simp; omega)
  simpa using this l []
/-- a step, in memory -/
def stepV (k t D : Nat) (came : List (List UInt8)) (i : Nat) : List Value := [.int .i64 (readC k t D (came.getD i [])), .int .i64 ((tkR k t D (came.take (i + 1))).1.length : Nat), .int .i64 ((tkR k t D (came.take (i + 1))).2 : Nat)]
def stepsV (k t D : Nat) (came : List (List UInt8)) (n : Nat) : List Value := (List.range n).flatMap (stepV k t D came)
theorem stepsV_succ (k t D : Nat) (came : List (List UInt8)) (n : Nat) : stepsV k t D came (n + 1) = stepsV k t D came n ++ stepV k t D came n := by
  unfold stepsV
  rw [List.range_succ, List.flatMap_append]; simp
theorem stepsV_len (k t D : Nat) (came : List (List UInt8)) : ∀ n, (stepsV k t D came n).length = n * 3
  | 0 => rfl
  | n + 1 => by rw [stepsV_succ, List.length_append, stepsV_len k t D came n]; simp [stepV]; omega
theorem stepsV_at (k t D : Nat) (came : List (List UInt8)) {n i j : Nat} (hi : i < n) (hj : j < 3) : (stepsV k t D came n)[i * 3 + j]? = (stepV k t D came i)[j]? := by
  induction n with
  | zero => omega
  | succ n ih =>
    rw [stepsV_succ]
    by_cases h : i < n
    · rw [List.getElem?_append_left (by rw [stepsV_len]; omega), ih h]
    · obtain rfl : i = n := by omega
      rw [List.getElem?_append_right (by rw [stepsV_len]; omega), stepsV_len, show i * 3 + j - i * 3 = j by omega]
theorem join_full {L t k : Nat} {K : List Rw} (hc : checkS (L : Int) (t : Int) (k : Int) = 0) (hR : Red k t K) (hl : K.length = k) : (joinS (L : Int) (t : Int) (k : Int) (K.map (fun x : Rw => x.2))).2 = 0 := by
  unfold joinS wholeS
  rw [if_pos hc, if_pos (by simp [hl]), if_pos ?_]
  rw [List.all_eq_true]
  intro y hy
  obtain ⟨r, hr, rfl⟩ := List.mem_map.1 hy
  have := (hR.kept.rows r hr).1.2
  simpa using this
theorem Own2.hdrF {T2 T1 B base n : Nat} {w : World} {v : Value} {xss : List (List UInt8)} (h : Own2 T2 T1 w base v n xss) (hB : B ≤ base) : HdrF T2 T1 B w v n xss := by
  obtain ⟨vs, o, l, r⟩ := h
  refine ⟨vs, owns_mono o hB, l, fun j u hj => ?_⟩
  obtain ⟨xs, q, c, hx, e, ho⟩ := r j u hj
  exact ⟨q, _, c, xs, e, hx, (Fresh.of_owns ho).mono hB⟩
section
variable {wI w0 w w' : World} {gs gt be base L t k D nx N st : Nat} {FX : List (List UInt8)} {v : Value} {K : List Rw}
/-- a block of another type turned -/
theorem ST.turn (h : ST wI w0 w gs gt be base L t k D FX nx N v K st) {T g : Nat} {cur : Array Value} {fr : Nat × Nat} (hc : GChg w g w') (hh : w.heap[g]? = some (.cells cur T fr)) (hgb : w0.heap.size ≤ g) (h1 : T ≠ 201) (h2 : T ≠ 139) (h3 : T ≠ 5) (h4 : T ≠ 126) :
    ST wI w0 w' gs gt be base L t k D FX nx N v K st ∧ (∀ T', T ≠ T' → ∀ (b : Nat) (cs : Array Value) (fr : Nat × Nat), w.heap[b]? = some (.cells cs T' fr) → w'.heap[b]? = w.heap[b]?) := by
  obtain ⟨M, C, t1⟩ := h.tk
  exact ⟨⟨h.bel.trans (hc.below (Nat.le_trans h.i0 hgb) h.bel.size), h.i0, Nat.le_trans h.le hc.size, h.b1, h.gs0, h.snd.keep (hc.below hgb h.le) (Nat.le_refl _), ⟨M, C, hc.tkr hh t1 h1 h2 h3 h4⟩⟩, fun T' hne => hc.same hh hne⟩
end
theorem os_rep : OthS 85 := ⟨by decide, by decide, by decide, by decide⟩
theorem GChg.one {w : World} {g i : Nat} (v : Value) : GChg w g (w.setCell ⟨g, i, none⟩ v) := (GChg.of g (Below.refl _ _)).set v
end Go.Proofs.YtfbmdlfkipipfaaGreatDoor
namespace Go.Proofs.YtfbmdlfkipipfaaGreatDoor
open Go.RowKit Go.By
end Go.Proofs.YtfbmdlfkipipfaaGreatDoor
namespace Go.By
open Go.RowKit
theorem KeepR.owns {w w' : World} {b2 T e n : Nat} {v : Value} {ys : List Value} (h : ∀ (b : Nat) (cs : Array Value) (fr : Nat × Nat), w.heap[b]? = some (.cells cs T fr) → w'.heap[b]? = w.heap[b]?) (hs : w.heap.size ≤ w'.heap.size) (ho : w.ownsRow b2 T e v n ys) : w'.ownsRow b2 T e v n ys :=
  owns_same ho hs fun g hg => by
    rcases ho.2 with ⟨e1, _⟩ | ⟨g', cap, cur, e1, _, hh, _⟩
    · rw [e1] at hg; cases hg
    · rw [e1] at hg; cases hg
      exact h _ _ _ hh
def BldT (T B : Nat) (cs : Array Value) (v : Value) (w : World) : Prop := ∃ g, v = .slice (some ⟨g, 0, none⟩) 1 1 ∧ B ≤ g ∧ w.heap[g]? = some (.cells cs T (0, 0))
def ShBld (T B : Nat) (cs : Array Value) : Shp := ⟨BldT T B cs, fun _ _ _ ⟨g, e, h1, h2⟩ hb => ⟨g, e, h1, (hb.block _ (lt_of_block h2)).trans h2⟩⟩
end Go.By
namespace Go.Proofs.YtfbmdlfkipipfaaGreatDoor
open Go.RowKit Go.By Gf Go.Maps
theorem os_step : OthS 90 := ⟨by decide, by decide, by decide, by decide⟩
theorem info_step : (Tryz.prog.info? 90).map (fun i => (i.zero, i.size, i.bytes)) = some (some (.agg #[.int .i64 0, .int .i64 0, .int .i64 0]), 3, 24) := by kernel_rfl
theorem info_report : (Tryz.prog.info? 85).map (·.size) = some 5 := by kernel_rfl
theorem news_three {w : World} {g T : Nat} {u v x : Value} {fr : Nat × Nat} (h : w.heap[g]? = some (.cells #[u, v, x] T fr)) : ∀ (j : Nat) (y : Value), [u, v, x][j]? = some y → w.cell? ((⟨g, 0, none⟩ : Addr).add j) = some y := by
  intro j y hj
  rw [Addr.add_lit, Nat.zero_add, cell_of_row _ _ j _ _ _ h, ← hj]
  match j with
  | 0 => rfl
  | 1 => rfl
  | 2 => rfl
  | j + 3 => rfl
theorem noByte5 {x0 x2 x3 : Int} {q1 q2 : Option Addr} {n1 n2 c1 c2 : Nat} : ∀ (j : Nat) (x : UInt8), #[Value.int .i64 x0, .slice q1 n1 c1, .int .i64 x2, .int .i64 x3, .slice q2 n2 c2][j]? ≠ some (B8 x) := by
  intro j x h
  match j with
  | 0 => simp at h
  | 1 => simp at h
  | 2 => simp at h
  | 3 => simp at h
  | 4 => simp at h
  | j + 5 => simp at h
theorem sl_noByteRow {w : World} {q : Option Addr} {n c g T : Nat} {ys : List UInt8} {cs new : Array Value} {fr : Nat × Nat} (h : Sl B8 w q n c ys) (hg : w.heap[g]? = some (.cells cs T fr)) (hno : ∀ (j : Nat) (x : UInt8), cs[j]? ≠ some (B8 x)) : Sl B8 (w.setRow g new) q n c ys :=
  ⟨h.len, h.le, h.max, h.nil, fun j hj => by
    obtain ⟨b, o, e, hc⟩ := h.rs j hj
    refine ⟨b, o, e, cell_setRow hc fun e1 => ?_⟩
    rw [e1, cell_of_row _ _ (o + j) _ _ _ hg] at hc
    exact hno _ _ hc⟩
theorem rep_owns {w : World} {b2 e n g : Nat} {v : Value} {ys : List Value} {cs new : Array Value} {fr : Nat × Nat} (ho : w.ownsRow b2 90 e v n ys) (hg : w.heap[g]? = some (.cells cs 85 fr)) : (w.setRow g new).ownsRow b2 90 e v n ys :=
  KeepR.owns (fun b cs' fr' hb => (hro hb (fun e1 => by rw [e1, hg] at hb; injection hb with hb; injection hb with _ hb _; exact absurd hb (by decide))).trans hb.symm) (by simp [World.setRow]) ho
/-- what a trip came to -/
def RunRet (w : World) (L t k D : Nat) (sent : Nat) (came : List (List UInt8)) (e : Ending) (w' : World) : Prop :=
  ∃ q c q2 n2 c2, e = .returned (.tuple #[.agg #[.int .i64 (sent : Nat), .slice q came.length c, .int .i64 ((tkR k t D came).1.length : Nat), .int .i64 ((tkR k t D came).2 : Nat), .slice q2 n2 c2], .int .i64 0]) ∧
    w'.ownsRow w.heap.size 90 3 (.slice q came.length c) came.length (stepsV k t D came came.length) ∧ Fresh 5 w.heap.size w' q2 n2 c2 (if (tkR k t D came).2 = 1 then (joinS (L : Int) (t : Int) (k : Int) ((tkR k t D came).1.map (fun x : Rw => x.2))).1 else []) ∧ Below w.heap.size w w'
set_option maxRecDepth 100000 in
set_option maxHeartbeats 8000000 in
theorem Run_ok (L t k D : Nat) (q0 : Option Addr) (c0 : Nat) (o : List UInt8) (p1 : Option Addr) (n1 c1 : Nat) (srcs : List SrcD) (p2 : Option Addr) (n2 c2 : Nat) (acs : List ActD) (w : World) (hP : POK L t k D) (hfit : ∀ i : Nat, i < k → i * t ≤ L) (h0 : Sl B8 w q0 L c0 o) (h1 : SlS w p1 n1 c1 srcs) (h2 : SlA w p2 n2 c2 acs) (hT : HalfT w)
    (hn1 : n1 ≤ 1000) (hn2 : n2 ≤ 1000) (hsr : ∀ a, a ∈ srcs → a.xs.length ≤ 1000000) (har : ∀ a, a ∈ acs → Room a.bs.length) :
    Calls Tryz.prog 39 #[PVal L t k D, .slice q0 L c0, .slice p1 n1 c1, .slice p2 n2 c2] w (RunRet w L t k D (sendsS D k ((List.range k).map (pieceS o t)) srcs).length ((playS (initS (sendsS D k ((List.range k).map (pieceS o t)) srcs)) acs).map (·.1))) := by
  have HT := Lib.hid hT
  have HPK := Lib.hid hP
  have HF := Lib.hid hfit
  have H0 := Lib.hid h0
  have H1 := Lib.hid h1
  have H2 := Lib.hid h2
  have HSR := Lib.hid hsr
  have HAR := Lib.hid har
  have hk1 := hP.k1
  have ht2 := hP.t2
  obtain ⟨FX, hFX⟩ : ∃ FX, FX = (List.range k).map (pieceS o t) := ⟨_, rfl⟩
  have HFl : Hid (∀ x, x ∈ FX → x.length = t) := by rw [hFX]; exact pieces_len.1
  have HFk : Hid (FX.length = k) := by rw [hFX]; exact pieces_len.2
  rw [← hFX]
  have HFX := Lib.hid hFX
  clear hT hP hfit h0 h1 h2 hsr har hFX
  go_enter Tryz.func39, Tryz.ntmps39
  go_wp2_with fail
  obtain ⟨W0, hW0⟩ : ∃ W0, W0 = (w.alloc (.cells #[.int .i64 (L : Nat), .int .i64 (t : Nat), .int .i64 (k : Nat), .int .u32 (D : Nat)] 27 (0, 0))).alloc (.cells #[.int .i64 0, .slice none 0 0, .int .i64 0, .int .i64 0, .slice none 0 0] 85 (0, 0)) := ⟨_, rfl⟩
  rw [← hW0]
  have hBW : Below w.heap.size w W0 := by rw [hW0]; exact al (al (Below.refl _ _) (Nat.le_refl _)) (by simp)
  have hk4 : W0.heap[w.heap.size]? = some (.cells #[.int .i64 (L : Nat), .int .i64 (t : Nat), .int .i64 (k : Nat), .int .u32 (D : Nat)] 27 (0, 0)) := by rw [hW0]; exact hal (hnew rfl)
  have hk8 : W0.heap[w.heap.size + 1]? = some (.cells #[.int .i64 0, .slice none 0 0, .int .i64 0, .int .i64 0, .slice none 0 0] 85 (0, 0)) := by rw [hW0]; exact hnew (by simp)
  have HBW := Lib.hid hBW
  clear hW0 hBW
  obtain ⟨g8, hg8⟩ : ∃ g8, g8 = w.heap.size + 1 := ⟨_, rfl⟩
  have HG8 : Hid (w.heap.size ≤ g8) := by show _ ≤ _; omega
  rw [← hg8] at hk8 ⊢
  clear hg8
  refine Calls.mono (SNew_ok L t k D q0 L c0 o W0 HPK.out (H0.out.keep HBW.out) HF.out rfl) ?_
  rintro e w0 ⟨gs, rfl, hgs, hsn, hb⟩
  have HSn := Lib.hid hsn
  have HB0 := Lib.hid (bl HBW.out hb HBW.out.size)
  have HGS : Hid (w.heap.size ≤ gs) := Nat.le_trans HBW.out.size hgs
  have kp0 := (hb.block _ (lt_of_block hk4)).trans hk4
  have k80 := Lib.hid ((hb.block _ (lt_of_block hk8)).trans hk8)
  clear hb hgs hsn hk4 hk8 HBW
  obtain ⟨z0, z1, z2, z3⟩ := cells_four kp0
  go_wp2_with fail
  refine Calls.mono (TNew_ok L t k D w0 HPK.out) ?_
  rintro e w1 ⟨gt, be, v0, rfl, ht, hb⟩
  have hst := ST.start HB0.out HGS.out HSn.out ht hb
  obtain ⟨base, hbase⟩ : ∃ base, base = w0.heap.size := ⟨_, rfl⟩
  rw [← hbase] at hst
  rw [← HFX.out] at hst
  have HS1 := Lib.hid hst
  have HK8 := Lib.hid ((hb.block _ (lt_of_block k80.out)).trans k80.out)
  have HL8 := Lib.hid (lt_of_block k80.out)
  clear hb ht hst HSn kp0 HB0 HGS hbase z0 z1 z2 z3 k80
  go_wp2
  go_loopw [13, 43] (fun sv iv wr => ∃ (i : Nat) (XS : List (List UInt8)), i ≤ n1 ∧ iv = .int .i64 (i : Nat) ∧ XS.length ≤ i ∧ Hid (XS = sendsS D k FX (srcs.take i)) ∧ Hid (∀ x, x ∈ XS → readC k t D x = 0) ∧ Hid (ST w w0 wr gs gt be base L t k D FX XS.length 0 v0 [] 0) ∧ Hid (HdrF 22 5 w0.heap.size wr sv XS.length XS) ∧ Hid (wr.heap[g8]? = some (.cells #[.int .i64 0, .slice none 0 0, .int .i64 0, .int .i64 0, .slice none 0 0] 85 (0, 0)))) (fun _ iv _ => n1 - (intOf iv).toNat)
  case atStart => exact ⟨0, [], Nat.zero_le _, rfl, Nat.le_refl _, rfl, fun x h => by simp at h, HS1.out, HdrF.nil _ _ _ _, HK8.out⟩
  case round =>
    obtain ⟨i, XS, hi, rfl, hXi, HXS, HRC, HR, HX, HK⟩ := hrel
    clear HS1 HK8
    obtain ⟨qs, cs, rfl⟩ := HX.out.shape
    by_cases hlt : i < n1
    · as_aux_lemma =>
        obtain ⟨b, ob, q, j, c', a, rfl, hga, f0, f1, f2, hs, hs64⟩ := H1.out.at hlt
        have x0 := (HR.out.bel.cell (p := ⟨b, ob + i * 3, none⟩) (lt_of_cell f0)).trans f0
        have x1 := (HR.out.bel.cell (p := ⟨b, ob + i * 3 + 1, none⟩) (lt_of_cell f1)).trans f1
        have x2 := (HR.out.bel.cell (p := ⟨b, ob + i * 3 + 2, none⟩) (lt_of_cell f2)).trans f2
        have hlt' : (i : Int) < (n1 : Int) := by omega
        have HSX := Lib.hid hs
        have hjl := hs.len
        have hj : j ≤ 1000000 := by rw [← hjl]; exact HSR.out a (List.mem_of_getElem? hga.out)
        have HNX : Hid (sendsS D k FX (srcs.take (i + 1)) = sendF D k FX XS a) := by show _ = _; rw [sends_snoc hga.out, ← HXS.out]
        have ba : Below wr.heap.size wr (wr.alloc (.cells #[B8 a.m, .slice q j c', .int .u64 (a.s : Nat)] 66 (0, 0))) := al (Below.refl _ _) (Nat.le_refl _)
        have HRa := Lib.hid (HR.out.keep ba)
        have hsend := ST_sendA HRa.out HT.out (by omega) ((HSX.out.keep HR.out.bel).keep ba) (show j ≤ 140737488355328 by omega) (m := a.m) (s := a.s)
        have HXa := Lib.hid (HX.out.keep ba)
        have HKa := Lib.hid ((ba.block _ (lt_of_block HK.out)).trans HK.out)
        have HLE := Lib.hid HR.out.le
        have HSD := Lib.hid hsend
        clear f0 f1 f2 hs hlt ba hsend HX HK HR hga
        by_cases hm : srcC a.m j k = 0
        · have hv := (sent_eq (k := k) (t := t) (D := D) (n := XS.length) (s := a.s) (m := a.m) (xs := a.xs) HFl.out HFk.out hk1 (by rw [hjl]; exact hm) hs64 HPK.out.d (by omega)).1
          have HRC2 : Hid (∀ x, x ∈ XS ++ [pktB a.m D XS.length a.xs a.s (combS (vecS a.m a.xs a.s k) FX).1] → readC k t D x = 0) := fun x hx => by
            rcases List.mem_append.1 hx with h | h
            · exact HRC.out x h
            · rw [List.mem_singleton.1 h]; exact hv
          have HNX2 : Hid (XS ++ [pktB a.m D XS.length a.xs a.s (combS (vecS a.m a.xs a.s k) FX).1] = sendsS D k FX (srcs.take (i + 1))) := by
            show _ = _
            rw [HNX.out]; unfold sendF; rw [hjl, if_pos hm]
          unfold sentX nextX at HSD
          rw [if_pos hm, if_pos hm, hm] at HSD
          clear hv hm HNX hjl
          generalize pktB a.m D XS.length a.xs a.s (combS (vecS a.m a.xs a.s k) FX).1 = pk at *
          go_wp2_with fail
          refine Calls.mono HSD.out ?_
          rintro e wd ⟨ql, nl, cl, rfl, hf, hS, hK⟩
          have ba : Below wd.heap.size wd (wd.alloc (.cells #[.slice ql nl cl] 22 (0, 0))) := al (Below.refl _ _) (Nat.le_refl _)
          have HSf := Lib.hid (hS.keep ba)
          have HXf := Lib.hid ((hK.hdr os_rows os_u8 HXa.out).keep ba)
          have HKf : Hid ((wd.alloc (.cells #[.slice ql nl cl] 22 (0, 0))).heap[g8]? = _) := (ba.block _ (lt_of_block (hK.blk os_rep HKa.out))).trans (hK.blk os_rep HKa.out)
          have FLf : Hid (Fresh 5 w0.heap.size (wd.alloc (.cells #[.slice ql nl cl] 22 (0, 0))) ql nl cl pk) := (hf.mono (by have := HLE.out; simp; omega)).keep ba
          clear ba hf hS hK x0 x1 x2 HRa HSD HXa HKa
          go_wp2_with (first | (at_builtin; refine wpList_hdr rfl _ _ rfl w0.heap.size XS.length (.slice qs XS.length cs) XS rfl HXf.out (by omega) HSf.out.le wd.heap.size rfl ql nl cl (0, 0) pk (hnew rfl) FLf.out ?_) | fail)
          rintro sA wA hA1 ⟨ys, hA2⟩ hA3 -
          obtain ⟨hSA, hsm⟩ := HSf.out.grown hA2 hA3 (by decide) (by decide) (by decide) (by decide)
          have HSA : Hid (ST w w0 wA gs gt be base L t k D FX (XS ++ [pk]).length 0 v0 [] 0) := by rw [List.length_append]; exact hSA
          have HXA : Hid (HdrF 22 5 w0.heap.size wA sA (XS ++ [pk]).length (XS ++ [pk])) := by rw [List.length_append]; exact hA1
          have HKA := Lib.hid ((hsm _ (by decide) _ _ _ HKf.out).trans HKf.out)
          clear hsm hA1 hA2 hA3 hSA HSf HXf HKf FLf
          go_wp2
          go_roundw
          case rel => exact ⟨i + 1, XS ++ [pk], by omega, by go_num, by rw [List.length_append]; simp; omega, HNX2.out, HRC2.out, HSA.out, HXA.out, HKA.out⟩
          case measure => simp [intOf]; omega
        · have HNX2 : Hid (XS = sendsS D k FX (srcs.take (i + 1))) := by
            show _ = _
            rw [HNX.out]; unfold sendF; rw [hjl, if_neg hm]
          unfold sentX nextX at HSD
          rw [if_neg hm, if_neg hm] at HSD
          have hz5 : (srcC a.m j k == 0) = false := beq_eq_false_iff_ne.2 hm
          generalize srcC a.m j k = R at *
          clear hm HNX hjl
          go_wp2_with fail
          refine Calls.mono HSD.out ?_
          rintro e wd ⟨ql, nl, cl, rfl, -, hS, hK⟩
          have HSA := Lib.hid hS
          have HXA := Lib.hid (hK.hdr os_rows os_u8 HXa.out)
          have HKA := Lib.hid (hK.blk os_rep HKa.out)
          clear hS hK x0 x1 x2 HRa HSD HXa HKa
          go_wp2
          go_roundw
          case rel => exact ⟨i + 1, XS, by omega, by go_num, by omega, HNX2.out, HRC.out, HSA.out, HXA.out, HKA.out⟩
          case measure => simp [intOf]; omega
    · obtain rfl : n1 = i := by omega
      clear hlt hi
      have HXE : Hid (XS = sendsS D k FX srcs) := by show _ = _; rw [HXS.out, ← H1.out.len, List.take_length]
      obtain ⟨came, hcame⟩ : ∃ came, came = (playS (initS XS) acs).map (·.1) := ⟨_, rfl⟩
      have hxr : ∀ x, x ∈ XS → Room x.length := fun x hx => read_roomT HPK.out (HRC.out x hx)
      have HCR : Hid (∀ x, x ∈ came → x.length ≤ 140737488355328) := fun x hx => by
        rw [hcame] at hx
        obtain ⟨p, hp, rfl⟩ := List.mem_map.1 hx
        refine playS_room (fun p hp => ?_) HAR.out p hp
        unfold initS at hp
        obtain ⟨i, hi, rfl⟩ := List.mem_map.1 hp
        have hi := List.mem_range.1 hi
        show Room (XS.getD i []).length
        rw [List.getD_eq_getElem?_getD, List.getElem?_eq_getElem hi]
        exact hxr _ (List.getElem_mem hi)
      have hcl : came.length ≤ 2000 := by
        rw [hcame, List.length_map]
        have := playS_len (initS XS) acs
        rw [initS_len, H2.out.len] at this; omega
      have HAP : Hid (∀ W, Sl2 W qs XS.length cs XS → SlA W p2 n2 c2 acs → Calls Tryz.prog 40 #[.slice qs XS.length cs, .slice p2 n2 c2] W (RetRows W came)) := fun W h3 h4 => by
        rw [hcame]; exact Apply_any qs p2 XS.length cs n2 c2 XS acs W h3 h4 hxr HAR.out (by omega)
      have HCM : Hid (came = (playS (initS (sendsS D k FX srcs)) acs).map (·.1)) := by show _ = _; rw [← HXE.out]; exact hcame
      have HMX : Hid (XS.length = (sendsS D k FX srcs).length) := by show _ = _; rw [← HXE.out]
      clear hcame hxr HXS HRC HXE
      obtain ⟨m0, hm0⟩ : ∃ m0, m0 = XS.length := ⟨_, rfl⟩
      rw [← hm0] at HAP HMX HR HX hXi ⊢
      clear hm0
      have ba : Below wr.heap.size wr (wr.alloc (.cells #[.int .i64 (m0 : Nat), .slice none 0 0, .int .i64 0, .int .i64 0, .slice none 0 0] 85 (0, 0))) := al (Below.refl _ _) (Nat.le_refl _)
      have HSa := Lib.hid (HR.out.keep ba)
      have HXa := Lib.hid (HX.out.keep ba)
      have HKa := Lib.hid ((ba.block _ (lt_of_block HK.out)).trans HK.out)
      have HBa : Hid ((wr.alloc (.cells #[.int .i64 (m0 : Nat), .slice none 0 0, .int .i64 0, .int .i64 0, .slice none 0 0] 85 (0, 0))).heap[wr.heap.size]? = some (.cells #[.int .i64 (m0 : Nat), .slice none 0 0, .int .i64 0, .int .i64 0, .slice none 0 0] 85 (0, 0))) := hnew rfl
      have HLE := Lib.hid HR.out.le
      have HG8L : Hid (g8 < wr.heap.size) := lt_of_block HK.out
      clear ba HR HX HK
      go_wp2_with fail
      generalize hW1 : wr.alloc (.cells #[.int .i64 (m0 : Nat), .slice none 0 0, .int .i64 0, .int .i64 0, .slice none 0 0] 85 (0, 0)) = W1 at *
      obtain ⟨g18, hg18⟩ : ∃ g18, g18 = wr.heap.size := ⟨_, rfl⟩
      rw [← hg18] at HBa HLE HG8L ⊢
      clear hW1 hg18
      refine Calls.mono (HAP.out _ HXa.out.sl2 (H2.out.keep HSa.out.bel)) ?_
      rintro e w2 ⟨qc, cc, rfl, ho, hb⟩
      have HSb := Lib.hid (HSa.out.keep hb)
      have HCb := Lib.hid (Own2.hdrF (T2 := 22) (T1 := 5) (B := w0.heap.size) ho HSa.out.le)
      have HKb := Lib.hid ((hb.block _ (lt_of_block HKa.out)).trans HKa.out)
      have HBb := Lib.hid ((hb.block _ (lt_of_block HBa.out)).trans HBa.out)
      obtain ⟨m, hm⟩ : ∃ m, m = came.length := ⟨_, rfl⟩
      rw [← hm] at HCb hcl ⊢
      have HM := Lib.hid hm
      have HNE : Hid (g18 ≠ g8) := by show _ ≠ _; have := HG8L.out; omega
      clear hb ho HSa HXa HKa HBa HAP hm HG8L
      go_wp2
      go_loopw [67] (fun iv wr => ∃ (i : Nat) (v : Value) (q : Option Addr) (c : Nat), i ≤ m ∧ iv = .int .i64 (i : Nat) ∧ Hid (ST w w0 wr gs gt be base L t k D FX m0 i v (tkR k t D (came.take i)).1 (tkR k t D (came.take i)).2) ∧ Hid (HdrF 22 5 w0.heap.size wr (.slice qc m cc) m came) ∧ Hid (wr.heap[g8]? = some (.cells #[.int .i64 0, .slice none 0 0, .int .i64 0, .int .i64 0, .slice none 0 0] 85 (0, 0))) ∧ Hid (wr.heap[g18]? = some (.cells #[.int .i64 (m0 : Nat), .slice q i c, .int .i64 0, .int .i64 0, .slice none 0 0] 85 (0, 0))) ∧ Hid (wr.ownsRow w0.heap.size 90 3 (.slice q i c) i (stepsV k t D came i))) (fun iv _ => m - (intOf iv).toNat)
      case atStart => exact ⟨0, v0, none, 0, Nat.zero_le _, rfl, HSb.out, HCb.out, HKb.out, HBb.out, World.ownsRow_nil _ _ _ _⟩
      case round =>
        obtain ⟨i, v, q, c, hi, rfl, HR, HC, HK, HB, HO⟩ := hrel
        clear HSb HCb HKb HBb
        by_cases hlt : i < m
        · as_aux_lemma =>
            obtain ⟨bc, oc, ql, nl, cl, xs, rfl, hcl1, hxs, hf⟩ := HC.out.at hlt
            have hlt' : (i : Int) < (m : Int) := by omega
            have hnr : nl ≤ 140737488355328 := by rw [← hf.sl.len]; exact HCR.out xs (List.mem_of_getElem? hxs.out)
            have hT1 := HR.out
            have HTK : Hid (tkR k t D (came.take (i + 1)) = tkF k t D (tkR k t D (came.take i)) xs) := tkR_snoc hxs.out
            have HGD : Hid (came.getD i [] = xs) := by show _ = _; rw [List.getD_eq_getElem?_getD, hxs.out]; rfl
            have hfx := hf.sl
            clear hxs hf hlt
            go_wp2_with fail
            refine Calls.mono (ST_take hT1 HT.out (by omega) hfx hnr) ?_
            rintro e wd ⟨rfl, v', hS, hK⟩
            rw [show takeK k t D (tkR k t D (came.take i)).1 (tkR k t D (came.take i)).2 xs = (tkR k t D (came.take (i + 1))).1 by rw [HTK.out]; rfl, show takeS k t D (tkR k t D (came.take i)).1 (tkR k t D (came.take i)).2 xs = (tkR k t D (came.take (i + 1))).2 by rw [HTK.out]; rfl] at hS
            have HSd := Lib.hid hS
            have HCd := Lib.hid (hK.hdr os_rows os_u8 HC.out)
            have HKd := Lib.hid (hK.blk os_rep HK.out)
            have hbd := hK.blk os_rep HB.out
            have HOd := Lib.hid (hK.owns os_step HO.out)
            obtain ⟨b0, b1, b2, b3, b4⟩ := cells_five hbd
            have HBD := Lib.hid hbd
            have HSV : Hid (stepV k t D came i = [.int .i64 (readC k t D xs), .int .i64 ((tkR k t D (came.take (i + 1))).1.length : Nat), .int .i64 ((tkR k t D (came.take (i + 1))).2 : Nat)]) := by show stepV k t D came i = _; unfold stepV; rw [HGD.out]
            have HRk : Hid (∀ W, Below wd.heap.size wd W → Calls Tryz.prog 18 #[.pointer (some ⟨gt, 0, none⟩)] W fun e w' => e = .returned (.int .i64 ((tkR k t D (came.take (i + 1))).1.length : Nat)) ∧ W = w') := fun W hb => ST_rank (HSd.out.keep hb)
            have HSs : Hid (∀ W, Below wd.heap.size wd W → Calls Tryz.prog 23 #[.pointer (some ⟨gt, 0, none⟩)] W fun e w' => e = .returned (.int .i64 ((tkR k t D (came.take (i + 1))).2 : Nat)) ∧ W = w') := fun W hb => ST_status (HSd.out.keep hb)
            obtain ⟨E, hE⟩ : ∃ E, E = readC k t D xs := ⟨_, rfl⟩
            obtain ⟨r2, hr2⟩ : ∃ r2, r2 = (tkR k t D (came.take (i + 1))).1.length := ⟨_, rfl⟩
            obtain ⟨s2, hs2⟩ : ∃ s2, s2 = (tkR k t D (came.take (i + 1))).2 := ⟨_, rfl⟩
            rw [← hE, ← hr2, ← hs2] at HSV
            rw [← hr2] at HRk
            rw [← hs2] at HSs
            rw [← hE]
            clear hS hK HR HC HK HB HO hT1 hfx hcl1 hE hr2 hs2 HTK HGD hbd
            obtain ⟨i0, hi0, hz0, hz1, hz2⟩ := info_parts info_step
            go_wp2_with fail
            refine wp_region_tail (fun ix => ([.val (.pointer (some ⟨g18, 1, none⟩)), .val (.slice q i c), .val (.int .i64 E), .val (.pointer (some ⟨gt, 0, none⟩)), .val (.int .i64 (r2 : Nat)), .val (.pointer (some ⟨gt, 0, none⟩)), .val (.int .i64 (s2 : Nat)), (.val (.agg #[.int .i64 E, .int .i64 (r2 : Nat), .int .i64 (s2 : Nat)])), (ShBld 90 wd.heap.size #[.int .i64 E, .int .i64 (r2 : Nat), .int .i64 (s2 : Nat)]), .any, .any, .any][ix]?).getD (.any)) 106 9 rfl (by kernel_rfl) (by decide +kernel) (by decide +kernel) (by decide +kernel) (by decide +kernel) ?_ ?_
            · refine ⟨?_, ?_, ?_, ?_, ?_, ?_, ?_, ?_, ?_, trivial⟩
              · intro a W hb0 hs hp hi; have hb := undrew hb0; clear hb0
                have t18 : sl a 18 = .pointer (some ⟨g18, 0, none⟩) := hi 18 (by decide)
                refine ite_y rfl (wp_val (.pointer (some ⟨g18, 1, none⟩)) ?_ ?_)
                · simp only [execOp, eval_tmp, eval_const, t18]; simp [go_sem]
                · exact ⟨_, rfl, Below.refl _ _, rfl⟩
              · intro a W hb0 hs hp hi; have hb := undrew hb0; clear hb0
                have tt : sl a 74 = .pointer (some ⟨g18, 1, none⟩) := hp 0 (by decide)
                have dd := (hb.cell (p := ⟨g18, 1, none⟩) (lt_of_cell b1)).trans b1
                refine ite_y rfl (wp_val (.slice q i c) ?_ ?_)
                · simp only [execOp, eval_tmp, tt]; simp [go_sem, dd]
                · exact ⟨_, rfl, Below.refl _ _, rfl⟩
              · intro a W hb0 hs hp hi; have hb := undrew hb0; clear hb0
                have t21 : sl a 21 = .int .i64 E := hi 21 (by decide)
                exact ite_y rfl (wp_val (sl a 21) rfl ⟨_, rfl, Below.refl _ _, t21⟩)
              · intro a W hb0 hs hp hi; have hb := undrew hb0; clear hb0
                have t12 : sl a 12 = .pointer (some ⟨gt, 0, none⟩) := hi 12 (by decide)
                exact ite_y rfl (wp_val (sl a 12) rfl ⟨_, rfl, Below.refl _ _, t12⟩)
              · intro a W hb0 hs hp hi; have hb := undrew hb0; clear hb0
                have t77 : sl a 77 = .pointer (some ⟨gt, 0, none⟩) := hp 3 (by decide)
                refine ite_y rfl (wp_enter 18 #[.pointer (some ⟨gt, 0, none⟩)] ?_ (HRk.out _ hb) ?_)
                · simp only [execOp, resolve, List.map_toArray, List.map, eval_tmp, eval_func, eval_const, t77]; simp [go_sem]
                · rintro e W' ⟨rfl, rfl⟩; exact ⟨_, rfl, _, rfl, Below.refl _ _, rfl⟩
              · intro a W hb0 hs hp hi; have hb := undrew hb0; clear hb0
                have t12 : sl a 12 = .pointer (some ⟨gt, 0, none⟩) := hi 12 (by decide)
                exact ite_y rfl (wp_val (sl a 12) rfl ⟨_, rfl, Below.refl _ _, t12⟩)
              · intro a W hb0 hs hp hi; have hb := undrew hb0; clear hb0
                have t79 : sl a 79 = .pointer (some ⟨gt, 0, none⟩) := hp 5 (by decide)
                refine ite_y rfl (wp_enter 23 #[.pointer (some ⟨gt, 0, none⟩)] ?_ (HSs.out _ hb) ?_)
                · simp only [execOp, resolve, List.map_toArray, List.map, eval_tmp, eval_func, eval_const, t79]; simp [go_sem]
                · rintro e W' ⟨rfl, rfl⟩; exact ⟨_, rfl, _, rfl, Below.refl _ _, rfl⟩
              · intro a W hb0 hs hp hi; have hb := undrew hb0; clear hb0
                have t76 : sl a 76 = .int .i64 E := hp 2 (by decide)
                have t78 : sl a 78 = .int .i64 (r2 : Nat) := hp 4 (by decide)
                have t80 : sl a 80 = .int .i64 (s2 : Nat) := hp 6 (by decide)
                have v76 : a.tmps[76]?.getD undef = sl a 76 := by simp [sl]
                rw [t76] at v76
                have v78 : a.tmps[78]?.getD undef = sl a 78 := by simp [sl]
                rw [t78] at v78
                have v80 : a.tmps[80]?.getD undef = sl a 80 := by simp [sl]
                rw [t80] at v80
                refine ite_y rfl (wp_val (.agg #[.int .i64 E, .int .i64 (r2 : Nat), .int .i64 (s2 : Nat)]) ?_ ?_)
                · simp only [execOp, eval_tmp, t76, t78, t80]; simp [go_sem, v76, v78, v80, Tryz.underlying90]
                · exact ⟨_, rfl, Below.refl _ _, rfl⟩
              · intro a W hb0 hs hp hi; have hb := undrew hb0; clear hb0
                have t81 : sl a 81 = .agg #[.int .i64 E, .int .i64 (r2 : Nat), .int .i64 (s2 : Nat)] := hp 7 (by decide)
                have v81 : a.tmps[81]?.getD undef = sl a 81 := by simp [sl]
                rw [t81] at v81
                refine ite_y rfl (wp_val' (w' := W.alloc (.cells #[.int .i64 E, .int .i64 (r2 : Nat), .int .i64 (s2 : Nat)] 90)) (.slice (some ⟨W.heap.size, 0, none⟩) 1 1) ?_ ?_)
                · simp only [execOp, eval_tmp, t81]; simp [go_sem, v81]
                · exact ⟨_, rfl, al (Below.refl _ _) (Nat.le_refl _), _, rfl, hb.size, hnew rfl⟩
            intro a wE hb hs hd hI ht
            have ha := act_is [74, 75, 76, 77, 78, 79, 80, 81, 82, 83, 84] hs hd ht (by decide)
            have t75 : sl a 75 = .slice q i c := hI 1 (by decide)
            have y82 := hI 8 (by decide)
            obtain ⟨g82, t82, hg82, hh82⟩ := y82
            simp only [List.foldl, t75, t82] at ha
            generalize sl a 74 = u74 at ha
            generalize sl a 76 = u76 at ha
            generalize sl a 77 = u77 at ha
            generalize sl a 78 = u78 at ha
            generalize sl a 79 = u79 at ha
            generalize sl a 80 = u80 at ha
            generalize sl a 81 = u81 at ha
            generalize sl a 83 = u83 at ha
            generalize sl a 84 = u84 at ha
            simp only [Act.put, List.setIfInBounds_toArray, List.set_cons_zero, List.set_cons_succ] at ha
            rw [ha]; clear ha hI ht hs hd
            simp only [List.drop_succ_cons, List.drop_zero]
            have HSe := Lib.hid (HSd.out.keep hb)
            have HCe := Lib.hid (HCd.out.keep hb)
            have HKe := Lib.hid ((hb.block _ (lt_of_block HKd.out)).trans HKd.out)
            have HBe := Lib.hid ((hb.block _ (lt_of_block HBD.out)).trans HBD.out)
            have HOe := Lib.hid (owns_keepv HOd.out hb)
            have HH82 := Lib.hid hh82
            clear hb HSd HCd HKd HBD HOd HRk HSs b0 b1 b2 b3 b4 hh82 hg82
            go_wp2_with (first | (at_builtin; refine wpList_append_where _ rfl (.tmp 75) (.tmp 82) 83 rfl w0.heap.size 90 i0 (.agg #[.int .i64 0, .int .i64 0, .int .i64 0]) 3 24 Tryz.underlying83 hi0 hz0 hz1 hz2 rfl (by decide) (.slice q i c) i (stepsV k t D came i) rfl HOe.out ⟨g82, 0, none⟩ 1 1 [.int .i64 E, .int .i64 (r2 : Nat), .int .i64 (s2 : Nat)] rfl rfl (news_three HH82.out) (by intro u hu; simp at hu; rcases hu with rfl | rfl | rfl <;> rfl) (by unfold maxLen; omega) (by omega) HSe.out.le (by decide) ?_) | fail)
            rintro vA wA hA1 hA2 -
            rw [← HSV.out, ← stepsV_succ] at hA1
            obtain ⟨hSA, hsm⟩ := HSe.out.grown HOe.out hA2 (by decide) (by decide) (by decide) (by decide)
            have HSA := Lib.hid hSA
            have HCA := Lib.hid (HCe.out.same hA2.size (hsm _ (by decide)) (hsm _ (by decide)))
            have HKA := Lib.hid ((hsm _ (by decide) _ _ _ HKe.out).trans HKe.out)
            have hBA := (hsm _ (by decide) _ _ _ HBe.out).trans HBe.out
            have HOA := Lib.hid hA1
            obtain ⟨qA, cA, rfl⟩ := owns_shape hA1
            have HBA := Lib.hid hBA
            obtain ⟨b0, b1, b2, b3, b4⟩ := cells_five hBA
            have z1 := frozen_of_row _ _ 1 _ _ hBA
            clear hA1 hA2 hSA hsm hBA HSe HCe HKe HBe HOe HH82 hi0 hz0 hz1 hz2
            go_wp2
            have HGL : Hid (w0.heap.size ≤ g18) := HLE.out
            obtain ⟨hSZ, hsm⟩ := HSA.out.turn (GChg.one (w := wA) (g := g18) (i := 1) (.slice qA (i + 1) cA)) HBA.out HGL.out (by decide) (by decide) (by decide) (by decide)
            have R1 := Lib.hid hSZ
            have R2 := Lib.hid (HCA.out.same (by simp [World.setCell]) (hsm _ (by decide)) (hsm _ (by decide)))
            have R3 : Hid ((wA.setCell ⟨g18, 1, none⟩ (.slice qA (i + 1) cA)).heap[g8]? = _) := (Below.heap_setCell _ _ _ _ HNE.out.symm).trans HKA.out
            have R4 : Hid ((wA.setCell ⟨g18, 1, none⟩ (.slice qA (i + 1) cA)).heap[g18]? = some (.cells #[.int .i64 (m0 : Nat), .slice qA (i + 1) cA, .int .i64 0, .int .i64 0, .slice none 0 0] 85 (0, 0))) := hss HBA.out
            have R5 := Lib.hid (KeepR.owns (hsm _ (by decide)) (by simp [World.setCell]) HOA.out)
            clear hSZ hsm b0 b1 b2 b3 b4 z1 HSA HCA HKA HBA HOA
            go_roundw
            case rel => exact ⟨i + 1, v', qA, cA, by omega, by go_num, R1.out, R2.out, R3.out, R4.out, R5.out⟩
            case measure => simp [intOf]; omega
        · obtain rfl : m = i := by omega
          have HTC : Hid (came.take m = came) := by show _ = _; rw [HM.out, List.take_length]
          rw [HTC.out] at HR
          obtain ⟨rr, hrr⟩ : ∃ rr, rr = (tkR k t D came).1.length := ⟨_, rfl⟩
          obtain ⟨ss, hss'⟩ : ∃ ss, ss = (tkR k t D came).2 := ⟨_, rfl⟩
          have hrk := ST_rank HR.out
          have hst := ST_status HR.out
          rw [← hrr] at hrk
          rw [← hss'] at hst
          have HRR := Lib.hid hrr
          have HSS := Lib.hid hss'
          have HRk := Lib.hid hrk
          have HSt := Lib.hid hst
          have hB := HB.out
          obtain ⟨b0, b1, b2, b3, b4⟩ := cells_five hB
          have z2 := frozen_of_row _ _ 2 _ _ hB
          have z3 := frozen_of_row _ _ 3 _ _ hB
          have hB2 : (wr.setCell ⟨g18, 2, none⟩ (.int .i64 (rr : Nat))).heap[g18]? = some (.cells #[.int .i64 (m0 : Nat), .slice q m c, .int .i64 (rr : Nat), .int .i64 0, .slice none 0 0] 85 (0, 0)) := hss hB
          have hB3 : ((wr.setCell ⟨g18, 2, none⟩ (.int .i64 (rr : Nat))).setCell ⟨g18, 3, none⟩ (.int .i64 (ss : Nat))).heap[g18]? = some (.cells #[.int .i64 (m0 : Nat), .slice q m c, .int .i64 (rr : Nat), .int .i64 (ss : Nat), .slice none 0 0] 85 (0, 0)) := hss hB2
          obtain ⟨hA, hsA⟩ := HR.out.turn (GChg.one (w := wr) (g := g18) (i := 2) (.int .i64 (rr : Nat))) hB HLE.out (by decide) (by decide) (by decide) (by decide)
          obtain ⟨hA2, hsA2⟩ := hA.turn (GChg.one (w := wr.setCell ⟨g18, 2, none⟩ (.int .i64 (rr : Nat))) (g := g18) (i := 3) (.int .i64 (ss : Nat))) hB2 HLE.out (by decide) (by decide) (by decide) (by decide)
          have HS2 := Lib.hid hA2
          have HK2 : Hid (((wr.setCell ⟨g18, 2, none⟩ (.int .i64 (rr : Nat))).setCell ⟨g18, 3, none⟩ (.int .i64 (ss : Nat))).heap[g8]? = some (.cells #[.int .i64 0, .slice none 0 0, .int .i64 0, .int .i64 0, .slice none 0 0] 85 (0, 0))) := (Below.heap_setCell _ _ _ _ HNE.out.symm).trans ((Below.heap_setCell _ _ _ _ HNE.out.symm).trans HK.out)
          have HO2 := Lib.hid (KeepR.owns (hsA2 _ (by decide)) (by simp [World.setCell]) (KeepR.owns (hsA _ (by decide)) (by simp [World.setCell]) HO.out))
          have HB3 := Lib.hid hB3
          have HBL : Hid (w.heap.size ≤ w0.heap.size) := HR.out.i0
          clear hrr hss' hrk hst hA hsA hA2 hsA2 hB2 hB3 HR HC HK HB HO hB hlt hi
          by_cases h1 : ss = 1
          · have h1' : ((ss : Int) == 1) = true := by rw [h1]; rfl
            have HOJ : Hid (Calls Tryz.prog 35 #[.pointer (some ⟨gt, 0, none⟩)] ((wr.setCell ⟨g18, 2, none⟩ (.int .i64 (rr : Nat))).setCell ⟨g18, 3, none⟩ (.int .i64 (ss : Nat))) (RetLT 5 ((wr.setCell ⟨g18, 2, none⟩ (.int .i64 (rr : Nat))).setCell ⟨g18, 3, none⟩ (.int .i64 (ss : Nat))) (joinS (L : Int) (t : Int) (k : Int) ((tkR k t D came).1.map (fun x : Rw => x.2))).1 0)) := by
              obtain ⟨M, C, h⟩ := HS2.out.tk
              have hs1 : (tkR k t D came).2 = 1 := by rw [← HSS.out]; exact h1
              rw [hs1] at h
              have hl := (tkR_good (k := k) (t := t) (D := D) came).1 hs1
              have := TObject_doneT _ _ _ _ _ _ _ _ _ _ _ _ _ h hl
              rw [join_full HPK.out.chk h.red hl] at this
              exact this
            have H11 := Lib.hid h1
            clear h1
            go_wp2_with fail
            refine Calls.mono HRk.out ?_
            rintro e w' ⟨rfl, rfl⟩
            go_wp2_with fail
            refine Calls.mono HSt.out ?_
            rintro e w' ⟨rfl, rfl⟩
            obtain ⟨c0', c1', c2', c3', c4'⟩ := cells_five HB3.out
            generalize hW3 : (wr.setCell ⟨g18, 2, none⟩ (.int .i64 (rr : Nat))).setCell ⟨g18, 3, none⟩ (.int .i64 (ss : Nat)) = W3 at *
            go_wp2_with fail
            try rw [hW3]
            clear hW3 b0 b1 b2 b3 b4 z2 z3 c0' c1' c2' c3' c4'
            refine Calls.mono HOJ.out ?_
            rintro e w5 ⟨qo, no, co, rfl, ho, hn5, hb⟩
            have hB5 := (hb.block _ (lt_of_block HB3.out)).trans HB3.out
            have hK5 := (hb.block _ (lt_of_block HK2.out)).trans HK2.out
            have hB6 : (w5.setCell ⟨g18, 4, none⟩ (.slice qo no co)).heap[g18]? = some (.cells #[.int .i64 (m0 : Nat), .slice q m c, .int .i64 (rr : Nat), .int .i64 (ss : Nat), .slice qo no co] 85 (0, 0)) := hss hB5
            have HK6 : Hid ((w5.setCell ⟨g18, 4, none⟩ (.slice qo no co)).heap[g8]? = some (.cells #[.int .i64 0, .slice none 0 0, .int .i64 0, .int .i64 0, .slice none 0 0] 85 (0, 0))) := (Below.heap_setCell _ _ _ _ HNE.out.symm).trans hK5
            have HO6 : Hid ((w5.setCell ⟨g18, 4, none⟩ (.slice qo no co)).ownsRow w0.heap.size 90 3 (.slice q m c) m (stepsV k t D came m)) := KeepR.owns (GChg.same (GChg.one (g := g18) (i := 4) _) hB5 (by decide)) (by simp [World.setCell]) (owns_keepv HO2.out hb)
            have HS6 : Hid (Fresh 5 w.heap.size (w5.setCell ⟨g18, 4, none⟩ (.slice qo no co)) qo no co (joinS (L : Int) (t : Int) (k : Int) ((tkR k t D came).1.map (fun x : Rw => x.2))).1) := Fresh.cell (⟨ho, fun a ha => Nat.le_trans HS2.out.bel.size (hn5 a ha).1, fun a ha => (hn5 a ha).2⟩ : Fresh 5 w.heap.size w5 qo no co _) hB5 (by decide)
            have HL6 : Hid (Below w.heap.size w (w5.setCell ⟨g18, 4, none⟩ (.slice qo no co))) := (bl HS2.out.bel hb HS2.out.bel.size).setCell (p := ⟨g18, 4, none⟩) (by have := HBL.out; have := HLE.out; show w.heap.size ≤ g18; omega) _
            obtain ⟨b0, b1, b2, b3, b4⟩ := cells_five hB5
            have z4 := frozen_of_row _ _ 4 _ _ hB5
            obtain ⟨d0, d1, d2, d3, d4⟩ := cells_five hB6
            clear hb ho hn5 hB5 hK5 hB6 HB3 HK2 HO2 HS2 HOJ
            go_wp2_with (refine wpList_store_row (o := ⟨none, .store 85 (.tmp 8) (.tmp 105), _, _, _, _⟩) rfl 85 (.tmp 8) (.tmp 105) rfl g8 #[.int .i64 (m0 : Nat), .slice q m c, .int .i64 (rr : Nat), .int .i64 (ss : Nat), .slice qo no co] rfl rfl _ _ HK6.out info_report rfl (by simp [Value.oneCell']) ?_)
            refine bodyPost_ret (res_ct rfl _ _ _ 85 #[.int .i64 (m0 : Nat), .slice q m c, .int .i64 (rr : Nat), .int .i64 (ss : Nat), .slice qo no co] (0, 0) _ (.int .i64 0) rfl (hrs HK6.out) rfl Tryz.underlying85 rfl info_report) rfl ?_
            rw [← HCM.out, ← HMX.out]
            refine ⟨q, c, qo, no, co, by rw [← HM.out, ← HRR.out, ← HSS.out], ?_, ?_, below_row HL6.out HG8.out⟩
            · rw [← HM.out]; exact owns_mono (rep_owns HO6.out HK6.out) HBL.out
            · rw [if_pos (by rw [← HSS.out]; exact H11.out)]; exact HS6.out.row HK6.out (by decide)
          · have h1' : ((ss : Int) == 1) = false := beq_eq_false_iff_ne.2 (by omega)
            have H11 := Lib.hid h1
            clear h1
            go_wp2_with fail
            refine Calls.mono HRk.out ?_
            rintro e w' ⟨rfl, rfl⟩
            go_wp2_with fail
            refine Calls.mono HSt.out ?_
            rintro e w' ⟨rfl, rfl⟩
            go_wp2_with (refine wpList_store_row (o := ⟨none, .store 85 (.tmp 8) (.tmp 105), _, _, _, _⟩) rfl 85 (.tmp 8) (.tmp 105) rfl g8 #[.int .i64 (m0 : Nat), .slice q m c, .int .i64 (rr : Nat), .int .i64 (ss : Nat), .slice none 0 0] rfl rfl _ _ HK2.out info_report rfl (by simp [Value.oneCell']) ?_)
            refine bodyPost_ret (res_ct rfl _ _ _ 85 #[.int .i64 (m0 : Nat), .slice q m c, .int .i64 (rr : Nat), .int .i64 (ss : Nat), .slice none 0 0] (0, 0) _ (.int .i64 0) rfl (hrs HK2.out) rfl Tryz.underlying85 rfl info_report) rfl ?_
            rw [← HCM.out, ← HMX.out]
            refine ⟨q, c, none, 0, 0, by rw [← HM.out, ← HRR.out, ← HSS.out], ?_, ?_, below_row HS2.out.bel HG8.out⟩
            · rw [← HM.out]; exact owns_mono (rep_owns HO2.out HK2.out) HBL.out
            · rw [if_neg (by rw [← HSS.out]; exact H11.out)]; exact Fresh.none _ _ _
end Go.Proofs.YtfbmdlfkipipfaaGreatDoor
namespace Go.By
open Go.RowKit Go.Proofs.YtfbmdlfkipipfaaGreatDoor
def ExpT (xs : List UInt8) (v : Value) (w : World) : Prop := ∃ q n c, v = SVal 0 q n c 0 ∧ Sl B8 w q n c xs
def ShExp (xs : List UInt8) : Shp := ⟨ExpT xs, fun _ _ _ ⟨q, n, c, e, h⟩ hb => ⟨q, n, c, e, h.keep hb⟩⟩
def SrcT (n : Nat) (l : List SrcD) (v : Value) (w : World) : Prop := ∃ q, v = .slice q n n ∧ SlS w q n n l
def ShSrcs (n : Nat) (l : List SrcD) : Shp := ⟨SrcT n l, fun _ _ _ ⟨q, e, h⟩ hb => ⟨q, e, h.keep hb⟩⟩
def RepT (B T : Nat) (sent m rr ss : Nat) (st : List Value) (obj : List UInt8) (v : Value) (w : World) : Prop := ∃ q c q2 n2 c2, v = .agg #[.int .i64 (sent : Nat), .slice q m c, .int .i64 (rr : Nat), .int .i64 (ss : Nat), .slice q2 n2 c2] ∧ w.ownsRow B T 3 (.slice q m c) m st ∧ Sl B8 w q2 n2 c2 obj
def ShRep (B T : Nat) (sent m rr ss : Nat) (st : List Value) (obj : List UInt8) : Shp := ⟨RepT B T sent m rr ss st obj, fun _ _ _ ⟨q, c, q2, n2, c2, e, h1, h2⟩ hb => ⟨q, c, q2, n2, c2, e, owns_keepv h1 hb, h2.keep hb⟩⟩
def RepTT (B T : Nat) (sent m rr ss : Nat) (st : List Value) (obj : List UInt8) (v : Value) (w : World) : Prop := ∃ q c q2 n2 c2, v = .tuple #[.agg #[.int .i64 (sent : Nat), .slice q m c, .int .i64 (rr : Nat), .int .i64 (ss : Nat), .slice q2 n2 c2], .int .i64 0] ∧ w.ownsRow B T 3 (.slice q m c) m st ∧ Sl B8 w q2 n2 c2 obj
def ShRepT (B T : Nat) (sent m rr ss : Nat) (st : List Value) (obj : List UInt8) : Shp := ⟨RepTT B T sent m rr ss st obj, fun _ _ _ ⟨q, c, q2, n2, c2, e, h1, h2⟩ hb => ⟨q, c, q2, n2, c2, e, owns_keepv h1 hb, h2.keep hb⟩⟩
theorem sls_two {W : World} {g T : Nat} {fr : Nat × Nat} {q1 q2 : Option Addr} {n1 n2 c1 c2 : Nat} {xs ys : List UInt8} (hW : W.heap[g]? = some (.cells #[B8 0, .slice q1 n1 c1, .int .u64 0, B8 0, .slice q2 n2 c2, .int .u64 0] T fr)) (h1 : Sl B8 W q1 n1 c1 xs) (h2 : Sl B8 W q2 n2 c2 ys) :
    SlS W (some ⟨g, 0, none⟩) 2 2 [⟨0, xs, 0⟩, ⟨0, ys, 0⟩] := by
  refine ⟨rfl, by simp [maxLen], Nat.le_refl _, fun k y hk => ?_⟩
  match k, hk with
  | 0, hk =>
    simp at hk; subst hk
    exact ⟨g, 0, q1, n1, c1, rfl, cell_of_row _ _ 0 _ _ _ hW, cell_of_row _ _ 1 _ _ _ hW, cell_of_row _ _ 2 _ _ _ hW, h1, by show 0 < _; decide⟩
  | 1, hk =>
    simp at hk; subst hk
    exact ⟨g, 0, q2, n2, c2, rfl, cell_of_row _ _ 3 _ _ _ hW, cell_of_row _ _ 4 _ _ _ hW, cell_of_row _ _ 5 _ _ _ hW, h2, by show 0 < _; decide⟩
end Go.By
namespace Go.Proofs.YtfbmdlfkipipfaaGreatDoor
open Go.RowKit Go.By Gf Go.Maps
theorem pok22 : POK 2 2 1 0 := ⟨by decide, by decide, by decide, by decide, by decide, by decide, by decide⟩
theorem of22 : ofS 2 2 0 = .tuple #[PVal 2 2 1 0, .int .i64 0] := by
  have h : fitS 2 2 = 0 := by decide
  have h2 : needS 2 2 = 1 := by decide
  unfold ofS; rw [if_pos h, h2]; rfl
def pk22a : List UInt8 := pktB 0 0 0 [0] 0 (combS [0] [[8, 9]]).1
def pk22b : List UInt8 := pktB 0 0 1 [5] 0 (combS [5] [[8, 9]]).1
theorem pieces22 : (List.range 1).map (pieceS [8, 9] 2) = [[8, 9]] := by decide
theorem len22 : (combS [0] [[8, 9]]).1.length = 2 ∧ (combS [5] [[8, 9]]).1.length = 2 := by decide +kernel
theorem put22a : putK [] ([0], (combS [0] [[8, 9]]).1) = [] ∧ nextS [] ([0], (combS [0] [[8, 9]]).1) 1 = 0 := by decide +kernel
theorem put22b : putK [] ([5], (combS [5] [[8, 9]]).1) = [([1], [8, 9])] ∧ nextS [] ([5], (combS [5] [[8, 9]]).1) 1 = 1 := by decide +kernel
theorem read22a : readC 1 2 0 pk22a = 0 ∧ eqX 1 2 pk22a = ([0], (combS [0] [[8, 9]]).1) := by
  obtain ⟨h1, h2, h3, h4, h5, h6⟩ := read_write (m := 0) (D := 0) (n := 0) (s := 0) (k := 1) (t := 2) (xs := [0]) (ys := (combS [0] [[8, 9]]).1) rfl (fun _ => rfl) len22.1 (by decide) (by decide)
  refine ⟨h1, ?_⟩
  unfold eqX
  rw [show pktM pk22a = 0 from h2, show pktX 1 pk22a = [0] from h4, show pktY 1 2 pk22a = (combS [0] [[8, 9]]).1 from h6]
  rfl
theorem read22b : readC 1 2 0 pk22b = 0 ∧ eqX 1 2 pk22b = ([5], (combS [5] [[8, 9]]).1) := by
  obtain ⟨h1, h2, h3, h4, h5, h6⟩ := read_write (m := 0) (D := 0) (n := 1) (s := 0) (k := 1) (t := 2) (xs := [5]) (ys := (combS [5] [[8, 9]]).1) rfl (fun _ => rfl) len22.2 (by decide) (by decide)
  refine ⟨h1, ?_⟩
  unfold eqX
  rw [show pktM pk22b = 0 from h2, show pktX 1 pk22b = [5] from h4, show pktY 1 2 pk22b = (combS [5] [[8, 9]]).1 from h6]
  rfl
theorem tk22a : tkR 1 2 0 [pk22a] = ([], 0) := by
  show (takeK 1 2 0 [] 0 pk22a, takeS 1 2 0 [] 0 pk22a) = _
  unfold takeK takeS
  rw [if_pos ⟨read22a.1, rfl⟩, if_pos ⟨read22a.1, rfl⟩, read22a.2, put22a.1, put22a.2]
theorem tk22b : tkR 1 2 0 [pk22a, pk22b] = ([([1], [8, 9])], 1) := by
  show tkF 1 2 0 (tkR 1 2 0 [pk22a]) pk22b = _
  rw [tk22a]
  show (takeK 1 2 0 [] 0 pk22b, takeS 1 2 0 [] 0 pk22b) = _
  unfold takeK takeS
  rw [if_pos ⟨read22b.1, rfl⟩, if_pos ⟨read22b.1, rfl⟩, read22b.2, put22b.1, put22b.2]
theorem sends22 : sendsS 0 1 [[8, 9]] [⟨0, [0], 0⟩, ⟨0, [5], 0⟩] = [pk22a, pk22b] := by
  show sendF 0 1 [[8, 9]] (sendF 0 1 [[8, 9]] [] ⟨0, [0], 0⟩) ⟨0, [5], 0⟩ = _
  have e1 : srcC 0 1 1 = 0 := by decide
  unfold sendF
  simp only [List.length_cons, List.length_nil, Nat.zero_add]
  rw [if_pos e1, if_pos e1]
  rfl
theorem join22 : joinS 2 2 1 (([([1], [8, 9])] : List Rw).map (fun x : Rw => x.2)) = ([8, 9], 0) := by decide +kernel
theorem steps22 : (stepsV 1 2 0 [pk22a, pk22b] 2)[1]? = some (.int .i64 0) := by
  rw [show (1 : Nat) = 0 * 3 + 1 from rfl, stepsV_at 1 2 0 _ (by decide) (by decide)]
  unfold stepV
  rw [show ([pk22a, pk22b] : List (List UInt8)).take (0 + 1) = [pk22a] from rfl, tk22a]
  rfl
set_option maxRecDepth 100000 in
set_option maxHeartbeats 4000000 in
theorem Run22 (q0 : Option Addr) (c0 : Nat) (p1 : Option Addr) (c1 : Nat) (w : World) (h0 : Sl B8 w q0 2 c0 [8, 9]) (h1 : SlS w p1 2 c1 [⟨0, [0], 0⟩, ⟨0, [5], 0⟩]) (hT : HalfT w) :
    Calls Tryz.prog 39 #[PVal 2 2 1 0, .slice q0 2 c0, .slice p1 2 c1, .slice none 0 0] w fun e w' => ∃ v, e = .returned v ∧ RepTT w.heap.size 90 2 2 1 1 (stepsV 1 2 0 [pk22a, pk22b] 2) [8, 9] v w' ∧ Below w.heap.size w w' := by
  refine Calls.mono (Run_ok 2 2 1 0 q0 c0 [8, 9] p1 2 c1 _ none 0 0 [] w pok22 (fun i hi => by omega) h0 h1 ⟨rfl, by simp [maxLen], Nat.le_refl _, fun k a h => by simp at h⟩ hT (by decide) (by decide) (fun a ha => by simp at ha; rcases ha with rfl | rfl <;> decide) (fun a ha => by simp at ha)) ?_
  rw [pieces22, sends22]
  rw [show (playS (initS [pk22a, pk22b]) []).map (·.1) = [pk22a, pk22b] from init_bytes _]
  rintro e w' ⟨q, c, q2, n2, c2, rfl, ho, hs, hb⟩
  rw [tk22b, if_pos rfl, show joinS ((2 : Nat) : Int) ((2 : Nat) : Int) ((1 : Nat) : Int) (([([1], [8, 9])] : List Rw).map (fun x : Rw => x.2)) = ([8, 9], 0) from join22] at hs
  refine ⟨_, rfl, ⟨q, c, q2, n2, c2, ?_, ho, hs.sl⟩, hb⟩
  rw [tk22b]; rfl
set_option maxRecDepth 100000 in
set_option maxHeartbeats 8000000 in
theorem awake22 (w : World) (hT : HalfT w) : Calls Tryz.prog 37 #[] w fun e w' => e = .returned (.bool true) ∧ Below w.heap.size w w' := by
  have HT := Lib.hid hT
  have HOf : Hid (∀ w, Calls Tryz.prog 24 #[.int .i64 2, .int .i64 2, .int .u32 0] w fun e w' => e = .returned (.tuple #[PVal 2 2 1 0, .int .i64 0]) ∧ Below w.heap.size w w') := fun w => by have := POf_any 2 2 0 w (by decide); rw [of22] at this; exact this
  clear hT
  go_enter Tryz.func37, Tryz.ntmps37
  go_wp2_with fail
  refine Calls.mono (HOf.out w) ?_
  rintro e w1 ⟨rfl, hb1⟩
  have HB1 := Lib.hid hb1
  clear hb1
  go_wp2_with fail
  have ba : Below w1.heap.size w1 (w1.alloc (.cells #[.int .i64 2, .int .i64 2, .int .i64 1, .int .u32 0] 27 (0, 0))) := al (Below.refl _ _) (Nat.le_refl _)
  have hk : (w1.alloc (.cells #[.int .i64 2, .int .i64 2, .int .i64 1, .int .u32 0] 27 (0, 0))).heap[w1.heap.size]? = some (.cells #[.int .i64 2, .int .i64 2, .int .i64 1, .int .u32 0] 27 (0, 0)) := hnew rfl
  generalize hw2 : w1.alloc (.cells #[.int .i64 2, .int .i64 2, .int .i64 1, .int .u32 0] 27 (0, 0)) = w2 at *
  obtain ⟨g1, hg1⟩ : ∃ g1, g1 = w1.heap.size := ⟨_, rfl⟩
  rw [← hg1] at hk ⊢
  have HB2 := Lib.hid (bl HB1.out ba HB1.out.size)
  obtain ⟨z0, z1, z2, z3⟩ := cells_four hk
  clear hw2 hg1 ba HB1 hk
  refine wp_region_slip (fun ix => ([.val (.agg #[.int .i64 2, .int .i64 2, .int .i64 1, .int .u32 0]), .bytes ([8, 9]), .bytes ([0]), (ShExp [0]), .bytes ([5]), (ShExp [5]), (ShSrcs 2 [⟨0, [0], 0⟩, ⟨0, [5], 0⟩]), (ShRepT w2.heap.size 90 2 2 1 1 (stepsV 1 2 0 [pk22a, pk22b] 2) [8, 9]), (ShRepT w2.heap.size 90 2 2 1 1 (stepsV 1 2 0 [pk22a, pk22b] 2) [8, 9]), (ShRep w2.heap.size 90 2 2 1 1 (stepsV 1 2 0 [pk22a, pk22b] 2) [8, 9]), (.val (.int .i64 0)), (ShNew 85 w2.heap.size #[.int .i64 0, .slice none 0 0, .int .i64 0, .int .i64 0, .slice none 0 0]), .any, .any][ix]?).getD (.any)) 56 12 10 9 19 (.int .i64 0) rfl (by kernel_rfl) (by decide +kernel) (by decide +kernel) (by decide +kernel) _ rfl rfl rfl (by decide) rfl (fun a x w h => run_extract_two _ rfl h) (by decide) ?_ ?_
  · refine ⟨?_, ?_, ?_, ?_, ?_, ?_, ?_, ?_, ?_, ?_, ?_, ?_, trivial⟩
    · intro a W hb0 hs hp hi; have hb := undrew hb0; clear hb0
      have tt : sl a 1 = .pointer (some ⟨g1, 0, none⟩) := hi 1 (by decide)
      have dd0 := (hb.cell (p := ⟨g1, 0, none⟩) (lt_of_cell z0)).trans z0
      have dd1 := (hb.cell (p := ⟨g1, 1, none⟩) (lt_of_cell z1)).trans z1
      have dd2 := (hb.cell (p := ⟨g1, 2, none⟩) (lt_of_cell z2)).trans z2
      have dd3 := (hb.cell (p := ⟨g1, 3, none⟩) (lt_of_cell z3)).trans z3
      refine ite_y rfl (wp_val (.agg #[.int .i64 2, .int .i64 2, .int .i64 1, .int .u32 0]) ?_ ?_)
      · simp only [execOp, eval_tmp, tt]; simp [go_sem, dd0, dd1, dd2, dd3]
      · exact ⟨_, rfl, Below.refl _ _, rfl⟩
    · intro a W hb0 hs hp hi; have hb := undrew hb0; clear hb0
      refine ite_y rfl (wp_val' (w' := W.alloc (.cells #[.int .u8 8, .int .u8 9] 5)) (.slice (some ⟨W.heap.size, 0, none⟩) 2 2) ?_ ?_)
      · simp only [execOp, eval_tmp, eval_const]; simp [go_sem]
      · exact ⟨_, rfl, (al (Below.refl _ _) (Nat.le_refl _)), _, _, _, rfl, sl_block ([8, 9]) 2 (hnew rfl) rfl rfl (by simp [maxLen])⟩
    · intro a W hb0 hs hp hi; have hb := undrew hb0; clear hb0
      refine ite_y rfl (wp_val' (w' := W.alloc (.cells #[.int .u8 0] 5)) (.slice (some ⟨W.heap.size, 0, none⟩) 1 1) ?_ ?_)
      · simp only [execOp, eval_tmp, eval_const]; simp [go_sem]
      · exact ⟨_, rfl, (al (Below.refl _ _) (Nat.le_refl _)), _, _, _, rfl, sl_block ([0]) 1 (hnew rfl) rfl rfl (by simp [maxLen])⟩
    · intro a W hb0 hs hp hi; have hb := undrew hb0; clear hb0
      have t12 : BytesIs ([0]) (sl a 12) W := hp 2 (by decide)
      obtain ⟨ya, yb, yc, t12, zz⟩ := t12
      refine ite_y rfl (wp_enter 92 #[.slice ya yb yc] ?_ (RExplicit_any ya yb yc [0] W zz (by have := zz.len; simp at this; show yb ≤ _; omega)) ?_)
      · simp only [execOp, resolve, List.map_toArray, List.map, eval_tmp, eval_func, eval_const, t12]; simp [go_sem]
      · rintro e W' ⟨q5, c5, rfl, hf, hw⟩; exact ⟨_, rfl, _, rfl, hw, q5, _, c5, rfl, hf.sl⟩
    · intro a W hb0 hs hp hi; have hb := undrew hb0; clear hb0
      refine ite_y rfl (wp_val' (w' := W.alloc (.cells #[.int .u8 5] 5)) (.slice (some ⟨W.heap.size, 0, none⟩) 1 1) ?_ ?_)
      · simp only [execOp, eval_tmp, eval_const]; simp [go_sem]
      · exact ⟨_, rfl, (al (Below.refl _ _) (Nat.le_refl _)), _, _, _, rfl, sl_block ([5]) 1 (hnew rfl) rfl rfl (by simp [maxLen])⟩
    · intro a W hb0 hs hp hi; have hb := undrew hb0; clear hb0
      have t14 : BytesIs ([5]) (sl a 14) W := hp 4 (by decide)
      obtain ⟨ya, yb, yc, t14, zz⟩ := t14
      refine ite_y rfl (wp_enter 92 #[.slice ya yb yc] ?_ (RExplicit_any ya yb yc [5] W zz (by have := zz.len; simp at this; show yb ≤ _; omega)) ?_)
      · simp only [execOp, resolve, List.map_toArray, List.map, eval_tmp, eval_func, eval_const, t14]; simp [go_sem]
      · rintro e W' ⟨q5, c5, rfl, hf, hw⟩; exact ⟨_, rfl, _, rfl, hw, q5, _, c5, rfl, hf.sl⟩
    · intro a W hb0 hs hp hi; have hb := undrew hb0; clear hb0
      have t13 : ExpT [0] (sl a 13) W := hp 3 (by decide)
      obtain ⟨qa, na, ca, t13, za⟩ := t13
      have t15 : ExpT [5] (sl a 15) W := hp 5 (by decide)
      obtain ⟨qb, nb, cb, t15, zb⟩ := t15
      have v13 : a.tmps[13]?.getD undef = sl a 13 := by simp [sl]
      have v15 : a.tmps[15]?.getD undef = sl a 15 := by simp [sl]
      rw [t13] at v13
      rw [t15] at v15
      refine ite_y rfl (wp_val' (w' := W.alloc (.cells #[B8 0, .slice qa na ca, .int .u64 0, B8 0, .slice qb nb cb, .int .u64 0] 66)) (.slice (some ⟨W.heap.size, 0, none⟩) 2 2) ?_ ?_)
      · simp only [execOp, eval_tmp, t13, t15]; simp [go_sem, v13, v15]
      · exact ⟨_, rfl, al (Below.refl _ _) (Nat.le_refl _), _, rfl, sls_two (hnew rfl) (za.keep (al (Below.refl _ _) (Nat.le_refl _))) (zb.keep (al (Below.refl _ _) (Nat.le_refl _)))⟩
    · intro a W hb0 hs hp hi; have hb := undrew hb0; clear hb0
      have t10 : sl a 10 = PVal 2 2 1 0 := hp 0 (by decide)
      have t11 : BytesIs ([8, 9]) (sl a 11) W := hp 1 (by decide)
      obtain ⟨ya, yb, yc, t11, zz⟩ := t11
      have hyb : yb = 2 := zz.len.symm
      subst hyb
      have t16 : SrcT 2 [⟨0, [0], 0⟩, ⟨0, [5], 0⟩] (sl a 16) W := hp 6 (by decide)
      obtain ⟨qs, t16, zs⟩ := t16
      refine ite_y rfl (wp_enter 39 #[PVal 2 2 1 0, .slice ya 2 yc, .slice qs 2 2, .slice none 0 0] ?_ (Run22 ya yc qs 2 W zz zs (HT.out.keep (bl HB2.out hb HB2.out.size))) ?_)
      · simp only [execOp, resolve, List.map_toArray, List.map, eval_tmp, eval_func, eval_const, t10, t11, t16]; simp [go_sem]
      · rintro e W' ⟨v5, rfl, ⟨q5, c5, q6, n6, c6, rfl, o5, s5⟩, hw⟩; exact ⟨_, rfl, _, rfl, hw, q5, c5, q6, n6, c6, rfl, owns_mono o5 hb.size, s5⟩
    · intro a W hb0 hs hp hi; have hb := undrew hb0; clear hb0
      exact ite_y rfl (wp_val (sl a 17) rfl ⟨_, rfl, Below.refl _ _, hp 7 (by decide)⟩)
    · intro a W hb0 hs hp hi; have hb := undrew hb0; clear hb0
      have tt : RepTT w2.heap.size 90 2 2 1 1 (stepsV 1 2 0 [pk22a, pk22b] 2) [8, 9] (sl a 9) W := hp 8 (by decide)
      obtain ⟨q5, c5, q6, n6, c6, tt, o5, s5⟩ := tt
      refine ite_y rfl (wp_val (.agg #[.int .i64 (2 : Nat), .slice q5 2 c5, .int .i64 (1 : Nat), .int .i64 (1 : Nat), .slice q6 n6 c6]) ?_ ?_)
      · simp only [execOp, eval_tmp, tt]; rfl
      · exact ⟨_, rfl, Below.refl _ _, q5, c5, q6, n6, c6, rfl, o5, s5⟩
    · intro a W hb0 hs hp hi; have hb := undrew hb0; clear hb0
      have tt : RepTT w2.heap.size 90 2 2 1 1 (stepsV 1 2 0 [pk22a, pk22b] 2) [8, 9] (sl a 9) W := hp 8 (by decide)
      obtain ⟨q5, c5, q6, n6, c6, tt, o5, s5⟩ := tt
      refine ite_y rfl (wp_val (.int .i64 0) ?_ ?_)
      · simp only [execOp, eval_tmp, tt]; rfl
      · exact ⟨_, rfl, Below.refl _ _, rfl⟩
    · intro a W hb0 hs hp hi; have hb := undrew hb0; clear hb0
      refine ite_y rfl (wp_val' (w' := W.alloc (.cells #[.int .i64 0, .slice none 0 0, .int .i64 0, .int .i64 0, .slice none 0 0] 85)) (.pointer (some ⟨W.heap.size, 0, none⟩)) ?_ ?_)
      · simp only [execOp]; simp [go_sem]
      · exact ⟨_, rfl, al (Below.refl _ _) (Nat.le_refl _), _, rfl, hb.size, hnew rfl⟩
  intro a w3 o ho hb hs hd hI ht
  simp at ho; subst ho
  have y3 := hI 11 (by decide) (by decide)
  obtain ⟨g3, t3, hg3, hh3⟩ := y3
  have y18 := hI 9 (by decide) (by decide)
  obtain ⟨q8, c8, q9, n9, c9, t18, o18, s18⟩ := y18
  have y9 := hI 8 (by decide) (by decide)
  obtain ⟨_, _, _, _, _, t9, _, _⟩ := y9
  refine ⟨⟨_, t9⟩, ?_⟩
  refine wp_store_row 85 (.tmp 3) (.tmp 18) rfl g3 #[.int .i64 (2 : Nat), .slice q8 2 c8, .int .i64 (1 : Nat), .int .i64 (1 : Nat), .slice q9 n9 c9] (by rw [eval_tmp]; exact t3) (by rw [eval_tmp]; exact t18) _ _ hh3 info_report rfl (by simp [Value.oneCell']) ?_
  refine ⟨rfl, fun ab hbs hbd hbt hbu => ?_⟩
  have ha := act_is [10, 11, 12, 13, 14, 15, 16, 17, 9, 18, 19, 3, 4] hbs hbd (fun t h => (hbt t (fun e => by subst e; revert h; decide)).trans (ht t h)) (by decide)
  have s3 := (hbt 3 (by decide)).trans t3
  simp only [List.foldl, hbu, s3] at ha
  generalize sl ab 10 = u10 at ha
  generalize sl ab 11 = u11 at ha
  generalize sl ab 12 = u12 at ha
  generalize sl ab 13 = u13 at ha
  generalize sl ab 14 = u14 at ha
  generalize sl ab 15 = u15 at ha
  generalize sl ab 16 = u16 at ha
  generalize sl ab 17 = u17 at ha
  generalize sl ab 9 = u9 at ha
  generalize sl ab 18 = u18 at ha
  generalize sl ab 4 = u4 at ha
  simp only [Act.put, List.setIfInBounds_toArray, List.set_cons_zero, List.set_cons_succ] at ha
  rw [ha]; clear ha hbu hbt hbs hbd hI ht hs hd s3
  simp only [List.drop_succ_cons, List.drop_zero]
  have HB3 : Hid (Below w.heap.size w (w3.setRow g3 #[.int .i64 (2 : Nat), .slice q8 2 c8, .int .i64 (1 : Nat), .int .i64 (1 : Nat), .slice q9 n9 c9])) := below_row (bl HB2.out hb HB2.out.size) (by have := HB2.out.size; omega)
  have o19 := rep_owns (new := #[.int .i64 (2 : Nat), .slice q8 2 c8, .int .i64 (1 : Nat), .int .i64 (1 : Nat), .slice q9 n9 c9]) o18 hh3
  have HS9 : Hid (Sl B8 (w3.setRow g3 #[.int .i64 (2 : Nat), .slice q8 2 c8, .int .i64 (1 : Nat), .int .i64 (1 : Nat), .slice q9 n9 c9]) q9 n9 c9 [8, 9]) := sl_noByteRow s18 hh3 noByte5
  have hbx : (w3.setRow g3 #[.int .i64 (2 : Nat), .slice q8 2 c8, .int .i64 (1 : Nat), .int .i64 (1 : Nat), .slice q9 n9 c9]).heap[g3]? = _ := hrs hh3
  obtain ⟨g, e8⟩ : ∃ g, q8 = some ⟨g, 0, none⟩ := by
    rcases o19.2 with ⟨h2, h3⟩ | ⟨g, cap, cur, hv, _⟩
    · omega
    · cases hv; exact ⟨_, rfl⟩
  subst e8
  have hc8 := o19.cellAt 1 (by decide)
  rw [steps22] at hc8
  generalize w3.setRow g3 #[.int .i64 (2 : Nat), .slice (some ⟨g, 0, none⟩) 2 c8, .int .i64 (1 : Nat), .int .i64 (1 : Nat), .slice q9 n9 c9] = w4 at *
  obtain ⟨b0, b1, b2, b3, b4⟩ := cells_five hbx
  clear o18 o19 s18 hh3 hb hbx z0 z1 z2 z3 t3 t9 t18
  go_wp2_with fail
  have hsame := Same_any q9 (some ⟨w4.heap.size, 0, none⟩) n9 2 c9 2 [8, 9] [8, 9] (w4.alloc (.cells #[.int .u8 8, .int .u8 9] 5 (0, 0))) (HS9.out.keep (al (Below.refl _ _) (Nat.le_refl _))) (sl_block [8, 9] 2 (hnew rfl) rfl rfl (by simp [maxLen]))
  rw [decide_eq_true rfl] at hsame
  refine Calls.mono hsame ?_
  rintro e w5 ⟨rfl, hb⟩
  have HB5 := Lib.hid (bl HB3.out (one_of hb).1 HB3.out.size)
  clear hb hsame
  go_wp2
  go_ret
  exact ⟨rfl, HB5.out⟩
end Go.Proofs.YtfbmdlfkipipfaaGreatDoor
namespace Go.Proofs.YtfbmdlfkipipfaaGreatDoor
open Go.RowKit Go.By Gf Go.Maps
/-- is it gone through -/
def few22 (n0 : Nat) (srcs : List SrcD) (acs : List ActD) : Bool := srcs.all (fun a => decide (a.xs.length ≤ 60)) && (decide (n0 ≤ 240) && (decide (srcs.length ≤ 20) && few20 [] acs))
set_option maxRecDepth 100000 in
set_option maxHeartbeats 2000000 in
theorem Few22_any (q0 : Option Addr) (n0 c0 : Nat) (p1 : Option Addr) (n1 c1 : Nat) (srcs : List SrcD) (p2 : Option Addr) (n2 c2 : Nat) (acs : List ActD) (w : World) (hn0 : n0 ≤ 9223372036854775807) (h1 : SlS w p1 n1 c1 srcs) (h2 : SlA w p2 n2 c2 acs) :
    Calls Tryz.prog 38 #[.slice q0 n0 c0, .slice p1 n1 c1, .slice p2 n2 c2] w fun e w' => e = .returned (.bool (few22 n0 srcs acs)) ∧ Below w.heap.size w w' := by
  have H1 := Lib.hid h1
  have H2 := Lib.hid h2
  have hb1 := h1.bound
  have HL := Lib.hid h1.len
  clear h1 h2
  go_enter Tryz.func38, Tryz.ntmps38
  go_wp2
  go_loopw [11] (fun iv wr => ∃ i : Nat, i ≤ n1 ∧ iv = .int .i64 (i : Nat) ∧ Hid (∀ (j : Nat) (a : SrcD), j < i → srcs[j]? = some a → a.xs.length ≤ 60) ∧ Hid (Below w.heap.size w wr)) (fun iv _ => n1 - (intOf iv).toNat)
  case atStart => exact ⟨0, Nat.zero_le _, rfl, fun j a hj => by omega, Below.refl _ _⟩
  case round =>
    obtain ⟨i, hi, rfl, hA, hB⟩ := hrel
    by_cases hlt : i < n1
    · obtain ⟨b, ob, q, j, c', a, rfl, hga, f0, f1, f2, hs, hs64⟩ := H1.out.at hlt
      have x0 := (hB.out.cell (p := ⟨b, ob + i * 3, none⟩) (lt_of_cell f0)).trans f0
      have x1 := (hB.out.cell (p := ⟨b, ob + i * 3 + 1, none⟩) (lt_of_cell f1)).trans f1
      have x2 := (hB.out.cell (p := ⟨b, ob + i * 3 + 2, none⟩) (lt_of_cell f2)).trans f2
      have hlt' : (i : Int) < (n1 : Int) := by omega
      have HJ := Lib.hid hs.len
      have hjb := hs.bound
      clear f0 f1 f2 hs hlt
      by_cases hj : j ≤ 60
      · have hj' : ¬ (60 : Int) < (j : Int) := by omega
        have HX : Hid (∀ (j : Nat) (a : SrcD), j < i + 1 → srcs[j]? = some a → a.xs.length ≤ 60) := fun j2 a2 h1 h2 => by
          by_cases e : j2 = i
          · subst e; have := hga.out.symm.trans h2; cases this; rw [HJ.out]; exact hj
          · exact hA.out j2 a2 (by omega) h2
        have HB' := Lib.hid (al (o := .cells #[B8 a.m, .slice q j c', .int .u64 (a.s : Nat)] 66 (0, 0)) hB.out hB.out.size)
        clear hA hga
        go_wp2
        go_roundw
        case rel => exact ⟨i + 1, by omega, by go_num, HX.out, HB'.out⟩
        case measure => simp [intOf]; omega
      · have hj' : (60 : Int) < (j : Int) := by omega
        have HF : Hid (few22 n0 srcs acs = false) := by
          show _ = _
          unfold few22
          have : srcs.all (fun a => decide (a.xs.length ≤ 60)) = false := by
            rw [List.all_eq_false]; exact ⟨a, List.mem_of_getElem? hga.out, by have := HJ.out; simp; omega⟩
          rw [this]; rfl
        go_wp2
        go_ret
        exact ⟨by rw [HF.out]; rfl, al hB.out hB.out.size⟩
    · have HA : Hid (few22 n0 srcs acs = (decide (n0 ≤ 240) && (decide (n1 ≤ 20) && few20 [] acs))) := by
        show _ = _
        unfold few22
        have : srcs.all (fun a => decide (a.xs.length ≤ 60)) = true := List.all_eq_true.2 fun x hx => by
          obtain ⟨r, hr, e⟩ := List.getElem_of_mem hx
          exact decide_eq_true (hA.out r x (by have := HL.out; omega) (by rw [List.getElem?_eq_getElem hr, e]))
        rw [this, HL.out]; rfl
      have hlt' : ¬ (i : Int) < (n1 : Int) := by omega
      have HFW := Lib.hid (Few20_any none p2 0 0 n2 c2 [] acs wr (Sl2.nil0 _) (H2.out.keep hB.out))
      clear hA hlt
      by_cases h0 : n0 ≤ 240
      · have h0' : (n0 : Int) ≤ 240 := by omega
        by_cases h3 : n1 ≤ 20
        · have h3' : (n1 : Int) ≤ 20 := by omega
          have HR : Hid (few22 n0 srcs acs = few20 [] acs) := by show _ = _; rw [HA.out, decide_eq_true h0, decide_eq_true h3]; rfl
          clear h0 h3
          go_wp2_with fail
          refine Calls.mono HFW.out ?_
          rintro e w2 ⟨rfl, hb⟩
          have HB2 := Lib.hid (bl hB.out hb hB.out.size)
          clear hb
          go_wp2
          go_ret
          exact ⟨by rw [HR.out]; rfl, HB2.out⟩
        · have h3' : ¬ (n1 : Int) ≤ 20 := by omega
          have HR : Hid (few22 n0 srcs acs = false) := by show _ = _; rw [HA.out, decide_eq_false h3]; simp
          clear h0 h3
          go_wp2
          go_ret
          exact ⟨by rw [HR.out]; rfl, hB.out⟩
      · have h0' : ¬ (n0 : Int) ≤ 240 := by omega
        have HR : Hid (few22 n0 srcs acs = false) := by show _ = _; rw [HA.out, decide_eq_false h0]; rfl
        clear h0
        go_wp2
        go_ret
        exact ⟨by rw [HR.out]; rfl, hB.out⟩
end Go.Proofs.YtfbmdlfkipipfaaGreatDoor
namespace Go.Proofs.YtfbmdlfkipipfaaGreatDoor
open Go.RowKit Go.By
/-- a packet's length, and which one it was -/
def shd (p : Pack) : Nat × Int := (p.1.length, p.2)
theorem maskF_flag {b j : Nat} {xs ys : List UInt8} (h : xs.length = ys.length) : ∀ k, (maskF b j xs k).2 = (maskF b j ys k).2
  | 0 => rfl
  | k + 1 => by
    unfold maskF
    rw [h]
    split
    · rfl
    · exact maskF_flag h k
theorem step_shd {ps qs : List Pack} (h : ps.map shd = qs.map shd) (a : ActD) : (stepS ps a).map shd = (stepS qs a).map shd := by
  have hl : ps.length = qs.length := by have := congrArg List.length h; simpa using this
  have hget : ∀ i : Nat, (ps[i]?).map shd = (qs[i]?).map shd := fun i => by rw [← List.getElem?_map, ← List.getElem?_map, h]
  unfold stepS
  split
  · exact h
  · split
    · rw [List.map_append, List.map_append, h]
    · have e := hget a.i.toNat
      cases hp : ps[a.i.toNat]? with
      | none =>
        rw [hp] at e
        cases hq : qs[a.i.toNat]? with
        | none => exact h
        | some q => rw [hq] at e; simp at e
      | some p =>
        rw [hp] at e
        cases hq : qs[a.i.toNat]? with
        | none => rw [hq] at e; simp at e
        | some q =>
          rw [hq] at e
          have e : shd p = shd q := by simpa using e
          have e1 : p.1.length = q.1.length := congrArg (fun u : Nat × Int => u.1) e
          have e2 : p.2 = q.2 := congrArg (fun u : Nat × Int => u.2) e
          simp only
          split
          · exact h
          · split
            · rw [dropAt_map, dropAt_map, h]
            · split
              · rw [List.map_append, List.map_append, h]; simp [e]
              · split
                · rw [putAtP_map, putAtP_map, dropAt_map, dropAt_map, h, hl, e]
                · split
                  · rw [List.map_set, List.map_set, h]
                    congr 1
                    unfold cutP
                    rw [e1]
                    split
                    · unfold shd; simp [e1]
                    · exact e
                  · rw [List.map_set, List.map_set, h]
                    congr 1
                    unfold maskP shd
                    simp only
                    rw [maskF_len, maskF_len, e1, e2, maskF_flag e1]
theorem play_shd : ∀ {acs : List ActD} {ps qs : List Pack}, ps.map shd = qs.map shd → (playS ps acs).map shd = (playS qs acs).map shd
  | [], _, _, h => h
  | a :: acs, _, _, h => play_shd (acs := acs) (step_shd h a)
theorem init_shd {xss yss : List (List UInt8)} (h : xss.map (·.length) = yss.map (·.length)) : (initS xss).map shd = (initS yss).map shd := by
  have hl : xss.length = yss.length := by have := congrArg List.length h; simpa using this
  apply List.ext_getElem?
  intro i
  rw [List.getElem?_map, List.getElem?_map]
  have e := congrArg (fun l => l[i]?) h
  simp only [List.getElem?_map] at e
  cases hx : xss[i]? with
  | none =>
    rw [List.getElem?_eq_none (by rw [initS_len]; exact List.getElem?_eq_none_iff.1 hx), List.getElem?_eq_none (by rw [initS_len, ← hl]; exact List.getElem?_eq_none_iff.1 hx)]
  | some x =>
    rw [hx] at e
    cases hy : yss[i]? with
    | none => rw [hy] at e; simp at e
    | some y =>
      rw [hy] at e
      rw [initS_at hx, initS_at hy]
      simp at e
      simp [shd, e]
/-- which ones came: by lengths alone -/
theorem froms_len {xss yss : List (List UInt8)} (acs : List ActD) (h : xss.map (·.length) = yss.map (·.length)) : (playS (initS xss) acs).map (·.2) = (playS (initS yss) acs).map (·.2) := by
  have := congrArg (List.map Prod.snd) (play_shd (acs := acs) (init_shd h))
  rw [List.map_map, List.map_map] at this
  exact this
/-- what an act leaves is what was there, or forged, cut, masked -/
theorem step_mem {ps : List Pack} {a : ActD} {x : Pack} (hx : x ∈ stepS ps a) : x ∈ ps ∨ a.d = 5 ∨ (a.d = 3 ∧ ∃ p, p ∈ ps ∧ x = cutP p a.j.toNat) ∨ (a.d = 4 ∧ ∃ p, p ∈ ps ∧ x = maskP p a.b a.j.toNat) := by
  unfold stepS at hx
  split at hx
  · exact .inl hx
  · rename_i hn
    split at hx
    · rename_i h5; exact .inr (.inl h5)
    · rename_i h5
      split at hx
      · exact .inl hx
      · rename_i p hp
        have hpm := List.mem_of_getElem? hp
        split at hx
        · exact .inl hx
        · split at hx
          · exact .inl ((dropAt_sub _ _).subset hx)
          · rename_i h0
            split at hx
            · rcases List.mem_append.1 hx with hx | hx
              · exact .inl hx
              · simp at hx; subst hx; exact .inl hpm
            · rename_i h1
              split at hx
              · rcases List.mem_cons.1 ((putAtP_perm _ _ _).subset hx) with rfl | hx
                · exact .inl hpm
                · exact .inl ((dropAt_sub _ _).subset hx)
              · rename_i h2
                split at hx
                · rename_i h3
                  rcases List.mem_or_eq_of_mem_set hx with hx | rfl
                  · exact .inl hx
                  · exact .inr (.inr (.inl ⟨h3, p, hpm, rfl⟩))
                · rename_i h3
                  rcases List.mem_or_eq_of_mem_set hx with hx | rfl
                  · exact .inl hx
                  · exact .inr (.inr (.inr ⟨by omega, p, hpm, rfl⟩))
/-- as it was sent -/
def WholeP (XS : List (List UInt8)) (p : Pack) : Prop := ∃ n : Nat, p.2 = n ∧ XS[n]? = some p.1
/-- as it was sent, or cut short -/
def CutQ (XS : List (List UInt8)) (p : Pack) : Prop := WholeP XS p ∨ (p.2 = -1 ∧ ∃ (n : Nat) (y : List UInt8) (j : Nat), XS[n]? = some y ∧ p.1 = y.take j ∧ p.1.length < y.length)
theorem init_whole (XS : List (List UInt8)) : ∀ p, p ∈ initS XS → WholeP XS p := fun p hp => by
  rcases Good.init XS p hp with ⟨_, h⟩ | h
  · cases h
  · exact h
theorem cut_play {XS : List (List UInt8)} : ∀ {acs : List ActD} {ps : List Pack}, (∀ a, a ∈ acs → a.d ≠ 5 ∧ a.d ≠ 4) → (∀ p, p ∈ ps → CutQ XS p) → ∀ p, p ∈ playS ps acs → CutQ XS p
  | [], _, _, h => h
  | a :: acs, ps, ha, h => cut_play (acs := acs) (fun b hb => ha b (by simp [hb])) fun p hp => by
    rcases step_mem hp with h1 | h1 | ⟨h1, q, hq, rfl⟩ | ⟨h1, _⟩
    · exact h p h1
    · exact absurd h1 (ha a (by simp)).1
    · unfold cutP
      split
      · rename_i hj
        refine .inr ⟨rfl, ?_⟩
        rcases h q hq with ⟨n, _, hn⟩ | ⟨_, n, y, j, hn, e, hl⟩
        · exact ⟨n, q.1, a.j.toNat, hn, rfl, by simp; omega⟩
        · exact ⟨n, y, min a.j.toNat j, hn, by show q.1.take _ = _; rw [e, List.take_take], by simp; omega⟩
      · exact h q hq
    · exact absurd h1 (ha a (by simp)).2
theorem calm_play : ∀ {acs : List ActD} {ps : List Pack}, (∀ a, a ∈ acs → a.d ≠ 5 ∧ a.d ≠ 4 ∧ a.d ≠ 3) → ∀ p, p ∈ playS ps acs → p ∈ ps
  | [], _, _, _, h => h
  | a :: acs, ps, ha, p, h => by
    rcases step_mem (calm_play (acs := acs) (fun b hb => ha b (by simp [hb])) p h) with h1 | h1 | ⟨h1, _⟩ | ⟨h1, _⟩
    · exact h1
    · exact absurd h1 (ha a (by simp)).1
    · exact absurd h1 (ha a (by simp)).2.2
    · exact absurd h1 (ha a (by simp)).2.1
/-- as it was sent, or masked once -/
def MaskQ (XS : List (List UInt8)) (p : Pack) : Prop := WholeP XS p ∨ ∃ q b j, WholeP XS q ∧ p = maskP q b j
def harmN (acs : List ActD) : Nat := (acs.filter fun a => harmsS a.d).length
def maskN (acs : List ActD) : Nat := (acs.filter fun a => decide (a.d = 4)).length
theorem harm_zero {acs : List ActD} (h : harmN acs = 0) : ∀ a, a ∈ acs → a.d ≠ 5 ∧ a.d ≠ 4 ∧ a.d ≠ 3 := fun a ha => by
  have h1 : (acs.filter fun a => harmsS a.d) = [] := List.eq_nil_of_length_eq_zero h
  have h2 := List.filter_eq_nil_iff.1 h1 a ha
  unfold harmsS at h2
  simp at h2
  omega
theorem mask_play {XS : List (List UInt8)} : ∀ {acs : List ActD} {ps : List Pack}, (∀ a, a ∈ acs → a.d ≠ 5) → harmN acs = 1 → maskN acs ≠ 0 → (∀ p, p ∈ ps → WholeP XS p) → ∀ p, p ∈ playS ps acs → MaskQ XS p
  | [], _, _, h, _, _ => by cases h
  | a :: acs, ps, ha, h1, h2, h => by
    intro p hp
    by_cases hh : harmsS a.d = true
    · have h0 : harmN acs = 0 := by
        unfold harmN at h1 ⊢
        rw [List.filter_cons_of_pos (by simpa using hh)] at h1
        simpa using h1
      have h4 : a.d = 4 := by
        by_cases h4 : a.d = 4
        · exact h4
        · exfalso
          unfold maskN at h2
          rw [List.filter_cons_of_neg (by simpa using h4)] at h2
          apply h2
          have : (acs.filter fun a => decide (a.d = 4)) = [] := List.filter_eq_nil_iff.2 fun b hb => by
            have := (harm_zero h0 b hb).2.1
            simpa using this
          rw [this]; rfl
      rcases step_mem (calm_play (acs := acs) (harm_zero h0) p hp) with g | g | ⟨g, _⟩ | ⟨g, q, hq, e⟩
      · exact .inl (h p g)
      · omega
      · omega
      · exact .inr ⟨q, _, _, h q hq, e⟩
    · have h0 : harmN acs = 1 := by
        unfold harmN at h1 ⊢
        rwa [List.filter_cons_of_neg (by simpa using hh)] at h1
      have hd : a.d ≠ 3 ∧ a.d ≠ 4 ∧ a.d ≠ 5 := by
        unfold harmsS at hh
        simp at hh
        omega
      have h3 : maskN acs ≠ 0 := by
        unfold maskN at h2 ⊢
        rwa [List.filter_cons_of_neg (by simpa using hd.2.1)] at h2
      refine mask_play (acs := acs) (fun b hb => ha b (by simp [hb])) h0 h3 (fun q hq => ?_) p hp
      rcases step_mem hq with g | g | ⟨g, _⟩ | ⟨g, _⟩
      · exact h q g
      · exact absurd g hd.2.2
      · exact absurd g hd.1
      · exact absurd g hd.2.1
theorem leN_flip {l : List UInt8} {p : Nat} (h : p / 8 < l.length) : leN l ^^^ leN (flip l p) = 2 ^ p := by
  have e : l.getD (p / 8) 0 = l[p / 8] := by rw [List.getD_eq_getElem?_getD, List.getElem?_eq_getElem h]; rfl
  unfold flip
  rw [e, leN_set (UInt8.ofNat (2 ^ (p % 8))) l (p / 8) h]
  have h2 : ∀ m, m < 8 → (UInt8.ofNat (2 ^ m)).toNat = 2 ^ m := by decide
  rw [h2 _ (Nat.mod_lt _ (by decide)), ← Nat.pow_add]
  congr 1
  omega
/-- what a mask turns, as a number -/
theorem maskF_num (b j : Nat) (xs : List UInt8) : ∀ k, ∃ x, x < 2 ^ k ∧ leN xs ^^^ leN (maskF b j xs k).1 = x * 2 ^ j ∧ ((maskF b j xs k).2 = true → x ≠ 0)
  | 0 => ⟨0, by decide, by show leN xs ^^^ leN xs = _; rw [Nat.xor_self, Nat.zero_mul], fun h => by cases h⟩
  | k + 1 => by
    obtain ⟨x, hx, he, hn⟩ := maskF_num b j xs k
    unfold maskF
    by_cases hc : b.testBit k = true ∧ (j + k) / 8 < xs.length
    · rw [if_pos hc]
      refine ⟨2 ^ k + x, by rw [Nat.pow_succ]; omega, ?_, fun _ => ?_⟩
      · have h1 := leN_flip (l := (maskF b j xs k).1) (p := j + k) (by rw [maskF_len]; exact hc.2)
        have h2 : leN xs ^^^ leN (flip (maskF b j xs k).1 (j + k)) = (leN xs ^^^ leN (maskF b j xs k).1) ^^^ (leN (maskF b j xs k).1 ^^^ leN (flip (maskF b j xs k).1 (j + k))) := by
          rw [Nat.xor_assoc, ← Nat.xor_assoc (leN (maskF b j xs k).1), Nat.xor_self, Nat.zero_xor]
        show leN xs ^^^ leN (flip (maskF b j xs k).1 (j + k)) = _
        rw [h2, he, h1]
        have h3 : (2 ^ k + x) = x ^^^ 2 ^ k := by
          rw [Nat.xor_comm]
          refine Nat.eq_of_testBit_eq fun i => ?_
          rw [show 2 ^ k + x = 2 ^ k * 1 + x by omega, Nat.testBit_two_pow_mul_add _ hx, Nat.testBit_xor]
          by_cases hi : i < k
          · rw [if_pos hi, Nat.testBit_two_pow_of_ne (by omega)]; simp
          · rw [if_neg hi, Nat.testBit_lt_two_pow (Nat.lt_of_lt_of_le hx (Nat.pow_le_pow_right (by decide) (by omega)))]
            rw [Nat.testBit_two_pow]
            by_cases e : k = i
            · subst e; simp
            · have : (1 : Nat).testBit (i - k) = false := by
                rw [show (1 : Nat) = 2 ^ 0 from rfl, Nat.testBit_two_pow]; simp; omega
              rw [this, decide_eq_false e]; rfl
        rw [h3]
        have h4 := Nat.shiftLeft_xor_distrib (a := x) (b := 2 ^ k) (i := j)
        rw [Nat.shiftLeft_eq, Nat.shiftLeft_eq, Nat.shiftLeft_eq] at h4
        rw [h4, ← Nat.pow_add, Nat.add_comm k j]
      · have : 0 < 2 ^ k := Nat.pow_pos (by decide)
        omega
    · rw [if_neg hc]
      exact ⟨x, Nat.lt_of_lt_of_le hx (Nat.pow_le_pow_right (by decide) (by omega)), he, hn⟩
theorem masked_bad {k t D b j : Nat} {y : List UInt8} (h : readC k t D y = 0) (hm : (maskF b j y 32).2 = true) : readC k t D (maskF b j y 32).1 ≠ 0 := fun h2 => by
  obtain ⟨x, hx, he, hn⟩ := maskF_num b j y 32
  have e := burst_found (maskF_len b j y 32).symm h h2 hx he
  rw [← e, Nat.xor_self] at he
  have h0 : x = 0 := by
    rcases Nat.eq_zero_or_pos x with g | g
    · exact g
    · have : 0 < x * 2 ^ j := Nat.mul_pos g (Nat.pow_pos (by decide))
      omega
  exact hn hm h0
theorem cut_bad {k t D j : Nat} {y : List UInt8} (h : readC k t D y = 0) (hl : (y.take j).length < y.length) : readC k t D (y.take j) ≠ 0 := fun h2 => by
  have key : ∀ l, readC k t D l = 0 → 10 ≤ l.length ∧ l.length = lenP (l.getD 1 0) k t := fun l hr => by
    have hh : headC l = 0 := by
      unfold readC at hr
      by_cases e : headC l = 0
      · exact e
      · rw [if_pos e] at hr; exact absurd hr e
    refine ⟨?_, ?_⟩
    · unfold headC at hh
      by_cases e : l.length < 10
      · rw [if_pos e] at hh; exact absurd hh (by decide)
      · omega
    · unfold readC at hr
      rw [if_neg (by simp [hh])] at hr
      by_cases e1 : l.length ≠ lenP (l.getD 1 0) k t
      · rw [if_pos e1] at hr; exact absurd hr (by decide)
      · exact Classical.not_not.1 e1
  obtain ⟨a1, a2⟩ := key _ h
  obtain ⟨b1, b2⟩ := key _ h2
  have e : (y.take j).getD 1 0 = y.getD 1 0 := by
    have hj : 1 < j := by simp at b1; omega
    rw [List.getD_eq_getElem?_getD, List.getD_eq_getElem?_getD, List.getElem?_take_of_lt hj]
  rw [e] at b2
  omega
/-- nothing is forged, and, if something is masked, nothing else is harmed -/
def calmS (acs : List ActD) : Bool := acs.all (fun a => decide (a.d ≠ 5)) && (decide (maskN acs = 0) || decide (harmN acs = 1))
/-- what comes, calmly: as it was sent, or it is not let in -/
theorem calm_came {k t D : Nat} {XS : List (List UInt8)} {acs : List ActD} (hX : ∀ x, x ∈ XS → readC k t D x = 0) (hc : calmS acs = true) : ∀ p, p ∈ playS (initS XS) acs → WholeP XS p ∨ (p.2 = -1 ∧ readC k t D p.1 ≠ 0) := fun p hp => by
  unfold calmS at hc
  rw [Bool.and_eq_true, Bool.or_eq_true] at hc
  have h5 : ∀ a, a ∈ acs → a.d ≠ 5 := fun a ha => by have := List.all_eq_true.1 hc.1 a ha; simpa using this
  by_cases hm : maskN acs = 0
  · have h4 : ∀ a, a ∈ acs → a.d ≠ 5 ∧ a.d ≠ 4 := fun a ha => ⟨h5 a ha, by
      have h1 : (acs.filter fun a => decide (a.d = 4)) = [] := List.eq_nil_of_length_eq_zero hm
      have := List.filter_eq_nil_iff.1 h1 a ha
      simpa using this⟩
    rcases cut_play h4 (fun q hq => .inl (init_whole XS q hq)) p hp with g | ⟨g, n, y, j, hn, e, hl⟩
    · exact .inl g
    · refine .inr ⟨g, ?_⟩
      rw [e] at hl ⊢
      exact cut_bad (hX _ (List.mem_of_getElem? hn)) hl
  · have h1 : harmN acs = 1 := by
      rcases hc.2 with h | h
      · exact absurd (of_decide_eq_true h) hm
      · exact of_decide_eq_true h
    rcases mask_play h5 h1 hm (init_whole XS) p hp with g | ⟨q, b, j, ⟨n, e1, e2⟩, rfl⟩
    · exact .inl g
    · unfold maskP
      cases hf : (maskF b j q.1 32).2 with
      | true =>
        refine .inr ⟨by simp, ?_⟩
        exact masked_bad (hX _ (List.mem_of_getElem? e2)) hf
      | false =>
        refine .inl ⟨n, by simpa using e1, ?_⟩
        show XS[n]? = some (maskF b j q.1 32).1
        rw [maskF_quiet _ _ _ _ hf]; exact e2
end Go.Proofs.YtfbmdlfkipipfaaGreatDoor
namespace Go.Proofs.YtfbmdlfkipipfaaGreatDoor
open Go.RowKit Go.By Gf Go.Maps
def vecF (k : Nat) (acc : List (List UInt8)) (a : SrcD) : List (List UInt8) := if srcC a.m a.xs.length k = 0 then acc ++ [vecS a.m a.xs a.s k] else acc
def blkF (k t : Nat) (acc : List (List UInt8)) (a : SrcD) : List (List UInt8) := if srcC a.m a.xs.length k = 0 then acc ++ [List.replicate (lenP a.m k t) 0] else acc
def vecsS (k : Nat) (l : List SrcD) : List (List UInt8) := l.foldl (vecF k) []
def blksS (k t : Nat) (l : List SrcD) : List (List UInt8) := l.foldl (blkF k t) []
theorem vecs_snoc {k : Nat} {l : List SrcD} {i : Nat} {a : SrcD} (h : l[i]? = some a) : vecsS k (l.take (i + 1)) = vecF k (vecsS k (l.take i)) a := by
  obtain ⟨hi, e⟩ := List.getElem?_eq_some_iff.1 h
  unfold vecsS
  rw [foldl_take_succ _ _ _ _ hi, e]
theorem blks_snoc {k t : Nat} {l : List SrcD} {i : Nat} {a : SrcD} (h : l[i]? = some a) : blksS k t (l.take (i + 1)) = blkF k t (blksS k t (l.take i)) a := by
  obtain ⟨hi, e⟩ := List.getElem?_eq_some_iff.1 h
  unfold blksS
  rw [foldl_take_succ _ _ _ _ hi, e]
/-- what is sent, its vectors, and blanks of its lengths -/
structure RelX (k t D : Nat) (FX XS VS BS : List (List UInt8)) : Prop where
  l1 : VS.length = XS.length
  l2 : BS.length = XS.length
  at_ : ∀ (n : Nat) (x v b : List UInt8), XS[n]? = some x → VS[n]? = some v → BS[n]? = some b → readC k t D x = 0 ∧ eqX k t x = rowC t FX v ∧ v.length = k ∧ b.length = x.length
theorem RelX.push {k t D : Nat} {FX XS VS BS : List (List UInt8)} {x v b : List UInt8} (h : RelX k t D FX XS VS BS) (hx : readC k t D x = 0 ∧ eqX k t x = rowC t FX v ∧ v.length = k ∧ b.length = x.length) : RelX k t D FX (XS ++ [x]) (VS ++ [v]) (BS ++ [b]) := by
  refine ⟨by simp [h.l1], by simp [h.l2], fun n x' v' b' h1 h2 h3 => ?_⟩
  have l1 := h.l1; have l2 := h.l2
  rcases Nat.lt_trichotomy n XS.length with g | g | g
  · rw [List.getElem?_append_left (by omega)] at h1 h2 h3
    exact h.at_ n x' v' b' h1 h2 h3
  · subst g
    rw [List.getElem?_append_right (by omega), Nat.sub_self] at h1
    rw [List.getElem?_append_right (by omega), l1, Nat.sub_self] at h2
    rw [List.getElem?_append_right (by omega), l2, Nat.sub_self] at h3
    simp at h1 h2 h3
    subst h1 h2 h3
    exact hx
  · rw [List.getElem?_eq_none (by simp; omega)] at h1; cases h1
theorem pkt_len {m : UInt8} {D n s k t : Nat} {xs ys : List UInt8} (hs : srcC m xs.length k = 0) (hy : ys.length = t) : (pktB m D n xs s ys).length = lenP m k t := by
  obtain ⟨hm, hx⟩ := srcC_zero hs
  unfold pktB bodyP headB srcB lenP widS
  by_cases h0 : m = 0
  · rw [if_pos h0, if_pos h0]; simp [put4_len, hy, hx h0]; omega
  · have h1 : m = 1 := by
      unfold modeC at hm
      by_cases h1 : m = 1
      · exact h1
      · rw [if_neg (by simp [h0, h1])] at hm; cases hm
    rw [if_neg h0, if_neg h0]; simp [put4_len, put8_len, hy, h1]; omega
theorem RelX.all {k t D : Nat} {FX : List (List UInt8)} (hF : ∀ x, x ∈ FX → x.length = t) (hk : FX.length = k) (k1 : 1 ≤ k) (hD : D < 4294967296) : ∀ (l : List SrcD), l.length ≤ 1000 → (∀ a, a ∈ l → a.s < 18446744073709551616) → RelX k t D FX (sendsS D k FX l) (vecsS k l) (blksS k t l) := by
  intro l hl hs
  have : ∀ i, i ≤ l.length → RelX k t D FX (sendsS D k FX (l.take i)) (vecsS k (l.take i)) (blksS k t (l.take i)) := by
    intro i
    induction i with
    | zero => exact fun _ => ⟨rfl, rfl, fun n x v b h => by simp [sendsS] at h⟩
    | succ i ih =>
      intro hi
      have h := ih (by omega)
      have ha : l[i]? = some l[i] := List.getElem?_eq_getElem (by omega)
      rw [sends_snoc ha, vecs_snoc ha, blks_snoc ha]
      unfold sendF vecF blkF
      by_cases hc : srcC l[i].m l[i].xs.length k = 0
      · rw [if_pos hc, if_pos hc, if_pos hc]
        have hn := sends_len D k FX (l.take i)
        have hn2 : (l.take i).length ≤ 1000 := by rw [List.length_take]; omega
        obtain ⟨e1, e2⟩ := sent_eq (k := k) (t := t) (D := D) (n := (sendsS D k FX (l.take i)).length) (s := l[i].s) (m := l[i].m) (xs := l[i].xs) hF hk k1 hc (hs _ (List.getElem_mem _)) hD (by omega)
        have hv := vecS_len (s := l[i].s) hc rfl
        refine h.push ⟨e1, e2, hv, ?_⟩
        rw [List.length_replicate]
        refine (pkt_len hc ?_).symm
        rw [comb_mulR hF hk k1 hv]; exact mulR_len hF _
      · rw [if_neg hc, if_neg hc, if_neg hc]; exact h
  have h := this l.length (Nat.le_refl _)
  rwa [List.take_length] at h
/-- which ones came -/
def fromsS (k t : Nat) (srcs : List SrcD) (acs : List ActD) : List Int := (playS (initS (blksS k t srcs)) acs).map (·.2)
/-- the vectors of those that came whole, of some -/
def pickS (VS : List (List UInt8)) (fr : List Int) : List (List UInt8) := (fr.filter fun i => decide (0 ≤ i)).map fun i => VS.getD i.toNat []
theorem pick_snoc {VS : List (List UInt8)} {fr : List Int} {i : Nat} {x : Int} (h : fr[i]? = some x) : pickS VS (fr.take (i + 1)) = if 0 ≤ x then pickS VS (fr.take i) ++ [VS.getD x.toNat []] else pickS VS (fr.take i) := by
  unfold pickS
  rw [List.take_add_one, h, List.filter_append]
  by_cases h0 : 0 ≤ x
  · rw [if_pos h0]; simp [h0]
  · rw [if_neg h0]; simp [h0]
theorem pick_len (VS : List (List UInt8)) (fr : List Int) : (pickS VS fr).length ≤ fr.length := by
  unfold pickS; rw [List.length_map]; exact List.length_filter_le _ _
theorem vecs_len {k : Nat} (l : List SrcD) : ∀ x, x ∈ vecsS k l → x.length = k := by
  unfold vecsS
  have : ∀ (l : List SrcD) (acc : List (List UInt8)), (∀ x, x ∈ acc → x.length = k) → ∀ x, x ∈ l.foldl (vecF k) acc → x.length = k := by
    intro l
    induction l with
    | nil => exact fun acc h => h
    | cons a l ih =>
      intro acc h
      refine ih _ fun x hx => ?_
      unfold vecF at hx
      by_cases hc : srcC a.m a.xs.length k = 0
      · rw [if_pos hc] at hx
        rcases List.mem_append.1 hx with g | g
        · exact h x g
        · rw [List.mem_singleton.1 g]; exact vecS_len hc rfl
      · rw [if_neg hc] at hx; exact h x hx
  exact this l [] (fun x h => by simp at h)
/-- rows in new memory, and how many -/
def VecRet (w : World) (V : List (List UInt8)) (e : Ending) (w' : World) : Prop :=
  ∃ q c, e = .returned (.slice q V.length c) ∧ HdrF 22 5 w.heap.size w' (.slice q V.length c) V.length V ∧ Below w.heap.size w w'
theorem below_grew {B T e n : Nat} {wI w w' : World} {v : Value} {ys : List Value} (h : Below B wI w) (ho : w.ownsRow B T e v n ys) (hg : w.grownBy w' v.ownBlock) (hB : B ≤ wI.heap.size) : Below B wI w' := by
  refine ⟨hg.os.trans h.os, hg.tape.trans h.tape, hg.output.trans h.output, Nat.le_trans h.size hg.size, fun i hi => ?_⟩
  rcases ho.2 with ⟨e1, _⟩ | ⟨g, cap, cur, e1, hgb, hh, _⟩
  · exact (hg.block i (Nat.lt_of_lt_of_le hi (Nat.le_trans hB h.size)) (fun e => by rw [e1] at e; cases e)).trans (h.block i hi)
  · refine (hg.block i (Nat.lt_of_lt_of_le hi (Nat.le_trans hB h.size)) (fun e => ?_)).trans (h.block i hi)
    rw [e1] at e; cases e; exact absurd hi (by show ¬ g < B; omega)
theorem grown_same {B T e n : Nat} {w w' : World} {v : Value} {ys : List Value} (ho : w.ownsRow B T e v n ys) (hg : w.grownBy w' v.ownBlock) {T' : Nat} (hne : T ≠ T') : ∀ (b : Nat) (cs : Array Value) (fr : Nat × Nat), w.heap[b]? = some (.cells cs T' fr) → w'.heap[b]? = w.heap[b]? := fun b cs fr hb => by
  rcases ho.2 with ⟨e1, _⟩ | ⟨g, cap, cur, e1, hgb, hh, _⟩
  · exact hg.block b (lt_of_block hb) (fun e => by rw [e1] at e; cases e)
  · refine hg.block b (lt_of_block hb) (fun e => ?_)
    rw [e1] at e; cases e
    rw [hh] at hb; injection hb with hb; injection hb with _ hb _; exact hne hb
set_option maxRecDepth 100000 in
set_option maxHeartbeats 8000000 in
theorem Vectors_ok (L t k D : Nat) (p1 : Option Addr) (n1 c1 : Nat) (srcs : List SrcD) (p2 : Option Addr) (n2 c2 : Nat) (acs : List ActD) (w : World) (hP : POK L t k D) (h1 : SlS w p1 n1 c1 srcs) (h2 : SlA w p2 n2 c2 acs)
    (hn1 : n1 ≤ 1000) (hn2 : n2 ≤ 1000) (ht : t ≤ 1000) (hsr : ∀ a, a ∈ srcs → a.xs.length ≤ 1000000) (har : ∀ a, a ∈ acs → Room a.bs.length) :
    Calls Tryz.prog 42 #[PVal L t k D, .slice p1 n1 c1, .slice p2 n2 c2] w (VecRet w (pickS (vecsS k srcs) (fromsS k t srcs acs))) := by
  obtain ⟨u0, hu0, uz0, uz1, uz2⟩ := info_parts info_u8
  have HK : Hid (∀ w, Calls Tryz.prog 73 #[PVal L t k D] w fun e w' => e = .returned (.int .i64 0) ∧ Below w.heap.size w w') := PCheck_ok hP
  have HLn : Hid (∀ m w, modeC m = 0 → Calls Tryz.prog 96 #[PVal L t k D, B8 m] w fun e w' => e = .returned (.tuple #[.int .i64 (lenP m k t : Nat), .int .i64 0]) ∧ Below w.heap.size w w') := fun m w hm => PLength_ok L t k D m w hP hm
  have H1 := Lib.hid h1
  have H2 := Lib.hid h2
  have HSR := Lib.hid hsr
  have HAR := Lib.hid har
  have hk1 := hP.k1
  have hk2 := hP.k2
  clear hP h1 h2 hsr har
  go_enter Tryz.func42, Tryz.ntmps42
  go_wp2_with fail
  refine Calls.mono (HK.out _) ?_
  rintro e w1 ⟨rfl, hb⟩
  obtain ⟨hb1, kp, -⟩ := one_of hb
  have HB1 := Lib.hid hb1
  have HKP := Lib.hid kp
  have HPL := Lib.hid (lt_of_block kp)
  clear hb hb1 kp
  go_wp2
  go_loopw [7, 8, 22] (fun sv vv iv wr => ∃ (i : Nat) (BS VS : List (List UInt8)), i ≤ n1 ∧ iv = .int .i64 (i : Nat) ∧ BS.length ≤ i ∧ VS.length = BS.length ∧ Hid (BS = blksS k t (srcs.take i)) ∧ Hid (VS = vecsS k (srcs.take i)) ∧ Hid (∀ x, x ∈ BS → x.length ≤ 1000000) ∧ Hid (Below w.heap.size w wr) ∧ Hid (HdrF 22 5 w.heap.size wr sv BS.length BS) ∧ Hid (HdrF 22 5 w.heap.size wr vv BS.length VS) ∧ Hid (Dj sv vv) ∧ Hid (wr.heap[w.heap.size]? = some (.cells #[.int .i64 (L : Nat), .int .i64 (t : Nat), .int .i64 (k : Nat), .int .u32 (D : Nat)] 27 (0, 0)))) (fun _ _ iv _ => n1 - (intOf iv).toNat)
  case atStart => exact ⟨0, [], [], Nat.zero_le _, rfl, Nat.le_refl _, rfl, rfl, rfl, fun x h => by simp at h, HB1.out, HdrF.nil _ _ _ _, HdrF.nil _ _ _ _, Dj.nil _, HKP.out⟩
  case round =>
    obtain ⟨i, BS, VS, hi, rfl, hBi, hVB, HBS, HVS, HBL, HB, HX, HY, HD, HP⟩ := hrel
    clear HB1 HKP
    obtain ⟨qs, cs, rfl⟩ := HX.out.shape
    obtain ⟨qv, cv', rfl⟩ := HY.out.shape
    by_cases hlt : i < n1
    · as_aux_lemma =>
        obtain ⟨b, ob, q, j, c', a, rfl, hga, f0, f1, f2, hs, hs64⟩ := H1.out.at hlt
        have x0 := (HB.out.cell (p := ⟨b, ob + i * 3, none⟩) (lt_of_cell f0)).trans f0
        have x1 := (HB.out.cell (p := ⟨b, ob + i * 3 + 1, none⟩) (lt_of_cell f1)).trans f1
        have x2 := (HB.out.cell (p := ⟨b, ob + i * 3 + 2, none⟩) (lt_of_cell f2)).trans f2
        have hlt' : (i : Int) < (n1 : Int) := by omega
        have hjl := hs.len
        have hj : j ≤ 1000000 := by rw [← hjl]; exact HSR.out a (List.mem_of_getElem? hga.out)
        have HNB : Hid (blksS k t (srcs.take (i + 1)) = blkF k t BS a) := by show _ = _; rw [blks_snoc hga.out, ← HBS.out]
        have HNV : Hid (vecsS k (srcs.take (i + 1)) = vecF k VS a) := by show _ = _; rw [vecs_snoc hga.out, ← HVS.out]
        have ba : Below wr.heap.size wr (wr.alloc (.cells #[B8 a.m, .slice q j c', .int .u64 (a.s : Nat)] 66 (0, 0))) := al (Below.refl _ _) (Nat.le_refl _)
        have hba := bl HB.out ba HB.out.size
        have hvec := SVector_anyF a.m q j c' a.s k a.xs hk1 hk2 _ (hs.keep hba) (show j ≤ 140737488355328 by omega)
        rw [show (if srcC a.m j k = 0 then vecS a.m a.xs a.s k else []) = vecX k a.m j a.s a.xs from rfl] at hvec
        have HVC := Lib.hid hvec
        have HBa := Lib.hid hba
        have HXa := Lib.hid (HX.out.keep ba)
        have HYa := Lib.hid (HY.out.keep ba)
        have kpa := (ba.block _ (lt_of_block HP.out)).trans HP.out
        have kba : (wr.alloc (.cells #[B8 a.m, .slice q j c', .int .u64 (a.s : Nat)] 66 (0, 0))).heap[wr.heap.size]? = some (.cells #[B8 a.m, .slice q j c', .int .u64 (a.s : Nat)] 66 (0, 0)) := hnew rfl
        obtain ⟨z0, z1, z2, z3⟩ := cells_four kpa
        have a2 : ∀ o', (wr.alloc o').cell? ⟨w.heap.size, 2, none⟩ = _ := fun _ => calloc (cells_four HP.out).2.2.1
        clear f0 f1 f2 hs hlt ba hba hvec HX HY HP HB hga
        by_cases hm : srcC a.m j k = 0
        · have hmo := (srcC_zero hm).1
          have HBX : Hid (BS ++ [List.replicate (lenP a.m k t) 0] = blksS k t (srcs.take (i + 1))) := by show _ = _; rw [HNB.out]; unfold blkF; rw [hjl, if_pos hm]
          have HVX : Hid (VS ++ [vecX k a.m j a.s a.xs] = vecsS k (srcs.take (i + 1))) := by show _ = _; rw [HNV.out]; unfold vecF vecX; rw [hjl, if_pos hm, if_pos hm]
          have HLNn := Lib.hid (fun w => HLn.out a.m w hmo)
          have hl65 : lenP a.m k t ≤ 65536 := by
            unfold lenP widS
            split
            · omega
            · split <;> omega
          rw [hm] at HVC
          generalize vecX k a.m j a.s a.xs = ya at *
          generalize lenP a.m k t = ln at *
          have HBL2 : Hid (∀ x, x ∈ BS ++ [List.replicate ln (0 : UInt8)] → x.length ≤ 1000000) := fun x hx => by
            rcases List.mem_append.1 hx with h | h
            · exact HBL.out x h
            · rw [List.mem_singleton.1 h, List.length_replicate]; omega
          clear hm hmo HNB HNV hjl
          go_wp2_with fail
          refine Calls.mono HVC.out ?_
          rintro e wd ⟨qy, ny, cy, rfl, hf, hb⟩
          have HBd := Lib.hid (bl HBa.out hb HBa.out.size)
          have FYd : Hid (Fresh 5 w.heap.size wd qy ny cy ya) := hf.mono HBa.out.size
          have HXd := Lib.hid (HXa.out.keep hb)
          have HYd := Lib.hid (HYa.out.keep hb)
          have kpd := (hb.block _ (lt_of_block kpa)).trans kpa
          have kbd := (hb.block _ (lt_of_block kba)).trans kba
          clear hb hf kpa kba z0 z1 z2 z3 a2 x0 x1 x2 HBa HXa HYa HVC
          obtain ⟨z0, z1, z2, z3⟩ := cells_four kpd
          obtain ⟨b0, b1, b2⟩ := cells_three kbd
          go_wp2_with fail
          refine Calls.mono (HLNn.out _) ?_
          rintro e we ⟨rfl, hb⟩
          have HBe := Lib.hid (bl HBd.out hb HBd.out.size)
          have FYe := Lib.hid (FYd.out.keep hb)
          have HXe := Lib.hid (HXd.out.keep hb)
          have HYe := Lib.hid (HYd.out.keep hb)
          have HPe := Lib.hid ((hb.block _ (lt_of_block kpd)).trans kpd)
          clear hb kpd kbd z0 z1 z2 z3 b0 b1 b2 HBd FYd HXd HYd
          go_wp2_with (at_make; refine wpList_make_bytesC _ rfl _ _ 22 rfl 5 u0 Tryz.underlying22 hu0 uz0 uz1 uz2 ln rfl rfl hl65 ?_)
          intro wf h3 hb
          have FZf : Hid (Fresh 5 w.heap.size wf (some ⟨we.heap.size, 0, none⟩) ln ln (List.replicate ln 0)) := Fresh.block (fr := (0, 0)) (by rw [h3]; simp) (by simp) (by unfold maxLen; omega) HBe.out.size
          have HBf := Lib.hid (bl HBe.out hb HBe.out.size)
          have FYf := Lib.hid (FYe.out.keep hb)
          have HXf := Lib.hid (HXe.out.keep hb)
          have HYf := Lib.hid (HYe.out.keep hb)
          have HPf := Lib.hid ((hb.block _ (lt_of_block HPe.out)).trans HPe.out)
          obtain ⟨ge, hge⟩ : ∃ ge, ge = we.heap.size := ⟨_, rfl⟩
          rw [← hge] at FZf ⊢
          clear h3 hb hge HBe FYe HXe HYe HPe
          have ba : Below wf.heap.size wf (wf.alloc (.cells #[.slice (some ⟨ge, 0, none⟩) ln ln] 22 (0, 0))) := al (Below.refl _ _) (Nat.le_refl _)
          have FZg := Lib.hid (FZf.out.keep ba)
          have HBg := Lib.hid (bl HBf.out ba HBf.out.size)
          have FYg := Lib.hid (FYf.out.keep ba)
          have HXg := Lib.hid (HXf.out.keep ba)
          have HYg := Lib.hid (HYf.out.keep ba)
          have HPg : Hid ((wf.alloc (.cells #[.slice (some ⟨ge, 0, none⟩) ln ln] 22 (0, 0))).heap[w.heap.size]? = _) := (ba.block _ (lt_of_block HPf.out)).trans HPf.out
          clear ba FZf HBf FYf HXf HYf HPf
          go_wp2_with (first | (at_builtin; refine wpList_hdr rfl _ _ rfl w.heap.size BS.length (.slice qs BS.length cs) BS rfl HXg.out (by omega) HBg.out.size wf.heap.size rfl (some ⟨ge, 0, none⟩) ln ln (0, 0) (List.replicate ln 0) (hnew rfl) FZg.out ?_) | fail)
          rintro sA wA hA1 ⟨ys, hA2⟩ hA3 hA4
          have HBA := Lib.hid (below_grew HBg.out hA2 hA3 (Nat.le_refl _))
          have hu := grown_same hA2 hA3 (T' := 5) (by decide)
          have hYA := HYg.out.other hA3 (fun g h1 h2 => HD.out g h2 h1) hu
          have hDA : Dj sA (.slice qv BS.length cv') := HD.out.grew hA4 (fun g h => by have := HYg.out.lt g h; simp at this; omega)
          have fYA := fresh_same FYg.out hu
          have hPA := (grown_same hA2 hA3 (T' := 27) (by decide) _ _ _ HPg.out).trans HPg.out
          clear hu hA2 hA3 hA4 HBg FYg HXg HYg HPg FZg HD
          have ba : Below wA.heap.size wA (wA.alloc (.cells #[.slice qy ny cy] 22 (0, 0))) := al (Below.refl _ _) (Nat.le_refl _)
          have HBg := Lib.hid (bl HBA.out ba HBA.out.size)
          have FYg := Lib.hid (fYA.keep ba)
          have HXg := Lib.hid (hA1.keep ba)
          have HYg := Lib.hid (hYA.keep ba)
          have HPg : Hid ((wA.alloc (.cells #[.slice qy ny cy] 22 (0, 0))).heap[w.heap.size]? = _) := (ba.block _ (lt_of_block hPA)).trans hPA
          have HD2 := Lib.hid hDA
          clear ba HBA fYA hA1 hYA hPA hDA
          go_wp2_with (first | (at_builtin; refine wpList_hdr rfl _ _ rfl w.heap.size BS.length (.slice qv BS.length cv') VS rfl HYg.out (by omega) HBg.out.size wA.heap.size rfl qy ny cy (0, 0) ya (hnew rfl) FYg.out ?_) | fail)
          rintro sB wB hB1 ⟨ys, hB2⟩ hB3 hB4
          have HBB := Lib.hid (below_grew HBg.out hB2 hB3 (Nat.le_refl _))
          have hu := grown_same hB2 hB3 (T' := 5) (by decide)
          have R1 : Hid (HdrF 22 5 w.heap.size wB sA (BS ++ [List.replicate ln 0]).length (BS ++ [List.replicate ln 0])) := by rw [List.length_append]; exact HXg.out.other hB3 (fun g h1 h2 => HD2.out g h1 h2) hu
          have R2 : Hid (HdrF 22 5 w.heap.size wB sB (BS ++ [List.replicate ln (0 : UInt8)]).length (VS ++ [ya])) := by rw [List.length_append]; exact hB1
          have R3 : Hid (Dj sA sB) := (HD2.out.symm.grew hB4 (fun g h => by have := HXg.out.lt g h; simp at this; omega)).symm
          have R4 := Lib.hid ((grown_same hB2 hB3 (T' := 27) (by decide) _ _ _ HPg.out).trans HPg.out)
          clear hu hB1 hB2 hB3 hB4 HBg FYg HXg HYg HPg HD2
          go_wp2
          go_roundw
          case rel => exact ⟨i + 1, BS ++ [List.replicate ln 0], VS ++ [ya], by omega, by go_num, by rw [List.length_append]; simp; omega, by rw [List.length_append, List.length_append]; simp [hVB], HBX.out, HVX.out, HBL2.out, HBB.out, R1.out, R2.out, R3.out, R4.out⟩
          case measure => simp [intOf]; omega
        · have HBX : Hid (BS = blksS k t (srcs.take (i + 1))) := by show _ = _; rw [HNB.out]; unfold blkF; rw [hjl, if_neg hm]
          have HVX : Hid (VS = vecsS k (srcs.take (i + 1))) := by show _ = _; rw [HNV.out]; unfold vecF; rw [hjl, if_neg hm]
          have hz5 : (srcC a.m j k != 0) = true := bne_iff_ne.2 hm
          generalize vecX k a.m j a.s a.xs = ya at *
          generalize srcC a.m j k = R at *
          clear hm HNB HNV hjl
          go_wp2_with fail
          refine Calls.mono HVC.out ?_
          rintro e wd ⟨qy, ny, cy, rfl, -, hb⟩
          have R0 := Lib.hid (bl HBa.out hb HBa.out.size)
          have R1 := Lib.hid (HXa.out.keep hb)
          have R2 := Lib.hid (HYa.out.keep hb)
          have R4 := Lib.hid ((hb.block _ (lt_of_block kpa)).trans kpa)
          clear hb kpa kba z0 z1 z2 z3 a2 x0 x1 x2 HBa HXa HYa HVC
          go_wp2
          go_roundw
          case rel => exact ⟨i + 1, BS, VS, by omega, by go_num, by omega, hVB, HBX.out, HVX.out, HBL.out, R0.out, R1.out, R2.out, HD.out, R4.out⟩
          case measure => simp [intOf]; omega
    · obtain rfl : n1 = i := by omega
      clear hlt hi
      have hn : srcs.take n1 = srcs := by rw [← H1.out.len, List.take_length]
      have HBE : Hid (BS = blksS k t srcs) := by show _ = _; rw [HBS.out, hn]
      have HVE : Hid (VS = vecsS k srcs) := by show _ = _; rw [HVS.out, hn]
      obtain ⟨fr, hfr⟩ : ∃ fr, fr = (playS (initS BS) acs).map (·.2) := ⟨_, rfl⟩
      have HWH : Hid (∀ W, Sl2 W qs BS.length cs BS → SlA W p2 n2 c2 acs → Calls Tryz.prog 97 #[.slice qs BS.length cs, .slice p2 n2 c2] W (RetInts W fr)) := fun W h3 h4 => by
        rw [hfr]; exact Whole_any qs p2 BS.length cs n2 c2 BS acs W h3 h4 (fun x hx => by have := HBL.out x hx; show _ ≤ _; omega) HAR.out (by omega)
      have HFR : Hid (fr = fromsS k t srcs acs) := by show _ = _; rw [hfr, HBE.out]; rfl
      have hfl : fr.length ≤ 2000 := by
        rw [hfr, List.length_map]
        have := playS_len (initS BS) acs
        rw [initS_len, H2.out.len] at this; omega
      have HGD : Hid (∀ x, x ∈ fr → (x : Int) < BS.length) := fun x hx => by
        rw [hfr] at hx
        obtain ⟨p, hp, rfl⟩ := List.mem_map.1 hx
        rcases Good.play (acs := acs) (Good.init BS) p hp with ⟨e, _⟩ | ⟨m, e, hm⟩
        · show p.2 < _; omega
        · show p.2 < _
          have := (List.getElem?_eq_some_iff.1 hm).1
          omega
      have HVL : Hid (∀ x, x ∈ VS → x.length ≤ 65536) := fun x hx => by
        rw [HVE.out] at hx
        exact Nat.le_trans (Nat.le_of_eq (vecs_len srcs x hx)) (by omega)
      clear hfr hn HBS HVS HBL HBE
      go_wp2_with fail
      refine Calls.mono (HWH.out _ HX.out.sl2 (H2.out.keep HB.out)) ?_
      rintro e w2 ⟨qf, cf, rfl, ho, hb⟩
      have HBb := Lib.hid (bl HB.out hb HB.out.size)
      have HYb := Lib.hid (HY.out.keep hb)
      have HOb := Lib.hid (owns_mono ho HB.out.size)
      obtain ⟨m, hm⟩ : ∃ m, m = fr.length := ⟨_, rfl⟩
      rw [← hm] at HOb hfl ⊢
      have HM := Lib.hid hm
      have HQV : Hid (∀ g, (Value.slice qv BS.length cv').ownBlock = some g → g < w2.heap.size) := HYb.out.lt
      clear hb ho HB HX HY HD HP HWH hm
      go_wp2
      go_loopw [14, 58] (fun sv iv wr => ∃ (i : Nat), i ≤ m ∧ iv = .int .i64 (i : Nat) ∧ Hid (Below w.heap.size w wr) ∧ Hid (HdrF 22 5 w.heap.size wr (.slice qv BS.length cv') BS.length VS) ∧ Hid (wr.ownsRow w.heap.size 3 1 (.slice qf m cf) m (fr.map (Value.int .i64))) ∧ Hid (HdrF 22 5 w.heap.size wr sv (pickS VS (fr.take i)).length (pickS VS (fr.take i))) ∧ Hid (Dj sv (.slice qv BS.length cv'))) (fun _ iv _ => m - (intOf iv).toNat)
      case atStart => exact ⟨0, Nat.zero_le _, rfl, HBb.out, HYb.out, HOb.out, HdrF.nil _ _ _ _, Dj.nil _⟩
      case round =>
        obtain ⟨i, hi, rfl, HB, HY, HO, HS, HD⟩ := hrel
        clear HBb HYb HOb
        obtain ⟨qs2, cs2, rfl⟩ := HS.out.shape
        by_cases hlt : i < m
        · as_aux_lemma =>
            obtain ⟨x, hx⟩ : ∃ x, fr[i]? = some x := ⟨_, List.getElem?_eq_getElem (by rw [← HM.out]; exact hlt)⟩
            have HPS := Lib.hid (pick_snoc (VS := VS) hx)
            obtain ⟨gf, rfl⟩ : ∃ gf, qf = some ⟨gf, 0, none⟩ := by
              rcases HO.out.2 with ⟨h2, h3⟩ | ⟨g, cap, cur, hv, _⟩
              · omega
              · cases hv; exact ⟨_, rfl⟩
            have hcf := HO.out.cellAt i (by omega)
            rw [List.getElem?_map, hx] at hcf
            simp only [Option.map_some] at hcf
            have hxl := HGD.out x (List.mem_of_getElem? hx)
            have hlt' : (i : Int) < (m : Int) := by omega
            have hpl := pick_len VS (fr.take i)
            have hpl2 : (pickS VS (fr.take i)).length ≤ 2000 := by rw [List.length_take] at hpl; omega
            clear hx hlt hpl
            by_cases h0 : 0 ≤ x
            · obtain ⟨y, rfl⟩ := Int.eq_ofNat_of_zero_le h0
              have hyl : y < BS.length := by omega
              have HPX : Hid (pickS VS (fr.take i) ++ [VS.getD y []] = pickS VS (fr.take (i + 1))) := by show _ = _; rw [HPS.out, if_pos h0]; rfl
              obtain ⟨bv, ov, qy, my, cy, ys, rfl, hcy, hys, hfy⟩ := HY.out.at hyl
              have hyg : VS.getD y [] = ys := by rw [List.getD_eq_getElem?_getD, hys.out]; rfl
              rw [hyg] at HPX
              have hmy : my ≤ 65536 := by rw [← hfy.sl.len]; exact HVL.out ys (List.mem_of_getElem? hys.out)
              have hyl' : (y : Int) < ((BS.length : Nat) : Int) := by omega
              have HFY := Lib.hid hfy
              clear HPS hys hfy hyg h0 hxl hyl
              go_wp2_with (first | (at_builtin; refine wpList_append_rs _ rfl _ _ 22 rfl wr.heap.size 5 u0 (.int .u8 0) 1 Tryz.underlying22 hu0 uz0 uz1 uz2 rfl (.slice none 0 0) 0 [] rfl (World.ownsRow_nil _ _ _ _) B8 qy my cy ys (fun _ _ => rfl) rfl HFY.out.sl (by unfold maxLen; omega) (by omega) (Nat.le_refl _) ?_) | fail)
              intro lv w4 hl1 hl2
              obtain ⟨q4, c4, rfl⟩ := owns_shape hl1
              have hb4 : Below wr.heap.size wr w4 := (Below.refl wr.heap.size wr).grown hl2 (Nat.le_refl _) (fun r hr => by cases hr)
              have hf4 : Fresh 5 w.heap.size w4 q4 my c4 ys := (Fresh.of_owns hl1).mono HB.out.size
              have ba : Below w4.heap.size w4 (w4.alloc (.cells #[.slice q4 my c4] 22 (0, 0))) := al (Below.refl _ _) (Nat.le_refl _)
              have hb5 := bl hb4 ba hb4.size
              have HB5 := Lib.hid (bl HB.out hb5 HB.out.size)
              have HY5 := Lib.hid (HY.out.keep hb5)
              have HO5 := Lib.hid (owns_keepv HO.out hb5)
              have HS5 := Lib.hid (HS.out.keep hb5)
              have HF5 := Lib.hid (hf4.keep ba)
              clear hl1 hl2 hb4 hf4 ba hb5 HB HY HO HS HFY hcy hcf
              go_wp2_with (first | (at_builtin; refine wpList_hdr rfl _ _ rfl w.heap.size (pickS VS (fr.take i)).length (.slice qs2 (pickS VS (fr.take i)).length cs2) (pickS VS (fr.take i)) rfl HS5.out (by omega) HB5.out.size w4.heap.size rfl q4 my c4 (0, 0) ys (hnew rfl) HF5.out ?_) | fail)
              rintro sA wA hA1 ⟨zs, hA2⟩ hA3 hA4
              have hu := grown_same hA2 hA3 (T' := 5) (by decide)
              have R1 := Lib.hid (below_grew HB5.out hA2 hA3 (Nat.le_refl _))
              have R2 := Lib.hid (HY5.out.other hA3 (fun g h1 h2 => HD.out g h2 h1) hu)
              have R3 := Lib.hid (owns_kept HO5.out hA3 (owns_ne HO5.out hA2 (by decide)))
              have R4 : Hid (HdrF 22 5 w.heap.size wA sA (pickS VS (fr.take (i + 1))).length (pickS VS (fr.take (i + 1)))) := by rw [← HPX.out, List.length_append]; exact hA1
              have R5 : Hid (Dj sA (.slice (some ⟨bv, ov, none⟩) BS.length cv')) := HD.out.grew hA4 (fun g h => by have := HY5.out.lt g h; simp at this; omega)
              clear hu hA1 hA2 hA3 hA4 HB5 HY5 HO5 HS5 HF5
              go_wp2
              go_roundw
              case rel => exact ⟨i + 1, by omega, by go_num, R1.out, R2.out, R3.out, R4.out, R5.out⟩
              case measure => simp [intOf]; omega
            · have hx0 : ¬ (0 : Int) ≤ x := h0
              have HPX : Hid (pickS VS (fr.take i) = pickS VS (fr.take (i + 1))) := by show _ = _; rw [HPS.out, if_neg h0]
              have h0' : x < 0 := by omega
              clear HPS h0 hx0
              go_wp2
              go_roundw
              case rel => exact ⟨i + 1, by omega, by go_num, HB.out, HY.out, HO.out, HPX.out ▸ HS.out, HD.out⟩
              case measure => simp [intOf]; omega
        · obtain rfl : m = i := by omega
          have HTK : Hid (pickS VS (fr.take m) = pickS (vecsS k srcs) (fromsS k t srcs acs)) := by show _ = _; rw [HM.out, List.take_length, ← HFR.out, ← HVE.out]
          go_wp2
          go_ret
          rw [HTK.out] at HS
          exact ⟨qs2, cs2, by rw [← HTK.out]; rfl, HS.out, HB.out⟩
end Go.Proofs.YtfbmdlfkipipfaaGreatDoor
namespace Go.Proofs.YtfbmdlfkipipfaaGreatDoor
open Go.RowKit Go.By Gf Go.Maps
theorem count_snoc {α : Type} {f : α → Bool} {l : List α} {i : Nat} {a : α} (h : l[i]? = some a) : ((l.take (i + 1)).filter f).length = ((l.take i).filter f).length + if f a = true then 1 else 0 := by
  rw [List.take_add_one, h, List.filter_append, List.length_append]
  congr 1
  by_cases hf : f a = true <;> simp [hf]
set_option maxRecDepth 100000 in
set_option maxHeartbeats 4000000 in
theorem calm_any (p2 : Option Addr) (n2 c2 : Nat) (acs : List ActD) (w : World) (h2 : SlA w p2 n2 c2 acs) (hn : n2 ≤ 1000) :
    Calls Tryz.prog 41 #[.slice p2 n2 c2] w fun e w' => e = .returned (.bool (calmS acs)) ∧ Below w.heap.size w w' := by
  have H2 := Lib.hid h2
  have HL := Lib.hid h2.len
  clear h2
  go_enter Tryz.func41, Tryz.ntmps41
  go_wp2
  go_loopw [3, 4, 9] (fun hv mv iv wr => ∃ (i hh mm : Nat), i ≤ n2 ∧ iv = .int .i64 (i : Nat) ∧ hv = .int .i64 (hh : Nat) ∧ mv = .int .i64 (mm : Nat) ∧ hh ≤ i ∧ mm ≤ i ∧ Hid (hh = harmN (acs.take i)) ∧ Hid (mm = maskN (acs.take i)) ∧ Hid (∀ (j : Nat) (a : ActD), j < i → acs[j]? = some a → a.d ≠ 5) ∧ Hid (Below w.heap.size w wr)) (fun _ _ iv _ => n2 - (intOf iv).toNat)
  case atStart => exact ⟨0, 0, 0, Nat.zero_le _, rfl, rfl, rfl, Nat.le_refl _, Nat.le_refl _, rfl, rfl, fun j a h => by omega, Below.refl _ _⟩
  case round =>
    obtain ⟨i, hh, mm, hi, rfl, rfl, rfl, hhi, hmi, HH, HM, H5, HB⟩ := hrel
    by_cases hlt : i < n2
    · obtain ⟨a, ha⟩ : ∃ a, acs[i]? = some a := ⟨_, List.getElem?_eq_getElem (by rw [HL.out]; exact hlt)⟩
      obtain ⟨b, o, q, m, c', rfl, y0, y1, y2, y3, y4, hs, bi, bj, bb⟩ := (H2.out.keep HB.out).rs i a ha
      have hlt' : (i : Int) < (n2 : Int) := by omega
      have ba : Below wr.heap.size wr (wr.alloc (.cells #[.int .i64 a.d, .int .i64 a.i, .int .i64 a.j, .int .u32 (a.b : Nat), .slice q m c'] 176 (0, 0))) := al (Below.refl _ _) (Nat.le_refl _)
      have HBa := Lib.hid (bl HB.out ba HB.out.size)
      have kba : (wr.alloc (.cells #[.int .i64 a.d, .int .i64 a.i, .int .i64 a.j, .int .u32 (a.b : Nat), .slice q m c'] 176 (0, 0))).heap[wr.heap.size]? = some (.cells #[.int .i64 a.d, .int .i64 a.i, .int .i64 a.j, .int .u32 (a.b : Nat), .slice q m c'] 176 (0, 0)) := hnew rfl
      have HHm := Lib.hid (fun W => Harms_any a.d a.i a.j (a.b : Nat) (.slice q m c') W)
      have HKB := Lib.hid kba
      have hha : harmN (acs.take (i + 1)) = hh + if harmsS a.d = true then 1 else 0 := by
        rw [HH.out]; unfold harmN; exact count_snoc (f := fun a : ActD => harmsS a.d) ha
      have hma : maskN (acs.take (i + 1)) = mm + if a.d = 4 then 1 else 0 := by
        rw [HM.out]; unfold maskN
        have := count_snoc (f := fun a : ActD => decide (a.d = 4)) ha
        simpa using this
      have HA := Lib.hid ha
      by_cases h5 : a.d = 5
      · have h5' : (a.d == 5) = true := beq_iff_eq.2 h5
        have HF : Hid (calmS acs = false) := by
          show _ = _
          unfold calmS
          have : acs.all (fun a => decide (a.d ≠ 5)) = false := by
            rw [List.all_eq_false]; exact ⟨a, List.mem_of_getElem? ha, by simp [h5]⟩
          rw [this]; rfl
        clear h5 ha hs hha hma ba kba
        go_wp2
        go_ret
        exact ⟨by rw [HF.out]; rfl, HBa.out⟩
      · have h5' : (a.d == 5) = false := beq_eq_false_iff_ne.2 h5
        have H52 : Hid (∀ (j : Nat) (a : ActD), j < i + 1 → acs[j]? = some a → a.d ≠ 5) := fun j a' h1 h2 => by
          by_cases e : j = i
          · subst e; have := HA.out.symm.trans h2; cases this; exact h5
          · exact H5.out j a' (by omega) h2
        clear ha hs H5 ba kba
        have HHA := Lib.hid hha
        clear hha
        have HMA := Lib.hid hma
        clear hma
        have HN5 := Lib.hid h5
        clear h5
        go_wp2_with fail
        refine Calls.mono (HHm.out _) ?_; rintro e w2 ⟨rfl, hw2⟩
        have HB2 := Lib.hid (bl HBa.out hw2 HBa.out.size)
        have x5 : w2.heap[wr.heap.size]? = some (.cells #[.int .i64 a.d, .int .i64 a.i, .int .i64 a.j, .int .u32 (a.b : Nat), .slice q m c'] 176 (0, 0)) := (hw2.block _ (by simp)).trans HKB.out
        have z0 : w2.cell? ⟨wr.heap.size, 0, none⟩ = some (.int .i64 a.d) := cell_of_row _ _ 0 _ _ _ x5
        clear hw2 HBa x5 HKB
        generalize hg : harmsS a.d = hz at HHA
        by_cases h4 : a.d = 4
        · have h4' : (a.d == 4) = true := beq_iff_eq.2 h4
          have HMA' := Lib.hid HMA.out
          rw [if_pos h4] at HMA'
          clear h4 HMA hg
          cases hz with
          | true =>
            go_wp2
            go_roundw
            case rel => exact ⟨i + 1, hh + 1, mm + 1, by omega, by go_num, by go_num, by go_num, by omega, by omega, by show _ = _; rw [HHA.out]; rfl, HMA'.out.symm, H52.out, HB2.out⟩
            case measure => simp [intOf]; omega
          | false =>
            go_wp2
            go_roundw
            case rel => exact ⟨i + 1, hh, mm + 1, by omega, by go_num, rfl, by go_num, by omega, by omega, by show _ = _; rw [HHA.out]; rfl, HMA'.out.symm, H52.out, HB2.out⟩
            case measure => simp [intOf]; omega
        · have h4' : (a.d == 4) = false := beq_eq_false_iff_ne.2 h4
          have HMA' := Lib.hid HMA.out
          rw [if_neg h4] at HMA'
          clear h4 HMA hg
          cases hz with
          | true =>
            go_wp2
            go_roundw
            case rel => exact ⟨i + 1, hh + 1, mm, by omega, by go_num, by go_num, rfl, by omega, by omega, by show _ = _; rw [HHA.out]; rfl, HMA'.out.symm, H52.out, HB2.out⟩
            case measure => simp [intOf]; omega
          | false =>
            go_wp2
            go_roundw
            case rel => exact ⟨i + 1, hh, mm, by omega, by go_num, rfl, rfl, by omega, by omega, by show _ = _; rw [HHA.out]; rfl, HMA'.out.symm, H52.out, HB2.out⟩
            case measure => simp [intOf]; omega
    · obtain rfl : n2 = i := by omega
      have hnl : acs.take n2 = acs := by rw [← HL.out, List.take_length]
      have HC : Hid (calmS acs = (decide (mm = 0) || decide (hh = 1))) := by
        show _ = _
        unfold calmS
        have : acs.all (fun a => decide (a.d ≠ 5)) = true := List.all_eq_true.2 fun x hx => by
          obtain ⟨r, hr, e⟩ := List.getElem_of_mem hx
          exact decide_eq_true (H5.out r x (by have := HL.out; omega) (by rw [List.getElem?_eq_getElem hr, e]))
        rw [this, HM.out, HH.out, hnl]; rfl
      clear hlt hi hnl HH HM H5
      by_cases hm : mm = 0
      · have hR : Hid (calmS acs = true) := by show _ = _; rw [HC.out, decide_eq_true hm]; rfl
        subst hm
        go_wp2
        go_ret
        exact ⟨by rw [hR.out]; rfl, HB.out⟩
      · have hm' : ((mm : Int) == 0) = false := beq_eq_false_iff_ne.2 (by omega)
        have hR : Hid (calmS acs = ((hh : Int) == 1)) := by
          show _ = _
          rw [HC.out, decide_eq_false hm, Bool.false_or]
          by_cases h1 : hh = 1
          · subst h1; rfl
          · rw [decide_eq_false h1]; exact (beq_eq_false_iff_ne.2 (by omega)).symm
        clear hm
        go_wp2
        go_ret
        exact ⟨by rw [hR.out]; rfl, HB.out⟩
end Go.Proofs.YtfbmdlfkipipfaaGreatDoor
