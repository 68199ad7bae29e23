/- Numbers in memory; made, Of. -/
import Derived.Test.YtbfmdfbnhakolaaDoorProg
import Derived.Test.YtbfmdfbnhakolaaDoorNF
import Derived.Test.YtbfmdfbnhakolaaDoorB4
import Derived.BigQuiet
import Derived.Deep.QuietTactic
import Derived.WalkKit
import Derived.WalkLawsBesides
import Derived.WalkSpells
import Derived.Lib.Hide
import Derived.Shelf.Abstract
import Derived.Laws.ResultCell
import Derived.Laws.Rows
namespace Go.By
open Go.RowKit
/-- a word as a value -/
abbrev W64 (x : UInt64) : Value := .int .u64 x.toNat
/-- how great a number may be -/
def powW (k : Nat) : Nat := 18446744073709551616 ^ k
theorem powW_mono {j k : Nat} (h : j ≤ k) : powW j ≤ powW k := Nat.pow_le_pow_right (by decide) h
theorem powW_lt (ws : List UInt64) : valW ws < powW ws.length := valW_lt ws
theorem powW_big {ws : List UInt64} (h : NormW ws) {k : Nat} (hl : k < ws.length) : powW k ≤ valW ws := h.big hl
def capN : Nat := powW 512
/-- where a slice's cells lie: a block of elements of type T -/
def Lies (T : TypeId) (w : World) (q : Option Addr) : Prop := ∀ a, q = some a → ∃ cs fr, w.heap[a.block]? = some (.cells cs T fr)
theorem Lies.keep {T : TypeId} {w w' : World} {q : Option Addr} (h : Lies T w q) (hb : Below w.heap.size w w') : Lies T w' q := fun a ha => by
  obtain ⟨cs, fr, hc⟩ := h a ha
  exact ⟨cs, fr, (hb.block _ (lt_of_block hc)).trans hc⟩
theorem Lies.none (T : TypeId) (w : World) : Lies T w none := fun _ h => by cases h
theorem Lies.at {T : TypeId} {w : World} {g o : Nat} {cs : Array Value} {fr : Nat × Nat} (h : w.heap[g]? = some (.cells cs T fr)) : Lies T w (some ⟨g, o, .none⟩) := fun a ha => by
  obtain rfl := Option.some.inj ha
  exact ⟨cs, fr, h⟩
/-- a block of another kind is written -/
theorem Lies.set {T T' : TypeId} {w : World} {q : Option Addr} (h : Lies T w q) {g i : Nat} {cs : Array Value} {fr : Nat × Nat} {v : Value} (hg : w.heap[g]? = some (.cells cs T' fr)) (hne : T' ≠ T) : Lies T (w.setCell ⟨g, i, .none⟩ v) q := fun a ha => by
  obtain ⟨ds, fr', hc⟩ := h a ha
  have : a.block ≠ g := fun e => by rw [e, hg] at hc; cases hc; exact hne rfl
  exact ⟨ds, fr', hsc hc this⟩
theorem Sl.set {α : Type} {enc : α → Value} {T T' : TypeId} {w : World} {q : Option Addr} {n c : Nat} {xs : List α} (h : Sl enc w q n c xs) (hl : Lies T w q) {g i : Nat} {cs : Array Value} {fr : Nat × Nat} {v : Value} (hg : w.heap[g]? = some (.cells cs T' fr)) (hne : T' ≠ T) : Sl enc (w.setCell ⟨g, i, .none⟩ v) q n c xs := by
  refine ⟨h.len, h.le, h.max, h.nil, fun j hj => ?_⟩
  obtain ⟨b, o, hp, hc⟩ := h.rs j hj
  obtain ⟨ds, fr', hd⟩ := hl _ hp
  have : b ≠ g := fun e => by rw [show (⟨b, o, .none⟩ : Addr).block = b from rfl, e, hg] at hd; cases hd; exact hne rfl
  exact ⟨b, o, hp, (World.cell?_of_block (a := ⟨b, o + j, .none⟩) (Below.heap_setCell _ _ _ _ this)).trans hc⟩
/-- words in memory that read as a number -/
structure Ws (T : TypeId) (w : World) (q : Option Addr) (n c : Nat) (N : Nat) : Prop where
  ex : ∃ ws, Sl W64 w q n c ws ∧ NormW ws ∧ valW ws = N
  le : n ≤ 512
  lies : Lies T w q
theorem Ws.keep {T : TypeId} {w w' : World} {q : Option Addr} {n c N : Nat} (h : Ws T w q n c N) (hb : Below w.heap.size w w') : Ws T w' q n c N := by
  obtain ⟨ws, hs, hn, hv⟩ := h.ex
  exact ⟨⟨ws, hs.keep hb, hn, hv⟩, h.le, h.lies.keep hb⟩
theorem Ws.set {T T' : TypeId} {w : World} {q : Option Addr} {n c N : Nat} (h : Ws T w q n c N) {g i : Nat} {cs : Array Value} {fr : Nat × Nat} {v : Value} (hg : w.heap[g]? = some (.cells cs T' fr)) (hne : T' ≠ T) : Ws T (w.setCell ⟨g, i, none⟩ v) q n c N := by
  obtain ⟨ws, hs, hn, hv⟩ := h.ex
  exact ⟨⟨ws, hs.set h.lies hg hne, hn, hv⟩, h.le, h.lies.set hg hne⟩
theorem Ws.lt {T : TypeId} {w : World} {q : Option Addr} {n c N : Nat} (h : Ws T w q n c N) : N < capN := by
  obtain ⟨ws, hs, hn, rfl⟩ := h.ex
  have := powW_lt ws
  rw [hs.len] at this
  exact Nat.lt_of_lt_of_le this (powW_mono h.le)
theorem Ws.zero (T : TypeId) (w : World) : Ws T w none 0 0 0 := ⟨⟨[], Sl.nil0 _ _, by simp [NormW], rfl⟩, by omega, Lies.none _ _⟩
/-- a number, and what went wrong -/
def RetN (T : TypeId) (w : World) (N : Nat) (e : Ending) (w' : World) : Prop :=
  ∃ q n c, e = .returned (.tuple #[.agg #[.slice q n c], .int .i64 0]) ∧ Ws T w' q n c N ∧ Below w.heap.size w w'
def Ret0 (w : World) (code : Int) (e : Ending) (w' : World) : Prop :=
  e = .returned (.tuple #[.agg #[.slice none 0 0], .int .i64 code]) ∧ Below w.heap.size w w'
def RetM (T : TypeId) (w : World) (N : Nat) (e : Ending) (w' : World) : Prop := (N < capN ∧ RetN T w N e w') ∨ (capN ≤ N ∧ Ret0 w 16 e w')
theorem RetM.ok {T : TypeId} {w w' : World} {N : Nat} {e : Ending} (h : RetM T w N e w') (hN : N < capN) : RetN T w N e w' := by
  rcases h with h | h
  · exact h.2
  · omega
theorem RetM.long {T : TypeId} {w w' : World} {N : Nat} {e : Ending} (h : RetM T w N e w') (hN : capN ≤ N) : Ret0 w 16 e w' := by
  rcases h with h | h
  · omega
  · exact h.2
/-- a number alone -/
def RetN1 (T : TypeId) (w : World) (N : Nat) (e : Ending) (w' : World) : Prop :=
  ∃ q n c, e = .returned (.agg #[.slice q n c]) ∧ Ws T w' q n c N ∧ Below w.heap.size w w'
theorem Sl.front {α : Type} {enc : α → Value} {w : World} {p : Option Addr} {n c k : Nat} {xs : List α} (h : Sl enc w p n c xs) (hk : k ≤ n) : Sl enc w p k c (xs.take k) := by
  have h1 := h.len; have h2 := h.le; have h3 := h.max
  refine ⟨by rw [List.length_take]; omega, by omega, h3, fun e => ⟨by have := (h.nil e).1; omega, (h.nil e).2⟩, ?_⟩
  intro i hi
  have hi' : i < xs.length := by rw [List.length_take] at hi; omega
  obtain ⟨b', o', hp, hc⟩ := h.rs i hi'
  exact ⟨b', o', hp, by rw [hc]; simp⟩
/-- what is left of words without noughts behind -/
theorem made_end {T : TypeId} {w : World} {q : Option Addr} {n c k : Nat} {ws : List UInt64} (h : Sl W64 w q n c ws) (hT : Lies T w q) (hk : k ≤ n) (hn : NormW (ws.take k)) (hv : valW (ws.take k) = valW ws) : (k ≤ 512 → Ws T w q k c (valW ws) ∧ valW ws < capN) ∧ (512 < k → capN ≤ valW ws) := by
  have hl : (ws.take k).length = k := by rw [List.length_take, h.len]; omega
  constructor
  · intro h1
    have : Ws T w q k c (valW ws) := ⟨⟨_, h.front hk, hn, hv⟩, h1, hT⟩
    exact ⟨this, this.lt⟩
  · intro h1
    rw [← hv]
    exact powW_big hn (by omega)
theorem res_cell_tmp {P : Program} {fn : Func} {p u : Tmp} {ty : TypeId} (h : fn.results = #[.cell p ty, .tmp u]) (tmps : Array Value) (w : World) (g : Nat) (t : TypeId) (cs : Array Value) (fr : Nat × Nat) (d : TypeDesc) (v : Value)
    (hp : tmps.getD p undef = .pointer (some ⟨g, 0, none⟩)) (hg : w.heap[g]? = some (.cells cs t fr)) (hv : tmps.getD u undef = v)
    (hu : P.underlying ty = some d) (hd : (match d with | .struct _ | .array _ _ => true | _ => false) = true) (hi : (P.info? ty).map (·.size) = some cs.size) :
    (results fn tmps).run P w = .ok (.tuple #[.agg cs, v]) w := by
  have hp' : tmps[p]?.getD undef = .pointer (some ⟨g, 0, none⟩) := by simpa using hp
  have hv' : tmps[u]?.getD undef = v := by simpa using hv
  simp [results, h, hp', hv', asAddr, run_loadVar_row w g t ty cs fr d hg hu hd hi]
theorem hal_eq {w : World} {ob : Obj} {i : Nat} (h : i < w.heap.size) : (w.alloc ob).heap[i]? = w.heap[i]? := by rw [heap_alloc, if_neg (by omega)]
/-- a block of one cell, behind further blocks -/
structure One (w : World) (g : Nat) (v : Value) (T : TypeId) : Prop where
  box : w.heap[g]? = some (.cells #[v] T (0, 0))
  cell : w.cell? ⟨g, 0, none⟩ = some v
  free : w.frozen? ⟨g, 0, none⟩ = false
  acell : ∀ o, (w.alloc o).cell? ⟨g, 0, none⟩ = some v
  afree : ∀ o, (w.alloc o).frozen? ⟨g, 0, none⟩ = false
theorem One.of {w : World} {g : Nat} {v : Value} {T : TypeId} (h : w.heap[g]? = some (.cells #[v] T (0, 0))) : One w g v T :=
  ⟨h, cell_of_row _ _ 0 _ _ _ h, frozen_of_row _ _ _ _ _ h, fun _ => cell_of_row _ _ 0 _ _ _ (hal h), fun _ => frozen_of_row _ _ _ _ _ (hal h)⟩
theorem NormW_nil : NormW [] := by simp [NormW]
end Go.By
namespace Go.Proofs.YtbfmdfbnhakolaaDoor
open Go.RowKit Go.By
theorem info_nat : (Tryd.prog.info? 29).map (·.size) = some 1 := by kernel_rfl
theorem info_u64 : (Tryd.prog.info? 34).map (fun i => (i.zero, i.size, i.bytes)) = some (some (.int .u64 0), 1, 8) := by kernel_rfl
set_option maxRecDepth 100000 in
set_option maxHeartbeats 1000000 in
theorem made_any (q : Option Addr) (n c : Nat) (ws : List UInt64) (w : World) (h : Sl W64 w q n c ws) (hT : Lies 34 w q) :
    Calls Tryd.prog 33 #[.slice q n c] w (RetM 34 w (valW ws)) := by
  have hn := h.bound
  have hnc := h.le
  have hinfo := info_nat
  have HA : Hid (∀ o, Sl W64 (w.alloc o) q n c ws) := fun o => h.keep (al (Below.refl _ _) (Nat.le_refl _))
  have HT : Hid (∀ o, Lies 34 (w.alloc o) q) := fun o => hT.keep (al (Below.refl _ _) (Nat.le_refl _))
  have HT0 := Lib.hid hT; clear hT
  have HB : Hid (∀ o, Below w.heap.size w (w.alloc o)) := fun o => al (Below.refl _ _) (Nat.le_refl _)
  have HX : Hid (∀ o, (w.alloc o).heap[w.heap.size]? = some o) := fun o => hnew rfl
  have H := Lib.hid h; clear h
  go_enter Tryd.func33, Tryd.ntmps33
  go_wp2
  go_loop [4] (fun i => ∃ k : Nat, k ≤ n ∧ i = .int .i64 k ∧ Hid (valW (ws.take k) = valW ws)) (fun i => (intOf i).toNat)
  case atStart => exact ⟨n, Nat.le_refl _, rfl, by show valW (ws.take n) = valW ws; rw [← H.out.len, List.take_length]⟩
  case round =>
    obtain ⟨k, hk, rfl, hr⟩ := hrel
    by_cases hk0 : k = 0
    · subst hk0
      have HE : Hid (∀ o, Ws 34 (w.alloc o) q 0 c (valW ws)) := fun o => ((made_end (HA.out o) (HT.out o) (Nat.zero_le n) (by simpa using NormW_nil) hr.out).1 (by omega)).1
      have HL : Hid (valW ws < capN) := ((made_end H.out HT0.out (Nat.zero_le n) (by simpa using NormW_nil) hr.out).1 (by omega)).2
      cases q with
      | none =>
        obtain ⟨rfl, rfl⟩ := H.out.nil rfl
        go_wp2
        exact bodyPost_ret (res_cell_tmp rfl _ _ _ 29 #[.slice none 0 0] (0, 0) _ (.int .i64 0) rfl (HX.out _) rfl Tryd.underlying29 rfl hinfo) rfl (Or.inl ⟨HL.out, _, _, _, rfl, HE.out _, HB.out _⟩)
      | some ad =>
        go_wp2
        exact bodyPost_ret (res_cell_tmp rfl _ _ _ 29 #[.slice (some ad) 0 c] (0, 0) _ (.int .i64 0) rfl (HX.out _) rfl Tryd.underlying29 rfl hinfo) rfl (Or.inl ⟨HL.out, _, _, _, rfl, HE.out _, HB.out _⟩)
    · obtain ⟨j, rfl⟩ : ∃ j, k = j + 1 := ⟨k - 1, by omega⟩
      obtain ⟨b, o, x, rfl, hc, hx⟩ := H.out.at j (by omega)
      have hc' : ∀ ob, (w.alloc ob).cell? ⟨b, o + j, none⟩ = some (W64 x) := fun ob => (World.cell?_of_block (a := ⟨b, o + j, none⟩) (hal_eq (lt_of_cell hc))).trans hc
      clear hc hk0
      by_cases hx0 : x.toNat = 0
      · have HV : Hid (valW (ws.take j) = valW ws) := (valW_take_zero hx.out hx0).symm.trans hr.out
        rw [show W64 x = .int .u64 0 by show Value.int .u64 (x.toNat : Int) = _; rw [hx0]; rfl] at hc'
        clear hx0
        go_wp2
        go_round
        case rel => exact ⟨j, by omega, by go_num, HV⟩
        case measure => simp [intOf]
      · have HN : Hid (NormW (ws.take (j + 1))) := NormW_take hx.out hx0
        have hx1 : ((x.toNat : Int) == 0) = false := by simpa using hx0
        clear hx0
        by_cases h512 : j + 1 ≤ 512
        · have HE : Hid (∀ ob, Ws 34 (w.alloc ob) (some ⟨b, o, none⟩) (j + 1) c (valW ws)) := fun ob => ((made_end (HA.out ob) (HT.out ob) hk HN.out hr.out).1 h512).1
          have HL : Hid (valW ws < capN) := ((made_end H.out HT0.out hk HN.out hr.out).1 h512).2
          have h512' : ¬ ((512 : Int) < (j : Int) + 1) := by omega
          clear h512
          go_wp2
          exact bodyPost_ret (res_cell_tmp rfl _ _ _ 29 #[.slice (some ⟨b, o, none⟩) (j + 1) c] (0, 0) _ (.int .i64 0) rfl (HX.out _) rfl Tryd.underlying29 rfl hinfo) rfl (Or.inl ⟨HL.out, _, _, _, rfl, HE.out _, HB.out _⟩)
        · have HL : Hid (capN ≤ valW ws) := (made_end H.out HT0.out hk HN.out hr.out).2 (by omega)
          have h512' : (512 : Int) < (j : Int) + 1 := by omega
          clear h512
          go_wp2
          exact bodyPost_ret (res_cell_tmp rfl _ _ _ 29 #[.slice none 0 0] (0, 0) _ (.int .i64 16) rfl (HX.out _) rfl Tryd.underlying29 rfl hinfo) rfl (Or.inr ⟨HL.out, rfl, HB.out _⟩)
theorem valW_one (x : UInt64) : valW [x] = x.toNat := by show x.toNat + _ * 0 = _; omega
theorem small_cap (x : UInt64) : x.toNat < capN := Nat.lt_of_lt_of_le (by have := powW_lt [x]; rw [valW_one] at this; exact this) (powW_mono (show 1 ≤ 512 by decide))
set_option maxRecDepth 100000 in
set_option maxHeartbeats 1000000 in
theorem Of_any (x : UInt64) (w : World) : Calls Tryd.prog 10 #[W64 x] w (RetN1 34 w x.toNat) := by
  have hinfo := info_nat
  have hm : (1 : Nat) ≤ maxLen := by simp [maxLen]
  go_enter Tryd.func10, Tryd.ntmps10
  go_wp2_with fail
  refine Calls.mono (made_any _ 1 1 [x] _ (sl_block [x] 1 (hnew (by simp)) rfl rfl hm) (Lies.at (hnew (by simp)))) ?_
  rintro e w1 hr
  rw [valW_one] at hr
  obtain ⟨q, n, c, rfl, hws, hb⟩ := hr.ok (small_cap x)
  have hone : One w1 w.heap.size (.slice none 0 0) 29 := One.of ((hb.block _ (by simp <;> omega)).trans (hal (hnew rfl)))
  have HO : Hid (∀ o, (w1.alloc o).heap[w.heap.size]? = some (.cells #[.slice none 0 0] 29 (0, 0))) := fun o => hal hone.box
  obtain ⟨_, a1, a2, a3, a4⟩ := hone
  have hsz := hb.size
  simp at hsz
  have HB : Hid (Below w.heap.size w w1) := bl (al (al (Below.refl _ _) (Nat.le_refl _)) (by simp)) hb (by simp <;> omega)
  have HF : Hid (∀ o v, Below w.heap.size w ((w1.alloc o).setCell ⟨w.heap.size, 0, none⟩ v) ∧ Below w1.heap.size w1 (w1.alloc o)) := fun o v => ⟨(al HB.out (by omega)).setCell (Nat.le_refl _) _, al (Below.refl _ _) (Nat.le_refl _)⟩
  have HW : Hid (∀ o v, Ws 34 ((w1.alloc o).setCell ⟨w.heap.size, 0, none⟩ v) q n c x.toNat) := fun o v => (hws.keep (al (Below.refl _ _) (Nat.le_refl _))).set (HO.out o) (by decide)
  clear hr hws hb hsz
  go_wp2
  exact bodyPost_ret (results_cell_row rfl _ _ _ 29 #[.slice q n c] (0, 0) _ rfl (hss (HO.out _)) Tryd.underlying29 rfl hinfo) rfl ⟨_, _, _, rfl, HW.out _ _, (HF.out _ _).1⟩
end Go.Proofs.YtbfmdfbnhakolaaDoor
