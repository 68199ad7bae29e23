/- Chapter 5: mix.New, Row; a seed as eight bytes, and of eight bytes. The contracts of the plan's functions: needed, fits, Check, Of; and of the reference's Needs and Check. The contracts of slices.Grow and Concat at bytes; of the whole of the symbols. The contracts of slices.Grow and Concat at bytes; of the whole of the symbols (G0 holds them). Chapter 13: head.Check, Bytes. Chapter 14: row.Width, fits, Vector, Write. Chapter 14: row.Explicit, Seeded, Read. Chapter 15: packet.Length, fits (of what fits). Chapter 15: packet.Write (of what fits). Chapter 13: head.Read. Arrays that the call owns, written in place; lists of parcels: cells of two. The contracts of the reference's functions of layer 2: Dot, Scale. The contract of the reference's combination. The contract of the reference's Same of layer 7. The contracts of bytes.Clone, of Same of lists of rows, of slices.Equal at ints, of Harms. Chapter 15: packet.Read. Chapter 15: packet.Read of what is one. Chapter 15: packet.Read whole; packet.Equation (of what fits). Chapter 18: gate.New (of a plan that may be); the counts in memory. -/
import Derived.Test.YtfbmdlfkipipfaaGreatDoorZc2
import Derived.BigQuiet
import Derived.Lib.AppendZeros
import Derived.Laws.IdiomCopy
import Derived.Maps.RangeWalk
import Derived.Maps.Own
import Derived.Maps.OwnSet
import Derived.Maps.OwnOps
import Derived.Maps.Views
import Derived.Maps.Ext
namespace Go.By
open Go.RowKit
/-- a seed as eight bytes, the highest first -/
def put8At (s i : Nat) : UInt8 := UInt8.ofNat (s / 2 ^ (56 - 8 * i))
def put8 (s : Nat) : List UInt8 := (List.range 8).map (put8At s)
theorem put8_len (s : Nat) : (put8 s).length = 8 := by simp [put8]
def get8 (xs : List UInt8) : Nat := xs.foldl (fun a b => a * 256 + b.toNat) 0
theorem get8_take {xs : List UInt8} {k : Nat} {x : UInt8} (h : xs[k]? = some x) : get8 (xs.take (k + 1)) = get8 (xs.take k) * 256 + x.toNat := by
  obtain ⟨hk, h⟩ := List.getElem?_eq_some_iff.1 h
  unfold get8
  rw [foldl_take_succ _ _ _ _ hk, h]
theorem get8_lt (xs : List UInt8) (k : Nat) : get8 (xs.take k) < 256 ^ k := by
  induction k with
  | zero => simp [get8]
  | succ k ih =>
    rcases Nat.lt_or_ge k xs.length with h | h
    · have e := get8_take (List.getElem?_eq_getElem h)
      have := xs[k].toNat_lt
      rw [e, Nat.pow_succ]; omega
    · rw [List.take_of_length_le (by omega)]
      rw [List.take_of_length_le (by omega)] at ih
      rw [Nat.pow_succ]; omega
theorem bits_or64 {a b : Nat} (ha : a < 2 ^ 64) (hb : b < 2 ^ 64) : bits .or .u64 (a : Int) (b : Int) = ((a ||| b : Nat) : Int) :=
  (bits_nat .u64 64 (by decide) (fun n h1 h2 => by rw [IntKind.wrap_u64]; omega) a b ha hb).2
theorem put8_val (s i : Nat) (hi : i < 8) : ((s : Int) / (2 ^ (56 - 8 * i) : Int)) % 256 = ((put8At s i).toNat : Int) := by
  unfold put8At
  rw [UInt8.toNat_ofNat', show (2 : Int) ^ (56 - 8 * i) = ((2 ^ (56 - 8 * i) : Nat) : Int) by rw [Int.natCast_pow]; rfl]
  omega
end Go.By
namespace Go.Proofs.YtfbmdlfkipipfaaGreatDoor
open Go.RowKit Go.By
set_option maxRecDepth 100000 in
set_option maxHeartbeats 1000000 in
theorem MRow_anyF (s n : Nat) (hn : n ≤ 65536) (w : World) :
    Calls Tryz.prog 79 #[.int .u64 (s : Nat), .int .i64 (n : Nat)] w (SRetF 5 w (mixRow s n) 0) := by
  have HN := Lib.hid hn
  have Hk : ∀ w : World, Calls Tryz.prog 131 #[.int .u64 (s : Nat)] w fun e w' => e = .returned (.pointer (some ⟨w.heap.size, 0, none⟩)) ∧ w' = w.alloc (.cells #[.int .u64 (s : Nat)] 275 (0, 0)) := by
    intro w
    go_enter Tryz.func131, Tryz.ntmps131
    go_wp2
    go_ret
    exact ⟨rfl, rfl⟩
  have HK := Lib.hid Hk
  clear Hk hn
  go_enter Tryz.func79, Tryz.ntmps79
  go_wp2_with fail
  refine Calls.mono (HK.out w) ?_
  rintro e w1 ⟨rfl, rfl⟩
  go_wp2_with fail
  refine Calls.mono (MBytes_any w.heap.size s n _ (hnew rfl) HN.out) ?_
  rintro e w2 ⟨G, rfl, hG, h2, hb⟩
  have HB := Lib.hid ((al (Below.refl w.heap.size w) (Nat.le_refl _)).trans (hb _ (Nat.le_refl _)))
  have H2 := Lib.hid h2
  have HG : Hid (w.heap.size ≤ G) := by have := hG; show _ ≤ _; simp at this; omega
  clear hb hG h2
  go_wp2
  go_ret2
  exact ⟨_, _, _, rfl, Fresh.block H2.out (mixRow_len s n) (by have := HN.out; unfold maxLen; omega) HG.out, HB.out⟩
set_option maxRecDepth 100000 in
set_option maxHeartbeats 2000000 in
theorem MPut_any (s : Nat) (w : World) :
    Calls Tryz.prog 178 #[.int .u64 (s : Nat)] w (SRet1 w (put8 s)) := by
  obtain ⟨i0, hi, hz0, hz1, hz2⟩ := info_parts info_u8
  go_enter Tryz.func178, Tryz.ntmps178
  go_wp2_with (at_make; refine wpList_make_bytesC _ rfl _ _ 22 rfl 5 i0 Tryz.underlying22 hi hz0 hz1 hz2 8 rfl rfl (by decide) ?_)
  intro w1 h1 hb1
  obtain ⟨G, hG⟩ : ∃ G, G = w.heap.size := ⟨_, rfl⟩
  rw [← hG] at h1 ⊢
  have HG : Hid (w.heap.size ≤ G) := by rw [hG]; exact Nat.le_refl _
  have H1 : Hid (w1.heap[G]? = some (.cells ((prog (put8 s) (List.replicate 8 (0 : UInt8)) 0).map B8).toArray 5 (0, 0))) := by rw [prog_zero]; exact h1
  have B1 := Lib.hid hb1
  clear h1 hb1 hG
  go_wp2
  go_loopw [6] (fun v wr => ∃ i : Nat, v = .int .i64 (i : Nat) ∧ i ≤ 8 ∧ Hid (wr.heap[G]? = some (.cells ((prog (put8 s) (List.replicate 8 (0 : UInt8)) i).map B8).toArray 5 (0, 0))) ∧ Hid (Below w.heap.size w wr)) (fun v _ => 8 - (intOf v).toNat)
  case atStart => exact ⟨0, rfl, by omega, H1.out, B1.out⟩
  case round =>
    clear H1 B1
    obtain ⟨i, rfl, hi8, I1, I2⟩ := hrel
    by_cases hl : i < 8
    · have cG : wr.cell? ⟨G, i, none⟩ = some (B8 0) := by
        rw [cell_of_row _ _ i _ _ _ I1.out]
        have := prog_at (put8 s) (List.replicate 8 (0 : UInt8)) i 8 (put8_len s) (by simp) hl
        rw [List.getElem?_replicate, if_pos hl] at this
        simp only [List.getElem?_toArray, List.getElem?_map, this, Option.map_some]
      have zG := frozen_of_row _ _ i _ _ I1.out
      have hv := put8_val s i hl
      have I4 := Lib.hid (set_toArray (v := put8At s i) (j := i) I1.out)
      have I6 := Lib.hid (I2.out.setCell (p := ⟨G, i, none⟩) HG.out (B8 (put8At s i)))
      clear I1 I2
      go_wp2
      go_roundw
      case rel =>
        refine ⟨i + 1, by go_num, by omega, ?_, I6.out⟩
        rw [prog_succ _ _ i 8 (put8_len s) (by simp) hl (put8At s i) (by simp [put8, hl])] at I4
        exact I4.out
      case measure => simp [intOf]; omega
    · have hiM : i = 8 := by omega
      subst hiM
      clear hl hi8
      rw [prog_full _ _ 8 (put8_len s) (by simp)] at I1
      go_wp2
      go_ret
      exact ⟨_, _, _, rfl, sl_block (put8 s) 8 I1.out rfl (put8_len s) (by decide), I2.out⟩
theorem get8_or {a x : Nat} (ha : a < 72057594037927936) (hx : x < 256) : bits .or .u64 (((a * 256 : Nat) : Int)) (x : Int) = ((a * 256 + x : Nat) : Int) := by
  rw [bits_or64 (by omega) (by omega), or_add (k := 8) (by omega) (by omega)]
set_option maxRecDepth 100000 in
set_option maxHeartbeats 2000000 in
theorem MSeed_any (p : Option Addr) (n c : Nat) (xs : List UInt8) (w : World) (h : Sl B8 w p n c xs) (hn : n = 8) :
    Calls Tryz.prog 197 #[.slice p n c] w fun e w' => e = .returned (.tuple #[.int .u64 (get8 xs : Nat), .int .i64 0]) ∧ Below w.heap.size w w' := by
  subst hn
  have HL : Hid (get8 (xs.take 8) = get8 xs) := by rw [List.take_of_length_le (by rw [h.len]; omega)]; rfl
  obtain ⟨T, hT⟩ : ∃ T : Nat → Nat, T = fun k => get8 (xs.take k) := ⟨_, rfl⟩
  have HT1 : Hid (∀ k x, xs[k]? = some x → T (k + 1) = T k * 256 + x.toNat) := fun k x hx => by rw [hT]; exact get8_take hx
  have HT2 : Hid (∀ k, k < 8 → T k < 72057594037927936) := fun k hk => by rw [hT]; exact Nat.lt_of_lt_of_le (get8_lt xs k) (Nat.le_trans (Nat.pow_le_pow_right (by decide) (show k ≤ 7 by omega)) (by decide))
  have HT0 : Hid (T 0 = 0) := by rw [hT]; rfl
  have HT8 : Hid (T 8 = get8 xs) := by rw [hT]; exact HL.out
  have H := Lib.hid h
  clear hT h HL
  generalize get8 xs = V at *
  go_enter Tryz.func197, Tryz.ntmps197
  go_wp2
  go_loop [4, 12] (fun v i => ∃ k : Nat, k ≤ 8 ∧ i = .int .i64 (k : Nat) ∧ v = .int .u64 (T k : Nat)) (fun _ i => 8 - (intOf i).toNat)
  case atStart => exact ⟨0, by omega, rfl, by rw [HT0.out]; rfl⟩
  case round =>
    obtain ⟨k, hk, rfl, rfl⟩ := hrel
    by_cases hl : k < 8
    · obtain ⟨b, o, x, rfl, hc, hx⟩ := H.out.at k hl
      have t2 := HT2.out k hl
      have hx8 := x.toNat_lt
      have e1 : IntKind.u64.wrap ((T k : Int) * 256) = ((T k * 256 : Nat) : Int) := by rw [IntKind.wrap_u64]; omega
      have e3 : IntKind.u64.wrap (x.toNat : Int) = (x.toNat : Int) := by rw [IntKind.wrap_u64]; omega
      have e2 := get8_or t2 hx8
      rw [← HT1.out k x hx.out] at e2
      clear t2 hx hx8
      rw [Int.natCast_mul] at e2
      have HE := Lib.hid e2
      clear e2
      go_wp2
      go_round
      case rel => exact ⟨k + 1, by omega, by go_num, congrArg _ HE.out⟩
      case measure => simp [intOf]; omega
    · have hk8 : k = 8 := by omega
      subst hk8
      rw [HT8.out]
      clear hl hk
      go_wp2
      go_ret2
      exact ⟨rfl, Below.refl _ _⟩
end Go.Proofs.YtfbmdlfkipipfaaGreatDoor
namespace Go.Proofs.YtfbmdlfkipipfaaGreatDoor
open Go.RowKit Go.By
/-- how many symbols are needed -/
def needS (l s : Int) : Int := if l = 0 then 1 else (l - 1) / s + 1
def fitS (l s : Int) : Int := if l < 0 then 2 else if s < 1 ∨ 65535 < s then 4 else if 4096 < needS l s then 5 else 0
def checkS (l s n : Int) : Int := if fitS l s = 0 then (if n = needS l s then 0 else 14) else fitS l s
def ofS (l s : Int) (d : Int) : Value := if fitS l s = 0 then .tuple #[.agg #[.int .i64 l, .int .i64 s, .int .i64 (needS l s), .int .u32 d], .int .i64 0] else .tuple #[.agg #[.int .i64 0, .int .i64 0, .int .i64 0, .int .u32 0], .int .i64 (fitS l s)]
theorem needS_pos {l s : Int} (hl : 0 ≤ l) (hs : 1 ≤ s) : 1 ≤ needS l s ∧ (l ≠ 0 → needS l s ≤ l) := by
  unfold needS
  split
  · omega
  · rename_i h0
    have h1 : 0 ≤ (l - 1) / s := Int.ediv_nonneg (by omega) (by omega)
    have h2 : (l - 1) / s ≤ l - 1 := Int.ediv_le_self _ (by omega)
    omega
theorem needS_spec {l s : Int} (hl : 0 < l) (hs : 1 ≤ s) : (needS l s - 1) * s < l ∧ l ≤ needS l s * s := by
  unfold needS
  rw [if_neg (by omega)]
  have h := Int.emod_add_mul_ediv (l - 1) s
  have h1 := Int.emod_nonneg (l - 1) (show s ≠ 0 by omega)
  have h2 := Int.emod_lt_of_pos (l - 1) (show 0 < s by omega)
  generalize (l - 1) / s = q at *
  have e1 : (q + 1 - 1) * s = s * q := by rw [Int.mul_comm]; congr 1; omega
  have e2 : (q + 1) * s = s * q + s := by rw [Int.add_mul, Int.mul_comm]; omega
  omega
set_option maxHeartbeats 400000 in
theorem needed_any (l s : Int) (w : World) (hl : 0 ≤ l) (hl2 : l ≤ 9223372036854775807) (hs : 1 ≤ s) :
    Calls Tryz.prog 68 #[.int .i64 l, .int .i64 s] w fun e w' => e = .returned (.int .i64 (needS l s)) ∧ w = w' := by
  by_cases h0 : l = 0
  · subst h0
    go_enter Tryz.func68, Tryz.ntmps68
    go_wp2
    go_ret
    exact ⟨rfl, rfl⟩
  · have hz : (l == 0) = false := by simpa using h0
    have hs0 : (s == 0) = false := by simp; omega
    obtain ⟨hn, hn'⟩ := needS_pos hl hs
    have hn2 := hn' h0
    clear hn'
    have e0 : needS l s = (l - 1) / s + 1 := if_neg h0
    have hw : wrap64 ((l - 1) / s + 1) = needS l s := by
      rw [← e0]; unfold wrap64
      generalize needS l s = y at *
      clear e0
      omega
    clear e0
    go_enter Tryz.func68, Tryz.ntmps68
    go_wp2
    go_ret
    exact ⟨by rw [hw]; rfl, rfl⟩
set_option maxHeartbeats 400000 in
theorem fits_any (l s : Int) (w : World) (hl2 : l ≤ 9223372036854775807) :
    Calls Tryz.prog 67 #[.int .i64 l, .int .i64 s] w fun e w' => e = .returned (.int .i64 (fitS l s)) ∧ w = w' := by
  by_cases h0 : l < 0
  · have HR : Hid (fitS l s = 2) := if_pos h0
    go_enter Tryz.func67, Tryz.ntmps67
    go_wp2
    go_ret
    exact ⟨by rw [HR.out]; rfl, rfl⟩
  · by_cases h1 : s < 1
    · have HR : Hid (fitS l s = 4) := by unfold fitS; rw [Hid, if_neg h0, if_pos (Or.inl h1)]
      go_enter Tryz.func67, Tryz.ntmps67
      go_wp2
      go_ret
      exact ⟨by rw [HR.out]; rfl, rfl⟩
    · by_cases h2 : 65535 < s
      · have HR : Hid (fitS l s = 4) := by unfold fitS; rw [Hid, if_neg h0, if_pos (Or.inr h2)]
        go_enter Tryz.func67, Tryz.ntmps67
        go_wp2
        go_ret
        exact ⟨by rw [HR.out]; rfl, rfl⟩
      · have HN := Lib.hid (fun w => needed_any l s w (by omega) hl2 (by omega))
        by_cases h3 : 4096 < needS l s
        · have HR : Hid (fitS l s = 5) := by unfold fitS; rw [Hid, if_neg h0, if_neg (by omega), if_pos h3]
          go_enter Tryz.func67, Tryz.ntmps67
          go_wp2_with fail
          refine (HN.out _).mono ?_; rintro e w' ⟨rfl, rfl⟩
          go_wp2
          go_ret
          exact ⟨by rw [HR.out]; rfl, rfl⟩
        · have HR : Hid (fitS l s = 0) := by unfold fitS; rw [Hid, if_neg h0, if_neg (by omega), if_neg h3]
          go_enter Tryz.func67, Tryz.ntmps67
          go_wp2_with fail
          refine (HN.out _).mono ?_; rintro e w' ⟨rfl, rfl⟩
          go_wp2
          go_ret
          exact ⟨by rw [HR.out]; rfl, rfl⟩
theorem fitS_cases (l s : Int) : (fitS l s ≠ 0 ∧ (fitS l s = 2 ∨ fitS l s = 4 ∨ fitS l s = 5)) ∨ (fitS l s = 0 ∧ 0 ≤ l ∧ 1 ≤ s ∧ s ≤ 65535 ∧ needS l s ≤ 4096) := by
  unfold fitS
  split
  · simp
  · split
    · simp
    · split
      · simp
      · right; omega
theorem cell4 (w : World) (a b c d : Value) (T : TypeId) : ∀ i : Nat, (w.alloc (.cells #[a, b, c, d] T)).cell? ⟨w.heap.size, i, none⟩ = #[a, b, c, d][i]? := fun i => cell_of_row _ _ _ _ _ _ (hnew rfl)
set_option maxRecDepth 100000 in
set_option maxHeartbeats 1000000 in
theorem Check_any (l s n d : Int) (w : World) (hl2 : l ≤ 9223372036854775807) :
    Calls Tryz.prog 73 #[.agg #[.int .i64 l, .int .i64 s, .int .i64 n, .int .u32 d]] w fun e w' => e = .returned (.int .i64 (checkS l s n)) ∧ Below w.heap.size w w' := by
  have HF := Lib.hid (fun w => fits_any l s w hl2)
  rcases fitS_cases l s with ⟨h0, h1⟩ | ⟨h0, h1, h2, h3, h4⟩
  · have HR : Hid (checkS l s n = fitS l s) := if_neg h0
    have hb : (fitS l s != 0) = true := by simpa using h0
    clear h1
    generalize fitS l s = f at *
    clear h0
    go_enter Tryz.func73, Tryz.ntmps73
    go_wp2_with fail
    refine (HF.out _).mono ?_; rintro e w' ⟨rfl, rfl⟩
    go_wp2
    go_ret
    exact ⟨by rw [HR.out]; rfl, al (Below.refl _ _) (Nat.le_refl _)⟩
  · rw [h0] at HF
    have HN := Lib.hid (fun w => needed_any l s w h1 hl2 h2)
    have HR : Hid (checkS l s n = if n = needS l s then 0 else 14) := by unfold checkS; rw [Hid, if_pos h0]
    generalize needS l s = k at *
    by_cases e : n = k
    · subst e
      have hb : (n != n) = false := by simp
      rw [if_pos rfl] at HR
      clear h0 h1 h2 h3 h4
      go_enter Tryz.func73, Tryz.ntmps73
      go_wp2_with fail
      refine (HF.out _).mono ?_; rintro e w' ⟨rfl, rfl⟩
      go_wp2
      have C0 := cell4 w (.int .i64 l) (.int .i64 s) (.int .i64 n) (.int .u32 d) 27 0
      have C1 := cell4 w (.int .i64 l) (.int .i64 s) (.int .i64 n) (.int .u32 d) 27 1
      have C2 := cell4 w (.int .i64 l) (.int .i64 s) (.int .i64 n) (.int .u32 d) 27 2
      go_quiet ((go_at_call 68; exact Calls.quiet_of_same ((HN.out _).mono fun e w' hh => ⟨hh.1, hh.2.symm⟩)))
      go_wp2
      go_ret
      exact ⟨by rw [HR.out]; rfl, bdn (al (Below.refl _ _) (Nat.le_refl _))⟩
    · have hb : (n != k) = true := by simpa using e
      rw [if_neg e] at HR
      clear h0 h1 h2 h3 h4 e
      go_enter Tryz.func73, Tryz.ntmps73
      go_wp2_with fail
      refine (HF.out _).mono ?_; rintro e w' ⟨rfl, rfl⟩
      go_wp2
      have C0 := cell4 w (.int .i64 l) (.int .i64 s) (.int .i64 n) (.int .u32 d) 27 0
      have C1 := cell4 w (.int .i64 l) (.int .i64 s) (.int .i64 n) (.int .u32 d) 27 1
      have C2 := cell4 w (.int .i64 l) (.int .i64 s) (.int .i64 n) (.int .u32 d) 27 2
      go_quiet ((go_at_call 68; exact Calls.quiet_of_same ((HN.out _).mono fun e w' hh => ⟨hh.1, hh.2.symm⟩)))
      go_wp2
      go_ret
      exact ⟨by rw [HR.out]; rfl, bdn (al (Below.refl _ _) (Nat.le_refl _))⟩
theorem results_ct {P : Program} {fn : Func} {p u : Tmp} {ty : TypeId} (h : fn.results = #[.cell p ty, .tmp u]) (tmps : Array Value) (w : World) (g : Nat) (t : TypeId) (cs : Array Value) (fr : Nat × Nat) (d : TypeDesc) (v : Value)
    (hp : tmps.getD p undef = .pointer (some ⟨g, 0, none⟩)) (hg : w.heap[g]? = some (.cells cs t fr)) (hv : tmps.getD u undef = v)
    (hu : P.underlying ty = some d) (hd : (match d with | .struct _ | .array _ _ => true | _ => false) = true) (hi : (P.info? ty).map (·.size) = some cs.size) :
    (results fn tmps).run P w = .ok (.tuple #[.agg cs, v]) w := by
  have hp' : tmps[p]?.getD undef = .pointer (some ⟨g, 0, none⟩) := by simpa using hp
  have hv' : tmps[u]?.getD undef = v := by simpa using hv
  simp [results, h, hp', hv', asAddr, run_loadVar_row w g t ty cs fr d hg hu hd hi]
theorem info_plan : (Tryz.prog.info? 27).map (·.size) = some 4 := by kernel_rfl
set_option maxRecDepth 100000 in
set_option maxHeartbeats 1000000 in
theorem POf_any (l s d : Int) (w : World) (hl2 : l ≤ 9223372036854775807) :
    Calls Tryz.prog 24 #[.int .i64 l, .int .i64 s, .int .u32 d] w fun e w' => e = .returned (ofS l s d) ∧ Below w.heap.size w w' := by
  have HF := Lib.hid (fun w => fits_any l s w hl2)
  rcases fitS_cases l s with ⟨h0, h1⟩ | ⟨h0, h1, h2, h3, h4⟩
  · have HR : Hid (ofS l s d = .tuple #[.agg #[.int .i64 0, .int .i64 0, .int .i64 0, .int .u32 0], .int .i64 (fitS l s)]) := if_neg h0
    have hb : (fitS l s != 0) = true := by simpa using h0
    clear h1
    generalize fitS l s = f at *
    clear h0
    have hi := info_plan
    go_enter Tryz.func24, Tryz.ntmps24
    go_wp2_with fail
    refine (HF.out _).mono ?_; rintro e w' ⟨rfl, rfl⟩
    go_wp2
    refine bodyPost_ret (results_ct rfl _ _ _ 27 #[.int .i64 0, .int .i64 0, .int .i64 0, .int .u32 0] (0, 0) _ (.int .i64 f) rfl (hnew rfl) rfl Tryz.underlying27 rfl hi) rfl ⟨by rw [HR.out], al (Below.refl _ _) (Nat.le_refl _)⟩
  · rw [h0] at HF
    have HN := Lib.hid (fun w => needed_any l s w h1 hl2 h2)
    have HR : Hid (ofS l s d = .tuple #[.agg #[.int .i64 l, .int .i64 s, .int .i64 (needS l s), .int .u32 d], .int .i64 0]) := if_pos h0
    generalize needS l s = k at *
    clear h0 h1 h2 h3 h4
    have hi := info_plan
    go_enter Tryz.func24, Tryz.ntmps24
    go_wp2_with fail
    refine (HF.out _).mono ?_; rintro e w' ⟨rfl, rfl⟩
    go_wp2_with fail
    refine (HN.out _).mono ?_; rintro e w' ⟨rfl, rfl⟩
    go_wp2
    refine bodyPost_ret (results_ct rfl _ _ _ 27 #[.int .i64 l, .int .i64 s, .int .i64 k, .int .u32 d] (0, 0) _ (.int .i64 0) rfl (hnew rfl) rfl Tryz.underlying27 rfl hi) rfl ⟨by rw [HR.out], al (Below.refl _ _) (Nat.le_refl _)⟩
end Go.Proofs.YtfbmdlfkipipfaaGreatDoor
namespace Go.Proofs.YtfbmdlfkipipfaaGreatDoor
open Go.RowKit Go.By
set_option maxRecDepth 100000 in
set_option maxHeartbeats 1000000 in
theorem GrowNil_any (N : Nat) (w : World) (hN : Room N) :
    Calls Tryz.prog 134 #[.slice none 0 0, .int .i64 N] w fun e w' => ∃ q c', e = .returned (.slice q 0 c') ∧ w'.ownsRow w.heap.size 5 1 (.slice q 0 c') 0 [] ∧ Below w.heap.size w w' := by
  obtain ⟨i0, hi, hz0, hz1, hz2⟩ := info_parts info_u8
  by_cases h0 : N = 0
  · subst h0
    go_enter Tryz.func134, Tryz.ntmps134
    go_wp2
    go_ret
    exact ⟨none, 0, rfl, World.ownsRow_nil _ _ _ _, Below.refl _ _⟩
  · have hp : 0 < N := by omega
    unfold Room at hN
    have hr := fun ty => Lib.run_append_nil_zeros (P := Tryz.prog) w 22 3 ty 5 i0 (.int .u8 0) .i64 .i64 Tryz.underlying22 Tryz.underlying3 hi hz0 N hp (by rw [hz1]; omega) (by omega) (by rw [hz2]; omega)
    have g1 := grownCap_ge w N 0 5
    have g2 := grownCap_le_maxLen w N 0 5 (by unfold maxLen; omega)
    generalize grownCap w N 0 5 = G at *
    have G2 := Lib.hid g2
    unfold maxLen at g2
    have HR := Lib.hid hr; clear hr
    clear h0
    go_enter Tryz.func134, Tryz.ntmps134
    go_wp2_with (at_builtin; refine Lib.wpList_append_run _ rfl _ _ _ _ rfl _ _ rfl rfl _ _ (HR.out _) ?_)
    go_ret
    refine ⟨_, G, rfl, ⟨rfl, .inr ⟨w.heap.size, G, _, rfl, Nat.le_refl _, hnew rfl, Nat.zero_le _, G2.out, ?_, by simp⟩⟩, al (w1 := w.drew) ⟨rfl, rfl, rfl, Nat.le_refl _, fun _ _ => rfl⟩ (Nat.le_refl _)⟩
    simp [size_zeroCells, Value.cells]; omega
theorem flat_take {xss : List (List UInt8)} {k : Nat} {xs : List UInt8} (h : xss[k]? = some xs) : (xss.take (k + 1)).flatten = (xss.take k).flatten ++ xs := by
  obtain ⟨hk, h⟩ := List.getElem?_eq_some_iff.1 h
  rw [List.take_succ_eq_append_getElem hk, h, List.flatten_append]; simp
theorem flat_le (xss : List (List UInt8)) (k : Nat) : (xss.take k).flatten.length ≤ xss.flatten.length := by
  have : xss.flatten = (xss.take k).flatten ++ (xss.drop k).flatten := by rw [← List.flatten_append, List.take_append_drop]
  rw [this]; simp
set_option maxRecDepth 100000 in
set_option maxHeartbeats 1000000 in
theorem Concat_any (p : Option Addr) (n c : Nat) (xss : List (List UInt8)) (w : World) (h : Sl2 w p n c xss) (hr : Room xss.flatten.length) :
    Calls Tryz.prog 82 #[.slice p n c] w (RetB1 5 w xss.flatten) := by
  obtain ⟨i0, hi, hz0, hz1, hz2⟩ := info_parts info_u8
  have hn := h.bound
  obtain ⟨F, hF⟩ : ∃ F : Nat → List UInt8, F = fun k => (xss.take k).flatten := ⟨_, rfl⟩
  have HF : Hid (∀ k xs, xss[k]? = some xs → F (k + 1) = F k ++ xs) := fun k xs hx => by subst hF; exact flat_take hx
  have HM : Hid (∀ k, (F k).length ≤ 140737488355328) := fun k => by subst hF; exact Nat.le_trans (flat_le xss k) hr
  have HN : Hid (F n = xss.flatten) := by subst hF; show (xss.take n).flatten = _; rw [List.take_of_length_le (by rw [h.len]; omega)]
  have H0 : Hid (F 0 = []) := by subst hF; rfl
  obtain ⟨T, hT⟩ : ∃ T : Nat → Nat, T = fun k => (F k).length := ⟨_, rfl⟩
  have HL : Hid (∀ k, (F k).length = T k) := fun k => by subst hT; rfl
  have HT0 : T 0 = 0 := by rw [← HL.out, H0.out]; rfl
  have H := Lib.hid h
  have HTn : Hid (∀ k, T k ≤ 140737488355328) := fun k => by rw [← HL.out]; exact HM.out k
  clear h hr hF hT
  go_enter Tryz.func82, Tryz.ntmps82
  go_wp2
  go_loop [3, 11] (fun s i => ∃ k : Nat, k ≤ n ∧ i = .int .i64 k ∧ s = .int .i64 (T k)) (fun _ i => n - (intOf i).toNat)
  case atStart => exact ⟨0, Nat.zero_le _, rfl, by rw [HT0]; rfl⟩
  case round =>
    obtain ⟨k, hk, rfl, rfl⟩ := hrel
    have t1 := HTn.out k
    by_cases hlt : k < n
    · obtain ⟨b, o, q, m, c', xs, rfl, hc, hs, hx⟩ := H.out.at k hlt
      have e1 : T (k + 1) = T k + m := by rw [← HL.out, HF.out k xs hx.out, List.length_append, HL.out, hs.len]
      have t2 := HTn.out (k + 1)
      have hm := hs.bound
      have t3 : T k + m ≤ 140737488355328 := by omega
      have E1 := Lib.hid e1
      clear e1 t2 hs
      go_wp2
      go_round
      case rel => exact ⟨k + 1, by omega, by go_num, by rw [E1.out]; go_num⟩
      case measure => simp [intOf]; omega
    · have hkn : k = n := by omega
      subst hkn
      go_wp2_with fail
      refine (GrowNil_any (T k) w t1).mono ?_; rintro e w1 ⟨q0, c0, rfl, ho, hb⟩
      have HO := Lib.hid ho; clear ho
      go_wp2
      go_loopw [6, 27] (fun v i wr => ∃ (j : Nat) (q : Option Addr) (c' : Nat), j ≤ k ∧ i = .int .i64 j ∧ v = .slice q (T j) c' ∧ Hid (wr.ownsRow w.heap.size 5 1 (.slice q (T j) c') (T j) ((F j).map B8)) ∧ Below w.heap.size w wr) (fun _ i _ => k - (intOf i).toNat)
      case atStart => exact ⟨0, q0, c0, Nat.zero_le _, rfl, by rw [HT0], by rw [HT0, H0.out]; exact HO.out, hb⟩
      case round =>
        obtain ⟨j, q, c', hj, rfl, rfl, hov, hbv⟩ := hrel
        have s1 := HTn.out j
        by_cases hjk : j < k
        · obtain ⟨b, o, q', m, c'', xs, rfl, hc, hs, hx⟩ := H.out.at j hjk
          have hcw := (hbv.cell (p := ⟨b, o + j, none⟩) (lt_of_cell hc)).trans hc
          have e1 : T (j + 1) = T j + m := by rw [← HL.out, HF.out j xs hx.out, List.length_append, HL.out, hs.len]
          have e2 : F (j + 1) = F j ++ xs := HF.out j xs hx.out
          have t2 := HTn.out (j + 1)
          have hm := hs.bound
          have t3 : T j + m ≤ 140737488355328 := by omega
          have HS := Lib.hid hs
          have E1 := Lib.hid e1; have E2 := Lib.hid e2
          clear e1 e2 t2 hs
          go_wp2_with (at_builtin; refine wpList_append_rs _ rfl _ _ 22 rfl w.heap.size 5 i0 (.int .u8 0) 1 Tryz.underlying22 hi hz0 hz1 hz2 rfl _ (T j) _ rfl hov.out B8 _ _ _ xs (fun _ _ => rfl) rfl (HS.out.keep hbv) ?c1 ?c2 ?c3 ?_)
          case c1 => unfold maxLen; omega
          case c2 => omega
          case c3 => exact hbv.size
          intro v' w' ho' hg'
          obtain ⟨q2, c2, rfl⟩ := owns_shape ho'
          have hb' : Below w.heap.size w w' := hbv.grown hg' hbv.size (fun r hr' => (hov.out.lt r hr').1)
          clear hg'
          go_wp2
          go_roundw
          case rel => exact ⟨j + 1, q2, c2, by omega, by go_num, by rw [E1.out], by rw [E1.out, E2.out, List.map_append]; exact ho', hb'⟩
          case measure => simp [intOf]; omega
        · have hjk' : j = k := by omega
          subst hjk'
          go_wp2
          go_ret
          refine ⟨q, T j, c', ?_, rfl, ?_, hbv⟩
          · rw [← HN.out]; exact HL.out j
          · rw [← HN.out]; exact hov.out
end Go.Proofs.YtfbmdlfkipipfaaGreatDoor
namespace Go.Proofs.YtfbmdlfkipipfaaGreatDoor
end Go.Proofs.YtfbmdlfkipipfaaGreatDoor
namespace Go.Proofs.YtfbmdlfkipipfaaGreatDoor
open Go.RowKit Go.By
/-- a head as a value -/
abbrev HVal (m : UInt8) (o n : Nat) : Value := .agg #[B8 m, .int .u32 (o : Nat), .int .u32 (n : Nat)]
/-- Check's code of a mode -/
def modeC (m : UInt8) : Int := if m = 0 ∨ m = 1 then 0 else 8
theorem modeC_range (m : UInt8) : modeC m = 0 ∨ modeC m = 8 := by unfold modeC; split <;> simp
set_option maxHeartbeats 1000000 in
theorem HCheck_any (m : UInt8) (o n : Nat) (w : World) :
    Calls Tryz.prog 173 #[HVal m o n] w fun e w' => e = .returned (.int .i64 (modeC m)) ∧ Below w.heap.size w w' := by
  by_cases h0 : m = 0
  · subst h0
    go_enter Tryz.func173, Tryz.ntmps173
    go_wp2
    go_ret
    exact ⟨rfl, al (Below.refl _ _) (Nat.le_refl _)⟩
  by_cases h1 : m = 1
  · subst h1
    go_enter Tryz.func173, Tryz.ntmps173
    go_wp2
    go_ret
    exact ⟨rfl, al (Below.refl _ _) (Nat.le_refl _)⟩
  · have e0 : ((m.toNat : Int) != 0) = true := bne_iff_ne.2 fun e => h0 (UInt8.toNat_inj.1 (by show m.toNat = 0; omega))
    have e1 : ((m.toNat : Int) != 1) = true := bne_iff_ne.2 fun e => h1 (UInt8.toNat_inj.1 (by show m.toNat = 1; omega))
    have hC : modeC m = 8 := by unfold modeC; rw [if_neg (by simp [h0, h1])]
    rw [hC]
    clear hC
    go_enter Tryz.func173, Tryz.ntmps173
    go_wp2
    go_ret
    exact ⟨rfl, al (Below.refl _ _) (Nat.le_refl _)⟩
/-- a head as written -/
def headB (m : UInt8) (o n : Nat) : List UInt8 := [1, m] ++ put4 o ++ put4 n
set_option maxRecDepth 100000 in
set_option maxHeartbeats 2000000 in
theorem HBytes_any (m : UInt8) (o n : Nat) (ho : o < 4294967296) (hn : n < 4294967296) (w : World) :
    Calls Tryz.prog 126 #[HVal m o n] w (SRet w (if modeC m = 0 then headB m o n else []) (modeC m)) := by
  have HO := Lib.hid ho
  have HN := Lib.hid hn
  clear ho hn
  by_cases hc : modeC m = 0
  · rw [hc, if_pos rfl]
    have HK : Hid (∀ w, Calls Tryz.prog 173 #[HVal m o n] w fun e w' => e = .returned (.int .i64 0) ∧ Below w.heap.size w w') := fun w => by have := HCheck_any m o n w; rw [hc] at this; exact this
    clear hc
    go_enter Tryz.func126, Tryz.ntmps126
    go_wp2_with fail
    refine Calls.mono (HK.out _) ?_
    rintro e w1 ⟨rfl, hb1⟩
    have HB1 := Lib.hid ((al (Below.refl w.heap.size w) (Nat.le_refl _)).trans (hb1.mono (by simp)))
    have hl : w.heap.size < w1.heap.size := by have := hb1.size; simp at this; omega
    have HC : w1.heap[w.heap.size]? = some (.cells #[B8 m, .int .u32 (o : Nat), .int .u32 (n : Nat)] 133 (0, 0)) := (hb1.block _ (by simp)).trans (hnew rfl)
    obtain ⟨c0, c1, c2⟩ := cells_three HC
    clear hb1 HC
    go_wp2_with fail
    refine wp_region_shapes (fun ix => ([.val (.pointer (some ⟨w.heap.size, 0, none⟩)), .val (B8 m), .bytes ([1, m]), .val (.pointer (some ⟨w.heap.size, 1, none⟩)), .val (.int .u32 (o : Nat)), .bytes (put4 o), .val (.pointer (some ⟨w.heap.size, 2, none⟩)), .val (.int .u32 (n : Nat)), .bytes (put4 n), .rows ([[1, m], put4 o, put4 n]), .bytes (headB m o n), .bytes (headB m o n), .val (.int .i64 0)][ix]?).getD (.any)) 21 rfl (by kernel_rfl) (by decide) (by decide) (by decide) ?_ ?_
    · refine ⟨?_, ?_, ?_, ?_, ?_, ?_, ?_, ?_, ?_, ?_, ?_, ?_, ?_, trivial⟩
      · intro a W hb0 hs hp hi; have hb := undrew hb0; clear hb0
        have t1 : sl a 1 = .pointer (some ⟨w.heap.size, 0, none⟩) := hi 1 (by decide)
        refine ite_y rfl (wp_val (.pointer (some ⟨w.heap.size, 0, none⟩)) ?_ ?_)
        · simp only [execOp, eval_tmp, eval_const, t1]; simp [go_sem]
        · exact ⟨_, rfl, Below.refl _ _, rfl⟩
      · intro a W hb0 hs hp hi; have hb := undrew hb0; clear hb0
        have tt : sl a 10 = .pointer (some ⟨w.heap.size, 0, none⟩) := hp 0 (by decide)
        have dd := (hb.cell (p := ⟨w.heap.size, 0, none⟩) (lt_of_cell c0)).trans c0
        refine ite_y rfl (wp_val (B8 m) ?_ ?_)
        · simp only [execOp, eval_tmp, tt]; simp [go_sem, dd]
        · exact ⟨_, rfl, Below.refl _ _, rfl⟩
      · intro a W hb0 hs hp hi; have hb := undrew hb0; clear hb0
        have t11 : sl a 11 = B8 m := hp 1 (by decide)
        have v11 : a.tmps[11]?.getD undef = sl a 11 := by simp [sl]
        rw [t11] at v11
        refine ite_y rfl (wp_val' (w' := W.alloc (.cells #[.int .u8 1, B8 m] 5)) (.slice (some ⟨W.heap.size, 0, none⟩) 2 2) ?_ ?_)
        · simp only [execOp, eval_tmp, eval_const, t11]; simp [go_sem, v11]
        · exact ⟨_, rfl, (al (Below.refl _ _) (Nat.le_refl _)), _, _, _, rfl, sl_block ([1, m]) 2 (hnew rfl) rfl rfl (by simp [maxLen])⟩
      · intro a W hb0 hs hp hi; have hb := undrew hb0; clear hb0
        have t1 : sl a 1 = .pointer (some ⟨w.heap.size, 0, none⟩) := hi 1 (by decide)
        refine ite_y rfl (wp_val (.pointer (some ⟨w.heap.size, 1, none⟩)) ?_ ?_)
        · simp only [execOp, eval_tmp, eval_const, t1]; simp [go_sem]
        · exact ⟨_, rfl, Below.refl _ _, rfl⟩
      · intro a W hb0 hs hp hi; have hb := undrew hb0; clear hb0
        have tt : sl a 13 = .pointer (some ⟨w.heap.size, 1, none⟩) := hp 3 (by decide)
        have dd := (hb.cell (p := ⟨w.heap.size, 1, none⟩) (lt_of_cell c1)).trans c1
        refine ite_y rfl (wp_val (.int .u32 (o : Nat)) ?_ ?_)
        · simp only [execOp, eval_tmp, tt]; simp [go_sem, dd]
        · exact ⟨_, rfl, Below.refl _ _, rfl⟩
      · intro a W hb0 hs hp hi; have hb := undrew hb0; clear hb0
        have t14 : sl a 14 = .int .u32 (o : Nat) := hp 4 (by decide)
        refine ite_y rfl (wp_enter 128 #[.int .u32 (o : Nat)] ?_ (SPut_any o HO.out _) ?_)
        · simp only [execOp, resolve, List.map_toArray, List.map, eval_tmp, eval_func, eval_const, t14]; simp [go_sem]
        · rintro e W' ⟨g5, rfl, hg5, h5, hw⟩; exact ⟨_, rfl, _, rfl, hw, _, _, _, rfl, sl_block (put4 o) 4 h5 rfl (put4_len o) (by simp [maxLen])⟩
      · intro a W hb0 hs hp hi; have hb := undrew hb0; clear hb0
        have t1 : sl a 1 = .pointer (some ⟨w.heap.size, 0, none⟩) := hi 1 (by decide)
        refine ite_y rfl (wp_val (.pointer (some ⟨w.heap.size, 2, none⟩)) ?_ ?_)
        · simp only [execOp, eval_tmp, eval_const, t1]; simp [go_sem]
        · exact ⟨_, rfl, Below.refl _ _, rfl⟩
      · intro a W hb0 hs hp hi; have hb := undrew hb0; clear hb0
        have tt : sl a 16 = .pointer (some ⟨w.heap.size, 2, none⟩) := hp 6 (by decide)
        have dd := (hb.cell (p := ⟨w.heap.size, 2, none⟩) (lt_of_cell c2)).trans c2
        refine ite_y rfl (wp_val (.int .u32 (n : Nat)) ?_ ?_)
        · simp only [execOp, eval_tmp, tt]; simp [go_sem, dd]
        · exact ⟨_, rfl, Below.refl _ _, rfl⟩
      · intro a W hb0 hs hp hi; have hb := undrew hb0; clear hb0
        have t17 : sl a 17 = .int .u32 (n : Nat) := hp 7 (by decide)
        refine ite_y rfl (wp_enter 128 #[.int .u32 (n : Nat)] ?_ (SPut_any n HN.out _) ?_)
        · simp only [execOp, resolve, List.map_toArray, List.map, eval_tmp, eval_func, eval_const, t17]; simp [go_sem]
        · rintro e W' ⟨g5, rfl, hg5, h5, hw⟩; exact ⟨_, rfl, _, rfl, hw, _, _, _, rfl, sl_block (put4 n) 4 h5 rfl (put4_len n) (by simp [maxLen])⟩
      · intro a W hb0 hs hp hi; have hb := undrew hb0; clear hb0
        have t12 : BytesIs ([1, m]) (sl a 12) W := hp 2 (by decide)
        obtain ⟨y12a, y12b, y12c, t12, z12a⟩ := t12
        have t15 : BytesIs (put4 o) (sl a 15) W := hp 5 (by decide)
        obtain ⟨y15a, y15b, y15c, t15, z15a⟩ := t15
        have t18 : BytesIs (put4 n) (sl a 18) W := hp 8 (by decide)
        obtain ⟨y18a, y18b, y18c, t18, z18a⟩ := t18
        have v12 : a.tmps[12]?.getD undef = sl a 12 := by simp [sl]
        rw [t12] at v12
        have v15 : a.tmps[15]?.getD undef = sl a 15 := by simp [sl]
        rw [t15] at v15
        have v18 : a.tmps[18]?.getD undef = sl a 18 := by simp [sl]
        rw [t18] at v18
        refine ite_y rfl (wp_val' (w' := W.alloc (.cells #[.slice y12a y12b y12c, .slice y15a y15b y15c, .slice y18a y18b y18c] 22)) (.slice (some ⟨W.heap.size, 0, none⟩) 3 3) ?_ ?_)
        · simp only [execOp, eval_tmp, eval_const, t12, t15, t18]; simp [go_sem, v12, v15, v18]
        · exact ⟨_, rfl, (al (Below.refl _ _) (Nat.le_refl _)), _, _, _, rfl, sl2_three (hnew rfl) (z12a.keep (al (Below.refl _ _) (Nat.le_refl _))) (z15a.keep (al (Below.refl _ _) (Nat.le_refl _))) (z18a.keep (al (Below.refl _ _) (Nat.le_refl _)))⟩
      · intro a W hb0 hs hp hi; have hb := undrew hb0; clear hb0
        have t19 : RowsIs ([[1, m], put4 o, put4 n]) (sl a 19) W := hp 9 (by decide)
        obtain ⟨y19a, y19b, y19c, t19, z19a⟩ := t19
        refine ite_y rfl (wp_enter 82 #[.slice y19a y19b y19c] ?_ (Concat_any _ _ _ _ _ z19a (by simp [put4_len]; unfold Room; omega)) ?_)
        · simp only [execOp, resolve, List.map_toArray, List.map, eval_tmp, eval_func, eval_const, t19]; simp [go_sem]
        · rintro e W' ⟨q5, m5, g5, _, rfl, o5, hw⟩; exact ⟨_, rfl, _, rfl, hw, q5, m5, g5, rfl, (Sl.of_owns o5).read (by simp [headB])⟩
      · intro a W hb0 hs hp hi; have hb := undrew hb0; clear hb0
        exact ite_y rfl (wp_val (sl a 20) rfl ⟨_, rfl, Below.refl _ _, hp 10 (by decide)⟩)
      · intro a W hb0 hs hp hi; have hb := undrew hb0; clear hb0
        exact ite_y rfl (wp_val (.int .i64 0) rfl ⟨_, rfl, Below.refl _ _, rfl⟩)
    intro a w9 hb hs hd hI ht
    have ha := act_is [10, 11, 12, 13, 14, 15, 16, 17, 18, 19, 20, 2, 3] hs hd ht (by decide)
    have t3 : sl a 3 = .int .i64 0 := hI 12 (by decide)
    have y2 := hI 11 (by decide)
    obtain ⟨q9, n9, c9, t2, z2⟩ := y2
    simp only [List.foldl, t3, t2] at ha
    generalize sl a 10 = u10 at ha
    generalize sl a 11 = u11 at ha
    generalize sl a 12 = u12 at ha
    generalize sl a 13 = u13 at ha
    generalize sl a 14 = u14 at ha
    generalize sl a 15 = u15 at ha
    generalize sl a 16 = u16 at ha
    generalize sl a 17 = u17 at ha
    generalize sl a 18 = u18 at ha
    generalize sl a 19 = u19 at ha
    generalize sl a 20 = u20 at ha
    simp only [Act.put, List.setIfInBounds_toArray, List.set_cons_zero, List.set_cons_succ] at ha
    rw [ha]
    clear ha hI ht
    go_wp2
    go_ret2
    exact ⟨_, _, _, rfl, z2, stp HB1.out hb rfl (Nat.le_refl _)⟩
  · have hc8 : modeC m = 8 := (modeC_range m).resolve_left hc
    rw [hc8, if_neg (by decide)]
    have HK : Hid (∀ w, Calls Tryz.prog 173 #[HVal m o n] w fun e w' => e = .returned (.int .i64 8) ∧ Below w.heap.size w w') := fun w => by have := HCheck_any m o n w; rw [hc8] at this; exact this
    clear hc hc8
    go_enter Tryz.func126, Tryz.ntmps126
    go_wp2_with fail
    refine Calls.mono (HK.out _) ?_
    rintro e w1 ⟨rfl, hb1⟩
    have HB1 := Lib.hid ((al (Below.refl w.heap.size w) (Nat.le_refl _)).trans (hb1.mono (by simp)))
    clear hb1
    go_wp2
    go_ret2
    exact SRet.nil _ _ _ HB1.out
end Go.Proofs.YtfbmdlfkipipfaaGreatDoor
namespace Go.Proofs.YtfbmdlfkipipfaaGreatDoor
open Go.RowKit Go.By
/-- a source as a value -/
abbrev SVal (m : UInt8) (p : Option Addr) (n c s : Nat) : Value := .agg #[B8 m, .slice p n c, .int .u64 (s : Nat)]
def widS (m : UInt8) (k : Nat) : Nat := if m = 0 then k else if m = 1 then 8 else 0
/-- fits' code -/
def srcC (m : UInt8) (n k : Nat) : Int := if m = 0 then (if n = k then 0 else 4) else modeC m
/-- what a source is written as -/
def srcB (m : UInt8) (xs : List UInt8) (s : Nat) : List UInt8 := if m = 0 then xs else put8 s
/-- its vector -/
def vecS (m : UInt8) (xs : List UInt8) (s k : Nat) : List UInt8 := if m = 0 then xs else mixRow s k
theorem mode_ne {m : UInt8} (h0 : m ≠ 0) : ((m.toNat : Int) != 0) = true := bne_iff_ne.2 fun e => h0 (UInt8.toNat_inj.1 (by show m.toNat = 0; omega))
theorem mode_ne1 {m : UInt8} (h0 : m ≠ 1) : ((m.toNat : Int) != 1) = true := bne_iff_ne.2 fun e => h0 (UInt8.toNat_inj.1 (by show m.toNat = 1; omega))
theorem mode_eq {m : UInt8} (h0 : m ≠ 0) : ((m.toNat : Int) == 0) = false := beq_eq_false_iff_ne.2 fun e => h0 (UInt8.toNat_inj.1 (by show m.toNat = 0; omega))
set_option maxHeartbeats 1000000 in
theorem RWidth_any (m : UInt8) (k : Nat) (h1 : 1 ≤ k) (h2 : k ≤ 4096) (w : World) :
    Calls Tryz.prog 130 #[B8 m, .int .i64 (k : Nat)] w fun e w' => e = .returned (.tuple #[.int .i64 (widS m k : Nat), .int .i64 (modeC m)]) ∧ Below w.heap.size w w' := by
  unfold widS
  by_cases h0 : m = 0
  · subst h0
    rw [if_pos rfl, show modeC 0 = 0 from rfl]
    go_enter Tryz.func130, Tryz.ntmps130
    go_wp2
    go_ret2
    exact ⟨rfl, Below.refl _ _⟩
  by_cases h1' : m = 1
  · subst h1'
    rw [if_neg (by decide), if_pos rfl, show modeC 1 = 0 from rfl]
    go_enter Tryz.func130, Tryz.ntmps130
    go_wp2
    go_ret2
    exact ⟨rfl, Below.refl _ _⟩
  · rw [if_neg h0, if_neg h1']
    have e0 := mode_ne h0
    have e1 := mode_ne1 h1'
    have hC : modeC m = 8 := by unfold modeC; rw [if_neg (by simp [h0, h1'])]
    rw [hC]
    clear hC h0 h1'
    go_enter Tryz.func130, Tryz.ntmps130
    go_wp2
    go_ret2
    exact ⟨rfl, Below.refl _ _⟩
set_option maxHeartbeats 1000000 in
theorem SFits_any (m : UInt8) (p : Option Addr) (n c s k : Nat) (h1 : 1 ≤ k) (h2 : k ≤ 4096) (w : World) :
    Calls Tryz.prog 77 #[SVal m p n c s, .int .i64 (k : Nat)] w fun e w' => e = .returned (.int .i64 (srcC m n k)) ∧ Below w.heap.size w w' := by
  have HW : Hid (∀ w, Calls Tryz.prog 130 #[B8 m, .int .i64 (k : Nat)] w fun e w' => e = .returned (.tuple #[.int .i64 (widS m k : Nat), .int .i64 (modeC m)]) ∧ Below w.heap.size w w') := fun w => RWidth_any m k h1 h2 w
  clear h1 h2
  generalize hV : widS m k = V at HW
  clear hV
  by_cases h0 : m = 0
  · subst h0
    rw [show modeC 0 = 0 from rfl] at HW
    by_cases hk : n = k
    · have hC : srcC 0 n k = 0 := by unfold srcC; rw [if_pos rfl, if_pos hk]
      rw [hC]
      subst hk
      clear hC
      go_enter Tryz.func77, Tryz.ntmps77
      go_wp2_with fail
      refine Calls.mono (HW.out _) ?_
      rintro e w1 ⟨rfl, hb⟩
      obtain ⟨hb1, h1, _⟩ := one_of hb
      have HB := Lib.hid hb1
      obtain ⟨c0, c1, c2⟩ := cells_three h1
      clear hb hb1
      go_wp2
      go_ret
      exact ⟨rfl, HB.out⟩
    · have hC : srcC 0 n k = 4 := by unfold srcC; rw [if_pos rfl, if_neg hk]
      rw [hC]
      have e0 : ((n : Int) != (k : Int)) = true := bne_iff_ne.2 (by omega)
      clear hC hk
      go_enter Tryz.func77, Tryz.ntmps77
      go_wp2_with fail
      refine Calls.mono (HW.out _) ?_
      rintro e w1 ⟨rfl, hb⟩
      obtain ⟨hb1, h1, _⟩ := one_of hb
      have HB := Lib.hid hb1
      obtain ⟨c0, c1, c2⟩ := cells_three h1
      clear hb hb1
      go_wp2
      go_ret
      exact ⟨rfl, HB.out⟩
  · have hC : srcC m n k = modeC m := by unfold srcC; rw [if_neg h0]
    rw [hC]
    clear hC
    have e0 := mode_eq h0
    clear h0
    rcases modeC_range m with hm | hm
    · rw [hm] at HW ⊢
      clear hm
      go_enter Tryz.func77, Tryz.ntmps77
      go_wp2_with fail
      refine Calls.mono (HW.out _) ?_
      rintro e w1 ⟨rfl, hb⟩
      obtain ⟨hb1, h1, _⟩ := one_of hb
      have HB := Lib.hid hb1
      obtain ⟨c0, c1, c2⟩ := cells_three h1
      clear hb hb1
      go_wp2
      go_ret
      exact ⟨rfl, HB.out⟩
    · rw [hm] at HW ⊢
      clear hm
      go_enter Tryz.func77, Tryz.ntmps77
      go_wp2_with fail
      refine Calls.mono (HW.out _) ?_
      rintro e w1 ⟨rfl, hb⟩
      obtain ⟨hb1, h1, _⟩ := one_of hb
      have HB := Lib.hid hb1
      clear hb hb1
      go_wp2
      go_ret
      exact ⟨rfl, HB.out⟩
set_option maxRecDepth 100000 in
set_option maxHeartbeats 1000000 in
theorem SVector_anyF (m : UInt8) (p : Option Addr) (n c s k : Nat) (xs : List UInt8) (h1 : 1 ≤ k) (h2 : k ≤ 4096) (w : World) (h : Sl B8 w p n c xs) (hr : Room n) :
    Calls Tryz.prog 32 #[SVal m p n c s, .int .i64 (k : Nat)] w (SRetF 5 w (if srcC m n k = 0 then vecS m xs s k else []) (srcC m n k)) := by
  have HW : Hid (∀ w, Calls Tryz.prog 77 #[SVal m p n c s, .int .i64 (k : Nat)] w fun e w' => e = .returned (.int .i64 (srcC m n k)) ∧ Below w.heap.size w w') := fun w => SFits_any m p n c s k h1 h2 w
  have HK : Hid (k ≤ 65536) := by show k ≤ 65536; omega
  have H := Lib.hid h
  have HR := Lib.hid hr
  clear h1 h2 h hr
  by_cases hc : srcC m n k = 0
  · rw [hc] at HW ⊢
    rw [if_pos rfl]
    clear hc
    by_cases h0 : m = 0
    · subst h0
      unfold vecS
      rw [if_pos rfl]
      go_enter Tryz.func32, Tryz.ntmps32
      go_wp2_with fail
      refine Calls.mono (HW.out _) ?_
      rintro e w1 ⟨rfl, hb⟩
      obtain ⟨hb1, h1, _⟩ := one_of hb
      have HB := Lib.hid hb1
      obtain ⟨c0, c1, c2⟩ := cells_three h1
      clear hb hb1
      go_wp2_with fail
      refine Calls.mono (CloneB_any _ _ _ _ _ (H.out.keep HB.out) HR.out) ?_
      rintro e w2 ⟨q, c', rfl, ho, hb⟩
      have HB2 := Lib.hid (bl HB.out hb HB.out.size)
      have HO := Lib.hid ho
      clear hb ho
      go_wp2
      go_ret2
      exact ⟨_, _, _, rfl, (Fresh.of_owns HO.out).mono HB.out.size, HB2.out⟩
    · unfold vecS
      rw [if_neg h0]
      have e0 := mode_eq h0
      clear h0
      go_enter Tryz.func32, Tryz.ntmps32
      go_wp2_with fail
      refine Calls.mono (HW.out _) ?_
      rintro e w1 ⟨rfl, hb⟩
      obtain ⟨hb1, h1, _⟩ := one_of hb
      have HB := Lib.hid hb1
      obtain ⟨c0, c1, c2⟩ := cells_three h1
      clear hb hb1
      go_wp2_with fail
      refine Calls.mono (MRow_anyF s k HK.out _) ?_
      rintro e w2 ⟨q, n', c', rfl, ho, hb⟩
      have HB2 := Lib.hid (bl HB.out hb HB.out.size)
      have HO := Lib.hid ho
      clear hb ho
      go_wp2
      go_ret2
      exact ⟨_, _, _, rfl, HO.out.mono HB.out.size, HB2.out⟩
  · rw [if_neg hc]
    have e0 : (srcC m n k != 0) = true := bne_iff_ne.2 hc
    generalize srcC m n k = C at *
    clear hc
    go_enter Tryz.func32, Tryz.ntmps32
    go_wp2_with fail
    refine Calls.mono (HW.out _) ?_
    rintro e w1 ⟨rfl, hb⟩
    obtain ⟨hb1, h1, _⟩ := one_of hb
    have HB := Lib.hid hb1
    clear hb hb1
    go_wp2
    go_ret2
    exact SRetF.nil _ _ _ _ HB.out
theorem SVector_any (m : UInt8) (p : Option Addr) (n c s k : Nat) (xs : List UInt8) (h1 : 1 ≤ k) (h2 : k ≤ 4096) (w : World) (h : Sl B8 w p n c xs) (hr : Room n) :
    Calls Tryz.prog 32 #[SVal m p n c s, .int .i64 (k : Nat)] w (SRet w (if srcC m n k = 0 then vecS m xs s k else []) (srcC m n k)) := Calls.mono (SVector_anyF m p n c s k xs h1 h2 w h hr) fun _ _ h => h.ret
set_option maxRecDepth 100000 in
set_option maxHeartbeats 1000000 in
theorem SWrite_any (m : UInt8) (p : Option Addr) (n c s k : Nat) (xs : List UInt8) (h1 : 1 ≤ k) (h2 : k ≤ 4096) (w : World) (h : Sl B8 w p n c xs) (hr : Room n) :
    Calls Tryz.prog 127 #[SVal m p n c s, .int .i64 (k : Nat)] w (SRet w (if srcC m n k = 0 then srcB m xs s else []) (srcC m n k)) := by
  have HW : Hid (∀ w, Calls Tryz.prog 77 #[SVal m p n c s, .int .i64 (k : Nat)] w fun e w' => e = .returned (.int .i64 (srcC m n k)) ∧ Below w.heap.size w w') := fun w => SFits_any m p n c s k h1 h2 w
  have H := Lib.hid h
  have HR := Lib.hid hr
  clear h1 h2 h hr
  by_cases hc : srcC m n k = 0
  · rw [hc] at HW ⊢
    rw [if_pos rfl]
    clear hc
    by_cases h0 : m = 0
    · subst h0
      unfold srcB
      rw [if_pos rfl]
      go_enter Tryz.func127, Tryz.ntmps127
      go_wp2_with fail
      refine Calls.mono (HW.out _) ?_
      rintro e w1 ⟨rfl, hb⟩
      obtain ⟨hb1, h1, _⟩ := one_of hb
      have HB := Lib.hid hb1
      obtain ⟨c0, c1, c2⟩ := cells_three h1
      clear hb hb1
      go_wp2_with fail
      refine Calls.mono (CloneB_any _ _ _ _ _ (H.out.keep HB.out) HR.out) ?_
      rintro e w2 ⟨q, c', rfl, ho, hb⟩
      have HB2 := Lib.hid (bl HB.out hb HB.out.size)
      have HO := Lib.hid ho
      clear hb ho
      go_wp2
      go_ret2
      exact ⟨_, _, _, rfl, Sl.of_owns HO.out, HB2.out⟩
    · unfold srcB
      rw [if_neg h0]
      have e0 := mode_eq h0
      clear h0
      go_enter Tryz.func127, Tryz.ntmps127
      go_wp2_with fail
      refine Calls.mono (HW.out _) ?_
      rintro e w1 ⟨rfl, hb⟩
      obtain ⟨hb1, h1, _⟩ := one_of hb
      have HB := Lib.hid hb1
      obtain ⟨c0, c1, c2⟩ := cells_three h1
      clear hb hb1
      go_wp2_with fail
      refine Calls.mono (MPut_any s _) ?_
      rintro e w2 ⟨q, n', c', rfl, ho, hb⟩
      have HB2 := Lib.hid (bl HB.out hb HB.out.size)
      have HO := Lib.hid ho
      clear hb ho
      go_wp2
      go_ret2
      exact ⟨_, _, _, rfl, HO.out, HB2.out⟩
  · rw [if_neg hc]
    have e0 : (srcC m n k != 0) = true := bne_iff_ne.2 hc
    generalize srcC m n k = C at *
    clear hc
    go_enter Tryz.func127, Tryz.ntmps127
    go_wp2_with fail
    refine Calls.mono (HW.out _) ?_
    rintro e w1 ⟨rfl, hb⟩
    obtain ⟨hb1, h1, _⟩ := one_of hb
    have HB := Lib.hid hb1
    clear hb hb1
    go_wp2
    go_ret2
    exact SRet.nil _ _ _ HB.out
end Go.Proofs.YtfbmdlfkipipfaaGreatDoor
namespace Go.Proofs.YtfbmdlfkipipfaaGreatDoor
open Go.RowKit Go.By
theorem src_ne : 66 ≠ 5 := by decide
theorem info_source : (Tryz.prog.info? 66).map (·.size) = some 3 := by kernel_rfl
set_option maxRecDepth 100000 in
set_option maxHeartbeats 1000000 in
theorem RExplicit_any (p : Option Addr) (n c : Nat) (xs : List UInt8) (w : World) (h : Sl B8 w p n c xs) (hr : Room n) :
    Calls Tryz.prog 92 #[.slice p n c] w fun e w' => ∃ q c', e = .returned (SVal 0 q n c' 0) ∧ Fresh 5 w.heap.size w' q n c' xs ∧ Below w.heap.size w w' := by
  have H := Lib.hid h
  have HR := Lib.hid hr
  clear h hr
  go_enter Tryz.func92, Tryz.ntmps92
  go_wp2_with fail
  refine Calls.mono (CloneB_any _ _ _ _ _ (H.out.keep (al (Below.refl _ _) (Nat.le_refl _))) HR.out) ?_
  rintro e w2 ⟨q, c', rfl, ho, hb⟩
  obtain ⟨hb1, h1, _⟩ := one_of hb
  have HB := Lib.hid hb1
  have HO := Lib.hid ho
  clear hb hb1 ho
  go_wp2_with (refine wpList_store_row (o := ⟨none, .store 66 (.tmp 2) (.tmp 5), _, _, _, _⟩) rfl 66 (.tmp 2) (.tmp 5) rfl w.heap.size #[.int .u8 0, .slice q n c', .int .u64 0] rfl rfl _ _ h1 info_source rfl (by simp [Value.oneCell']) ?_)
  refine bodyPost_ret (results_cell_row rfl _ _ _ 66 #[.int .u8 0, .slice q n c', .int .u64 0] (0, 0) _ rfl (hrs h1) Tryz.underlying66 rfl info_source) rfl ?_
  exact ⟨q, c', rfl, ((Fresh.of_owns HO.out).mono (by simp)).row h1 src_ne, below_row HB.out (Nat.le_refl _)⟩
set_option maxRecDepth 100000 in
set_option maxHeartbeats 1000000 in
theorem RSeeded_any (s : Nat) (w : World) :
    Calls Tryz.prog 198 #[.int .u64 (s : Nat)] w fun e w' => e = .returned (SVal 1 none 0 0 s) ∧ Below w.heap.size w w' := by
  go_enter Tryz.func198, Tryz.ntmps198
  go_wp2
  refine bodyPost_ret (results_cell_row rfl _ _ _ 66 #[.int .u8 1, .slice none 0 0, .int .u64 (s : Nat)] (0, 0) _ rfl ?_ Tryz.underlying66 rfl info_source) rfl ?_
  · exact hnew rfl
  · exact ⟨rfl, al (Below.refl _ _) (Nat.le_refl _)⟩
/-- the source that bytes are, of a mode -/
def rdX (m : UInt8) (xs : List UInt8) : List UInt8 := if m = 0 then xs else []
def rdS (m : UInt8) (xs : List UInt8) : Nat := if m = 0 then 0 else get8 xs
set_option maxRecDepth 100000 in
set_option maxHeartbeats 1000000 in
/-- row.Read of bytes of the right length -/
theorem RRead_any (m : UInt8) (k : Nat) (p : Option Addr) (n c : Nat) (xs : List UInt8) (w : World) (hm : modeC m = 0) (h1 : 1 ≤ k) (h2 : k ≤ 4096) (h : Sl B8 w p n c xs) (hn : n = widS m k) :
    Calls Tryz.prog 172 #[B8 m, .int .i64 (k : Nat), .slice p n c] w fun e w' => ∃ q n' c', e = .returned (.tuple #[SVal m q n' c' (rdS m xs), .int .i64 0]) ∧ Fresh 5 w.heap.size w' q n' c' (rdX m xs) ∧ Below w.heap.size w w' := by
  have HW : Hid (∀ w, Calls Tryz.prog 130 #[B8 m, .int .i64 (k : Nat)] w fun e w' => e = .returned (.tuple #[.int .i64 (widS m k : Nat), .int .i64 0]) ∧ Below w.heap.size w w') := fun w => by have := RWidth_any m k h1 h2 w; rw [hm] at this; exact this
  have HR : Hid (Room n) := by show n ≤ 140737488355328; rw [hn]; unfold widS; split <;> (try split) <;> omega
  have H := Lib.hid h
  have hm01 : m = 0 ∨ m = 1 := by
    unfold modeC at hm
    split at hm
    · assumption
    · cases hm
  have hnm := h.bound
  have hn8 : m = 1 → n = 8 := fun e => by rw [hn, e]; rfl
  rw [← hn] at HW
  clear h1 h2 h hn hm
  rcases hm01 with rfl | rfl
  · clear hn8
    unfold rdX rdS
    rw [if_pos rfl, if_pos rfl]
    go_enter Tryz.func172, Tryz.ntmps172
    go_wp2_with fail
    refine Calls.mono (HW.out _) ?_
    rintro e w1 ⟨rfl, hb⟩
    obtain ⟨hb1, h1, hs⟩ := one_of hb
    have HB := Lib.hid hb1
    clear hb hb1
    go_wp2_with fail
    refine Calls.mono (RExplicit_any _ _ _ _ _ (H.out.keep HB.out) HR.out) ?_
    rintro e w2 ⟨q, c', rfl, hsl, hb⟩
    have h1' := (hb.block _ (by omega)).trans h1
    have HB2 := Lib.hid (bl HB.out hb HB.out.size)
    have HS := Lib.hid (hsl.mono HB.out.size)
    clear hb hsl h1
    go_wp2_with (refine wpList_store_row (o := ⟨none, .store 66 (.tmp 6) (.tmp 29), _, _, _, _⟩) rfl 66 (.tmp 6) (.tmp 29) rfl w.heap.size #[.int .u8 0, .slice q n c', .int .u64 0] rfl rfl _ _ h1' info_source rfl (by simp [Value.oneCell']) ?_)
    refine bodyPost_ret (res_ct rfl _ _ _ 66 #[.int .u8 0, .slice q n c', .int .u64 0] (0, 0) _ (.int .i64 0) rfl (hrs h1') rfl Tryz.underlying66 rfl info_source) rfl ?_
    exact ⟨q, n, c', rfl, HS.out.row h1' src_ne, below_row HB2.out (Nat.le_refl _)⟩
  · obtain rfl : n = 8 := hn8 rfl
    clear hn8
    unfold rdX rdS
    rw [if_neg (by decide), if_neg (by decide)]
    obtain ⟨S, hS⟩ : ∃ S, get8 xs = S := ⟨_, rfl⟩
    rw [hS]
    have HSS := Lib.hid hS
    clear hS
    go_enter Tryz.func172, Tryz.ntmps172
    go_wp2_with fail
    refine Calls.mono (HW.out _) ?_
    rintro e w1 ⟨rfl, hb⟩
    obtain ⟨hb1, h1, hs⟩ := one_of hb
    have HB := Lib.hid hb1
    clear hb hb1
    go_wp2_with fail
    refine Calls.mono (MSeed_any _ _ _ _ _ (H.out.keep HB.out) rfl) ?_
    rintro e w2 ⟨rfl, hb⟩
    have h1' := (hb.block _ (by omega)).trans h1
    have HB2 := Lib.hid (bl HB.out hb HB.out.size)
    have hs2 := hb.size
    clear hb h1
    rw [HSS.out]
    go_wp2_with fail
    refine Calls.mono (RSeeded_any S _) ?_
    rintro e w3 ⟨rfl, hb⟩
    have h1 := (hb.block _ (by omega)).trans h1'
    have HB3 := Lib.hid (bl HB2.out hb HB2.out.size)
    clear hb h1'
    go_wp2_with (refine wpList_store_row (o := ⟨none, .store 66 (.tmp 6) (.tmp 40), _, _, _, _⟩) rfl 66 (.tmp 6) (.tmp 40) rfl w.heap.size #[.int .u8 1, .slice none 0 0, .int .u64 (S : Nat)] rfl rfl _ _ h1 info_source rfl (by simp [Value.oneCell']) ?_)
    refine bodyPost_ret (res_ct rfl _ _ _ 66 #[.int .u8 1, .slice none 0 0, .int .u64 (S : Nat)] (0, 0) _ (.int .i64 0) rfl (hrs h1) rfl Tryz.underlying66 rfl info_source) rfl ?_
    exact ⟨none, 0, 0, rfl, Fresh.none _ _ _, below_row HB3.out (Nat.le_refl _)⟩
end Go.Proofs.YtfbmdlfkipipfaaGreatDoor
namespace Go.Proofs.YtfbmdlfkipipfaaGreatDoor
open Go.RowKit Go.By
/-- a plan that may be -/
structure POK (L t k D : Nat) : Prop where
  chk : checkS (L : Int) (t : Int) (k : Int) = 0
  l : (L : Int) ≤ 9223372036854775807
  t1 : 1 ≤ t
  t2 : t ≤ 65535
  k1 : 1 ≤ k
  k2 : k ≤ 4096
  d : D < 4294967296
abbrev PVal (L t k D : Nat) : Value := .agg #[.int .i64 (L : Nat), .int .i64 (t : Nat), .int .i64 (k : Nat), .int .u32 (D : Nat)]
theorem PCheck_ok {L t k D : Nat} (h : POK L t k D) (w : World) : Calls Tryz.prog 73 #[PVal L t k D] w fun e w' => e = .returned (.int .i64 0) ∧ Below w.heap.size w w' := by
  have := Check_any (L : Int) (t : Int) (k : Int) (D : Int) w h.l
  rw [h.chk] at this
  exact this
/-- how long a packet is -/
def lenP (m : UInt8) (k t : Nat) : Nat := 10 + widS m k + t + 4
set_option maxRecDepth 100000 in
set_option maxHeartbeats 1000000 in
theorem PLength_ok (L t k D : Nat) (m : UInt8) (w : World) (hP : POK L t k D) (hm : modeC m = 0) :
    Calls Tryz.prog 96 #[PVal L t k D, B8 m] w fun e w' => e = .returned (.tuple #[.int .i64 (lenP m k t : Nat), .int .i64 0]) ∧ Below w.heap.size w w' := by
  have HK : Hid (∀ w, Calls Tryz.prog 73 #[PVal L t k D] w fun e w' => e = .returned (.int .i64 0) ∧ Below w.heap.size w w') := PCheck_ok hP
  have HW : Hid (∀ w, Calls Tryz.prog 130 #[B8 m, .int .i64 (k : Nat)] w fun e w' => e = .returned (.tuple #[.int .i64 (widS m k : Nat), .int .i64 0]) ∧ Below w.heap.size w w') := fun w => by have := RWidth_any m k hP.k1 hP.k2 w; rw [hm] at this; exact this
  have hV : widS m k ≤ 4096 := by have := hP.k1; have := hP.k2; unfold widS; split <;> (try split) <;> omega
  have ht := hP.t2
  have HL : Hid (lenP m k t = 10 + widS m k + t + 4) := rfl
  generalize lenP m k t = N at *
  generalize widS m k = V at *
  clear hP hm
  go_enter Tryz.func96, Tryz.ntmps96
  go_wp2_with fail
  refine Calls.mono (HK.out _) ?_
  rintro e w1 ⟨rfl, hb⟩
  obtain ⟨hb1, h1, hs⟩ := one_of hb
  have HB := Lib.hid hb1
  obtain ⟨c0, c1, c2, c3⟩ := cells_four h1
  clear hb hb1
  go_wp2_with fail
  refine Calls.mono (HW.out _) ?_
  rintro e w2 ⟨rfl, hb⟩
  have h2 := (hb.block _ (by omega)).trans h1
  have HB2 := Lib.hid (bl HB.out hb HB.out.size)
  clear hb h1 c0 c1 c2 c3
  obtain ⟨c0, c1, c2, c3⟩ := cells_four h2
  go_wp2
  go_ret2
  refine ⟨?_, HB2.out⟩
  rw [HL.out]
  congr 4
/-- a packet as a value -/
abbrev PkVal (m : UInt8) (o n : Nat) (sm : UInt8) (p : Option Addr) (j c s : Nat) (q : Option Addr) (t d : Nat) : Value := .agg #[B8 m, .int .u32 (o : Nat), .int .u32 (n : Nat), B8 sm, .slice p j c, .int .u64 (s : Nat), .slice q t d]
theorem cells_seven {w : World} {b T : Nat} {u v x y z r e : Value} (h : w.heap[b]? = some (.cells #[u, v, x, y, z, r, e] T (0, 0))) : w.cell? ⟨b, 0, none⟩ = some u ∧ w.cell? ⟨b, 1, none⟩ = some v ∧ w.cell? ⟨b, 2, none⟩ = some x ∧ w.cell? ⟨b, 3, none⟩ = some y ∧ w.cell? ⟨b, 4, none⟩ = some z ∧ w.cell? ⟨b, 5, none⟩ = some r ∧ w.cell? ⟨b, 6, none⟩ = some e :=
  ⟨cell_of_row _ _ 0 _ _ _ h, cell_of_row _ _ 1 _ _ _ h, cell_of_row _ _ 2 _ _ _ h, cell_of_row _ _ 3 _ _ _ h, cell_of_row _ _ 4 _ _ _ h, cell_of_row _ _ 5 _ _ _ h, cell_of_row _ _ 6 _ _ _ h⟩
set_option maxRecDepth 100000 in
set_option maxHeartbeats 2000000 in
theorem PFits_ok (L t k D n : Nat) (m : UInt8) (p : Option Addr) (j c s : Nat) (q : Option Addr) (d : Nat) (w : World) (hP : POK L t k D) (hm : modeC m = 0) (hj : m = 0 → j = k) :
    Calls Tryz.prog 111 #[PkVal m D n m p j c s q t d, PVal L t k D] w fun e w' => e = .returned (.int .i64 0) ∧ Below w.heap.size w w' := by
  have HK : Hid (∀ w, Calls Tryz.prog 73 #[PVal L t k D] w fun e w' => e = .returned (.int .i64 0) ∧ Below w.heap.size w w') := PCheck_ok hP
  have HC : Hid (∀ w, Calls Tryz.prog 173 #[HVal m D n] w fun e w' => e = .returned (.int .i64 0) ∧ Below w.heap.size w w') := fun w => by have := HCheck_any m D n w; rw [hm] at this; exact this
  have ht := hP.t2
  clear hP hm
  by_cases h0 : m = 0
  · subst h0
    obtain rfl := hj rfl
    clear hj
    go_enter Tryz.func111, Tryz.ntmps111
    go_wp2_with fail
    refine Calls.mono (HK.out _) ?_
    rintro e w1 ⟨rfl, hb⟩
    obtain ⟨hb1, h1, h2, hs⟩ := two_of hb
    have HB := Lib.hid hb1
    obtain ⟨c0, c1, c2, c3, c4, c5, c6⟩ := cells_seven h1
    clear hb hb1
    go_wp2_with fail
    refine Calls.mono (HC.out _) ?_
    rintro e w2 ⟨rfl, hb⟩
    have h1' := (hb.block _ (by omega)).trans h1
    have h2' := (hb.block _ (by omega)).trans h2
    have HB2 := Lib.hid (bl HB.out hb HB.out.size)
    clear hb h1 h2 c0 c1 c2 c3 c4 c5 c6
    obtain ⟨c0, c1, c2, c3, c4, c5, c6⟩ := cells_seven h1'
    obtain ⟨d0, d1, d2, d3⟩ := cells_four h2'
    go_wp2
    go_ret
    exact ⟨rfl, HB2.out⟩
  · have e0 := mode_eq h0
    clear hj h0
    go_enter Tryz.func111, Tryz.ntmps111
    go_wp2_with fail
    refine Calls.mono (HK.out _) ?_
    rintro e w1 ⟨rfl, hb⟩
    obtain ⟨hb1, h1, h2, hs⟩ := two_of hb
    have HB := Lib.hid hb1
    obtain ⟨c0, c1, c2, c3, c4, c5, c6⟩ := cells_seven h1
    clear hb hb1
    go_wp2_with fail
    refine Calls.mono (HC.out _) ?_
    rintro e w2 ⟨rfl, hb⟩
    have h1' := (hb.block _ (by omega)).trans h1
    have h2' := (hb.block _ (by omega)).trans h2
    have HB2 := Lib.hid (bl HB.out hb HB.out.size)
    clear hb h1 h2 c0 c1 c2 c3 c4 c5 c6
    obtain ⟨c0, c1, c2, c3, c4, c5, c6⟩ := cells_seven h1'
    obtain ⟨d0, d1, d2, d3⟩ := cells_four h2'
    go_wp2
    go_ret
    exact ⟨rfl, HB2.out⟩
end Go.Proofs.YtfbmdlfkipipfaaGreatDoor
namespace Go.Proofs.YtfbmdlfkipipfaaGreatDoor
open Go.RowKit Go.By
/-- a packet without its sum -/
def bodyP (m : UInt8) (o n : Nat) (xs : List UInt8) (s : Nat) (ys : List UInt8) : List UInt8 := headB m o n ++ srcB m xs s ++ ys
/-- a packet as written -/
def pktB (m : UInt8) (o n : Nat) (xs : List UInt8) (s : Nat) (ys : List UInt8) : List UInt8 := bodyP m o n xs s ys ++ put4 (crcS (bodyP m o n xs s ys))
set_option maxRecDepth 100000 in
set_option maxHeartbeats 4000000 in
theorem PWrite_okF (L t k D n : Nat) (m : UInt8) (p : Option Addr) (j c s : Nat) (q : Option Addr) (d : Nat) (xs ys : List UInt8) (w : World) (hP : POK L t k D) (hn : n < 4294967296) (hm : modeC m = 0) (hj : m = 0 → j = k) (hr : Room j) (h1 : Sl B8 w p j c xs) (h2 : Sl B8 w q t d ys) (hT : HalfT w) :
    Calls Tryz.prog 76 #[PkVal m D n m p j c s q t d, PVal L t k D] w (SRetF 5 w (pktB m D n xs s ys) 0) := by
  have HF : Hid (∀ w, Calls Tryz.prog 111 #[PkVal m D n m p j c s q t d, PVal L t k D] w fun e w' => e = .returned (.int .i64 0) ∧ Below w.heap.size w w') := fun w => PFits_ok L t k D n m p j c s q d w hP hm hj
  have HH : Hid (∀ w, Calls Tryz.prog 126 #[HVal m D n] w (SRet w (headB m D n) 0)) := fun w => by have := HBytes_any m D n hP.d hn w; rw [hm, if_pos rfl] at this; exact this
  have hsc : srcC m j k = 0 := by
    unfold srcC
    by_cases h0 : m = 0
    · rw [if_pos h0, if_pos (hj h0)]
    · rw [if_neg h0, hm]
  have HS : Hid (∀ w, Sl B8 w p j c xs → Calls Tryz.prog 127 #[SVal m p j c s, .int .i64 (k : Nat)] w (SRet w (srcB m xs s) 0)) := fun w h => by have := SWrite_any m p j c s k xs hP.k1 hP.k2 w h hr; rw [hsc, if_pos rfl] at this; exact this
  have HT := Lib.hid hT
  have H1 := Lib.hid h1
  have H2 := Lib.hid h2
  obtain ⟨B, hB⟩ : ∃ B, headB m D n = B := ⟨_, rfl⟩
  obtain ⟨S, hS⟩ : ∃ S, srcB m xs s = S := ⟨_, rfl⟩
  have hBl : B.length = 10 := by rw [← hB]; simp [headB, put4_len]
  have hSl : S.length ≤ 140737488355328 := by rw [← hS]; unfold srcB; split; · rw [h1.len]; exact hr
                                              · rw [put8_len]; decide
  have hYl := h2.len
  have ht2 := hP.t2
  have HRm : Hid (Room [B, S, ys, put4 (crcS [B, S, ys].flatten)].flatten.length) := by
    show _ ≤ _
    simp [put4_len]
    have := hr
    unfold srcB at hS
    by_cases h0 : m = 0
    · rw [if_pos h0] at hS
      have := hj h0; have := hP.k2; have := h1.len; rw [hS] at this; omega
    · rw [if_neg h0] at hS
      have := put8_len s; rw [hS] at this; omega
  have hE : pktB m D n xs s ys = [B, S, ys, put4 (crcS [B, S, ys].flatten)].flatten := by
    unfold pktB bodyP
    rw [hB, hS]; simp
  rw [hE]
  rw [hB] at HH
  rw [hS] at HS
  have HL : Hid (crcS [B, S, ys].flatten < 4294967296) := crcS_lt _
  clear hB hS hBl hSl hYl ht2 hE hsc h1 h2 hT hr hj hm hP hn
  go_enter Tryz.func76, Tryz.ntmps76
  go_wp2_with fail
  refine Calls.mono (HF.out _) ?_
  rintro e w1 ⟨rfl, hb⟩
  obtain ⟨hb1, h1, h2, hs⟩ := two_of hb
  have HB := Lib.hid hb1
  obtain ⟨c0, c1, c2, c3, c4, c5, c6⟩ := cells_seven h1
  clear hb hb1
  go_wp2_with fail
  refine Calls.mono (HH.out _) ?_
  rintro e w2 ⟨q1, n1, k1, rfl, hq, hb⟩
  have h1' := (hb.block _ (by omega)).trans h1
  have h2' := (hb.block _ (by omega)).trans h2
  have hs2 := hb.size
  have HB2 := Lib.hid (bl HB.out hb HB.out.size)
  have HQ := Lib.hid hq
  clear hb hq h1 h2 c0 c1 c2 c3 c4 c5 c6
  obtain ⟨c0, c1, c2, c3, c4, c5, c6⟩ := cells_seven h1'
  obtain ⟨d0, d1, d2, d3⟩ := cells_four h2'
  go_wp2_with fail
  refine Calls.mono (HS.out _ (H1.out.keep HB2.out)) ?_
  rintro e w3 ⟨q2, n2, k2, rfl, hq, hb⟩
  have h1 := (hb.block _ (by omega)).trans h1'
  have HB3 := Lib.hid (bl HB2.out hb HB2.out.size)
  have HQ1 := Lib.hid (HQ.out.keep hb)
  have HQ2 := Lib.hid hq
  have H2' := Lib.hid (H2.out.keep HB3.out)
  have HT' := Lib.hid (HT.out.keep HB3.out)
  clear hb hq h1' h2' c0 c1 c2 c3 c4 c5 c6 d0 d1 d2 d3
  have c6 := (cells_seven h1).2.2.2.2.2.2
  clear h1
  go_wp2_with fail
  refine wp_region_shapes (fun ix => ([.val (.slice q1 n1 k1), .val (.slice q2 n2 k2), .val (.pointer (some ⟨w.heap.size, 6, none⟩)), .val (.slice q t d), .val (.slice q1 n1 k1), .val (.slice q2 n2 k2), .val (.pointer (some ⟨w.heap.size, 6, none⟩)), .val (.slice q t d), .rows ([B, S, ys]), .val (.int .u32 (crcS [B, S, ys].flatten : Nat)), .bytes (put4 (crcS [B, S, ys].flatten)), .rows ([B, S, ys, put4 (crcS [B, S, ys].flatten)]), (ShF 5 w.heap.size ([B, S, ys, put4 (crcS [B, S, ys].flatten)].flatten)), (ShF 5 w.heap.size ([B, S, ys, put4 (crcS [B, S, ys].flatten)].flatten)), .val (.int .i64 0)][ix]?).getD (.any)) 49 rfl (by kernel_rfl) (by decide +kernel) (by decide +kernel) (by decide +kernel) ?_ ?_
  · refine ⟨?_, ?_, ?_, ?_, ?_, ?_, ?_, ?_, ?_, ?_, ?_, ?_, ?_, ?_, ?_, trivial⟩
    · intro a W hb0 hs hp hi; have hb := undrew hb0; clear hb0
      have t7 : sl a 7 = .slice q1 n1 k1 := hi 7 (by decide)
      exact ite_y rfl (wp_val (sl a 7) rfl ⟨_, rfl, Below.refl _ _, t7⟩)
    · intro a W hb0 hs hp hi; have hb := undrew hb0; clear hb0
      have t9 : sl a 9 = .slice q2 n2 k2 := hi 9 (by decide)
      exact ite_y rfl (wp_val (sl a 9) rfl ⟨_, rfl, Below.refl _ _, t9⟩)
    · intro a W hb0 hs hp hi; have hb := undrew hb0; clear hb0
      have t2 : sl a 2 = .pointer (some ⟨w.heap.size, 0, none⟩) := hi 2 (by decide)
      refine ite_y rfl (wp_val (.pointer (some ⟨w.heap.size, 6, none⟩)) ?_ ?_)
      · simp only [execOp, eval_tmp, eval_const, t2]; simp [go_sem]
      · exact ⟨_, rfl, Below.refl _ _, rfl⟩
    · intro a W hb0 hs hp hi; have hb := undrew hb0; clear hb0
      have tt : sl a 38 = .pointer (some ⟨w.heap.size, 6, none⟩) := hp 2 (by decide)
      have dd := (hb.cell (p := ⟨w.heap.size, 6, none⟩) (lt_of_cell c6)).trans c6
      refine ite_y rfl (wp_val (.slice q t d) ?_ ?_)
      · simp only [execOp, eval_tmp, tt]; simp [go_sem, dd]
      · exact ⟨_, rfl, Below.refl _ _, rfl⟩
    · intro a W hb0 hs hp hi; have hb := undrew hb0; clear hb0
      have t7 : sl a 7 = .slice q1 n1 k1 := hi 7 (by decide)
      exact ite_y rfl (wp_val (sl a 7) rfl ⟨_, rfl, Below.refl _ _, t7⟩)
    · intro a W hb0 hs hp hi; have hb := undrew hb0; clear hb0
      have t9 : sl a 9 = .slice q2 n2 k2 := hi 9 (by decide)
      exact ite_y rfl (wp_val (sl a 9) rfl ⟨_, rfl, Below.refl _ _, t9⟩)
    · intro a W hb0 hs hp hi; have hb := undrew hb0; clear hb0
      have t2 : sl a 2 = .pointer (some ⟨w.heap.size, 0, none⟩) := hi 2 (by decide)
      refine ite_y rfl (wp_val (.pointer (some ⟨w.heap.size, 6, none⟩)) ?_ ?_)
      · simp only [execOp, eval_tmp, eval_const, t2]; simp [go_sem]
      · exact ⟨_, rfl, Below.refl _ _, rfl⟩
    · intro a W hb0 hs hp hi; have hb := undrew hb0; clear hb0
      have tt : sl a 42 = .pointer (some ⟨w.heap.size, 6, none⟩) := hp 6 (by decide)
      have dd := (hb.cell (p := ⟨w.heap.size, 6, none⟩) (lt_of_cell c6)).trans c6
      refine ite_y rfl (wp_val (.slice q t d) ?_ ?_)
      · simp only [execOp, eval_tmp, tt]; simp [go_sem, dd]
      · exact ⟨_, rfl, Below.refl _ _, rfl⟩
    · intro a W hb0 hs hp hi; have hb := undrew hb0; clear hb0
      have t40 : sl a 40 = .slice q1 n1 k1 := hp 4 (by decide)
      have t41 : sl a 41 = .slice q2 n2 k2 := hp 5 (by decide)
      have t43 : sl a 43 = .slice q t d := hp 7 (by decide)
      have v40 : a.tmps[40]?.getD undef = sl a 40 := by simp [sl]
      rw [t40] at v40
      have v41 : a.tmps[41]?.getD undef = sl a 41 := by simp [sl]
      rw [t41] at v41
      have v43 : a.tmps[43]?.getD undef = sl a 43 := by simp [sl]
      rw [t43] at v43
      refine ite_y rfl (wp_val' (w' := W.alloc (.cells #[.slice q1 n1 k1, .slice q2 n2 k2, .slice q t d] 22)) (.slice (some ⟨W.heap.size, 0, none⟩) 3 3) ?_ ?_)
      · simp only [execOp, eval_tmp, eval_const, t40, t41, t43]; simp [go_sem, v40, v41, v43]
      · exact ⟨_, rfl, (al (Below.refl _ _) (Nat.le_refl _)), _, _, _, rfl, sl2_three (hnew rfl) ((HQ1.out.keep hb).keep (al (Below.refl _ _) (Nat.le_refl _))) ((HQ2.out.keep hb).keep (al (Below.refl _ _) (Nat.le_refl _))) ((H2'.out.keep hb).keep (al (Below.refl _ _) (Nat.le_refl _)))⟩
    · intro a W hb0 hs hp hi; have hb := undrew hb0; clear hb0
      have t44 : RowsIs ([B, S, ys]) (sl a 44) W := hp 8 (by decide)
      obtain ⟨y44a, y44b, y44c, t44, z44a⟩ := t44
      refine ite_y rfl (wp_enter 129 #[.slice y44a y44b y44c] ?_ (SOf_any _ _ _ _ _ z44a (HT'.out.keep hb)) ?_)
      · simp only [execOp, resolve, List.map_toArray, List.map, eval_tmp, eval_func, eval_const, t44]; simp [go_sem]
      · rintro e W' ⟨rfl, hw⟩; exact ⟨_, rfl, _, rfl, hw, rfl⟩
    · intro a W hb0 hs hp hi; have hb := undrew hb0; clear hb0
      have t45 : sl a 45 = .int .u32 (crcS [B, S, ys].flatten : Nat) := hp 9 (by decide)
      refine ite_y rfl (wp_enter 128 #[.int .u32 (crcS [B, S, ys].flatten : Nat)] ?_ (SPut_any _ HL.out _) ?_)
      · simp only [execOp, resolve, List.map_toArray, List.map, eval_tmp, eval_func, eval_const, t45]; simp [go_sem]
      · rintro e W' ⟨g5, rfl, hg5, h5, hw⟩; exact ⟨_, rfl, _, rfl, hw, _, _, _, rfl, sl_block (put4 _) 4 h5 rfl (put4_len _) (by simp [maxLen])⟩
    · intro a W hb0 hs hp hi; have hb := undrew hb0; clear hb0
      have t36 : sl a 36 = .slice q1 n1 k1 := hp 0 (by decide)
      have t37 : sl a 37 = .slice q2 n2 k2 := hp 1 (by decide)
      have t39 : sl a 39 = .slice q t d := hp 3 (by decide)
      have t46 : BytesIs (put4 (crcS [B, S, ys].flatten)) (sl a 46) W := hp 10 (by decide)
      obtain ⟨y46a, y46b, y46c, t46, z46a⟩ := t46
      have v36 : a.tmps[36]?.getD undef = sl a 36 := by simp [sl]
      rw [t36] at v36
      have v37 : a.tmps[37]?.getD undef = sl a 37 := by simp [sl]
      rw [t37] at v37
      have v39 : a.tmps[39]?.getD undef = sl a 39 := by simp [sl]
      rw [t39] at v39
      have v46 : a.tmps[46]?.getD undef = sl a 46 := by simp [sl]
      rw [t46] at v46
      refine ite_y rfl (wp_val' (w' := W.alloc (.cells #[.slice q1 n1 k1, .slice q2 n2 k2, .slice q t d, .slice y46a y46b y46c] 22)) (.slice (some ⟨W.heap.size, 0, none⟩) 4 4) ?_ ?_)
      · simp only [execOp, eval_tmp, eval_const, t36, t37, t39, t46]; simp [go_sem, v36, v37, v39, v46]
      · exact ⟨_, rfl, (al (Below.refl _ _) (Nat.le_refl _)), _, _, _, rfl, sl2_four (hnew rfl) ((HQ1.out.keep hb).keep (al (Below.refl _ _) (Nat.le_refl _))) ((HQ2.out.keep hb).keep (al (Below.refl _ _) (Nat.le_refl _))) ((H2'.out.keep hb).keep (al (Below.refl _ _) (Nat.le_refl _))) (z46a.keep (al (Below.refl _ _) (Nat.le_refl _)))⟩
    · intro a W hb0 hs hp hi; have hb := undrew hb0; clear hb0
      have t47 : RowsIs ([B, S, ys, put4 (crcS [B, S, ys].flatten)]) (sl a 47) W := hp 11 (by decide)
      obtain ⟨y47a, y47b, y47c, t47, z47a⟩ := t47
      refine ite_y rfl (wp_enter 82 #[.slice y47a y47b y47c] ?_ (Concat_any _ _ _ _ _ z47a HRm.out) ?_)
      · simp only [execOp, resolve, List.map_toArray, List.map, eval_tmp, eval_func, eval_const, t47]; simp [go_sem]
      · rintro e W' ⟨q5, m5, g5, _, rfl, o5, hw⟩; exact ⟨_, rfl, _, rfl, hw, q5, m5, g5, rfl, (Fresh.of_owns o5).mono (Nat.le_trans HB3.out.size hb.size)⟩
    · intro a W hb0 hs hp hi; have hb := undrew hb0; clear hb0
      exact ite_y rfl (wp_val (sl a 48) rfl ⟨_, rfl, Below.refl _ _, hp 12 (by decide)⟩)
    · intro a W hb0 hs hp hi; have hb := undrew hb0; clear hb0
      exact ite_y rfl (wp_val (.int .i64 0) rfl ⟨_, rfl, Below.refl _ _, rfl⟩)
  intro a w9 hb hs hd hI ht
  have ha := act_is [36, 37, 38, 39, 40, 41, 42, 43, 44, 45, 46, 47, 48, 4, 5] hs hd ht (by decide)
  have t5 : sl a 5 = .int .i64 0 := hI 14 (by decide)
  have y4 : (ShF 5 w.heap.size ([B, S, ys, put4 (crcS [B, S, ys].flatten)].flatten)).ok (sl a 4) w9 := hI 13 (by decide)
  obtain ⟨q9, n9, c9, t4, z4⟩ := y4
  simp only [List.foldl, t5, t4] at ha
  generalize sl a 36 = u36 at ha
  generalize sl a 37 = u37 at ha
  generalize sl a 38 = u38 at ha
  generalize sl a 39 = u39 at ha
  generalize sl a 40 = u40 at ha
  generalize sl a 41 = u41 at ha
  generalize sl a 42 = u42 at ha
  generalize sl a 43 = u43 at ha
  generalize sl a 44 = u44 at ha
  generalize sl a 45 = u45 at ha
  generalize sl a 46 = u46 at ha
  generalize sl a 47 = u47 at ha
  generalize sl a 48 = u48 at ha
  simp only [Act.put, List.setIfInBounds_toArray, List.set_cons_zero, List.set_cons_succ] at ha
  rw [ha]
  clear ha hI ht
  go_wp2
  go_ret2
  exact ⟨_, _, _, rfl, z4.read (by simp), bl HB3.out hb HB3.out.size⟩
end Go.Proofs.YtfbmdlfkipipfaaGreatDoor
namespace Go.Proofs.YtfbmdlfkipipfaaGreatDoor
open Go.RowKit Go.By
/-- Read's code -/
def headC (xs : List UInt8) : Int := if xs.length < 10 then 6 else if xs.getD 0 0 ≠ 1 then 7 else modeC (xs.getD 1 0)
theorem headC_mode {xs : List UInt8} (h : headC xs = 0) : modeC (xs.getD 1 0) = 0 := by
  unfold headC at h
  split at h
  · cases h
  · split at h
    · cases h
    · exact h
theorem info_head : (Tryz.prog.info? 133).map (·.size) = some 3 := by kernel_rfl
theorem at_get {xs : List UInt8} {i : Nat} {x : UInt8} (h : xs[i]? = some x) : xs.getD i 0 = x := by rw [List.getD_eq_getElem?_getD, h]; rfl
/-- the head that was read, what is behind it (of which nothing is told), and the code -/
def HRet (w : World) (m : UInt8) (o n : Nat) (code : Int) (e : Ending) (w' : World) : Prop :=
  ∃ q k c, e = .returned (.tuple #[HVal m o n, .slice q k c, .int .i64 code]) ∧ Below w.heap.size w w'
set_option maxRecDepth 100000 in
set_option maxHeartbeats 2000000 in
theorem HRead_short (p : Option Addr) (n c : Nat) (w : World) (hn : n < 10) :
    Calls Tryz.prog 170 #[.slice p n c] w (HRet w 0 0 0 6) := by
  have HN := Lib.hid hn
  go_enter Tryz.func170, Tryz.ntmps170
  go_wp2
  refine bodyPost_ret (res_ctt rfl _ _ _ 133 #[.int .u8 0, .int .u32 0, .int .u32 0] (0, 0) _ (.slice none 0 0) (.int .i64 6) rfl ?_ rfl rfl Tryz.underlying133 rfl info_head) rfl ?_
  · exact hnew rfl
  · exact ⟨none, 0, 0, rfl, al (Below.refl _ _) (Nat.le_refl _)⟩
set_option maxRecDepth 100000 in
set_option maxHeartbeats 2000000 in
theorem HRead_version (b o n c : Nat) (w : World) (hn : 10 ≤ n) (x0 : UInt8) (k0 : w.cell? ⟨b, o, none⟩ = some (B8 x0)) (hx : x0 ≠ 1) (hm : n ≤ 9223372036854775807) :
    Calls Tryz.prog 170 #[.slice (some ⟨b, o, none⟩) n c] w (HRet w 0 0 0 7) := by
  have e1 : ((x0.toNat : Int) != 1) = true := bne_iff_ne.2 fun e => hx (UInt8.toNat_inj.1 (by show x0.toNat = 1; omega))
  have HN := Lib.hid hn
  have a0 : ∀ o', (w.alloc o').cell? ⟨b, o, none⟩ = some (B8 x0) := fun _ => calloc k0
  clear hx k0
  go_enter Tryz.func170, Tryz.ntmps170
  go_wp2
  refine bodyPost_ret (res_ctt rfl _ _ _ 133 #[.int .u8 0, .int .u32 0, .int .u32 0] (0, 0) _ (.slice none 0 0) (.int .i64 7) rfl ?_ rfl rfl Tryz.underlying133 rfl info_head) rfl ?_
  · exact hnew rfl
  · exact ⟨none, 0, 0, rfl, al (Below.refl _ _) (Nat.le_refl _)⟩
set_option maxRecDepth 100000 in
set_option maxHeartbeats 2000000 in
theorem HRead_mode (b o n c : Nat) (w : World) (hn : 10 ≤ n) (x1 : UInt8) (k0 : w.cell? ⟨b, o, none⟩ = some (B8 1)) (k1 : w.cell? ⟨b, o + 1, none⟩ = some (B8 x1)) (hx : modeC x1 = 8) (hm : n ≤ 9223372036854775807) :
    Calls Tryz.prog 170 #[.slice (some ⟨b, o, none⟩) n c] w (HRet w 0 0 0 8) := by
  have HK : Hid (∀ w, Calls Tryz.prog 173 #[HVal x1 0 0] w fun e w' => e = .returned (.int .i64 8) ∧ Below w.heap.size w w') := fun w => by have := HCheck_any x1 0 0 w; rw [hx] at this; exact this
  have HN := Lib.hid hn
  have a0 : ∀ o', (w.alloc o').cell? ⟨b, o, none⟩ = some (B8 1) := fun _ => calloc k0
  have a1 : ∀ o', (w.alloc o').cell? ⟨b, o + 1, none⟩ = some (B8 x1) := fun _ => calloc k1
  clear hx k0 k1
  go_enter Tryz.func170, Tryz.ntmps170
  go_wp2_with fail
  refine Calls.mono (HK.out _) ?_
  rintro e w1 ⟨rfl, hb1⟩
  obtain ⟨hb, h0, h1, hsz⟩ := two_of hb1
  have HB := Lib.hid hb
  clear hb1 hb
  go_wp2_with (refine wpList_store_row (o := ⟨none, .store 133 (.tmp 2) (.tmp 24), _, _, _, _⟩) rfl 133 (.tmp 2) (.tmp 24) rfl w.heap.size #[.int .u8 0, .int .u32 0, .int .u32 0] rfl rfl _ _ h0 info_head rfl (by simp [Value.oneCell']) ?_)
  refine bodyPost_ret (res_ctt rfl _ _ _ 133 #[.int .u8 0, .int .u32 0, .int .u32 0] (0, 0) _ (.slice none 0 0) (.int .i64 8) rfl ?_ rfl rfl Tryz.underlying133 rfl info_head) rfl ?_
  · exact hrs h0
  · exact ⟨none, 0, 0, rfl, below_row HB.out (Nat.le_refl _)⟩
set_option maxRecDepth 100000 in
set_option maxHeartbeats 2000000 in
theorem HRead_good (b o n c : Nat) (xs : List UInt8) (w : World) (h : Sl B8 w (some ⟨b, o, none⟩) n c xs) (hr : Room n) (hn : 10 ≤ n) (x1 : UInt8) (k0 : w.cell? ⟨b, o, none⟩ = some (B8 1)) (k1 : w.cell? ⟨b, o + 1, none⟩ = some (B8 x1)) (hx : modeC x1 = 0) :
    Calls Tryz.prog 170 #[.slice (some ⟨b, o, none⟩) n c] w (HRet w x1 (get4 ((xs.drop 2).take 4)) (get4 ((xs.drop 6).take 4)) 0) := by
  obtain ⟨A, hA⟩ : ∃ A, get4 ((xs.drop 2).take 4) = A := ⟨_, rfl⟩
  obtain ⟨B, hB⟩ : ∃ B, get4 ((xs.drop 6).take 4) = B := ⟨_, rfl⟩
  rw [hA, hB]
  have HA := Lib.hid hA
  have HBB := Lib.hid hB
  clear hA hB
  have HK : Hid (∀ w, Calls Tryz.prog 173 #[HVal x1 0 0] w fun e w' => e = .returned (.int .i64 0) ∧ Below w.heap.size w w') := fun w => by have := HCheck_any x1 0 0 w; rw [hx] at this; exact this
  have HN := Lib.hid hn
  have H := Lib.hid h
  have HR := Lib.hid hr
  have hm := h.bound
  have hle := h.le
  have hmx := h.max
  unfold maxLen at hmx
  have a0 : ∀ o', (w.alloc o').cell? ⟨b, o, none⟩ = some (B8 1) := fun _ => calloc k0
  have a1 : ∀ o', (w.alloc o').cell? ⟨b, o + 1, none⟩ = some (B8 x1) := fun _ => calloc k1
  clear hx k0 k1 h hr
  go_enter Tryz.func170, Tryz.ntmps170
  go_wp2_with fail
  refine Calls.mono (HK.out _) ?_
  rintro e w1 ⟨rfl, hb1⟩
  obtain ⟨hb, h0, h1, hsz⟩ := two_of hb1
  have HB := Lib.hid hb
  clear hb1 hb a0 a1
  go_wp2_with fail
  refine Calls.mono (SGet_any _ _ _ _ _ (Sl.part (k := 2) (m := 4) (H.out.keep HB.out) (by omega))) ?_
  rintro e w2 ⟨rfl, hb2⟩
  rw [if_pos rfl, HA.out]
  have h0' := (hb2.block _ (by omega)).trans h0
  have h1' := (hb2.block _ (by omega)).trans h1
  have HB2 := Lib.hid (bl HB.out hb2 HB.out.size)
  have hs2 := hb2.size
  obtain ⟨j0, j1, j2⟩ := cells_three h1'
  have z1 := frozen_of_row _ _ 1 _ _ h1'
  have z2 := frozen_of_row _ _ 2 _ _ h1'
  clear hb2 h0 h1
  go_wp2_with fail
  have HB3 := Lib.hid (HB2.out.setCell (p := ⟨w.heap.size + 1, 1, none⟩) (by simp) (.int .u32 (A : Nat)))
  refine Calls.mono (SGet_any _ _ _ _ _ (Sl.part (k := 6) (m := 4) (H.out.keep HB3.out) (by omega))) ?_
  rintro e w3 ⟨rfl, hb3⟩
  rw [if_pos rfl, HBB.out]
  have h0 : w3.heap[w.heap.size]? = some (.cells #[.int .u8 0, .int .u32 0, .int .u32 0] 133 (0, 0)) := (hb3.block _ (by simp [World.setCell]; omega)).trans (hsc h0' (by simp))
  have h1 : w3.heap[w.heap.size + 1]? = some (.cells #[B8 x1, .int .u32 (A : Nat), .int .u32 0] 133 (0, 0)) := (hb3.block _ (by simp [World.setCell]; omega)).trans (hss h1')
  have HB4 := Lib.hid (bl HB3.out hb3 HB3.out.size)
  have hs3 : w.heap.size + 2 ≤ w3.heap.size := by have := hb3.size; simp [World.setCell] at this; omega
  clear hb3 h0' h1' z1 z2 j0 j1 j2 hs2 hsz
  have z2 := frozen_of_row _ _ 2 _ _ h1
  obtain ⟨j0, j1, j2⟩ := cells_three h1
  go_wp2_with fail
  have HB5 := Lib.hid (HB4.out.setCell (p := ⟨w.heap.size + 1, 2, none⟩) (by simp) (.int .u32 (B : Nat)))
  have h0' : (w3.setCell ⟨w.heap.size + 1, 2, none⟩ (.int .u32 (B : Nat))).heap[w.heap.size]? = some (.cells #[.int .u8 0, .int .u32 0, .int .u32 0] 133 (0, 0)) := hsc h0 (by simp)
  have h1' : (w3.setCell ⟨w.heap.size + 1, 2, none⟩ (.int .u32 (B : Nat))).heap[w.heap.size + 1]? = some (.cells #[B8 x1, .int .u32 (A : Nat), .int .u32 (B : Nat)] 133 (0, 0)) := hss h1
  have hs4 : w.heap.size + 2 ≤ (w3.setCell ⟨w.heap.size + 1, 2, none⟩ (.int .u32 (B : Nat))).heap.size := by simp [World.setCell]; omega
  clear z2 j0 j1 j2 h0 h1 hs3
  generalize w3.setCell ⟨w.heap.size + 1, 2, none⟩ (.int .u32 (B : Nat)) = w4 at *
  obtain ⟨c0, c1, c2⟩ := cells_three h1'
  have S := Lib.hid (H.out.keep HB5.out)
  have h10 : (10 : Int) ≤ (n : Int) := by omega
  clear HB HB2 HB3 HB4
  refine wp_region_tail (fun ix => ([.val (.agg #[B8 x1, .int .u32 (A : Nat), .int .u32 (B : Nat)]), .val (.slice (some ⟨b, o, none⟩) n c), .val (.slice (if c = 10 then some ⟨b, o, none⟩ else some ⟨b, o + 10, none⟩) (n - 10) (c - 10)), .bytes (xs.drop 10), .any, .any, .any][ix]?).getD (.any)) 44 4 rfl (by kernel_rfl) (by decide) (by decide) (by decide) (by decide) ?_ ?_
  · refine ⟨?_, ?_, ?_, ?_, trivial⟩
    · intro a W hb0 hs hp hi; have hb := undrew hb0; clear hb0
      have tt : sl a 5 = .pointer (some ⟨(w.heap.size + 1), 0, none⟩) := hi 5 (by decide)
      have dd0 := (hb.cell (p := ⟨(w.heap.size + 1), 0, none⟩) (lt_of_cell c0)).trans c0
      have dd1 := (hb.cell (p := ⟨(w.heap.size + 1), 1, none⟩) (lt_of_cell c1)).trans c1
      have dd2 := (hb.cell (p := ⟨(w.heap.size + 1), 2, none⟩) (lt_of_cell c2)).trans c2
      refine ite_y rfl (wp_val (.agg #[B8 x1, .int .u32 (A : Nat), .int .u32 (B : Nat)]) ?_ ?_)
      · simp only [execOp, eval_tmp, tt]; simp [go_sem, dd0, dd1, dd2]
      · exact ⟨_, rfl, Below.refl _ _, rfl⟩
    · intro a W hb0 hs hp hi; have hb := undrew hb0; clear hb0
      have t0 : sl a 0 = .slice (some ⟨b, o, none⟩) n c := hi 0 (by decide)
      exact ite_y rfl (wp_val (sl a 0) rfl ⟨_, rfl, Below.refl _ _, t0⟩)
    · intro a W hb0 hs hp hi; have hb := undrew hb0; clear hb0
      have t41 : sl a 41 = .slice (some ⟨b, o, none⟩) n c := hp 1 (by decide)
      refine ite_y rfl (wp_val (.slice (if c = 10 then some ⟨b, o, none⟩ else some ⟨b, o + 10, none⟩) (n - 10) (c - 10)) ?_ ?_)
      · simp only [execOp, eval_tmp, eval_const, t41]; simp [go_sem, h10]
      · exact ⟨_, rfl, Below.refl _ _, rfl⟩
    · intro a W hb0 hs hp hi; have hb := undrew hb0; clear hb0
      have t42 : sl a 42 = .slice (if c = 10 then some ⟨b, o, none⟩ else some ⟨b, o + 10, none⟩) (n - 10) (c - 10) := hp 2 (by decide)
      refine ite_y rfl (wp_enter 78 #[.slice (if c = 10 then some ⟨b, o, none⟩ else some ⟨b, o + 10, none⟩) (n - 10) (c - 10)] ?_ (CloneB_any _ _ _ _ _ (Sl.tail 10 (S.out.keep hb) HN.out) (HR.out.le (by omega))) ?_)
      · simp only [execOp, resolve, List.map_toArray, List.map, eval_tmp, eval_func, eval_const, t42]; simp [go_sem]
      · rintro e W' ⟨q5, g5, rfl, o5, hw⟩; exact ⟨_, rfl, _, rfl, hw, q5, _, g5, rfl, Sl.of_owns o5⟩
  intro a w9 hb hs hd hI ht
  have ha := act_is [40, 41, 42, 43, 3, 4] hs hd ht (by decide)
  have t40 : sl a 40 = .agg #[B8 x1, .int .u32 (A : Nat), .int .u32 (B : Nat)] := hI 0 (by decide)
  have y43 := hI 3 (by decide)
  obtain ⟨q9, n9, c9, t43, z43⟩ := y43
  simp only [List.foldl, t40, t43] at ha
  generalize sl a 41 = u41 at ha
  generalize sl a 42 = u42 at ha
  generalize sl a 3 = u3 at ha
  generalize sl a 4 = u4 at ha
  simp only [Act.put, List.setIfInBounds_toArray, List.set_cons_zero, List.set_cons_succ] at ha
  rw [ha]; clear ha hI ht hs hd
  simp only [List.drop_succ_cons, List.drop_zero]
  have h0 := (hb.block _ (by omega)).trans h0'
  have HB6 := Lib.hid (bl HB5.out hb HB5.out.size)
  clear hb h0' h1' c0 c1 c2 h10
  go_wp2_with (refine wpList_store_row (o := ⟨none, .store 133 (.tmp 2) (.tmp 40), _, _, _, _⟩) rfl 133 (.tmp 2) (.tmp 40) rfl w.heap.size #[B8 x1, .int .u32 (A : Nat), .int .u32 (B : Nat)] rfl rfl _ _ h0 info_head rfl (by simp [Value.oneCell']) ?_)
  refine bodyPost_ret (res_ctt rfl _ _ _ 133 #[B8 x1, .int .u32 (A : Nat), .int .u32 (B : Nat)] (0, 0) _ (.slice q9 n9 c9) (.int .i64 0) rfl ?_ rfl rfl Tryz.underlying133 rfl info_head) rfl ?_
  · exact hrs h0
  · exact ⟨_, _, _, rfl, below_row HB6.out (Nat.le_refl _)⟩
/-- head.Read: the head and the code; what is behind it is not told -/
theorem HRead_any (p : Option Addr) (n c : Nat) (xs : List UInt8) (w : World) (h : Sl B8 w p n c xs) (hr : Room n) :
    Calls Tryz.prog 170 #[.slice p n c] w (if headC xs = 0 then HRet w (xs.getD 1 0) (get4 ((xs.drop 2).take 4)) (get4 ((xs.drop 6).take 4)) 0 else HRet w 0 0 0 (headC xs)) := by
  have hl := h.len
  unfold headC
  by_cases h10 : n < 10
  · rw [if_pos (by omega : xs.length < 10), if_neg (by decide)]
    exact HRead_short p n c w h10
  · rw [if_neg (by omega : ¬ xs.length < 10)]
    obtain ⟨b, o, x0, rfl, k0, y0⟩ := h.at 0 (by omega)
    obtain ⟨_, _, x1, e1, k1, y1⟩ := h.at 1 (by omega)
    cases e1
    rw [Nat.add_zero] at k0
    rw [at_get y0.out, at_get y1.out]
    by_cases h0 : x0 = 1
    · have e : (if x0 ≠ 1 then 7 else modeC x1) = modeC x1 := if_neg (by simp [h0])
      rw [e]
      subst h0
      rcases modeC_range x1 with h1 | h1
      · rw [h1, if_pos rfl]
        exact HRead_good b o n c xs w h hr (by omega) x1 k0 k1 h1
      · rw [h1, if_neg (by decide)]
        exact HRead_mode b o n c w (by omega) x1 k0 k1 h1 h.bound
    · have e : (if x0 ≠ 1 then 7 else modeC x1) = 7 := if_pos h0
      rw [e, if_neg (by decide)]
      exact HRead_version b o n c w (by omega) x0 k0 h0 h.bound
end Go.Proofs.YtfbmdlfkipipfaaGreatDoor
namespace Go.By
open Go.RowKit
theorem heap_setCells {g T : Nat} : ∀ (vs : List Value) (o : Nat) (w : World) (cur : List Value), w.heap[g]? = some (.cells cur.toArray T (0, 0)) → o + vs.length ≤ cur.length →
    (w.setCells g o vs).heap[g]? = some (.cells (cur.take o ++ vs ++ cur.drop (o + vs.length)).toArray T (0, 0))
  | [], o, w, cur, h, _ => by simpa [World.setCells] using h
  | v :: r, o, w, cur, h, hl => by
    have hl' : o + (r.length + 1) ≤ cur.length := hl
    have h1 : (w.setCell ⟨g, o, none⟩ v).heap[g]? = some (.cells (cur.set o v).toArray T (0, 0)) := by
      rw [hss h]; simp
    rw [World.setCells, heap_setCells r (o + 1) _ _ h1 (by rw [List.length_set]; omega)]
    congr 3
    apply List.ext_getElem?
    intro j
    simp only [List.getElem?_append, List.length_append, List.length_take, List.length_set, List.length_cons, List.getElem?_take, List.getElem?_drop, List.getElem?_set, List.getElem?_cons, show min (o + 1) cur.length = o + 1 by omega, show min o cur.length = o by omega]
    by_cases c1 : j < o
    · simp [c1, show j < o + 1 by omega, show j < o + 1 + r.length by omega, show j < o + (r.length + 1) by omega, show ¬ o = j by omega]
    · by_cases c2 : j = o
      · subst c2; simp [show j < j + 1 + r.length by omega, show j < cur.length by omega]
      · by_cases c3 : j < o + 1 + r.length
        · simp [c1, c3, show ¬ j < o + 1 by omega, show j < o + (r.length + 1) by omega, show ¬ j - o = 0 by omega, show j - o - 1 = j - (o + 1) by omega]
        · simp [c1, c3, show ¬ j < o + (r.length + 1) by omega, show ¬ o = o + 1 + r.length + (j - (o + 1 + r.length)) by omega, show o + (r.length + 1) + (j - (o + (r.length + 1))) = o + 1 + r.length + (j - (o + 1 + r.length)) by omega]
theorem grownBy_setCell (w : World) (g o : Nat) (v : Value) : w.grownBy (w.setCell ⟨g, o, none⟩ v) (some g) :=
  ⟨rfl, rfl, rfl, by simp, fun i hi hne => by
    have e : i ≠ g := fun e => hne (by rw [e])
    have := hsc (w := w) (a := ⟨g, o, none⟩) (v := v) (x := w.heap[i]) (i := i) (Array.getElem?_eq_getElem hi) e
    rw [this, Array.getElem?_eq_getElem hi]⟩
theorem grownBy_setCells (g : Nat) : ∀ (vs : List Value) (o : Nat) (w : World), w.grownBy (w.setCells g o vs) (some g)
  | [], _, w => World.grownBy.refl _ _
  | v :: r, o, w => grown_trans (grownBy_setCell w g o v) (grownBy_setCells g r (o + 1) _)
theorem grownBy_drew (w : World) (row : Option Nat) : w.grownBy w.drew row := ⟨rfl, rfl, rfl, Nat.le_refl _, fun _ _ _ => rfl⟩
/-- the cells of a list of parcels -/
def pcs (us : List (Value × Int)) : List Value := us.flatMap fun u => [u.1, .int .i64 u.2]
theorem pcs_append (us vs : List (Value × Int)) : pcs (us ++ vs) = pcs us ++ pcs vs := by simp [pcs]
theorem owns2_shut {w : World} {base T n c g : Nat} {cur L : List Value} (hg : base ≤ g) (hh : w.heap[g]? = some (.cells (List.toArray cur) T (0, 0))) (h1 : n ≤ c) (h2 : c ≤ maxLen) (h3 : cur.length = c * 2) (h4 : cur.take (n * 2) = L) :
    w.ownsRow base T 2 (.slice (some ⟨g, 0, none⟩) n c) n L :=
  ⟨by rw [← h4, List.length_take]; omega, .inr ⟨g, c, cur.toArray, rfl, hg, hh, h1, h2, by simpa using h3, by simpa using h4⟩⟩
theorem cell_arr {w : World} {g T : Nat} {cur : List Value} (h : w.heap[g]? = some (.cells (List.toArray cur) T (0, 0))) (j : Nat) : w.cell? ⟨g, j, none⟩ = cur[j]? := by
  rw [cell_of_row _ _ j _ T (0, 0) h]; simp
theorem frozen_arr {w : World} {g T : Nat} {cur : List Value} (h : w.heap[g]? = some (.cells (List.toArray cur) T (0, 0))) (j : Nat) : w.frozen? ⟨g, j, none⟩ = false := frozen_of_row _ _ j _ _ h
/-- copy, of elements of two cells -/
theorem run_copy_two {P : Program} (w : World) (dT sT ty elem : TypeId) (b o dLen dCap : Nat) (a : Addr) (sLen sCap : Nat) (cs : List Value)
    (hu : P.underlying dT = some (.slice elem)) (hs : (P.info? elem).map (·.size) = some 2) (hn : cs.length = Nat.min sLen dLen * 2)
    (hsrc : ∀ j v, cs[j]? = some v → w.cell? (a.add j) = some v) (hc : ∀ j, j < cs.length → (w.cell? ⟨b, o + j, none⟩).isSome = true) (hf : ∀ j, j < cs.length → w.frozen? ⟨b, o + j, none⟩ = false) (h1 : ∀ v ∈ cs, v.oneCell' = true) :
    (Builtin.copy_ #[dT, sT] ty #[.slice (some ⟨b, o, none⟩) dLen dCap, .slice (some a) sLen sCap]).run P w = .ok (goInt (Nat.min sLen dLen)) (w.setCells b o cs) := by
  have hl := run_loadCells_list (P := P) w a cs hsrc
  have hst := run_storeCells_cells (P := P) b o cs 0 w (by simpa using hc) (by simpa using hf) h1
  cases hq : P.info? elem with
  | none => simp [hq] at hs
  | some i =>
    have hi : i.size = 2 := by simpa [hq] using hs
    simp only [Nat.add_zero] at hst
    simp [Builtin.copy_, run_underlying hu, Builtin.lenOf, Builtin.firstCells, sizeOf, typeInfo, hq, hi, ← hn, hl, hst]
end Go.By
namespace Go.Proofs.YtfbmdlfkipipfaaGreatDoor
open Go.RowKit Go.By
end Go.Proofs.YtfbmdlfkipipfaaGreatDoor
namespace Go.Proofs.YtfbmdlfkipipfaaGreatDoor
open Go.RowKit Go.By
theorem noughtS_of {xss : List (List UInt8)} {x0 : List UInt8} {m : Nat} (h0 : xss[0]? = some x0) (hm : x0.length = m) (h : ∀ xs, xs ∈ xss → xs.length = m) : noughtS xss = (List.replicate m 0, 0) := by
  cases xss with
  | nil => simp at h0
  | cons x l =>
    simp at h0; subst h0; subst hm
    simp only [noughtS]
    rw [if_pos (List.all_eq_true.2 fun xs hx => by simpa using h xs hx)]
end Go.Proofs.YtfbmdlfkipipfaaGreatDoor
namespace Go.Proofs.YtfbmdlfkipipfaaGreatDoor
open Go.RowKit Go.By
end Go.Proofs.YtfbmdlfkipipfaaGreatDoor
namespace Go.Proofs.YtfbmdlfkipipfaaGreatDoor
open Go.RowKit Go.By
set_option maxHeartbeats 400000 in
theorem BClone_any (p : Option Addr) (n c : Nat) (xs : List UInt8) (w : World) (h : Sl B8 w p n c xs) (hn : Room n) :
    Calls Tryz.prog 150 #[.slice p n c] w fun e w' => ∃ q c', e = .returned (.slice q n c') ∧ w'.ownsRow w.heap.size 5 1 (.slice q n c') n (xs.map B8) ∧ Below w.heap.size w w' := by
  obtain ⟨i0, hi, hz0, hz1, hz2⟩ := info_parts info_u8
  cases hp : p with
  | none =>
    subst hp
    obtain ⟨rfl, rfl⟩ := h.nil rfl
    have : xs = [] := List.eq_nil_of_length_eq_zero h.len
    subst this
    have hq := fun w => Lib.run_eql_slice_nil (P := Tryz.prog) w 22 5 none 0 0 0 0 Tryz.underlying22
    go_enter Tryz.func150, Tryz.ntmps150
    go_wp2
    go_ret
    exact ⟨none, 0, rfl, World.ownsRow_nil _ _ _ _, Below.refl _ _⟩
  | some ad =>
    subst hp
    have hq := fun w => Lib.run_eql_slice_nil (P := Tryz.prog) w 22 5 (some ad) n c 0 0 Tryz.underlying22
    have H := Lib.hid h
    clear h
    go_enter Tryz.func150, Tryz.ntmps150
    go_wp2_with (at_builtin; refine wpList_append_rs _ rfl _ _ 22 rfl w.heap.size 5 i0 (.int .u8 0) 1 Tryz.underlying22 hi hz0 hz1 hz2 rfl _ 0 [] rfl (World.ownsRow_lit w #[] 0 (Nat.le_refl _) (by simp [maxLen]) rfl) B8 _ _ _ xs (fun _ _ => rfl) rfl (H.out.keep ((Below.refl _ _).alloc (Nat.le_refl _) _)) ?c1 ?c2 ?c3 ?_)
    case c1 => have := H.out.le; have := H.out.max; omega
    case c2 => unfold Room at hn; omega
    case c3 => simp
    intro v' w' ho hg
    obtain ⟨q, c', rfl⟩ := owns_shape ho
    go_wp2
    go_ret
    exact ⟨q, c', by simp, by simpa using ho, ((Below.refl _ _).alloc (Nat.le_refl _) _).grown hg (by simp) (by simp [Value.ownBlock])⟩
end Go.Proofs.YtfbmdlfkipipfaaGreatDoor
namespace Go.Proofs.YtfbmdlfkipipfaaGreatDoor
open Go.RowKit Go.By
theorem info_packet : (Tryz.prog.info? 135).map (·.size) = some 7 := by kernel_rfl
/-- s[:k] -/
theorem Sl.front' {α : Type} {enc : α → Value} {w : World} {p : Option Addr} {n c k : Nat} {xs : List α} (h : Sl enc w p n c xs) (hk : k ≤ n) : Sl enc w p k c (xs.take k) := by
  have h1 := h.len; have h2 := h.le; have h3 := h.max
  refine ⟨by simp; omega, by omega, h3, fun hp => by have := h.nil hp; omega, ?_⟩
  intro i hi
  simp at hi
  obtain ⟨b, o, e, hc⟩ := h.rs i (by omega)
  exact ⟨b, o, e, by rw [hc]; simp⟩
/-- nothing was read: a code -/
def PZero (w : World) (code : Int) (e : Ending) (w' : World) : Prop := e = .returned (.tuple #[PkVal 0 0 0 0 none 0 0 0 none 0 0, .int .i64 code]) ∧ Below w.heap.size w w'
set_option maxRecDepth 100000 in
set_option maxHeartbeats 2000000 in
theorem PRead_head (L t k D : Nat) (p : Option Addr) (n c : Nat) (xs : List UInt8) (w : World) (hP : POK L t k D) (h : Sl B8 w p n c xs) (hr : Room n) (hc : headC xs ≠ 0) :
    Calls Tryz.prog 110 #[PVal L t k D, .slice p n c] w (PZero w (headC xs)) := by
  have HK : Hid (∀ w, Calls Tryz.prog 73 #[PVal L t k D] w fun e w' => e = .returned (.int .i64 0) ∧ Below w.heap.size w w') := PCheck_ok hP
  have HR : Hid (∀ w, Sl B8 w p n c xs → Calls Tryz.prog 170 #[.slice p n c] w (HRet w 0 0 0 (headC xs))) := fun w h => by have := HRead_any p n c xs w h hr; rw [if_neg hc] at this; exact this
  have H := Lib.hid h
  have e0 : (headC xs != 0) = true := bne_iff_ne.2 hc
  generalize headC xs = C at *
  clear hP h hr hc
  go_enter Tryz.func110, Tryz.ntmps110
  go_wp2_with fail
  refine Calls.mono (HK.out _) ?_
  rintro e w1 ⟨rfl, hb⟩
  obtain ⟨hb1, h1, h2, hs⟩ := two_of hb
  have HB := Lib.hid hb1
  clear hb hb1
  go_wp2_with fail
  refine Calls.mono (HR.out _ (H.out.keep HB.out)) ?_
  rintro e w2 ⟨q0, n0, k0, rfl, hb⟩
  have h1' := (hb.block _ (by omega)).trans h1
  have h2' := (hb.block _ (by omega)).trans h2
  have hs2 : w.heap.size + 2 ≤ w2.heap.size := Nat.le_trans hs hb.size
  have HB2 := Lib.hid (bl HB.out hb HB.out.size)
  clear hb h1 h2 hs
  go_wp2_with (refine wpList_store_row (o := ⟨none, .store 135 (.tmp 4) (.tmp 29), _, _, _, _⟩) rfl 135 (.tmp 4) (.tmp 29) rfl (w.heap.size + 1) #[.int .u8 0, .int .u32 0, .int .u32 0, .int .u8 0, .slice none 0 0, .int .u64 0, .slice none 0 0] rfl rfl _ _ (hal h2') info_packet rfl (by simp [Value.oneCell']) ?_)
  refine bodyPost_ret (res_ct rfl _ _ _ 135 #[.int .u8 0, .int .u32 0, .int .u32 0, .int .u8 0, .slice none 0 0, .int .u64 0, .slice none 0 0] (0, 0) _ (.int .i64 C) rfl (hrs (hal h2')) rfl Tryz.underlying135 rfl info_packet) rfl ?_
  exact ⟨rfl, below_row (al HB2.out HB2.out.size) (by omega)⟩
set_option maxRecDepth 100000 in
set_option maxHeartbeats 2000000 in
theorem PRead_len (L t k D : Nat) (p : Option Addr) (n c : Nat) (xs : List UInt8) (w : World) (hP : POK L t k D) (h : Sl B8 w p n c xs) (hr : Room n) (hc : headC xs = 0) (hn : n ≠ lenP (xs.getD 1 0) k t) :
    Calls Tryz.prog 110 #[PVal L t k D, .slice p n c] w (PZero w 4) := by
  have HK : Hid (∀ w, Calls Tryz.prog 73 #[PVal L t k D] w fun e w' => e = .returned (.int .i64 0) ∧ Below w.heap.size w w') := PCheck_ok hP
  have hm := headC_mode hc
  have HR : Hid (∀ w, Sl B8 w p n c xs → Calls Tryz.prog 170 #[.slice p n c] w (HRet w (xs.getD 1 0) (get4 ((xs.drop 2).take 4)) (get4 ((xs.drop 6).take 4)) 0)) := fun w h => by have := HRead_any p n c xs w h hr; rw [if_pos hc] at this; exact this
  have HN : Hid (∀ w, Calls Tryz.prog 96 #[PVal L t k D, B8 (xs.getD 1 0)] w fun e w' => e = .returned (.tuple #[.int .i64 (lenP (xs.getD 1 0) k t : Nat), .int .i64 0]) ∧ Below w.heap.size w w') := fun w => PLength_ok L t k D _ w hP hm
  have H := Lib.hid h
  have e0 : ((n : Int) != (lenP (xs.getD 1 0) k t : Int)) = true := bne_iff_ne.2 (by omega)
  generalize lenP (xs.getD 1 0) k t = N at *
  generalize xs.getD 1 0 = m at *
  generalize get4 ((xs.drop 2).take 4) = O at *
  generalize get4 ((xs.drop 6).take 4) = M at *
  clear hP h hr hc hm hn
  go_enter Tryz.func110, Tryz.ntmps110
  go_wp2_with fail
  refine Calls.mono (HK.out _) ?_
  rintro e w1 ⟨rfl, hb⟩
  obtain ⟨hb1, h1, h2, hs⟩ := two_of hb
  have HB := Lib.hid hb1
  clear hb hb1
  go_wp2_with fail
  refine Calls.mono (HR.out _ (H.out.keep HB.out)) ?_
  rintro e w2 ⟨q0, n0, k0, rfl, hb⟩
  have h1' := (hb.block _ (by omega)).trans h1
  have h2' := (hb.block _ (by omega)).trans h2
  have hs2 : w.heap.size + 2 ≤ w2.heap.size := Nat.le_trans hs hb.size
  have HB2 := Lib.hid (bl HB.out hb HB.out.size)
  clear hb h1 h2 hs
  have c0 : ∀ o', (w2.alloc o').cell? ⟨w.heap.size, 0, none⟩ = _ := fun _ => calloc (cells_four h1').1
  have c1 : ∀ o', (w2.alloc o').cell? ⟨w.heap.size, 1, none⟩ = _ := fun _ => calloc (cells_four h1').2.1
  have c2 : ∀ o', (w2.alloc o').cell? ⟨w.heap.size, 2, none⟩ = _ := fun _ => calloc (cells_four h1').2.2.1
  have c3 : ∀ o', (w2.alloc o').cell? ⟨w.heap.size, 3, none⟩ = _ := fun _ => calloc (cells_four h1').2.2.2
  go_wp2_with fail
  refine Calls.mono (HN.out _) ?_
  rintro e w3 ⟨rfl, hb⟩
  obtain ⟨hb3, h3, hs3⟩ := one_of hb
  have h1 := (hb3.block _ (by omega)).trans h1'
  have h2 := (hb3.block _ (by omega)).trans h2'
  have HB3 := Lib.hid (bl HB2.out hb3 HB2.out.size)
  have HX : Hid (w.heap.size + 2 ≤ w2.heap.size) := hs2
  clear hb hb3 h1' h2' c0 c1 c2 c3
  go_wp2_with (refine wpList_store_row (o := ⟨none, .store 135 (.tmp 4) (.tmp 46), _, _, _, _⟩) rfl 135 (.tmp 4) (.tmp 46) rfl (w.heap.size + 1) #[.int .u8 0, .int .u32 0, .int .u32 0, .int .u8 0, .slice none 0 0, .int .u64 0, .slice none 0 0] rfl rfl _ _ h2 info_packet rfl (by simp [Value.oneCell']) ?_)
  refine bodyPost_ret (res_ct rfl _ _ _ 135 #[.int .u8 0, .int .u32 0, .int .u32 0, .int .u8 0, .slice none 0 0, .int .u64 0, .slice none 0 0] (0, 0) _ (.int .i64 4) rfl (hrs h2) rfl Tryz.underlying135 rfl info_packet) rfl ?_
  exact ⟨rfl, below_row HB3.out (by omega)⟩
set_option maxRecDepth 100000 in
set_option maxHeartbeats 4000000 in
theorem PRead_sum (L t k D : Nat) (b o : Nat) (n c : Nat) (xs : List UInt8) (w : World) (hP : POK L t k D) (hT : HalfT w) (h : Sl B8 w (some ⟨b, o, none⟩) n c xs) (hr : Room n) (hc : headC xs = 0) (E : Nat) (hn : n = lenP (xs.getD 1 0) k t) (hE : n = E + 4) (hs : get4 ((xs.drop E).take 4) ≠ crcS (xs.take E)) :
    Calls Tryz.prog 110 #[PVal L t k D, .slice (some ⟨b, o, none⟩) n c] w (PZero w 10) := by
  have HK : Hid (∀ w, Calls Tryz.prog 73 #[PVal L t k D] w fun e w' => e = .returned (.int .i64 0) ∧ Below w.heap.size w w') := PCheck_ok hP
  have hm := headC_mode hc
  have HR : Hid (∀ w, Sl B8 w (some ⟨b, o, none⟩) n c xs → Calls Tryz.prog 170 #[.slice (some ⟨b, o, none⟩) n c] w (HRet w (xs.getD 1 0) (get4 ((xs.drop 2).take 4)) (get4 ((xs.drop 6).take 4)) 0)) := fun w h => by have := HRead_any (some ⟨b, o, none⟩) n c xs w h hr; rw [if_pos hc] at this; exact this
  have HN : Hid (∀ w, Calls Tryz.prog 96 #[PVal L t k D, B8 (xs.getD 1 0)] w fun e w' => e = .returned (.tuple #[.int .i64 (n : Nat), .int .i64 0]) ∧ Below w.heap.size w w') := fun w => by rw [hn]; exact PLength_ok L t k D _ w hP hm
  have H := Lib.hid h
  have HT := Lib.hid hT
  have hle := h.le
  have hmx := h.max
  unfold maxLen at hmx
  have HE : Hid (E + 4 ≤ n) := by show E + 4 ≤ n; omega
  have HE' : Hid (E ≤ n) := by show E ≤ n; omega
  have eE : (n : Int) - 4 = (E : Int) := by omega
  have eN : n - E = 4 := by omega
  have eC : ¬ (c = E) := by omega
  have eb1 : (E : Int) ≤ (n : Int) := by omega
  have eb2 : (E : Int) ≤ (c : Int) := by omega
  obtain ⟨G, hG⟩ : ∃ G, get4 ((xs.drop E).take 4) = G := ⟨_, rfl⟩
  have HG := Lib.hid hG
  obtain ⟨C, hC⟩ : ∃ C, crcS ([xs.take E].flatten) = C := ⟨_, rfl⟩
  have HC := Lib.hid hC
  have e0 : ((G : Int) != (C : Int)) = true := bne_iff_ne.2 (by rw [hG] at hs; simp at hC; rw [hC] at hs; omega)
  generalize xs.getD 1 0 = m at *
  generalize get4 ((xs.drop 2).take 4) = O at *
  generalize get4 ((xs.drop 6).take 4) = M at *
  clear hP h hr hc hm hn hs hT hG hC hE
  go_enter Tryz.func110, Tryz.ntmps110
  go_wp2_with fail
  refine Calls.mono (HK.out _) ?_
  rintro e w1 ⟨rfl, hb⟩
  obtain ⟨hb1, h1, h2, hs⟩ := two_of hb
  have HB := Lib.hid hb1
  clear hb hb1
  go_wp2_with fail
  refine Calls.mono (HR.out _ (H.out.keep HB.out)) ?_
  rintro e w2 ⟨q0, n0, k0, rfl, hb⟩
  have h1' := (hb.block _ (by omega)).trans h1
  have h2' := (hb.block _ (by omega)).trans h2
  have hs2 : w.heap.size + 2 ≤ w2.heap.size := Nat.le_trans hs hb.size
  have HB2 := Lib.hid (bl HB.out hb HB.out.size)
  clear hb h1 h2 hs
  have c0 : ∀ o', (w2.alloc o').cell? ⟨w.heap.size, 0, none⟩ = _ := fun _ => calloc (cells_four h1').1
  have c1 : ∀ o', (w2.alloc o').cell? ⟨w.heap.size, 1, none⟩ = _ := fun _ => calloc (cells_four h1').2.1
  have c2 : ∀ o', (w2.alloc o').cell? ⟨w.heap.size, 2, none⟩ = _ := fun _ => calloc (cells_four h1').2.2.1
  have c3 : ∀ o', (w2.alloc o').cell? ⟨w.heap.size, 3, none⟩ = _ := fun _ => calloc (cells_four h1').2.2.2
  go_wp2_with fail
  refine Calls.mono (HN.out _) ?_
  rintro e w3 ⟨rfl, hb⟩
  obtain ⟨hb3, h3, hs3⟩ := one_of hb
  have h1 := (hb3.block _ (by omega)).trans h1'
  have h2 := (hb3.block _ (by omega)).trans h2'
  have HB3 := Lib.hid (bl HB2.out hb3 HB2.out.size)
  have HX : Hid (w.heap.size + 2 ≤ w2.heap.size) := hs2
  clear hb hb3 h1' h2' c0 c1 c2 c3
  go_wp2_with fail
  refine Calls.mono (SGet_any _ _ _ _ _ (Sl.part (k := E) (m := 4) (H.out.keep HB3.out) HE.out)) ?_
  rintro e w4 ⟨rfl, hb⟩
  rw [if_pos rfl, HG.out]
  have h1' := (hb.block _ (by omega)).trans h1
  have h2' := (hb.block _ (by omega)).trans h2
  have h3' := (hb.block _ (by omega)).trans h3
  have hs4 : w2.heap.size + 1 ≤ w4.heap.size := Nat.le_trans hs3 hb.size
  have HB4 := Lib.hid (bl HB3.out hb HB3.out.size)
  clear hb h1 h2 h3 hs3
  go_wp2_with fail
  refine Calls.mono (SOf_any _ _ _ [xs.take E] _ (sl2_one (hnew rfl) ((Sl.front' (H.out.keep HB4.out) HE'.out).keep (al (Below.refl _ _) (Nat.le_refl _)))) (HT.out.keep (al HB4.out HB4.out.size))) ?_
  rintro e w5 ⟨rfl, hb⟩
  obtain ⟨hb5, -, hs5'⟩ := one_of hb
  have h1 := (hb5.block _ (by omega)).trans h1'
  have h2 := (hb5.block _ (by omega)).trans h2'
  have h3 := (hb5.block _ (by omega)).trans h3'
  have hs5 : w2.heap.size + 1 ≤ w5.heap.size := by omega
  have HB5 := Lib.hid (bl HB4.out hb5 HB4.out.size)
  clear hb hb5 h1' h2' h3' hs5' hs4
  rw [HC.out]
  go_wp2_with (refine wpList_store_row (o := ⟨none, .store 135 (.tmp 4) (.tmp 67), _, _, _, _⟩) rfl 135 (.tmp 4) (.tmp 67) rfl (w.heap.size + 1) #[.int .u8 0, .int .u32 0, .int .u32 0, .int .u8 0, .slice none 0 0, .int .u64 0, .slice none 0 0] rfl rfl _ _ h2 info_packet rfl (by simp [Value.oneCell']) ?_)
  refine bodyPost_ret (res_ct rfl _ _ _ 135 #[.int .u8 0, .int .u32 0, .int .u32 0, .int .u8 0, .slice none 0 0, .int .u64 0, .slice none 0 0] (0, 0) _ (.int .i64 10) rfl (hrs h2) rfl Tryz.underlying135 rfl info_packet) rfl ?_
  exact ⟨rfl, below_row HB5.out (by omega)⟩
set_option maxRecDepth 100000 in
set_option maxHeartbeats 4000000 in
theorem PRead_obj (L t k D : Nat) (b o : Nat) (n c : Nat) (xs : List UInt8) (w : World) (hP : POK L t k D) (hT : HalfT w) (h : Sl B8 w (some ⟨b, o, none⟩) n c xs) (hr : Room n) (hc : headC xs = 0) (E : Nat) (hn : n = lenP (xs.getD 1 0) k t) (hE : n = E + 4) (hs : get4 ((xs.drop E).take 4) = crcS (xs.take E)) (ho : get4 ((xs.drop 2).take 4) ≠ D) :
    Calls Tryz.prog 110 #[PVal L t k D, .slice (some ⟨b, o, none⟩) n c] w (PZero w 9) := by
  have HK : Hid (∀ w, Calls Tryz.prog 73 #[PVal L t k D] w fun e w' => e = .returned (.int .i64 0) ∧ Below w.heap.size w w') := PCheck_ok hP
  have hm := headC_mode hc
  have HR : Hid (∀ w, Sl B8 w (some ⟨b, o, none⟩) n c xs → Calls Tryz.prog 170 #[.slice (some ⟨b, o, none⟩) n c] w (HRet w (xs.getD 1 0) (get4 ((xs.drop 2).take 4)) (get4 ((xs.drop 6).take 4)) 0)) := fun w h => by have := HRead_any (some ⟨b, o, none⟩) n c xs w h hr; rw [if_pos hc] at this; exact this
  have HN : Hid (∀ w, Calls Tryz.prog 96 #[PVal L t k D, B8 (xs.getD 1 0)] w fun e w' => e = .returned (.tuple #[.int .i64 (n : Nat), .int .i64 0]) ∧ Below w.heap.size w w') := fun w => by rw [hn]; exact PLength_ok L t k D _ w hP hm
  have H := Lib.hid h
  have HT := Lib.hid hT
  have hle := h.le
  have hmx := h.max
  unfold maxLen at hmx
  have HE : Hid (E + 4 ≤ n) := by show E + 4 ≤ n; omega
  have HE' : Hid (E ≤ n) := by show E ≤ n; omega
  have eE : (n : Int) - 4 = (E : Int) := by omega
  have eN : n - E = 4 := by omega
  have eC : ¬ (c = E) := by omega
  have eb1 : (E : Int) ≤ (n : Int) := by omega
  have eb2 : (E : Int) ≤ (c : Int) := by omega
  obtain ⟨G, hG⟩ : ∃ G, get4 ((xs.drop E).take 4) = G := ⟨_, rfl⟩
  have HG := Lib.hid hG
  obtain ⟨C, hC⟩ : ∃ C, crcS ([xs.take E].flatten) = C := ⟨_, rfl⟩
  have HC := Lib.hid hC
  have e0 : C = G := by rw [hG] at hs; simp at hC; rw [hC] at hs; exact hs.symm
  subst e0
  have e1 : ((get4 ((xs.drop 2).take 4) : Int) != (D : Int)) = true := bne_iff_ne.2 (by omega)
  generalize xs.getD 1 0 = m at *
  generalize get4 ((xs.drop 2).take 4) = O at *
  generalize get4 ((xs.drop 6).take 4) = M at *
  clear hP h hr hc hm hn hs ho hT hG hC hE
  go_enter Tryz.func110, Tryz.ntmps110
  go_wp2_with fail
  refine Calls.mono (HK.out _) ?_
  rintro e w1 ⟨rfl, hb⟩
  obtain ⟨hb1, h1, h2, hs⟩ := two_of hb
  have HB := Lib.hid hb1
  clear hb hb1
  go_wp2_with fail
  refine Calls.mono (HR.out _ (H.out.keep HB.out)) ?_
  rintro e w2 ⟨q0, n0, k0, rfl, hb⟩
  have h1' := (hb.block _ (by omega)).trans h1
  have h2' := (hb.block _ (by omega)).trans h2
  have hs2 : w.heap.size + 2 ≤ w2.heap.size := Nat.le_trans hs hb.size
  have HB2 := Lib.hid (bl HB.out hb HB.out.size)
  clear hb h1 h2 hs
  have c0 : ∀ o', (w2.alloc o').cell? ⟨w.heap.size, 0, none⟩ = _ := fun _ => calloc (cells_four h1').1
  have c1 : ∀ o', (w2.alloc o').cell? ⟨w.heap.size, 1, none⟩ = _ := fun _ => calloc (cells_four h1').2.1
  have c2 : ∀ o', (w2.alloc o').cell? ⟨w.heap.size, 2, none⟩ = _ := fun _ => calloc (cells_four h1').2.2.1
  have c3 : ∀ o', (w2.alloc o').cell? ⟨w.heap.size, 3, none⟩ = _ := fun _ => calloc (cells_four h1').2.2.2
  go_wp2_with fail
  refine Calls.mono (HN.out _) ?_
  rintro e w3 ⟨rfl, hb⟩
  obtain ⟨hb3, h3, hs3⟩ := one_of hb
  have h1 := (hb3.block _ (by omega)).trans h1'
  have h2 := (hb3.block _ (by omega)).trans h2'
  have HB3 := Lib.hid (bl HB2.out hb3 HB2.out.size)
  have HX : Hid (w.heap.size + 2 ≤ w2.heap.size) := hs2
  clear hb hb3 h1' h2' c0 c1 c2 c3
  go_wp2_with fail
  refine Calls.mono (SGet_any _ _ _ _ _ (Sl.part (k := E) (m := 4) (H.out.keep HB3.out) HE.out)) ?_
  rintro e w4 ⟨rfl, hb⟩
  rw [if_pos rfl, HG.out]
  have h1' := (hb.block _ (by omega)).trans h1
  have h2' := (hb.block _ (by omega)).trans h2
  have h3' := (hb.block _ (by omega)).trans h3
  have hs4 : w2.heap.size + 1 ≤ w4.heap.size := Nat.le_trans hs3 hb.size
  have HB4 := Lib.hid (bl HB3.out hb HB3.out.size)
  clear hb h1 h2 h3 hs3
  go_wp2_with fail
  refine Calls.mono (SOf_any _ _ _ [xs.take E] _ (sl2_one (hnew rfl) ((Sl.front' (H.out.keep HB4.out) HE'.out).keep (al (Below.refl _ _) (Nat.le_refl _)))) (HT.out.keep (al HB4.out HB4.out.size))) ?_
  rintro e w5 ⟨rfl, hb⟩
  obtain ⟨hb5, -, hs5'⟩ := one_of hb
  have h1 := (hb5.block _ (by omega)).trans h1'
  have h2 := (hb5.block _ (by omega)).trans h2'
  have h3 := (hb5.block _ (by omega)).trans h3'
  have hs5 : w2.heap.size + 1 ≤ w5.heap.size := by omega
  have HB5 := Lib.hid (bl HB4.out hb5 HB4.out.size)
  clear hb hb5 h1' h2' h3' hs5' hs4
  rw [HC.out]
  obtain ⟨c0, c1, c2, c3⟩ := cells_four h1
  obtain ⟨d0, d1, d2⟩ := cells_three h3
  go_wp2_with (refine wpList_store_row (o := ⟨none, .store 135 (.tmp 4) (.tmp 73), _, _, _, _⟩) rfl 135 (.tmp 4) (.tmp 73) rfl (w.heap.size + 1) #[.int .u8 0, .int .u32 0, .int .u32 0, .int .u8 0, .slice none 0 0, .int .u64 0, .slice none 0 0] rfl rfl _ _ h2 info_packet rfl (by simp [Value.oneCell']) ?_)
  refine bodyPost_ret (res_ct rfl _ _ _ 135 #[.int .u8 0, .int .u32 0, .int .u32 0, .int .u8 0, .slice none 0 0, .int .u64 0, .slice none 0 0] (0, 0) _ (.int .i64 9) rfl (hrs h2) rfl Tryz.underlying135 rfl info_packet) rfl ?_
  exact ⟨rfl, below_row HB5.out (by omega)⟩
end Go.Proofs.YtfbmdlfkipipfaaGreatDoor
namespace Go.By
open Go.RowKit
end Go.By
namespace Go.Proofs.YtfbmdlfkipipfaaGreatDoor
open Go.RowKit Go.By
def RdT (T B : Nat) (m : UInt8) (S : Nat) (X : List UInt8) (v : Value) (w : World) : Prop := ∃ q n c, v = .tuple #[SVal m q n c S, .int .i64 0] ∧ Fresh T B w q n c X
def RdV (T B : Nat) (m : UInt8) (S : Nat) (X : List UInt8) (v : Value) (w : World) : Prop := ∃ q n c, v = SVal m q n c S ∧ Fresh T B w q n c X
def ShRdT (T B : Nat) (m : UInt8) (S : Nat) (X : List UInt8) : Shp := ⟨RdT T B m S X, fun _ _ _ ⟨q, n, c, e, h⟩ hb => ⟨q, n, c, e, h.keep hb⟩⟩
def ShRdV (T B : Nat) (m : UInt8) (S : Nat) (X : List UInt8) : Shp := ⟨RdV T B m S X, fun _ _ _ ⟨q, n, c, e, h⟩ hb => ⟨q, n, c, e, h.keep hb⟩⟩
def ShNew (T B : Nat) (cs : Array Value) : Shp := ⟨fun v w => ∃ g, v = .pointer (some ⟨g, 0, none⟩) ∧ B ≤ g ∧ w.heap[g]? = some (.cells cs T (0, 0)), fun _ _ _ ⟨g, e, h1, h2⟩ hb => ⟨g, e, h1, (hb.block _ (lt_of_block h2)).trans h2⟩⟩
def FrV (T B : Nat) (Y : List UInt8) (v : Value) (w : World) : Prop := ∃ q n c, v = .slice q n c ∧ Fresh T B w q n c Y
def ShFr (T B : Nat) (Y : List UInt8) : Shp := ⟨FrV T B Y, fun _ _ _ ⟨q, n, c, e, h⟩ hb => ⟨q, n, c, e, h.keep hb⟩⟩
def PkV (T B : Nat) (m : UInt8) (O M : Nat) (q8 : Option Addr) (n8 k8 S : Nat) (Y : List UInt8) (v : Value) (w : World) : Prop := ∃ q n c, v = PkVal m O M m q8 n8 k8 S q n c ∧ Fresh T B w q n c Y
def ShPk (T B : Nat) (m : UInt8) (O M : Nat) (q8 : Option Addr) (n8 k8 S : Nat) (Y : List UInt8) : Shp := ⟨PkV T B m O M q8 n8 k8 S Y, fun _ _ _ ⟨q, n, c, e, h⟩ hb => ⟨q, n, c, e, h.keep hb⟩⟩
theorem pkt_ne : 135 ≠ 5 := by decide
/-- what was read -/
def PRet (w : World) (m : UInt8) (O M : Nat) (X : List UInt8) (S : Nat) (Y : List UInt8) (e : Ending) (w' : World) : Prop :=
  ∃ q n c q2 n2 c2, e = .returned (.tuple #[PkVal m O M m q n c S q2 n2 c2, .int .i64 0]) ∧ Fresh 5 w.heap.size w' q n c X ∧ Fresh 5 w.heap.size w' q2 n2 c2 Y ∧ Below w.heap.size w w'
set_option maxRecDepth 100000 in
set_option maxHeartbeats 4000000 in
theorem PRead_ok (L t k D : Nat) (b o : Nat) (n c : Nat) (xs : List UInt8) (w : World) (hP : POK L t k D) (hT : HalfT w) (h : Sl B8 w (some ⟨b, o, none⟩) n c xs) (hr : Room n) (hc : headC xs = 0) (E : Nat) (hn : n = lenP (xs.getD 1 0) k t) (hE : n = E + 4) (hs : get4 ((xs.drop E).take 4) = crcS (xs.take E)) (ho : get4 ((xs.drop 2).take 4) = D) :
    Calls Tryz.prog 110 #[PVal L t k D, .slice (some ⟨b, o, none⟩) n c] w (PRet w (xs.getD 1 0) D (get4 ((xs.drop 6).take 4)) (rdX (xs.getD 1 0) ((xs.drop 10).take (widS (xs.getD 1 0) k))) (rdS (xs.getD 1 0) ((xs.drop 10).take (widS (xs.getD 1 0) k))) ((xs.drop (10 + widS (xs.getD 1 0) k)).take t)) := by
  have HK : Hid (∀ w, Calls Tryz.prog 73 #[PVal L t k D] w fun e w' => e = .returned (.int .i64 0) ∧ Below w.heap.size w w') := PCheck_ok hP
  have hm := headC_mode hc
  have HR : Hid (∀ w, Sl B8 w (some ⟨b, o, none⟩) n c xs → Calls Tryz.prog 170 #[.slice (some ⟨b, o, none⟩) n c] w (HRet w (xs.getD 1 0) (get4 ((xs.drop 2).take 4)) (get4 ((xs.drop 6).take 4)) 0)) := fun w h => by have := HRead_any (some ⟨b, o, none⟩) n c xs w h hr; rw [if_pos hc] at this; exact this
  have HN : Hid (∀ w, Calls Tryz.prog 96 #[PVal L t k D, B8 (xs.getD 1 0)] w fun e w' => e = .returned (.tuple #[.int .i64 (n : Nat), .int .i64 0]) ∧ Below w.heap.size w w') := fun w => by rw [hn]; exact PLength_ok L t k D _ w hP hm
  have H := Lib.hid h
  have HT := Lib.hid hT
  have hle := h.le
  have hmx := h.max
  unfold maxLen at hmx
  have HE : Hid (E + 4 ≤ n) := by show E + 4 ≤ n; omega
  have HE' : Hid (E ≤ n) := by show E ≤ n; omega
  have eE : (n : Int) - 4 = (E : Int) := by omega
  have eN : n - E = 4 := by omega
  have eC : ¬ (c = E) := by omega
  have eb1 : (E : Int) ≤ (n : Int) := by omega
  have eb2 : (E : Int) ≤ (c : Int) := by omega
  obtain ⟨G, hG⟩ : ∃ G, get4 ((xs.drop E).take 4) = G := ⟨_, rfl⟩
  have HG := Lib.hid hG
  obtain ⟨C, hC⟩ : ∃ C, crcS ([xs.take E].flatten) = C := ⟨_, rfl⟩
  have HC := Lib.hid hC
  have e0 : C = G := by rw [hG] at hs; simp at hC; rw [hC] at hs; exact hs.symm
  subst e0
  have hV2 : n = 10 + widS (xs.getD 1 0) k + t + 4 := hn
  obtain ⟨V, hV⟩ : ∃ V, widS (xs.getD 1 0) k = V := ⟨_, rfl⟩
  obtain ⟨X, hX⟩ : ∃ X, rdX (xs.getD 1 0) ((xs.drop 10).take V) = X := ⟨_, rfl⟩
  obtain ⟨S, hS⟩ : ∃ S, rdS (xs.getD 1 0) ((xs.drop 10).take V) = S := ⟨_, rfl⟩
  obtain ⟨Y, hY⟩ : ∃ Y, (xs.drop (10 + V)).take t = Y := ⟨_, rfl⟩
  have HRD : Hid (∀ w, Sl B8 w (some ⟨b, o + 10, none⟩) V (c - 10) ((xs.drop 10).take V) → Calls Tryz.prog 172 #[B8 (xs.getD 1 0), .int .i64 (k : Nat), .slice (some ⟨b, o + 10, none⟩) V (c - 10)] w fun e w' => ∃ q n' c', e = .returned (.tuple #[SVal (xs.getD 1 0) q n' c' S, .int .i64 0]) ∧ Fresh 5 w.heap.size w' q n' c' X ∧ Below w.heap.size w w') := fun w h => by
    have := RRead_any (xs.getD 1 0) k _ _ _ _ w hm hP.k1 hP.k2 h hV.symm
    rw [hX, hS] at this; exact this
  have HY := Lib.hid hY
  have HRt : Hid (Room t) := by have := hP.t2; show t ≤ 140737488355328; omega
  rw [hV] at hV2
  rw [hV, hX, hS, hY]
  obtain ⟨A, hA⟩ : ∃ A, A = 10 + V := ⟨_, rfl⟩
  have HAV := Lib.hid hA
  have eA : (E : Int) - (t : Int) = (A : Int) := by omega
  have HV : Hid (10 + V ≤ n) := by show 10 + V ≤ n; omega
  have HVt : Hid (10 + V + t ≤ n) := by show 10 + V + t ≤ n; omega
  have HEt : Hid (E = A + t) := by show E = A + t; omega
  have ea1 : (10 : Int) ≤ (A : Int) := by omega
  have ea2 : (A : Int) ≤ (c : Int) := by omega
  have ea3 : A - 10 = V := by omega
  have ea4 : ¬ (c = 10) := by omega
  have ea5 : (A : Int) ≤ (n : Int) := by omega
  generalize xs.getD 1 0 = m at *
  rw [ho] at HR
  generalize get4 ((xs.drop 6).take 4) = M at *
  clear hP h hr hc hm hn hs ho hT hG hC hE hV hV2 hX hS hY hA
  go_enter Tryz.func110, Tryz.ntmps110
  go_wp2_with fail
  refine Calls.mono (HK.out _) ?_
  rintro e w1 ⟨rfl, hb⟩
  obtain ⟨hb1, h1, h2, hs⟩ := two_of hb
  have HB := Lib.hid hb1
  clear hb hb1
  go_wp2_with fail
  refine Calls.mono (HR.out _ (H.out.keep HB.out)) ?_
  rintro e w2 ⟨q0, n0, k0, rfl, hb⟩
  have h1' := (hb.block _ (by omega)).trans h1
  have h2' := (hb.block _ (by omega)).trans h2
  have hs2 : w.heap.size + 2 ≤ w2.heap.size := Nat.le_trans hs hb.size
  have HB2 := Lib.hid (bl HB.out hb HB.out.size)
  clear hb h1 h2 hs
  have c0 : ∀ o', (w2.alloc o').cell? ⟨w.heap.size, 0, none⟩ = _ := fun _ => calloc (cells_four h1').1
  have c1 : ∀ o', (w2.alloc o').cell? ⟨w.heap.size, 1, none⟩ = _ := fun _ => calloc (cells_four h1').2.1
  have c2 : ∀ o', (w2.alloc o').cell? ⟨w.heap.size, 2, none⟩ = _ := fun _ => calloc (cells_four h1').2.2.1
  have c3 : ∀ o', (w2.alloc o').cell? ⟨w.heap.size, 3, none⟩ = _ := fun _ => calloc (cells_four h1').2.2.2
  go_wp2_with fail
  refine Calls.mono (HN.out _) ?_
  rintro e w3 ⟨rfl, hb⟩
  obtain ⟨hb3, h3, hs3⟩ := one_of hb
  have h1 := (hb3.block _ (by omega)).trans h1'
  have h2 := (hb3.block _ (by omega)).trans h2'
  have HB3 := Lib.hid (bl HB2.out hb3 HB2.out.size)
  have HX : Hid (w.heap.size + 2 ≤ w2.heap.size) := hs2
  clear hb hb3 h1' h2' c0 c1 c2 c3
  go_wp2_with fail
  refine Calls.mono (SGet_any _ _ _ _ _ (Sl.part (k := E) (m := 4) (H.out.keep HB3.out) HE.out)) ?_
  rintro e w4 ⟨rfl, hb⟩
  rw [if_pos rfl, HG.out]
  have h1' := (hb.block _ (by omega)).trans h1
  have h2' := (hb.block _ (by omega)).trans h2
  have h3' := (hb.block _ (by omega)).trans h3
  have hs4 : w2.heap.size + 1 ≤ w4.heap.size := Nat.le_trans hs3 hb.size
  have HB4 := Lib.hid (bl HB3.out hb HB3.out.size)
  clear hb h1 h2 h3 hs3
  go_wp2_with fail
  refine Calls.mono (SOf_any _ _ _ [xs.take E] _ (sl2_one (hnew rfl) ((Sl.front' (H.out.keep HB4.out) HE'.out).keep (al (Below.refl _ _) (Nat.le_refl _)))) (HT.out.keep (al HB4.out HB4.out.size))) ?_
  rintro e w5 ⟨rfl, hb⟩
  obtain ⟨hb5, -, hs5'⟩ := one_of hb
  have h1 := (hb5.block _ (by omega)).trans h1'
  have h2 := (hb5.block _ (by omega)).trans h2'
  have h3 := (hb5.block _ (by omega)).trans h3'
  have hs5 : w2.heap.size + 1 ≤ w5.heap.size := by omega
  have HB5 := Lib.hid (bl HB4.out hb5 HB4.out.size)
  clear hb hb5 h1' h2' h3' hs5' hs4
  rw [HC.out]
  obtain ⟨c0, c1, c2, c3⟩ := cells_four h1
  obtain ⟨d0, d1, d2⟩ := cells_three h3
  go_wp2_with fail
  refine wp_region_slip (fun ix => ([.val (.pointer (some ⟨w2.heap.size, 0, none⟩)), .val (B8 m), .val (.pointer (some ⟨w.heap.size, 2, none⟩)), .val (.int .i64 (k : Nat)), .val (.slice (some ⟨b, o, none⟩) n c), .val (.int .i64 (A : Nat)), .val (.slice (some ⟨b, o + 10, none⟩) V (c - 10)), (ShRdT 5 w5.heap.size m S X), (ShRdT 5 w5.heap.size m S X), (ShRdV 5 w5.heap.size m S X), (.val (.int .i64 0)), (ShNew 66 w5.heap.size #[.int .u8 0, .slice none 0 0, .int .u64 0]), .any, .any][ix]?).getD (.any)) 101 12 10 78 88 (.int .i64 0) rfl (by kernel_rfl) (by decide) (by decide) (by decide) _ rfl rfl rfl (by decide) rfl (fun a x w h => run_extract_two _ rfl h) (by decide) ?_ ?_
  · refine ⟨?_, ?_, ?_, ?_, ?_, ?_, ?_, ?_, ?_, ?_, ?_, ?_, trivial⟩
    · intro a W hb0 hs hp hi; have hb := undrew hb0; clear hb0
      have t7 : sl a 7 = .pointer (some ⟨w2.heap.size, 0, none⟩) := hi 7 (by decide)
      refine ite_y rfl (wp_val (.pointer (some ⟨w2.heap.size, 0, none⟩)) ?_ ?_)
      · simp only [execOp, eval_tmp, eval_const, t7]; simp [go_sem]
      · exact ⟨_, rfl, Below.refl _ _, rfl⟩
    · intro a W hb0 hs hp hi; have hb := undrew hb0; clear hb0
      have tt : sl a 79 = .pointer (some ⟨w2.heap.size, 0, none⟩) := hp 0 (by decide)
      have dd := (hb.cell (p := ⟨w2.heap.size, 0, none⟩) (lt_of_cell d0)).trans d0
      refine ite_y rfl (wp_val (B8 m) ?_ ?_)
      · simp only [execOp, eval_tmp, tt]; simp [go_sem, dd]
      · exact ⟨_, rfl, Below.refl _ _, rfl⟩
    · intro a W hb0 hs hp hi; have hb := undrew hb0; clear hb0
      have t2 : sl a 2 = .pointer (some ⟨w.heap.size, 0, none⟩) := hi 2 (by decide)
      refine ite_y rfl (wp_val (.pointer (some ⟨w.heap.size, 2, none⟩)) ?_ ?_)
      · simp only [execOp, eval_tmp, eval_const, t2]; simp [go_sem]
      · exact ⟨_, rfl, Below.refl _ _, rfl⟩
    · intro a W hb0 hs hp hi; have hb := undrew hb0; clear hb0
      have tt : sl a 81 = .pointer (some ⟨w.heap.size, 2, none⟩) := hp 2 (by decide)
      have dd := (hb.cell (p := ⟨w.heap.size, 2, none⟩) (lt_of_cell c2)).trans c2
      refine ite_y rfl (wp_val (.int .i64 (k : Nat)) ?_ ?_)
      · simp only [execOp, eval_tmp, tt]; simp [go_sem, dd]
      · exact ⟨_, rfl, Below.refl _ _, rfl⟩
    · intro a W hb0 hs hp hi; have hb := undrew hb0; clear hb0
      have t1 : sl a 1 = .slice (some ⟨b, o, none⟩) n c := hi 1 (by decide)
      exact ite_y rfl (wp_val (sl a 1) rfl ⟨_, rfl, Below.refl _ _, t1⟩)
    · intro a W hb0 hs hp hi; have hb := undrew hb0; clear hb0
      have t13 : sl a 13 = .int .i64 (A : Nat) := hi 13 (by decide)
      exact ite_y rfl (wp_val (sl a 13) rfl ⟨_, rfl, Below.refl _ _, t13⟩)
    · intro a W hb0 hs hp hi; have hb := undrew hb0; clear hb0
      have t83 : sl a 83 = .slice (some ⟨b, o, none⟩) n c := hp 4 (by decide)
      have t84 : sl a 84 = .int .i64 (A : Nat) := hp 5 (by decide)
      have v84 : a.tmps[84]?.getD undef = sl a 84 := by simp [sl]
      rw [t84] at v84
      refine ite_y rfl (wp_val (.slice (some ⟨b, o + 10, none⟩) V (c - 10)) ?_ ?_)
      · simp only [execOp, eval_tmp, eval_const, t83, t84]; simp [go_sem, v84, ea1, ea2, ea3, ea4, ea5]
      · exact ⟨_, rfl, Below.refl _ _, rfl⟩
    · intro a W hb0 hs hp hi; have hb := undrew hb0; clear hb0
      have t80 : sl a 80 = B8 m := hp 1 (by decide)
      have t82 : sl a 82 = .int .i64 (k : Nat) := hp 3 (by decide)
      have t85 : sl a 85 = .slice (some ⟨b, o + 10, none⟩) V (c - 10) := hp 6 (by decide)
      refine ite_y rfl (wp_enter 172 #[B8 m, .int .i64 (k : Nat), .slice (some ⟨b, o + 10, none⟩) V (c - 10)] ?_ (HRD.out _ ((Sl.part (k := 10) (m := V) (H.out.keep HB5.out) HV.out).keep hb)) ?_)
      · simp only [execOp, resolve, List.map_toArray, List.map, eval_tmp, eval_func, eval_const, t80, t82, t85]; simp [go_sem]
      · rintro e W' ⟨q5, n5, g5, rfl, o5, hw⟩; exact ⟨_, rfl, _, rfl, hw, q5, n5, g5, rfl, o5.mono hb.size⟩
    · intro a W hb0 hs hp hi; have hb := undrew hb0; clear hb0
      exact ite_y rfl (wp_val (sl a 86) rfl ⟨_, rfl, Below.refl _ _, hp 7 (by decide)⟩)
    · intro a W hb0 hs hp hi; have hb := undrew hb0; clear hb0
      have tt : RdT 5 w5.heap.size m S X (sl a 78) W := hp 8 (by decide)
      obtain ⟨q5, n5, g5, tt, z5⟩ := tt
      refine ite_y rfl (wp_val (SVal m q5 n5 g5 S) ?_ ?_)
      · simp only [execOp, eval_tmp, tt]; rfl
      · exact ⟨_, rfl, Below.refl _ _, q5, n5, g5, rfl, z5⟩
    · intro a W hb0 hs hp hi; have hb := undrew hb0; clear hb0
      have tt : RdT 5 w5.heap.size m S X (sl a 78) W := hp 8 (by decide)
      obtain ⟨q5, n5, g5, tt, z5⟩ := tt
      refine ite_y rfl (wp_val (.int .i64 0) ?_ ?_)
      · simp only [execOp, eval_tmp, tt]; rfl
      · exact ⟨_, rfl, Below.refl _ _, rfl⟩
    · intro a W hb0 hs hp hi; have hb := undrew hb0; clear hb0
      refine ite_y rfl (wp_val' (w' := W.alloc (.cells #[.int .u8 0, .slice none 0 0, .int .u64 0] 66)) (.pointer (some ⟨W.heap.size, 0, none⟩)) ?_ ?_)
      · simp only [execOp]; simp [go_sem]
      · exact ⟨_, rfl, al (Below.refl _ _) (Nat.le_refl _), _, rfl, hb.size, hnew rfl⟩
  intro a w9 o ho hb hs hd hI ht
  simp at ho; subst ho
  have y14 := hI 11 (by decide) (by decide)
  obtain ⟨g14, t14, hg14, hh14⟩ := y14
  have y87 := hI 9 (by decide) (by decide)
  obtain ⟨q8, n8, k8, t87, z87⟩ := y87
  have y78 := hI 8 (by decide) (by decide)
  obtain ⟨_, _, _, t78, _⟩ := y78
  refine ⟨⟨_, t78⟩, ?_⟩
  refine wp_store_row 66 (.tmp 14) (.tmp 87) rfl g14 #[B8 m, .slice q8 n8 k8, .int .u64 (S : Nat)] (by rw [eval_tmp]; exact t14) (by rw [eval_tmp]; exact t87) _ _ hh14 info_source rfl (by simp [Value.oneCell']) ?_
  refine ⟨rfl, fun ab hbs hbd hbt hbu => ?_⟩
  have ha := act_is [79, 80, 81, 82, 83, 84, 85, 86, 78, 87, 88, 14, 9] hbs hbd (fun t h => (hbt t (fun e => by subst e; revert h; decide)).trans (ht t h)) (by decide)
  have s14 := (hbt 14 (by decide)).trans t14
  simp only [List.foldl, hbu, s14] at ha
  generalize sl ab 79 = u79 at ha
  generalize sl ab 80 = u80 at ha
  generalize sl ab 81 = u81 at ha
  generalize sl ab 82 = u82 at ha
  generalize sl ab 83 = u83 at ha
  generalize sl ab 84 = u84 at ha
  generalize sl ab 85 = u85 at ha
  generalize sl ab 86 = u86 at ha
  generalize sl ab 78 = u78 at ha
  generalize sl ab 87 = u87 at ha
  generalize sl ab 9 = u9 at ha
  simp only [Act.put, List.setIfInBounds_toArray, List.set_cons_zero, List.set_cons_succ] at ha
  rw [ha]; clear ha hbu hbt hbs hbd hI ht hs hd s14
  simp only [List.drop_succ_cons, List.drop_zero]
  have hl2 := lt_of_block h2
  have hl5 := hb.size
  have Z := Lib.hid (z87.row (cs := #[B8 m, .slice q8 n8 k8, .int .u64 (S : Nat)]) hh14 src_ne)
  have HB6 := Lib.hid (below_row (cs := #[B8 m, .slice q8 n8 k8, .int .u64 (S : Nat)]) (g := g14) (bl HB5.out hb HB5.out.size) (Nat.le_trans HB5.out.size hg14))
  have k1 := hro (cs := #[B8 m, .slice q8 n8 k8, .int .u64 (S : Nat)]) (g := g14) ((hb.block _ (by omega)).trans h1) (by omega)
  have k2 := hro (cs := #[B8 m, .slice q8 n8 k8, .int .u64 (S : Nat)]) (g := g14) ((hb.block _ (by omega)).trans h2) (by omega)
  have k3 := hro (cs := #[B8 m, .slice q8 n8 k8, .int .u64 (S : Nat)]) (g := g14) ((hb.block _ (by omega)).trans h3) (by omega)
  have k4 := hrs (cs := #[B8 m, .slice q8 n8 k8, .int .u64 (S : Nat)]) hh14
  have hs6 : w5.heap.size ≤ (w9.setRow g14 #[B8 m, .slice q8 n8 k8, .int .u64 (S : Nat)]).heap.size := by simp [World.setRow]; exact hl5
  have HSZ : Hid (w.heap.size ≤ w5.heap.size) := HB5.out.size
  clear hb h1 h2 h3 z87 hh14 t14 t87 t78 c0 c1 c2 c3 d0 d1 d2 hl2 hl5
  generalize w9.setRow g14 #[B8 m, .slice q8 n8 k8, .int .u64 (S : Nat)] = w6 at *
  obtain ⟨d0, d1, d2⟩ := cells_three k3
  obtain ⟨f0, f1, f2⟩ := cells_three k4
  have ec1 : (A : Int) ≤ (E : Int) := by have := HEt.out; omega
  have ec2 : E - A = t := by have := HEt.out; omega
  have ec3 : ¬ (c = A) := by have := HEt.out; omega
  have ec4 : (E : Int) ≤ (c : Int) := by omega
  have HAt : Hid (A + t ≤ n) := by have := HEt.out; have := HE.out; show A + t ≤ n; omega
  rw [← HAV.out] at HY
  go_wp2_with fail
  refine wp_region_tail (fun ix => ([.val (.agg #[B8 m, .int .u32 (D : Nat), .int .u32 (M : Nat)]), .val (.agg #[B8 m, .slice q8 n8 k8, .int .u64 (S : Nat)]), .val (.slice (some ⟨b, o, none⟩) n c), .val (.int .i64 (A : Nat)), .val (.int .i64 (E : Nat)), .val (.slice (some ⟨b, o + A, none⟩) t (c - A)), (ShFr 5 w6.heap.size Y), (ShPk 5 w6.heap.size m D M q8 n8 k8 S Y), .any, .any][ix]?).getD (.any)) 101 8 rfl (by kernel_rfl) (by decide) (by decide) (by decide) (by decide) ?_ ?_
  · refine ⟨?_, ?_, ?_, ?_, ?_, ?_, ?_, ?_, trivial⟩
    · intro a W hb0 hs hp hi; have hb := undrew hb0; clear hb0
      have tt : sl a 7 = .pointer (some ⟨w2.heap.size, 0, none⟩) := hi 7 (by decide)
      have dd0 := (hb.cell (p := ⟨w2.heap.size, 0, none⟩) (lt_of_cell d0)).trans d0
      have dd1 := (hb.cell (p := ⟨w2.heap.size, 1, none⟩) (lt_of_cell d1)).trans d1
      have dd2 := (hb.cell (p := ⟨w2.heap.size, 2, none⟩) (lt_of_cell d2)).trans d2
      refine ite_y rfl (wp_val (.agg #[B8 m, .int .u32 (D : Nat), .int .u32 (M : Nat)]) ?_ ?_)
      · simp only [execOp, eval_tmp, tt]; simp [go_sem, dd0, dd1, dd2]
      · exact ⟨_, rfl, Below.refl _ _, rfl⟩
    · intro a W hb0 hs hp hi; have hb := undrew hb0; clear hb0
      have tt : sl a 14 = .pointer (some ⟨g14, 0, none⟩) := hi 14 (by decide)
      have dd0 := (hb.cell (p := ⟨g14, 0, none⟩) (lt_of_cell f0)).trans f0
      have dd1 := (hb.cell (p := ⟨g14, 1, none⟩) (lt_of_cell f1)).trans f1
      have dd2 := (hb.cell (p := ⟨g14, 2, none⟩) (lt_of_cell f2)).trans f2
      refine ite_y rfl (wp_val (.agg #[B8 m, .slice q8 n8 k8, .int .u64 (S : Nat)]) ?_ ?_)
      · simp only [execOp, eval_tmp, tt]; simp [go_sem, dd0, dd1, dd2]
      · exact ⟨_, rfl, Below.refl _ _, rfl⟩
    · intro a W hb0 hs hp hi; have hb := undrew hb0; clear hb0
      have t1 : sl a 1 = .slice (some ⟨b, o, none⟩) n c := hi 1 (by decide)
      exact ite_y rfl (wp_val (sl a 1) rfl ⟨_, rfl, Below.refl _ _, t1⟩)
    · intro a W hb0 hs hp hi; have hb := undrew hb0; clear hb0
      have t13 : sl a 13 = .int .i64 (A : Nat) := hi 13 (by decide)
      exact ite_y rfl (wp_val (sl a 13) rfl ⟨_, rfl, Below.refl _ _, t13⟩)
    · intro a W hb0 hs hp hi; have hb := undrew hb0; clear hb0
      have t11 : sl a 11 = .int .i64 (E : Nat) := hi 11 (by decide)
      exact ite_y rfl (wp_val (sl a 11) rfl ⟨_, rfl, Below.refl _ _, t11⟩)
    · intro a W hb0 hs hp hi; have hb := undrew hb0; clear hb0
      have t95 : sl a 95 = .slice (some ⟨b, o, none⟩) n c := hp 2 (by decide)
      have t96 : sl a 96 = .int .i64 (A : Nat) := hp 3 (by decide)
      have t97 : sl a 97 = .int .i64 (E : Nat) := hp 4 (by decide)
      have v96 : a.tmps[96]?.getD undef = sl a 96 := by simp [sl]
      rw [t96] at v96
      have v97 : a.tmps[97]?.getD undef = sl a 97 := by simp [sl]
      rw [t97] at v97
      refine ite_y rfl (wp_val (.slice (some ⟨b, o + A, none⟩) t (c - A)) ?_ ?_)
      · simp only [execOp, eval_tmp, eval_const, t95, t96, t97]; simp [go_sem, v96, v97, eb1, eb2, ec1, ec2, ec3, ec4]
      · exact ⟨_, rfl, Below.refl _ _, rfl⟩
    · intro a W hb0 hs hp hi; have hb := undrew hb0; clear hb0
      have t98 : sl a 98 = .slice (some ⟨b, o + A, none⟩) t (c - A) := hp 5 (by decide)
      refine ite_y rfl (wp_enter 150 #[.slice (some ⟨b, o + A, none⟩) t (c - A)] ?_ (BClone_any _ _ _ _ _ ((Sl.part (k := A) (m := t) (H.out.keep HB6.out) HAt.out).keep hb) HRt.out) ?_)
      · simp only [execOp, resolve, List.map_toArray, List.map, eval_tmp, eval_func, eval_const, t98]; simp [go_sem]
      · rintro e W' ⟨q5, g5, rfl, o5, hw⟩; exact ⟨_, rfl, _, rfl, hw, q5, _, g5, rfl, by rw [← HY.out]; exact (Fresh.of_owns o5).mono hb.size⟩
    · intro a W hb0 hs hp hi; have hb := undrew hb0; clear hb0
      have t93 : sl a 93 = .agg #[B8 m, .int .u32 (D : Nat), .int .u32 (M : Nat)] := hp 0 (by decide)
      have t94 : sl a 94 = .agg #[B8 m, .slice q8 n8 k8, .int .u64 (S : Nat)] := hp 1 (by decide)
      have t99 := hp 6 (by decide)
      obtain ⟨q5, n5, g5, t99, z99⟩ := t99
      have v93 : a.tmps[93]?.getD undef = sl a 93 := by simp [sl]
      rw [t93] at v93
      have v94 : a.tmps[94]?.getD undef = sl a 94 := by simp [sl]
      rw [t94] at v94
      have v99 : a.tmps[99]?.getD undef = sl a 99 := by simp [sl]
      rw [t99] at v99
      refine ite_y rfl (wp_val (PkVal m D M m q8 n8 k8 S q5 n5 g5) ?_ ?_)
      · simp only [execOp, eval_tmp, t93, t94, t99]; simp [go_sem, v93, v94, v99, Tryz.underlying133, Tryz.underlying66, Tryz.underlying135]
      · exact ⟨_, rfl, Below.refl _ _, q5, n5, g5, rfl, z99⟩
  intro a w10 hb hs hd hI ht
  have ha := act_is [93, 94, 95, 96, 97, 98, 99, 100, 5] hs hd ht (by decide)
  have y100 := hI 7 (by decide)
  obtain ⟨q9, n9, c9, t100, z100⟩ := y100
  simp only [List.foldl, t100] at ha
  generalize sl a 93 = u93 at ha
  generalize sl a 94 = u94 at ha
  generalize sl a 95 = u95 at ha
  generalize sl a 96 = u96 at ha
  generalize sl a 97 = u97 at ha
  generalize sl a 98 = u98 at ha
  generalize sl a 99 = u99 at ha
  generalize sl a 5 = u5 at ha
  simp only [Act.put, List.setIfInBounds_toArray, List.set_cons_zero, List.set_cons_succ] at ha
  rw [ha]; clear ha hI ht hs hd
  simp only [List.drop_succ_cons, List.drop_zero]
  have k2' := (hb.block _ (by have := lt_of_block k2; omega)).trans k2
  have Z2 := Lib.hid (Z.out.keep hb)
  have HB7 := Lib.hid (bl HB6.out hb HB6.out.size)
  have ZZ := Lib.hid z100
  clear hb k1 k2 k3 k4 d0 d1 d2 f0 f1 f2 z100
  go_wp2_with (refine wpList_store_row (o := ⟨none, .store 135 (.tmp 4) (.tmp 100), _, _, _, _⟩) rfl 135 (.tmp 4) (.tmp 100) rfl (w.heap.size + 1) #[B8 m, .int .u32 (D : Nat), .int .u32 (M : Nat), B8 m, .slice q8 n8 k8, .int .u64 (S : Nat), .slice q9 n9 c9] rfl rfl _ _ k2' info_packet rfl (by simp [Value.oneCell']) ?_)
  refine bodyPost_ret (res_ct rfl _ _ _ 135 #[B8 m, .int .u32 (D : Nat), .int .u32 (M : Nat), B8 m, .slice q8 n8 k8, .int .u64 (S : Nat), .slice q9 n9 c9] (0, 0) _ (.int .i64 0) rfl (hrs k2') rfl Tryz.underlying135 rfl info_packet) rfl ?_
  exact ⟨q8, n8, k8, q9, n9, c9, rfl, (Z2.out.mono HSZ.out).row k2' pkt_ne, (ZZ.out.mono (Nat.le_trans HSZ.out hs6)).row k2' pkt_ne, below_row HB7.out (by omega)⟩
end Go.Proofs.YtfbmdlfkipipfaaGreatDoor
namespace Go.By
open Go.RowKit
theorem three_of {w w1 : World} {A B C : Obj} (hb : Below (((w.alloc A).alloc B).alloc C).heap.size (((w.alloc A).alloc B).alloc C) w1) : Below w.heap.size w w1 ∧ w1.heap[w.heap.size]? = some A ∧ w1.heap[w.heap.size + 1]? = some B ∧ w1.heap[w.heap.size + 2]? = some C ∧ w.heap.size + 3 ≤ w1.heap.size :=
  ⟨(al (al (al (Below.refl _ _) (Nat.le_refl _)) (by simp)) (by simp; omega)).trans (hb.mono (by simp; omega)), (hb.block _ (by simp; omega)).trans (hal (hal (hnew rfl))), (hb.block _ (by simp)).trans (hal (hnew (by simp))), (hb.block _ (by simp)).trans (hnew (by simp)), by have := hb.size; simp at this; omega⟩
end Go.By
namespace Go.Proofs.YtfbmdlfkipipfaaGreatDoor
open Go.RowKit Go.By
/-- Read's code -/
def readC (k t D : Nat) (xs : List UInt8) : Int := if headC xs ≠ 0 then headC xs else if xs.length ≠ lenP (xs.getD 1 0) k t then 4 else if get4 ((xs.drop (xs.length - 4)).take 4) ≠ crcS (xs.take (xs.length - 4)) then 10 else if get4 ((xs.drop 2).take 4) ≠ D then 9 else 0
def pktM (xs : List UInt8) : UInt8 := xs.getD 1 0
def pktN (xs : List UInt8) : Nat := get4 ((xs.drop 6).take 4)
def pktX (k : Nat) (xs : List UInt8) : List UInt8 := rdX (xs.getD 1 0) ((xs.drop 10).take (widS (xs.getD 1 0) k))
def pktS (k : Nat) (xs : List UInt8) : Nat := rdS (xs.getD 1 0) ((xs.drop 10).take (widS (xs.getD 1 0) k))
def pktY (k t : Nat) (xs : List UInt8) : List UInt8 := (xs.drop (10 + widS (xs.getD 1 0) k)).take t
theorem PRead_any (L t k D : Nat) (p : Option Addr) (n c : Nat) (xs : List UInt8) (w : World) (hP : POK L t k D) (hT : HalfT w) (h : Sl B8 w p n c xs) (hr : Room n) :
    Calls Tryz.prog 110 #[PVal L t k D, .slice p n c] w (if readC k t D xs = 0 then PRet w (pktM xs) D (pktN xs) (pktX k xs) (pktS k xs) (pktY k t xs) else PZero w (readC k t D xs)) := by
  have hl := h.len
  by_cases hc : headC xs = 0
  · by_cases hn : n = lenP (xs.getD 1 0) k t
    · have hn4 : 14 ≤ n := by rw [hn]; unfold lenP; omega
      obtain ⟨b, o, rfl, _⟩ := h.has (by omega)
      by_cases hs : get4 ((xs.drop (n - 4)).take 4) = crcS (xs.take (n - 4))
      · by_cases ho : get4 ((xs.drop 2).take 4) = D
        · have e : readC k t D xs = 0 := by unfold readC; rw [hl, if_neg (Classical.not_not.2 hc), if_neg (Classical.not_not.2 hn), if_neg (Classical.not_not.2 hs), if_neg (Classical.not_not.2 ho)]
          rw [e, if_pos rfl]
          exact PRead_ok L t k D b o n c xs w hP hT h hr hc (n - 4) hn (by omega) hs ho
        · have e : readC k t D xs = 9 := by unfold readC; rw [hl, if_neg (Classical.not_not.2 hc), if_neg (Classical.not_not.2 hn), if_neg (Classical.not_not.2 hs), if_pos ho]
          rw [e, if_neg (by decide)]
          exact PRead_obj L t k D b o n c xs w hP hT h hr hc (n - 4) hn (by omega) hs ho
      · have e : readC k t D xs = 10 := by unfold readC; rw [hl, if_neg (Classical.not_not.2 hc), if_neg (Classical.not_not.2 hn), if_pos hs]
        rw [e, if_neg (by decide)]
        exact PRead_sum L t k D b o n c xs w hP hT h hr hc (n - 4) hn (by omega) hs
    · have e : readC k t D xs = 4 := by unfold readC; rw [hl, if_neg (Classical.not_not.2 hc), if_pos hn]
      rw [e, if_neg (by decide)]
      exact PRead_len L t k D p n c xs w hP h hr hc hn
  · have e : readC k t D xs = headC xs := by unfold readC; rw [if_pos hc]
    rw [e, if_neg hc]
    exact PRead_head L t k D p n c xs w hP h hr hc
theorem headC_cases (xs : List UInt8) : headC xs = 0 ∨ headC xs = 6 ∨ headC xs = 7 ∨ headC xs = 8 := by
  unfold headC
  split
  · simp
  · split
    · simp
    · rcases modeC_range (xs.getD 1 0) with h | h <;> rw [h] <;> simp
theorem readC_cases (k t D : Nat) (xs : List UInt8) : readC k t D xs = 0 ∨ readC k t D xs = 6 ∨ readC k t D xs = 7 ∨ readC k t D xs = 8 ∨ readC k t D xs = 4 ∨ readC k t D xs = 10 ∨ readC k t D xs = 9 := by
  unfold readC
  split
  · rename_i h
    rcases headC_cases xs with g | g | g | g
    · exact absurd g h
    all_goals rw [g]; simp
  · split
    · simp
    · split
      · simp
      · split <;> simp
/-- what a packet that is read is like -/
theorem read_fits {k t D : Nat} {xs : List UInt8} (h : readC k t D xs = 0) : modeC (pktM xs) = 0 ∧ (pktM xs = 0 → (pktX k xs).length = k) ∧ (pktY k t xs).length = t := by
  unfold readC at h
  split at h
  · rename_i hc; exact absurd h hc
  · rename_i hc
    have hc0 : headC xs = 0 := by simpa using hc
    split at h
    · cases h
    · rename_i hn
      have hn' : xs.length = 10 + widS (xs.getD 1 0) k + t + 4 := by simpa [lenP] using hn
      refine ⟨headC_mode hc0, fun h0 => ?_, ?_⟩
      · unfold pktM at h0
        unfold pktX rdX
        rw [if_pos h0]
        have : widS (xs.getD 1 0) k = k := by unfold widS; rw [if_pos h0]
        rw [this] at hn' ⊢
        simp; omega
      · unfold pktY
        generalize widS (xs.getD 1 0) k = V at *
        rw [List.length_take, List.length_drop]; omega
theorem info_eqrow : (Tryz.prog.info? 139).map (·.size) = some 2 := by kernel_rfl
theorem eqrow_ne : 139 ≠ 5 := by decide
/-- an equation, and no error -/
def EqRet (w : World) (v d : List UInt8) (e : Ending) (w' : World) : Prop :=
  ∃ q n c q2 n2 c2, e = .returned (.tuple #[.agg #[.slice q n c, .slice q2 n2 c2], .int .i64 0]) ∧ Fresh 5 w.heap.size w' q n c v ∧ Fresh 5 w.heap.size w' q2 n2 c2 d ∧ Below w.heap.size w w'
set_option maxRecDepth 100000 in
set_option maxHeartbeats 2000000 in
theorem PEquation_ok (L t k D n : Nat) (m : UInt8) (p : Option Addr) (j c s : Nat) (q : Option Addr) (d : Nat) (xs ys : List UInt8) (w : World) (hP : POK L t k D) (hm : modeC m = 0) (hj : m = 0 → j = k) (hr : Room j) (h1 : Sl B8 w p j c xs) (h2 : Sl B8 w q t d ys) :
    Calls Tryz.prog 63 #[PkVal m D n m p j c s q t d, PVal L t k D] w (EqRet w (vecS m xs s k) ys) := by
  have HF : Hid (∀ w, Calls Tryz.prog 111 #[PkVal m D n m p j c s q t d, PVal L t k D] w fun e w' => e = .returned (.int .i64 0) ∧ Below w.heap.size w w') := fun w => PFits_ok L t k D n m p j c s q d w hP hm hj
  have hsc : srcC m j k = 0 := by
    unfold srcC
    by_cases h0 : m = 0
    · rw [if_pos h0, if_pos (hj h0)]
    · rw [if_neg h0, hm]
  have HS : Hid (∀ w, Sl B8 w p j c xs → Calls Tryz.prog 32 #[SVal m p j c s, .int .i64 (k : Nat)] w (SRet w (vecS m xs s k) 0)) := fun w h => by have := SVector_any m p j c s k xs hP.k1 hP.k2 w h hr; rw [hsc, if_pos rfl] at this; exact this
  have HV : Hid (Room (vecS m xs s k).length) := by
    show _ ≤ _
    have := hP.k2
    unfold vecS
    split
    · rw [h1.len]; exact hr
    · rw [mixRow_len]; omega
  have HRt : Hid (Room t) := by have := hP.t2; show t ≤ 140737488355328; omega
  have H1 := Lib.hid h1
  have H2 := Lib.hid h2
  obtain ⟨V, hV⟩ : ∃ V, vecS m xs s k = V := ⟨_, rfl⟩
  rw [hV] at HS HV ⊢
  clear hP hm hj hr h1 h2 hsc hV
  go_enter Tryz.func63, Tryz.ntmps63
  go_wp2_with fail
  refine Calls.mono (HF.out _) ?_
  rintro e w1 ⟨rfl, hb⟩
  obtain ⟨hb1, h1, h2, h3, hs⟩ := three_of hb
  have HB := Lib.hid hb1
  obtain ⟨c0, c1, c2, c3, c4, c5, c6⟩ := cells_seven h1
  obtain ⟨d0, d1, d2, d3⟩ := cells_four h2
  clear hb hb1
  go_wp2_with fail
  refine Calls.mono (HS.out _ (H1.out.keep HB.out)) ?_
  rintro e w2 ⟨q1, n1, k1, rfl, hq, hb⟩
  have h1' := (hb.block _ (by omega)).trans h1
  have h3' := (hb.block _ (by omega)).trans h3
  have hs2 := hb.size
  have HB2 := Lib.hid (bl HB.out hb HB.out.size)
  have HQ := Lib.hid hq
  have HV' : Hid (Room n1) := by rw [← HQ.out.len]; exact HV.out
  clear hb hq h1 h2 h3 c0 c1 c2 c3 c4 c5 c6 d0 d1 d2 d3
  obtain ⟨c0, c1, c2, c3, c4, c5, c6⟩ := cells_seven h1'
  go_wp2_with fail
  refine Calls.mono (Of_any _ _ _ _ _ _ _ _ _ HQ.out (H2.out.keep HB2.out) HV'.out HRt.out) ?_
  rintro e w3 ⟨q5, m5, g5, q6, m6, g6, e5, e6, rfl, o5, o6, hb⟩
  have h3 := (hb.block _ (by omega)).trans h3'
  have HB3 := Lib.hid (bl HB2.out hb HB2.out.size)
  have F5 := Lib.hid ((Fresh.of_owns o5).mono HB2.out.size)
  have F6 := Lib.hid ((Fresh.of_owns o6).mono HB2.out.size)
  clear hb e5 e6 o5 o6 h1' h3' c0 c1 c2 c3 c4 c5 c6
  go_wp2_with (refine wpList_store_row (o := ⟨none, .store 139 (.tmp 4) (.tmp 31), _, _, _, _⟩) rfl 139 (.tmp 4) (.tmp 31) rfl (w.heap.size + 2) #[.slice q5 m5 g5, .slice q6 m6 g6] rfl rfl _ _ h3 info_eqrow rfl (by simp [Value.oneCell']) ?_)
  refine bodyPost_ret (res_ct rfl _ _ _ 139 #[.slice q5 m5 g5, .slice q6 m6 g6] (0, 0) _ (.int .i64 0) rfl (hrs h3) rfl Tryz.underlying139 rfl info_eqrow) rfl ?_
  exact ⟨q5, m5, g5, q6, m6, g6, rfl, F5.out.row h3 eqrow_ne, F6.out.row h3 eqrow_ne, below_row HB3.out (by omega)⟩
end Go.Proofs.YtfbmdlfkipipfaaGreatDoor
namespace Go.Proofs.YtfbmdlfkipipfaaGreatDoor
open Go.RowKit Go.By Go.Maps
abbrev GVal (L t k D : Nat) (M : Value) : Value := .agg #[.int .i64 (L : Nat), .int .i64 (t : Nat), .int .i64 (k : Nat), .int .u32 (D : Nat), M]
theorem info_gate : (Tryz.prog.info? 105).map (·.size) = some 5 := by kernel_rfl
set_option maxRecDepth 100000 in
set_option maxHeartbeats 1000000 in
theorem GNew_ok (L t k D : Nat) (w : World) (hP : POK L t k D) :
    Calls Tryz.prog 57 #[PVal L t k D] w fun e w' => e = .returned (.tuple #[GVal L t k D (.map none), .int .i64 0]) ∧ Below w.heap.size w w' := by
  have HK : Hid (∀ w, Calls Tryz.prog 73 #[PVal L t k D] w fun e w' => e = .returned (.int .i64 0) ∧ Below w.heap.size w w') := PCheck_ok hP
  clear hP
  go_enter Tryz.func57, Tryz.ntmps57
  go_wp2_with fail
  refine Calls.mono (HK.out _) ?_
  rintro e w1 ⟨rfl, hb⟩
  obtain ⟨hb1, h1, h2, hs⟩ := two_of hb
  have HB := Lib.hid hb1
  obtain ⟨c0, c1, c2, c3⟩ := cells_four h1
  clear hb hb1
  go_wp2_with (refine wpList_store_row (o := ⟨none, .store 105 (.tmp 2) (.tmp 12), _, _, _, _⟩) rfl 105 (.tmp 2) (.tmp 12) rfl (w.heap.size + 1) #[.int .i64 (L : Nat), .int .i64 (t : Nat), .int .i64 (k : Nat), .int .u32 (D : Nat), .map none] rfl rfl _ _ h2 info_gate rfl (by simp [Value.oneCell']) ?_)
  refine bodyPost_ret (res_ct rfl _ _ _ 105 #[.int .i64 (L : Nat), .int .i64 (t : Nat), .int .i64 (k : Nat), .int .u32 (D : Nat), .map none] (0, 0) _ (.int .i64 0) rfl (hrs h2) rfl Tryz.underlying105 rfl info_gate) rfl ?_
  exact ⟨rfl, below_row HB.out (by omega)⟩
/-- how often a code was told -/
def getN (C : DataW Unit) (x : Int) : Int := match C.atKey (.int .i64 x) (.lit (.int .i64 0)) with
  | .lit (.int _ c) => c
  | _ => 0
/-- counts in memory: none yet, or a map; each at most N -/
structure CntM (w : World) (M : Value) (N : Nat) (C : DataW Unit) : Prop where
  at_ : (M = .map none ∧ C = .map []) ∨ ∃ b, M = .map (some b) ∧ w.ownsMap Tryz.prog 35 (plainElem Tryz.prog 3) b N C
  small : ∀ x, 0 ≤ getN C x ∧ getN C x ≤ N
theorem CntM.keep {w w' : World} {M : Value} {N : Nat} {C : DataW Unit} (h : CntM w M N C) (hb : Below w.heap.size w w') : CntM w' M N C := by
  refine ⟨?_, h.small⟩
  rcases h.at_ with h1 | ⟨b, e, ho⟩
  · exact .inl h1
  · refine .inr ⟨b, e, ?_⟩
    have hlt := ho.lt
    obtain ⟨es, clock, h1, F, hs, hD⟩ := ho
    exact ⟨es, clock, (hb.block _ hlt).trans h1, F, hs, hD⟩
theorem keyedG : Keyed Tryz.prog 35 := int_keyed Tryz.underlying35
theorem CntM.none (w : World) (N : Nat) : CntM w (.map none) N (.map []) := ⟨.inl ⟨rfl, rfl⟩, fun x => by have : getN (.map []) x = 0 := rfl; rw [this]; omega⟩
end Go.Proofs.YtfbmdlfkipipfaaGreatDoor
