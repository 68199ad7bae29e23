/- Chapter 26: check; a builder in a block of its own; line. Chapter 26: line. Chapter 26: Print. Chapter 26, the law: awake. Chapter 26: ScriptParses. Chapter 26, the reference: Line. Chapter 26: ScriptPrints. Arguments that came in, as bytes and slices of bytes. Arguments that came in: slices of byte slices. The library's table of powers of ten, out of the row's condition. What the library's variables hold: out of the row's condition, and of the world's shape. What the library's variables hold, for scripts: out of the row's condition. Commands that came in: a slice of structs of a text, numbers and bytes, opened. -/
import Derived.Test.YtccaiiigdfieoaaDoorZq2
import Derived.Deep.DeepCutAuto
import Derived.Lib.ItoaLen
import Derived.OpenShut
import Derived.Deep.Matrix
import Derived.Test.YtccaiiigdfieoaaDoorRows
import Derived.Lib.LaidTab
import Derived.Stop.LaidErr
import Derived.Shelf.Vars
import Derived.SizedLaws
import Derived.Deep.Fields
import Derived.Deep.Slices
import Derived.Lib.SmallJoins
namespace Go.Proofs.YtccaiiigdfieoaaDoor
open Go.RowKit Go.By
theorem find_formW (x : List UInt8) (W : World) : Calls Tryd.prog 31 #[.string (strB x)] W fun e w' => e = .returned (match formS x with
    | some f => .tuple #[.agg #[.string (strB x), .int .i64 (f.1 : Nat), .bool f.2], .bool true]
    | none => .tuple #[.agg #[.string (strB []), .int .i64 0, .bool false], .bool false]) ∧ Below W.heap.size W w' := by
  have h := find_any x W
  unfold findV at h
  unfold formS
  rw [show (formsL.find? fun f => decide (f.1 = x)) = formsL.find? (isW x) from rfl]
  cases hf : formsL.find? (isW x) with
  | none => rw [hf] at h; exact h
  | some f =>
    rw [hf] at h
    have h1 : f.1 = x := of_decide_eq_true (show isW x f = true from List.find?_some hf)
    simp only at h
    rw [h1] at h
    exact h
set_option maxRecDepth 100000 in
set_option maxHeartbeats 2000000 in
theorem check_any (c : Cmd) (q1 q2 : Option Addr) (n1 k1 n2 k2 : Nat) (w : World) (h1 : c.nums.length = n1) (h2 : c.bytes.length = n2) (b1 : n1 ≤ 9223372036854775807) (b2 : n2 ≤ 9223372036854775807) :
    Calls Tryd.prog 20 #[.agg #[.string (strB c.word), .slice q1 n1 k1, .slice q2 n2 k2]] w fun e w' => e = .returned (.int .i64 (checkP c)) ∧ Below w.heap.size w w' := by
  have HF := Lib.hid (find_formW c.word)
  obtain ⟨X, hX⟩ : ∃ X, X = strB c.word := ⟨_, rfl⟩
  rw [← hX] at HF ⊢
  obtain ⟨R, hR⟩ : ∃ R, R = checkP c := ⟨_, rfl⟩
  rw [← hR]
  unfold checkP at hR
  clear hX
  cases hf : formS c.word with
  | none =>
    rw [hf] at HF hR
    have HR := Lib.hid hR
    clear hR hf h1 h2
    go_enter Tryd.func20, Tryd.ntmps20
    go_wp2_with fail
    refine Calls.mono (HF.out _) ?_
    rintro e w1 ⟨rfl, hb⟩
    obtain ⟨hb1, kp, hs1⟩ := one_of hb
    have HB1 := Lib.hid hb1
    clear hb hb1
    go_wp2
    go_ret
    exact ⟨by rw [HR.out]; rfl, al HB1.out HB1.out.size⟩
  | some f =>
    obtain ⟨k, b⟩ := f
    rw [hf] at HF hR
    simp only at hR HF
    rw [h1] at hR
    have hkk : k ≤ 3 := (forms_plain _ (formS_mem hf)).2.1
    have hbe : (c.bytes ≠ []) ↔ 0 < n2 := by rw [← h2, List.length_pos_iff]
    have HR := Lib.hid hR
    clear hR hf h1 h2
    have cs : ((n1 : Int) != (k : Int)) = true ∧ R = 14 ∨ ((n1 : Int) != (k : Int)) = false ∧ ((b = false ∧ 0 < n2 ∧ R = 14) ∨ (b = false ∧ ¬ 0 < n2 ∧ R = 0) ∨ (b = true ∧ R = 0)) := by
      have hr := HR.out
      by_cases e : n1 = k
      · right
        refine ⟨by rw [bne_eq_false_iff_eq]; omega, ?_⟩
        cases b with
        | true => right; right; exact ⟨rfl, by rw [hr, if_neg (by simp [e])]⟩
        | false =>
          by_cases g : 0 < n2
          · left; exact ⟨rfl, g, by rw [hr, if_pos (.inr ⟨rfl, hbe.2 g⟩)]⟩
          · right; left; exact ⟨rfl, g, by rw [hr, if_neg (by rintro (h | ⟨_, h⟩); exact h e; exact g (hbe.1 h))]⟩
      · left; exact ⟨bne_iff_ne.2 (by omega), by rw [hr, if_pos (.inl e)]⟩
    clear HR hbe
    go_enter Tryd.func20, Tryd.ntmps20
    go_wp2_with fail
    refine Calls.mono (HF.out _) ?_
    rintro e w1 ⟨rfl, hb⟩
    obtain ⟨hb1, kp, hs1⟩ := one_of hb
    have HB1 := Lib.hid hb1
    obtain ⟨d0, d1, d2⟩ := cells_three kp
    have a1 : ∀ o', (w1.alloc o').cell? ⟨w.heap.size, 1, none⟩ = _ := fun _ => calloc d1
    have a2 : ∀ o', (w1.alloc o').cell? ⟨w.heap.size, 2, none⟩ = _ := fun _ => calloc d2
    clear hb hb1 d0 kp HF
    rcases cs with ⟨e1, rfl⟩ | ⟨e1, ⟨rfl, g, rfl⟩ | ⟨rfl, g, rfl⟩ | ⟨rfl, rfl⟩⟩
    · go_wp2
      go_ret
      exact ⟨rfl, al HB1.out HB1.out.size⟩
    · have g' : (0 : Int) < (n2 : Int) := by omega
      go_wp2
      go_ret
      exact ⟨rfl, al HB1.out HB1.out.size⟩
    · obtain rfl : n2 = 0 := by omega
      go_wp2
      go_ret
      exact ⟨rfl, al HB1.out HB1.out.size⟩
    · go_wp2
      go_ret
      exact ⟨rfl, al HB1.out HB1.out.size⟩
/-- a builder in block b that holds t -/
def BldI (w : World) (b : Nat) (t : List UInt8) : Prop := Lib.IsBuilder 59 5 b b (Lib.byteCells t) w
theorem BldI.keep {w w' : World} {b : Nat} {t : List UInt8} (h : BldI w b t) (hb : Below w.heap.size w w') : BldI w' b t := Or.imp (fun h => BuilderAt.keep h hb) (fun h => BuilderAt.keep h hb) h
theorem BldI.lt {w : World} {b : Nat} {t : List UInt8} (h : BldI w b t) : b < w.heap.size := h.elim (fun h => h.lt) (fun h => h.lt)
theorem BldI.new {w : World} {b : Nat} (h : w.heap[b]? = some (.cells #[.pointer none, .slice none 0 0] 59 (0, 0))) : BldI w b [] := Or.inl ⟨Nat.le_refl _, _, h, World.ownsRow_nil _ _ _ _, by simp [Value.ownBlock]⟩
theorem BldI.str {w : World} {b : Nat} {t : List UInt8} (h : BldI w b t) (s : List UInt8) (hl : t.length + s.length ≤ 100000000) : Calls Tryd.prog 21 #[.pointer (some ⟨b, 0, none⟩), .string (strB s)] w fun e w' => e = .returned (.tuple #[.int .i64 s.length, .nilIface]) ∧ BldI w' b (t ++ s) ∧ Below b w w' :=
  (WriteS_b b b t s w h hl (Nat.le_of_lt h.lt)).mono fun _ _ ⟨h1, h2, h3⟩ => ⟨h1, Or.inr h2, h3⟩
theorem BldI.byte {w : World} {b : Nat} {t : List UInt8} (h : BldI w b t) (x : UInt8) (hl : t.length + 1 ≤ 100000000) : Calls Tryd.prog 38 #[.pointer (some ⟨b, 0, none⟩), B8 x] w fun e w' => e = .returned .nilIface ∧ BldI w' b (t ++ [x]) ∧ Below b w w' :=
  (WriteB_b b b t x w h hl (Nat.le_of_lt h.lt)).mono fun _ _ ⟨h1, h2, h3⟩ => ⟨h1, Or.inr h2, h3⟩
theorem BldI.done {w : World} {b : Nat} {t : List UInt8} (h : BldI w b t) : Calls Tryd.prog 24 #[.pointer (some ⟨b, 0, none⟩)] w fun e w' => e = .returned (.string (strB t)) ∧ Below b w w' := StringB_b b b t w h (Nat.le_of_lt h.lt)
theorem BldI.len {w : World} {b : Nat} {t : List UInt8} (h : BldI w b t) : Calls Tryd.prog 23 #[.pointer (some ⟨b, 0, none⟩)] w fun e w' => e = .returned (.int .i64 (t.length : Nat)) ∧ w = w' := LenB_b b b t w h
theorem digits_at : ∀ y, y < 16 → digitsC.data.toList[y]? = some (dgt y) := by decide
theorem digits_run {y : Nat} (hy : y < 16) (z : Int) (hz : z = (y : Int)) (w : World) : (Instr.index 9 (.string ⟨#[48, 49, 50, 51, 52, 53, 54, 55, 56, 57, 97, 98, 99, 100, 101, 102]⟩) (.int .u8 z)).run Tryd.prog w = .ok (B8 (dgt y)) w :=
  txt_idx (l := digitsC.data.toList) _ Tryd.underlying9 (digits_at y hy) .u8 z hz w
theorem and15 (x : UInt8) : bits BinOp.and IntKind.u8 (x.toNat : Int) 15 = ((x.toNat % 16 : Nat) : Int) := by
  have h : ∀ n : Fin 256, bits BinOp.and IntKind.u8 (n.1 : Int) 15 = ((n.1 % 16 : Nat) : Int) := by decide +kernel
  exact h ⟨x.toNat, x.toNat_lt⟩
theorem hexL_step {l : List UInt8} {i : Nat} {x : UInt8} (h : l[i]? = some x) : hexL (l.take (i + 1)) = hexL (l.take i) ++ [dgt (x.toNat / 16)] ++ [dgt (x.toNat % 16)] := by
  unfold hexL
  rw [List.take_add_one, h, List.flatMap_append]; simp
theorem hexL_len2 (xs : List UInt8) : (hexL xs).length = 2 * xs.length := by
  unfold hexL
  induction xs with
  | nil => rfl
  | cons x l ih => rw [List.flatMap_cons, List.length_append, ih, List.length_cons]; simp; omega
theorem nums_step {W : List UInt8} {l : List Nat} {i x : Nat} (h : l[i]? = some x) : joinW (W :: (l.take (i + 1)).map Lib.decDigits) = joinW (W :: (l.take i).map Lib.decDigits) ++ [32] ++ Lib.decDigits x := by
  rw [List.take_add_one, h, List.map_append, ← List.cons_append, Option.toList_some, List.map_cons, List.map_nil, joinW_snoc _ (by simp)]; simp
theorem nums_len {W : List UInt8} : ∀ {l : List Nat}, (∀ x ∈ l, x < 18446744073709551616) → (joinW (W :: l.map Lib.decDigits)).length ≤ W.length + 21 * l.length := fun {l} h => by
  have key : ∀ n, (joinW (W :: (l.take n).map Lib.decDigits)).length ≤ W.length + 21 * n := fun n => by
    induction n with
    | zero => simp [joinW]
    | succ n ih =>
      cases hx : l[n]? with
      | none =>
        have hl : l.length ≤ n := List.getElem?_eq_none_iff.1 hx
        rw [List.take_of_length_le (by omega)] at ih ⊢
        omega
      | some x =>
        rw [nums_step hx, List.length_append, List.length_append]
        have h2 : (Lib.decDigits x).length ≤ 20 := by rw [Lib.decDigits_length]; exact Lib.nDigits_le20 x (h x (List.mem_of_getElem? hx))
        have h1 : ([32] : List UInt8).length = 1 := rfl
        omega
  have := key l.length
  rwa [List.take_length] at this
end Go.Proofs.YtccaiiigdfieoaaDoor
namespace Go.Proofs.YtccaiiigdfieoaaDoor
open Go.RowKit Go.By
theorem lineP_long {c : Cmd} {k : Nat} (hf : formS c.word = some (k, true)) : lineP c = joinW (c.word :: c.nums.map Lib.decDigits) ++ [32] ++ bytesW c.bytes ++ [10] := by
  unfold lineP bodyP wordsP
  rw [hf]
  simp only
  rw [← List.cons_append, joinW_snoc _ (by simp)]; simp
theorem lineP_short {c : Cmd} {k : Nat} (hf : formS c.word = some (k, false)) : lineP c = joinW (c.word :: c.nums.map Lib.decDigits) ++ [10] := by
  unfold lineP bodyP wordsP
  rw [hf]
  simp
theorem lineP_len {c : Cmd} (h : GoodC c) : (lineP c).length ≤ 200 + 2 * c.bytes.length := by
  have hn : ∀ x ∈ c.nums, x < 18446744073709551616 := fun x hx => Nat.lt_succ_of_le (h.2 x hx)
  have h1 := nums_len (W := c.word) hn
  have hc := h.1
  unfold checkP at hc
  cases hf : formS c.word with
  | none => rw [hf] at hc; cases hc
  | some f =>
    obtain ⟨k, b⟩ := f
    rw [hf] at hc
    obtain ⟨_, hk3, hw, _⟩ := forms_plain _ (formS_mem hf)
    have hk : c.nums.length = k := Classical.byContradiction fun e => by simp only at hc; rw [if_pos (.inl e)] at hc; cases hc
    have hk3' : k ≤ 3 := hk3
    have hw' : c.word.length ≤ 7 := hw
    have h10 : ([10] : List UInt8).length = 1 := rfl
    have h32 : ([32] : List UInt8).length = 1 := rfl
    cases b with
    | true =>
      rw [lineP_long hf]
      simp only [List.length_append]
      have hb : (bytesW c.bytes).length ≤ 2 * c.bytes.length + 1 := by
        unfold bytesW
        split
        · simp
        · rw [hexL_len2]; omega
      omega
    | false =>
      rw [lineP_short hf, List.length_append]
      omega
set_option maxRecDepth 100000 in
set_option maxHeartbeats 8000000 in
theorem line_any (c : Cmd) (q1 q2 : Option Addr) (n1 k1 n2 k2 : Nat) (w : World) (hg : GoodC c) (h1 : Sl encU w q1 n1 k1 c.nums) (h2 : Sl B8 w q2 n2 k2 c.bytes) (hl : n2 ≤ 1000000) (hT : Tab10 w) :
    Calls Tryd.prog 22 #[.agg #[.string (strB c.word), .slice q1 n1 k1, .slice q2 n2 k2]] w fun e w' => e = .returned (.string (strB (lineP c))) ∧ Below w.heap.size w w' := by
  have hn : ∀ x ∈ c.nums, x < 18446744073709551616 := fun x hx => Nat.lt_succ_of_le (hg.2 x hx)
  have hnl := nums_len (W := c.word) hn
  have hc := hg.1
  unfold checkP at hc
  obtain ⟨k, b, hf⟩ : ∃ k b, formS c.word = some (k, b) := by
    cases hf : formS c.word with
    | none => rw [hf] at hc; cases hc
    | some f => exact ⟨f.1, f.2, rfl⟩
  rw [hf] at hc
  obtain ⟨_, hk3, hw, _⟩ := forms_plain _ (formS_mem hf)
  have hk : c.nums.length = k := Classical.byContradiction fun e => by simp only at hc; rw [if_pos (.inl e)] at hc; cases hc
  have hk3' : k ≤ 3 := hk3
  have hw' : c.word.length ≤ 7 := hw
  have hn1 : n1 ≤ 3 := by rw [← h1.len]; omega
  have HFd : Hid (∀ W, Calls Tryd.prog 31 #[.string (strB c.word)] W fun e w' => e = .returned (.tuple #[.agg #[.string (strB c.word), .int .i64 (k : Nat), .bool b], .bool true]) ∧ Below W.heap.size W w') := fun W => by
    have := find_formW c.word W
    rw [hf] at this
    exact this
  have HLong : Hid (b = true → lineP c = joinW (c.word :: c.nums.map Lib.decDigits) ++ [32] ++ bytesW c.bytes ++ [10]) := fun e => by subst e; exact lineP_long hf
  have HShort : Hid (b = false → lineP c = joinW (c.word :: c.nums.map Lib.decDigits) ++ [10]) := fun e => by subst e; exact lineP_short hf
  have HFU : Hid (∀ (x : Nat) W, x < 18446744073709551616 → Below w.heap.size w W → Calls Tryd.prog 39 #[.int .u64 (x : Nat), .int .i64 10] W fun e w' => e = .returned (.string (strB (Lib.decDigits x))) ∧ Below W.heap.size W w') := fun x W hx hb => FormatUint_10 x hx W (hT.keep hb)
  have HN := Lib.hid hn
  have HNL : Hid (∀ i, (joinW (c.word :: (c.nums.take i).map Lib.decDigits)).length ≤ 1000) := fun i => by
    have := nums_len (W := c.word) (l := c.nums.take i) (fun x hx => hn x (List.mem_of_mem_take hx))
    have h3 : (c.nums.take i).length ≤ 3 := by rw [List.length_take]; omega
    omega
  have H1 := Lib.hid h1
  have H2 := Lib.hid h2
  obtain ⟨R, hR⟩ : ∃ R, R = lineP c := ⟨_, rfl⟩
  rw [← hR]
  have HR := Lib.hid hR
  obtain ⟨X, hX⟩ : ∃ X, X = strB c.word := ⟨_, rfl⟩
  have HX := Lib.hid hX
  rw [← hX] at HFd ⊢
  clear hn hnl hc hf hk3 hw hk hk3' hw' h1 h2 hT hg hX hR
  go_enter Tryd.func22, Tryd.ntmps22
  go_wp2_with fail
  have t0 : ((w.alloc (.cells #[.string X, .slice q1 n1 k1, .slice q2 n2 k2] 37 (0, 0))).alloc (.cells #[.pointer none, .slice none 0 0] 59 (0, 0))).heap[w.heap.size]? = some (.cells #[.string X, .slice q1 n1 k1, .slice q2 n2 k2] 37 (0, 0)) := hal (hnew rfl)
  have t1 : BldI ((w.alloc (.cells #[.string X, .slice q1 n1 k1, .slice q2 n2 k2] 37 (0, 0))).alloc (.cells #[.pointer none, .slice none 0 0] 59 (0, 0))) (w.heap.size + 1) [] := BldI.new (hnew (by simp))
  have BW : Hid (Below w.heap.size w ((w.alloc (.cells #[.string X, .slice q1 n1 k1, .slice q2 n2 k2] 37 (0, 0))).alloc (.cells #[.pointer none, .slice none 0 0] 59 (0, 0)))) := al (al (Below.refl _ _) (Nat.le_refl _)) (by simp)
  generalize (w.alloc (.cells #[.string X, .slice q1 n1 k1, .slice q2 n2 k2] 37 (0, 0))).alloc (.cells #[.pointer none, .slice none 0 0] 59 (0, 0)) = w1 at *
  obtain ⟨g, hg⟩ : ∃ g, g = w.heap.size + 1 := ⟨_, rfl⟩
  rw [← hg] at t1 ⊢
  have hgw : w.heap.size < g := by omega
  have HGW := Lib.hid hgw
  have H1g : Hid (∀ W, Below g w1 W → Sl encU W q1 n1 k1 c.nums) := fun W hb => H1.out.keep (BW.out.trans (hb.mono (Nat.le_of_lt hgw)))
  have H2g : Hid (∀ W, Below g w1 W → Sl B8 W q2 n2 k2 c.bytes) := fun W hb => H2.out.keep (BW.out.trans (hb.mono (Nat.le_of_lt hgw)))
  have HFg : Hid (∀ (x : Nat) W, x < 18446744073709551616 → Below g w1 W → Calls Tryd.prog 39 #[.int .u64 (x : Nat), .int .i64 10] W fun e w' => e = .returned (.string (strB (Lib.decDigits x))) ∧ Below W.heap.size W w') := fun x W hx hb => HFU.out x W hx (BW.out.trans (hb.mono (Nat.le_of_lt hgw)))
  have T0 := Lib.hid t0
  have hs := Lib.hid (t1.str c.word (by have := HNL.out 0; simp [joinW] at this ⊢; omega))
  rw [← HX.out] at hs
  clear t0 t1 hg hgw H1 H2 HFU
  refine Calls.mono hs.out ?_
  rintro e w2 ⟨rfl, hb2, hw2⟩
  have HB2 := Lib.hid hb2
  have HW2 := Lib.hid hw2
  have T2 := Lib.hid ((hw2.block _ HGW.out).trans T0.out)
  obtain ⟨d0, d1, d2⟩ := cells_three T2.out
  clear hb2 hw2 T0 hs
  go_wp2
  go_loopw [16, 5] (fun iv _ wr => ∃ i, i ≤ n1 ∧ iv = .int .i64 (i : Nat) ∧ Hid (BldI wr g (joinW (c.word :: (c.nums.take i).map Lib.decDigits))) ∧ Hid (Below g w1 wr)) (fun iv _ _ => n1 - (intOf iv).toNat)
  case atStart => exact ⟨0, Nat.zero_le _, rfl, HB2.out, HW2.out⟩
  case round =>
    obtain ⟨i, hi, rfl, HBd, HWr⟩ := hrel
    clear d0 d1 d2
    by_cases hlt : i < n1
    · obtain ⟨bb, oo, x, rfl, hc1, hx1⟩ := (H1g.out wr HWr.out).at i hlt
      unfold encU at hc1
      have hlt' : (i : Int) < (n1 : Int) := by omega
      have HLT := Lib.hid hlt
      have HXN := Lib.hid (HN.out x (List.mem_of_getElem? hx1.out))
      have HST := Lib.hid (nums_step (W := c.word) hx1.out)
      clear hlt hx1
      go_wp2_with fail
      refine Calls.mono (HBd.out.byte 32 (by have := HNL.out i; omega)) ?_
      rintro e w3 ⟨rfl, hb3, hw3⟩
      have HB3 := Lib.hid hb3
      have HW3 := Lib.hid (HWr.out.trans hw3)
      clear hb3 hw3 HBd HWr hc1
      go_wp2_with fail
      refine Calls.mono (HFg.out x w3 HXN.out HW3.out) ?_
      rintro e w4 ⟨rfl, hb⟩
      have HB4 := Lib.hid (HB3.out.keep hb)
      have HW4 := Lib.hid (HW3.out.trans (hb.mono (Nat.le_of_lt HB3.out.lt)))
      clear hb HB3 HW3
      go_wp2_with fail
      refine Calls.mono (HB4.out.str (Lib.decDigits x) (by have := HNL.out i; have h2 : (Lib.decDigits x).length ≤ 20 := by { rw [Lib.decDigits_length]; exact Lib.nDigits_le20 x HXN.out }; have h1 : ([32] : List UInt8).length = 1 := rfl; rw [List.length_append]; omega)) ?_
      rintro e w5 ⟨rfl, hb5, hw5⟩
      have HB5 : Hid (BldI w5 g (joinW (c.word :: (c.nums.take (i + 1)).map Lib.decDigits))) := by show BldI _ _ _; rw [HST.out]; exact hb5
      have HW5 := Lib.hid (HW4.out.trans hw5)
      clear hb5 hw5 HB4 HW4
      go_wp2
      go_roundw
      case rel => exact ⟨i + 1, HLT.out, by go_num, HB5.out, HW5.out⟩
      case measure => simp [intOf]; have := HLT.out; omega
    · obtain rfl : i = n1 := by omega
      have HBn : Hid (BldI wr g (joinW (c.word :: c.nums.map Lib.decDigits))) := by
        have h9 : c.nums.length = i := (H1g.out wr HWr.out).len
        have := HBd.out
        rw [List.take_of_length_le (by omega)] at this
        exact this
      have Tr := Lib.hid ((HWr.out.block _ HGW.out).trans ((HW2.out.block _ HGW.out).symm.trans T2.out))
      obtain ⟨d0, d1, d2⟩ := cells_three Tr.out
      have HNLn := HNL.out i
      have HNLa : Hid ((joinW (c.word :: c.nums.map Lib.decDigits)).length ≤ 1000) := by
        have h9 : c.nums.length = i := (H1g.out wr HWr.out).len
        have := HNL.out i
        rw [List.take_of_length_le (by omega)] at this
        exact this
      clear hlt HBd HNLn T2 HB2 HW2
      go_wp2_with fail
      refine Calls.mono (HFd.out wr) ?_
      rintro e w3 ⟨rfl, hb⟩
      have HB3 := Lib.hid (HBn.out.keep hb)
      have HW3 := Lib.hid (HWr.out.trans (hb.mono (Nat.le_of_lt HBn.out.lt)))
      have T3 := Lib.hid ((hb.block _ (lt_of_block Tr.out)).trans Tr.out)
      clear hb HBn HWr Tr d0 d1 d2
      have B4 : Below w3.heap.size w3 (w3.alloc (.cells #[.string X, .int .i64 (k : Nat), .bool b] 69 (0, 0))) := al (Below.refl _ _) (Nat.le_refl _)
      have HB4 := Lib.hid (HB3.out.keep B4)
      have HW4 := Lib.hid (HW3.out.trans (B4.mono (Nat.le_of_lt HB3.out.lt)))
      have T4 := Lib.hid ((B4.block _ (lt_of_block T3.out)).trans T3.out)
      clear B4
      cases b with
      | false =>
        have HL := HShort.out rfl
        rw [← HR.out] at HL
        have HLs := Lib.hid HL
        clear HL
        go_wp2_with fail
        refine Calls.mono (HB4.out.byte 10 (by have := HNLa.out; omega)) ?_
        rintro e w5 ⟨rfl, hb5, hw5⟩
        have HB5 := Lib.hid hb5
        have HW5 := Lib.hid (HW4.out.trans hw5)
        clear hb5 hw5 HB4 HW4 HB3 HW3 T3 T4
        go_wp2_with fail
        refine Calls.mono HB5.out.done ?_
        rintro e w6 ⟨rfl, hw6⟩
        have HW6 := Lib.hid (HW5.out.trans hw6)
        clear hw6
        go_wp2
        go_ret
        exact ⟨by rw [HLs.out]; simp, BW.out.trans (HW6.out.mono (Nat.le_of_lt HGW.out))⟩
      | true =>
        have HL := HLong.out rfl
        rw [← HR.out] at HL
        have HLs := Lib.hid HL
        clear HL
        go_wp2_with fail
        refine Calls.mono (HB4.out.byte 32 (by have := HNLa.out; omega)) ?_
        rintro e w5 ⟨rfl, hb5, hw5⟩
        have HB5 := Lib.hid hb5
        have HW5 := Lib.hid (HW4.out.trans hw5)
        have T5 := Lib.hid ((hw5.block _ HGW.out).trans T4.out)
        obtain ⟨d0, d1, d2⟩ := cells_three T5.out
        clear hb5 hw5 HB4 HW4 HB3 HW3 T3 T4
        by_cases h0 : n2 = 0
        · subst h0
          have hbn : c.bytes = [] := List.length_eq_zero_iff.1 (H2g.out w5 HW5.out).len
          have hbw : bytesW c.bytes = [45] := by unfold bytesW; rw [if_pos hbn]
          rw [hbw] at HLs
          clear hbn hbw
          go_wp2_with fail
          refine Calls.mono (HB5.out.byte 45 (by have := HNLa.out; simp; omega)) ?_
          rintro e w6 ⟨rfl, hb6, hw6⟩
          have HB6 := Lib.hid hb6
          have HW6 := Lib.hid (HW5.out.trans hw6)
          have T6 := Lib.hid ((hw6.block _ HGW.out).trans T5.out)
          clear hb6 hw6 HB5 HW5 T5 d0 d1 d2
          obtain ⟨d0, d1, d2⟩ := cells_three T6.out
          go_wp2
          go_loopw [42, 9] (fun iv _ wr => iv = .int .i64 0 ∧ wr = w6) (fun _ _ _ => 0)
          case atStart => exact ⟨rfl, rfl⟩
          case round =>
            obtain ⟨rfl, rfl⟩ := hrel
            clear d0 d1 d2
            go_wp2_with fail
            refine Calls.mono (HB6.out.byte 10 (by have := HNLa.out; simp; omega)) ?_
            rintro e w7 ⟨rfl, hb7, hw7⟩
            have HB7 := Lib.hid hb7
            have HW7 := Lib.hid (HW6.out.trans hw7)
            clear hb7 hw7
            go_wp2_with fail
            refine Calls.mono HB7.out.done ?_
            rintro e w8 ⟨rfl, hw8⟩
            have HW8 := Lib.hid (HW7.out.trans hw8)
            clear hw8
            go_wp2
            go_ret
            exact ⟨by rw [HLs.out]; simp, BW.out.trans (HW8.out.mono (Nat.le_of_lt HGW.out))⟩
        · have hbn : c.bytes ≠ [] := fun e => h0 (by have := (H2g.out w5 HW5.out).len; rw [e] at this; exact this.symm)
          have hbw : bytesW c.bytes = hexL c.bytes := by unfold bytesW; rw [if_neg hbn]
          rw [hbw] at HLs
          have hne : ((n2 : Int) == 0) = false := beq_eq_false_iff_ne.2 (by omega)
          clear hbn hbw h0
          go_wp2
          go_loopw [42, 9] (fun iv _ wr => ∃ i, i ≤ n2 ∧ iv = .int .i64 (i : Nat) ∧ Hid (BldI wr g (joinW (c.word :: c.nums.map Lib.decDigits) ++ [32] ++ hexL (c.bytes.take i))) ∧ Hid (Below g w1 wr)) (fun iv _ _ => n2 - (intOf iv).toNat)
          case atStart => exact ⟨0, Nat.zero_le _, rfl, by show BldI _ _ _; simpa [hexL] using HB5.out, HW5.out⟩
          case round =>
            obtain ⟨i, hi, rfl, HBd, HWr⟩ := hrel
            clear d0 d1 d2 hne
            by_cases hlt : i < n2
            · obtain ⟨bb, oo, x, rfl, hc1, hx1⟩ := (H2g.out wr HWr.out).at i hlt
              have hlt' : (i : Int) < (n2 : Int) := by omega
              have HLT := Lib.hid hlt
              have HST := Lib.hid (hexL_step hx1.out)
              have hx8 := x.toNat_lt
              have hdA := digits_run (y := x.toNat / 16) (by omega) ((x.toNat : Int) / 16) (by omega)
              have hdB := digits_run (y := x.toNat % 16) (by omega) ((x.toNat % 16 : Nat) : Int) rfl
              have hand := and15 x
              have HLn : Hid ((joinW (c.word :: c.nums.map Lib.decDigits) ++ [32] ++ hexL (c.bytes.take i)).length ≤ 3000000) := by
                have h3 := HNLa.out
                have h4 := hexL_len2 (c.bytes.take i)
                have h5 : (c.bytes.take i).length ≤ i := List.length_take_le _ _
                show _ ≤ _
                simp; omega
              clear hlt hx1
              go_wp2_with (first | simp only [hdA] | fail)
              refine Calls.mono (HBd.out.byte _ (by have := HLn.out; omega)) ?_
              rintro e w6 ⟨rfl, hb6, hw6⟩
              have HB6 := Lib.hid hb6
              have HW6 := Lib.hid (HWr.out.trans hw6)
              clear hb6 hw6 HBd HWr hc1 hdA
              go_wp2_with (first | simp only [hand, hdB] | simp only [hdB] | fail)
              refine Calls.mono (HB6.out.byte _ (by have := HLn.out; have h1 : ([dgt (x.toNat / 16)] : List UInt8).length = 1 := rfl; rw [List.length_append]; omega)) ?_
              rintro e w7 ⟨rfl, hb7, hw7⟩
              have ed : ∀ h, (ByteArray.mk #[48, 49, 50, 51, 52, 53, 54, 55, 56, 57, 97, 98, 99, 100, 101, 102])[x.toNat % 16]'h = dgt (x.toNat % 16) := fun h => txt_get (l := digitsC.data.toList) (digits_at _ (by omega)) h
              rw [ed] at hb7
              have HB7 : Hid (BldI w7 g (joinW (c.word :: c.nums.map Lib.decDigits) ++ [32] ++ hexL (c.bytes.take (i + 1)))) := by show BldI _ _ _; rw [HST.out, ← List.append_assoc, ← List.append_assoc]; exact hb7
              have HW7 := Lib.hid (HW6.out.trans hw7)
              clear hb7 hw7 HB6 HW6 hdB hand
              go_wp2
              go_roundw
              case rel => exact ⟨i + 1, HLT.out, by go_num, HB7.out, HW7.out⟩
              case measure => simp [intOf]; have := HLT.out; omega
            · obtain rfl : i = n2 := by omega
              have HBn : Hid (BldI wr g (joinW (c.word :: c.nums.map Lib.decDigits) ++ [32] ++ hexL c.bytes)) := by
                have h9 : c.bytes.length = i := (H2g.out wr HWr.out).len
                have := HBd.out
                rw [List.take_of_length_le (by omega)] at this
                exact this
              have HLn : Hid ((joinW (c.word :: c.nums.map Lib.decDigits) ++ [32] ++ hexL c.bytes).length ≤ 3000000) := by
                have h3 := HNLa.out
                have h4 := hexL_len2 c.bytes
                have h9 : c.bytes.length = i := (H2g.out wr HWr.out).len
                show _ ≤ _
                simp; omega
              clear hlt HBd
              go_wp2_with fail
              refine Calls.mono (HBn.out.byte 10 (by have := HLn.out; omega)) ?_
              rintro e w7 ⟨rfl, hb7, hw7⟩
              have HB7 := Lib.hid hb7
              have HW7 := Lib.hid (HWr.out.trans hw7)
              clear hb7 hw7
              go_wp2_with fail
              refine Calls.mono HB7.out.done ?_
              rintro e w8 ⟨rfl, hw8⟩
              have HW8 := Lib.hid (HW7.out.trans hw8)
              clear hw8
              go_wp2
              go_ret
              exact ⟨by rw [HLs.out]; simp, BW.out.trans (HW8.out.mono (Nat.le_of_lt HGW.out))⟩
end Go.Proofs.YtccaiiigdfieoaaDoor
namespace Go.Proofs.YtccaiiigdfieoaaDoor
open Go.RowKit Go.By
/-- lines, as long as they aren't too long -/
def longP : List Cmd → List UInt8 → List UInt8 × Int
  | [], t => (t, 0)
  | c :: cs, t => if 65536 < c.bytes.length then ([], 16) else if 65536 < (t ++ lineP c).length then ([], 16) else longP cs (t ++ lineP c)
def printR (cs : List Cmd) : List UInt8 × Int := if codeP cs ≠ 0 then ([], codeP cs) else longP cs []
theorem codeP_at : ∀ {cs : List Cmd} {i : Nat} {c : Cmd}, cs[i]? = some c → (∀ j d, j < i → cs[j]? = some d → checkP d = 0) → checkP c ≠ 0 → codeP cs = checkP c
  | [], i, c, h, _, _ => by simp at h
  | d :: cs, 0, c, h, _, hz => by
    have e : d = c := by simpa using h
    subst e
    unfold codeP; rw [if_pos hz]
  | d :: cs, i + 1, c, h, hb, hz => by
    have h0 := hb 0 d (by omega) rfl
    unfold codeP
    rw [if_neg (by rw [h0]; simp)]
    exact codeP_at (by simpa using h) (fun j e hj he => hb (j + 1) e (by omega) (by simpa using he)) hz
theorem codeP_zero {cs : List Cmd} {n : Nat} (hn : cs.length ≤ n) (h : ∀ j d, j < n → cs[j]? = some d → checkP d = 0) : codeP cs = 0 := codeP_of_good fun c hc => by
  obtain ⟨j, hj, e⟩ := List.getElem_of_mem hc
  exact h j c (by omega) (by rw [List.getElem?_eq_getElem hj, e])
theorem longP_at {cs : List Cmd} {i : Nat} {c : Cmd} {t : List UInt8} (h : cs[i]? = some c) : longP (cs.drop i) t = if 65536 < c.bytes.length then ([], 16) else if 65536 < (t ++ lineP c).length then ([], 16) else longP (cs.drop (i + 1)) (t ++ lineP c) := by
  obtain ⟨h1, e1⟩ := List.getElem?_eq_some_iff.1 h
  rw [List.drop_eq_getElem_cons h1, e1]; rfl
theorem longP_print : ∀ {cs : List Cmd} {t : List UInt8}, (∀ c ∈ cs, c.bytes.length ≤ 65536) → (t ++ printP cs).length ≤ 65536 → longP cs t = (t ++ printP cs, 0)
  | [], t, _, _ => by unfold longP; simp [printP]
  | c :: cs, t, hb, hl => by
    rw [printP_cons, ← List.append_assoc] at hl ⊢
    unfold longP
    rw [if_neg (by have := hb c (by simp); omega), if_neg (by rw [List.length_append] at hl; omega)]
    exact longP_print (fun d hd => hb d (by simp [hd])) hl
theorem app_len {a b : List UInt8} : (a ++ b).length = a.length + b.length := List.length_append
def PrtR (w : World) (r : List UInt8 × Int) (e : Ending) (w' : World) : Prop := e = .returned (.tuple #[.string (strB r.1), .int .i64 r.2]) ∧ Below w.heap.size w w'
set_option maxRecDepth 100000 in
set_option maxHeartbeats 8000000 in
theorem Print_any (q : Option Addr) (n c : Nat) (cs : List Cmd) (w : World) (h : CmdS w q n c cs) (hU : ∀ x ∈ cs, ∀ y ∈ x.nums, y ≤ 18446744073709551615) (hT : Tab10 w) :
    Calls Tryd.prog 10 #[.slice q n c] w (PrtR w (printR cs)) := by
  have hnb : n ≤ 9223372036854775807 := by have g1 := h.le; have g2 := h.max; unfold maxLen at g2; omega
  have H := Lib.hid h
  have HU := Lib.hid hU
  have HT := Lib.hid hT
  obtain ⟨R, hR⟩ : ∃ R, R = printR cs := ⟨_, rfl⟩
  rw [← hR]
  have HR := Lib.hid hR
  clear h hU hT hR
  go_enter Tryd.func10, Tryd.ntmps10
  go_wp2
  go_loopw [5, 6, 12] (fun _ _ iv wr => ∃ i, i ≤ n ∧ iv = .int .i64 (i : Nat) ∧ Hid (∀ j d, j < i → cs[j]? = some d → checkP d = 0) ∧ Hid (Below w.heap.size w wr)) (fun _ _ iv _ => n - (intOf iv).toNat)
  case atStart => exact ⟨0, Nat.zero_le _, rfl, fun j d hj => by omega, Below.refl _ _⟩
  case round =>
    obtain ⟨i, hi, rfl, HZ, HB⟩ := hrel
    by_cases hlt : i < n
    · obtain ⟨x, hx⟩ : ∃ x, cs[i]? = some x := ⟨_, List.getElem?_eq_getElem (by rw [H.out.len]; exact hlt)⟩
      obtain ⟨bb, oo, q1, n1, k1, q2, n2, k2, rfl, d0, d1, d2, s1, s2⟩ := (H.out.keep HB.out).row i x hx
      have hlt' : (i : Int) < (n : Int) := by omega
      have HX := Lib.hid hx
      have HLT := Lib.hid hlt
      have HCk := Lib.hid (fun W => check_any x q1 q2 n1 k1 n2 k2 W s1.len s2.len s1.bound s2.bound)
      obtain ⟨C, hC⟩ : ∃ C, C = checkP x := ⟨_, rfl⟩
      rw [← hC] at HCk
      have HC := Lib.hid hC
      generalize strB x.word = W0 at *
      clear hx s1 s2 hlt hC
      go_wp2_with fail
      refine Calls.mono (HCk.out _) ?_
      rintro e w1 ⟨rfl, hb⟩
      obtain ⟨hb1, kp, hs1⟩ := one_of hb
      have HB1 := Lib.hid (bl HB.out hb1 HB.out.size)
      clear hb hb1 d0 d1 d2 HB kp hs1
      by_cases hz : C = 0
      · have HZ2 : Hid (∀ j d, j < i + 1 → cs[j]? = some d → checkP d = 0) := fun j d hj hd => by
          by_cases e : j = i
          · subst e; have := HX.out; rw [hd] at this; cases this; rw [← HC.out]; exact hz
          · exact HZ.out j d (by omega) hd
        subst hz
        clear HZ
        go_wp2
        go_roundw
        case rel => exact ⟨i + 1, HLT.out, by go_num, HZ2.out, HB1.out⟩
        case measure => simp [intOf]; have := HLT.out; omega
      · have HRes : Hid (R = ([], C)) := by
          have h1 := codeP_at HX.out HZ.out (by rw [← HC.out]; exact hz)
          rw [← HC.out] at h1
          have h2 := HR.out
          unfold printR at h2
          rw [h1, if_pos hz] at h2
          exact h2
        have hz' : (C != 0) = true := bne_iff_ne.2 hz
        clear hz HZ
        go_wp2
        go_ret2
        exact ⟨by rw [HRes.out]; rfl, HB1.out⟩
    · obtain rfl : i = n := by omega
      have HG : Hid (∀ x ∈ cs, GoodC x) := fun x hx => ⟨by
        obtain ⟨j, hj, e⟩ := List.getElem_of_mem hx
        exact HZ.out j x (by have := H.out.len; omega) (by rw [List.getElem?_eq_getElem hj, e]), HU.out x hx⟩
      have HL0 : Hid (longP (cs.drop 0) [] = R) := by
        have h1 : codeP cs = 0 := codeP_zero (by have := H.out.len; omega) HZ.out
        have h2 := HR.out
        unfold printR at h2
        rw [h1, if_neg (by simp)] at h2
        exact h2.symm
      clear hlt HZ
      go_wp2
      have t1 : BldI (wr.alloc (.cells #[.pointer none, .slice none 0 0] 59 (0, 0))) wr.heap.size [] := BldI.new (hnew rfl)
      have HB1 : Hid (Below w.heap.size w (wr.alloc (.cells #[.pointer none, .slice none 0 0] 59 (0, 0)))) := al HB.out HB.out.size
      obtain ⟨g, hg⟩ : ∃ g, g = wr.heap.size := ⟨_, rfl⟩
      have HGW : Hid (w.heap.size ≤ g) := by have := HB.out.size; show _ ≤ _; omega
      rw [← hg] at t1 ⊢
      have T1 := Lib.hid t1
      generalize wr.alloc (.cells #[.pointer none, .slice none 0 0] 59 (0, 0)) = w1 at *
      clear HB t1 hg
      go_loopw [9, 24] (fun _ iv wz => ∃ (j : Nat) (t : List UInt8), j ≤ i ∧ iv = .int .i64 (j : Nat) ∧ Hid (t.length ≤ 65536) ∧ Hid (BldI wz g t) ∧ Hid (longP (cs.drop j) t = R) ∧ Hid (Below w.heap.size w wz)) (fun _ iv _ => i - (intOf iv).toNat)
      case atStart => exact ⟨0, [], Nat.zero_le _, rfl, Nat.zero_le _, T1.out, HL0.out, HB1.out⟩
      case round =>
        rename World => wz
        clear T1 HL0 HB1
        obtain ⟨j, t, hj, rfl, HTl, HBd, HLp, HWz⟩ := hrel
        by_cases hlt : j < i
        · obtain ⟨x, hx⟩ : ∃ x, cs[j]? = some x := ⟨_, List.getElem?_eq_getElem (by rw [H.out.len]; exact hlt)⟩
          obtain ⟨bb, oo, q1, n1, k1, q2, n2, k2, rfl, d0, d1, d2, s1, s2⟩ := (H.out.keep HWz.out).row j x hx
          have hlt' : (j : Int) < (i : Int) := by omega
          have HLT := Lib.hid hlt
          have HLx := HLp.out
          rw [longP_at hx] at HLx
          have hn2 : x.bytes.length = n2 := s2.len
          rw [hn2] at HLx
          have HGx := Lib.hid (HG.out x (List.mem_of_getElem? hx))
          have HLin : Hid (n2 ≤ 1000000 → ∀ W, Below wz.heap.size wz W → Calls Tryd.prog 22 #[.agg #[.string (strB x.word), .slice q1 n1 k1, .slice q2 n2 k2]] W fun e w' => e = .returned (.string (strB (lineP x))) ∧ Below W.heap.size W w') := fun hb W hw => line_any x q1 q2 n1 k1 n2 k2 W HGx.out (s1.keep hw) (s2.keep hw) hb (HT.out.keep (bl HWz.out hw HWz.out.size))
          have HLl : Hid (n2 ≤ 65536 → (lineP x).length ≤ 200000) := fun h => by have := lineP_len HGx.out; omega
          have hn2b := s2.bound
          generalize strB x.word = W0 at *
          have HLX := Lib.hid HLx
          clear hx s1 s2 hlt HLp HLx hn2
          by_cases hbig : 65536 < n2
          · have hbig' : (65536 : Int) < (n2 : Int) := by omega
            have HRes : Hid (R = ([], 16)) := by have := HLX.out; rw [if_pos hbig] at this; exact this.symm
            clear hbig HLX
            go_wp2
            go_ret2
            exact ⟨by rw [HRes.out]; rfl, al HWz.out HWz.out.size⟩
          · have hsm : ¬ (65536 : Int) < (n2 : Int) := by omega
            have HLY : Hid ((if 65536 < (t ++ lineP x).length then ([], 16) else longP (cs.drop (j + 1)) (t ++ lineP x)) = R) := by have := HLX.out; rw [if_neg hbig] at this; exact this
            have hlin := Lib.hid (HLin.out (by omega))
            have hll := Lib.hid (HLl.out (by omega))
            have ba : Below wz.heap.size wz (wz.alloc (.cells #[.string W0, .slice q1 n1 k1, .slice q2 n2 k2] 37 (0, 0))) := al (Below.refl _ _) (Nat.le_refl _)
            have HBa := Lib.hid (HBd.out.keep ba)
            have HWa := Lib.hid (bl HWz.out ba HWz.out.size)
            have BA := Lib.hid ba
            clear hbig HLX HLin HLl ba
            go_wp2_with fail
            refine Calls.mono (hlin.out _ BA.out) ?_
            rintro e w2 ⟨rfl, hb⟩
            have HB2 := Lib.hid (HBa.out.keep hb)
            have HW2 := Lib.hid (bl HWa.out hb HWa.out.size)
            clear hb HBa HWa d0 d1 d2 hlin BA HBd HWz
            go_wp2_with fail
            refine Calls.mono (HB2.out.str (lineP x) (by have := hll.out; have := HTl.out; omega)) ?_
            rintro e w3 ⟨rfl, hb3, hw3⟩
            have HB3 := Lib.hid hb3
            have HW3 := Lib.hid (HW2.out.trans (hw3.mono HGW.out))
            clear hb3 hw3 HB2 HW2
            go_wp2_with fail
            refine Calls.mono HB3.out.len ?_
            rintro e w4 ⟨rfl, rfl⟩
            obtain ⟨m, hm⟩ : ∃ m, m = (t ++ lineP x).length := ⟨_, rfl⟩
            have hmb : m ≤ 300000 := by have := hll.out; have := HTl.out; rw [hm, app_len]; omega
            rw [← hm]
            have HM := Lib.hid hm
            clear hm
            by_cases hbig : 65536 < m
            · have hbig' : (65536 : Int) < (m : Int) := by omega
              have HRes : Hid (R = ([], 16)) := by have := HLY.out; rw [if_pos (by rw [← HM.out]; exact hbig)] at this; exact this.symm
              clear hbig HLY
              go_wp2
              go_ret2
              exact ⟨by rw [HRes.out]; rfl, HW3.out⟩
            · have hsm2 : ¬ (65536 : Int) < (m : Int) := by omega
              have HLZ : Hid (longP (cs.drop (j + 1)) (t ++ lineP x) = R) := by have := HLY.out; rw [if_neg (by rw [← HM.out]; exact hbig)] at this; exact this
              have HTl2 : Hid ((t ++ lineP x).length ≤ 65536) := by have := HM.out; show _ ≤ _; omega
              clear hbig HLY
              go_wp2
              go_roundw
              case rel => exact ⟨j + 1, t ++ lineP x, HLT.out, by go_num, HTl2.out, HB3.out, HLZ.out, HW3.out⟩
              case measure => simp [intOf]; have := HLT.out; omega
        · obtain rfl : j = i := by omega
          have HRes : Hid (R = (t, 0)) := by
            have := HLp.out
            rw [List.drop_eq_nil_of_le (by have := H.out.len; omega)] at this
            exact this.symm
          clear hlt HLp
          go_wp2_with fail
          refine Calls.mono HBd.out.done ?_
          rintro e w2 ⟨rfl, hb⟩
          have HW2 := Lib.hid (HWz.out.trans (hb.mono HGW.out))
          clear hb
          go_wp2
          go_ret2
          exact ⟨by rw [HRes.out]; rfl, HW2.out⟩
end Go.Proofs.YtccaiiigdfieoaaDoor
namespace Go.Proofs.YtccaiiigdfieoaaDoor
open Go.RowKit Go.By
theorem awake_parse : scriptL [98, 101, 103, 105, 110, 32, 55, 32, 50, 32, 48, 49, 48, 50, 102, 102, 10] = ([⟨[98, 101, 103, 105, 110], [7, 2], [1, 2, 255]⟩], 0, 0) := by kernel_rfl
theorem sl_u64 {W : World} {g n : Nat} {fr : Nat × Nat} (xs : List Nat) (h : W.heap[g]? = some (.cells (xs.map encU).toArray 48 fr)) (hn : xs.length = n) (hm : n ≤ maxLen) : Sl encU W (some ⟨g, 0, none⟩) n n xs := sl_block xs n h rfl hn hm
set_option maxRecDepth 100000 in
set_option maxHeartbeats 2000000 in
theorem awake26 (w : World) (hM : MaxI w) (hE : ErrI w) (hS : SynI w) : Calls Tryd.prog 6 #[] w fun e w' => e = .returned (.bool true) ∧ Below w.heap.size w w' := by
  have HP := Parse_any [98, 101, 103, 105, 110, 32, 55, 32, 50, 32, 48, 49, 48, 50, 102, 102, 10] w (by decide) hM hE hS
  rw [awake_parse] at HP
  have HPh := Lib.hid HP
  clear HP hM hE hS
  go_enter Tryd.func6, Tryd.ntmps6
  go_wp2_with fail
  refine Calls.mono HPh.out ?_
  rintro e w1 ⟨q, m, c, rfl, hc, hb⟩
  obtain rfl : 1 = m := hc.len
  obtain ⟨b, o, q1, n1, k1, q2, n2, k2, rfl, d0, d1, d2, s1, s2⟩ := hc.cmdS.row 0 _ rfl
  have HB := Lib.hid hb
  have S1 := Lib.hid s1
  have S2 := Lib.hid s2
  rw [Nat.zero_mul, Nat.add_zero] at d0 d1 d2
  have hw : ((strB [98, 101, 103, 105, 110]).toList == [98, 101, 103, 105, 110]) = true := by rw [strB_toList]; rfl
  generalize strB [98, 101, 103, 105, 110] = X at *
  clear hc hb s1 s2
  go_wp2_with fail
  have b2 : Below w1.heap.size w1 (w1.alloc (.cells #[.int .u64 7, .int .u64 2] 48 (0, 0))) := al (Below.refl _ _) (Nat.le_refl _)
  refine Calls.mono (EqU_d q1 _ n1 2 k1 2 [7, 2] _ (S1.out.keep b2) (sl_u64 [7, 2] (hnew rfl) rfl (by simp [maxLen]))) ?_
  rintro e w2 ⟨rfl, u, rfl⟩
  have HB2 : Hid (Below w1.heap.size w1 ((w1.alloc (.cells #[.int .u64 7, .int .u64 2] 48 (0, 0))).drewN u)) := bdn b2
  have d2' := (HB2.out.cell (p := ⟨b, o + 2, none⟩) (lt_of_cell d2)).trans d2
  generalize (w1.alloc (.cells #[.int .u64 7, .int .u64 2] 48 (0, 0))).drewN u = w3 at *
  clear b2 d0 d1 d2
  go_wp2_with fail
  have b2 : Below w3.heap.size w3 (w3.alloc (.cells #[.int .u8 1, .int .u8 2, .int .u8 255] 5 (0, 0))) := al (Below.refl _ _) (Nat.le_refl _)
  refine Calls.mono (SameB_q q2 _ n2 3 k2 3 [1, 2, 255] _ ((S2.out.keep HB2.out).keep b2) (sl_block [1, 2, 255] 3 (hnew rfl) rfl rfl (by simp [maxLen]))) ?_
  rintro e w4 ⟨rfl, u, rfl⟩
  have HB4 : Hid (Below w.heap.size w ((w3.alloc (.cells #[.int .u8 1, .int .u8 2, .int .u8 255] 5 (0, 0))).drewN u)) := bl HB.out (HB2.out.trans ((bdn b2).mono HB2.out.size)) HB.out.size
  clear b2
  go_wp2
  go_ret
  exact ⟨rfl, HB4.out⟩
end Go.Proofs.YtccaiiigdfieoaaDoor
namespace Go.Proofs.YtccaiiigdfieoaaDoor
open Go.RowKit Go.By
theorem bytes_short {c : Cmd} (h : checkP c = 0) : c.bytes.length ≤ (lineP c).length := by
  by_cases h0 : c.bytes = []
  · rw [h0]; exact Nat.zero_le _
  · unfold checkP at h
    cases hf : formS c.word with
    | none => rw [hf] at h; cases h
    | some f =>
      obtain ⟨k, b⟩ := f
      cases b with
      | false =>
        rw [hf] at h
        simp only at h
        rw [if_pos (.inr ⟨trivial, h0⟩)] at h
        cases h
      | true =>
        rw [lineP_long hf]
        have e : bytesW c.bytes = hexL c.bytes := by unfold bytesW; rw [if_neg h0]
        rw [e]
        have := hexL_len2 c.bytes
        simp only [List.length_append]
        omega
theorem line_short : ∀ {cs : List Cmd} {c : Cmd}, c ∈ cs → (lineP c).length ≤ (printP cs).length
  | d :: cs, c, h => by
    rw [printP_cons, List.length_append]
    rcases List.mem_cons.1 h with rfl | h
    · omega
    · have := line_short h; omega
theorem printR_good {cs : List Cmd} (h : ∀ c ∈ cs, GoodC c) (hl : (printP cs).length ≤ 65536) : printR cs = (printP cs, 0) := by
  unfold printR
  rw [codeP_of_good (fun c hc => (h c hc).1), if_neg (by simp), longP_print (fun c hc => by
    have h1 := bytes_short (h c hc).1
    have h2 := line_short hc
    omega) (by simpa using hl)]
  simp
end Go.Proofs.YtccaiiigdfieoaaDoor
namespace Go.Proofs.YtccaiiigdfieoaaDoor
open Go.RowKit Go.By
/-- a line, and the code -/
def lineR (c : Cmd) : List UInt8 × Int := if checkP c ≠ 0 then ([], checkP c) else (lineP c, 0)
theorem shape_form {c : Cmd} {k : Nat} {b : Bool} (hf : formS c.word = some (k, b)) (W : World) : Calls Tryd.prog 13 #[.string (strB c.word)] W fun e w' => e = .returned (.tuple #[.int .i64 (k : Nat), .bool b, .bool true]) ∧ W = w' := by
  have := Shape_any c.word W
  unfold shapeV at this
  rwa [hf] at this
set_option maxRecDepth 100000 in
set_option maxHeartbeats 4000000 in
theorem Line_bad (c : Cmd) (q1 q2 : Option Addr) (n1 k1 n2 k2 : Nat) (w : World) (h1 : c.nums.length = n1) (h2 : c.bytes.length = n2) (b1 : n1 ≤ 9223372036854775807) (b2 : n2 ≤ 9223372036854775807) (hz : checkP c ≠ 0) :
    Calls Tryd.prog 11 #[.agg #[.string (strB c.word), .slice q1 n1 k1, .slice q2 n2 k2]] w (PrtR w (lineR c)) := by
  have HL : Hid (lineR c = ([], checkP c)) := if_pos hz
  rw [HL.out]
  obtain ⟨R, hR⟩ : ∃ R, R = checkP c := ⟨_, rfl⟩
  rw [← hR] at hz ⊢
  unfold checkP at hR
  cases hf : formS c.word with
  | none =>
    rw [hf] at hR
    have HS := Lib.hid (fun W => shape_no c.word hf W)
    have HR := Lib.hid hR
    generalize strB c.word = X at *
    clear hR hf h1 h2 hz
    go_enter Tryd.func11, Tryd.ntmps11
    go_wp2_with fail
    refine Calls.mono (HS.out _) ?_
    rintro e w1 ⟨rfl, rfl⟩
    go_wp2
    go_ret2
    exact ⟨by rw [HR.out]; rfl, al (Below.refl _ _) (Nat.le_refl _)⟩
  | some f =>
    obtain ⟨k, b⟩ := f
    rw [hf] at hR
    simp only at hR
    have HS := Lib.hid (fun W => shape_form hf W)
    have hkk : k ≤ 3 := (forms_plain _ (formS_mem hf)).2.1
    have hbe : (c.bytes ≠ []) ↔ 0 < n2 := by rw [← h2, List.length_pos_iff]
    have HR := Lib.hid hR
    have cs : ((n1 : Int) != (k : Int)) = true ∧ R = 14 ∨ ((n1 : Int) != (k : Int)) = false ∧ b = false ∧ (0 : Int) < (n2 : Int) ∧ R = 14 := by
      have hr := HR.out
      rw [h1] at hr
      by_cases e : n1 = k
      · right
        refine ⟨by rw [bne_eq_false_iff_eq]; omega, ?_⟩
        cases b with
        | true => exact absurd (by rw [hr, if_neg (by simp [e])]) hz
        | false =>
          by_cases g : 0 < n2
          · exact ⟨rfl, by omega, by rw [hr, if_pos (.inr ⟨rfl, hbe.2 g⟩)]⟩
          · exact absurd (by rw [hr, if_neg (by rintro (h | ⟨_, h⟩); exact h e; exact g (hbe.1 h))]) hz
      · left; exact ⟨bne_iff_ne.2 (by omega), by rw [hr, if_pos (.inl e)]⟩
    generalize strB c.word = X at *
    clear hR hf h1 h2 hz hbe HR
    rcases cs with ⟨e1, rfl⟩ | ⟨e1, rfl, g, rfl⟩
    all_goals
      go_enter Tryd.func11, Tryd.ntmps11
      go_wp2_with fail
      refine Calls.mono (HS.out _) ?_
      rintro e w1 ⟨rfl, rfl⟩
      go_wp2
      go_ret2
      exact ⟨rfl, al (Below.refl _ _) (Nat.le_refl _)⟩
set_option maxRecDepth 100000 in
set_option maxHeartbeats 8000000 in
theorem Line_good (c : Cmd) (q1 q2 : Option Addr) (n1 k1 n2 k2 : Nat) (w : World) (hg : GoodC c) (h1 : Sl encU w q1 n1 k1 c.nums) (h2 : Sl B8 w q2 n2 k2 c.bytes) (hl : n2 ≤ 1000000) :
    Calls Tryd.prog 11 #[.agg #[.string (strB c.word), .slice q1 n1 k1, .slice q2 n2 k2]] w (PrtR w (lineR c)) := by
  have HLR : Hid (lineR c = (lineP c, 0)) := if_neg (fun h => h hg.1)
  rw [HLR.out]
  have hn : ∀ x ∈ c.nums, x < 18446744073709551616 := fun x hx => Nat.lt_succ_of_le (hg.2 x hx)
  have hnl := nums_len (W := c.word) hn
  have hc := hg.1
  unfold checkP at hc
  obtain ⟨k, b, hf⟩ : ∃ k b, formS c.word = some (k, b) := by
    cases hf : formS c.word with
    | none => rw [hf] at hc; cases hc
    | some f => exact ⟨f.1, f.2, rfl⟩
  rw [hf] at hc
  obtain ⟨_, hk3, hw, _⟩ := forms_plain _ (formS_mem hf)
  have hk : c.nums.length = k := Classical.byContradiction fun e => by simp only at hc; rw [if_pos (.inl e)] at hc; cases hc
  have hk3' : k ≤ 3 := hk3
  have hw' : c.word.length ≤ 7 := hw
  have hn1k : n1 = k := by rw [← h1.len]; exact hk
  have hn1 : n1 ≤ 3 := by omega
  have hbs : b = false → n2 = 0 := fun e => by
    have : c.bytes = [] := Classical.byContradiction fun h => by simp only at hc; rw [if_pos (.inr ⟨e, h⟩)] at hc; cases hc
    rw [← h2.len, this]; rfl
  have HS := Lib.hid (fun W => shape_form hf W)
  have HLong : Hid (b = true → lineP c = joinW (c.word :: c.nums.map Lib.decDigits) ++ [32] ++ bytesW c.bytes ++ [10]) := fun e => by subst e; exact lineP_long hf
  have HShort : Hid (b = false → lineP c = joinW (c.word :: c.nums.map Lib.decDigits) ++ [10]) := fun e => by subst e; exact lineP_short hf
  have HN := Lib.hid hn
  have HNL : Hid (∀ i, (joinW (c.word :: (c.nums.take i).map Lib.decDigits)).length ≤ 1000) := fun i => by
    have := nums_len (W := c.word) (l := c.nums.take i) (fun x hx => hn x (List.mem_of_mem_take hx))
    have h3 : (c.nums.take i).length ≤ 3 := by rw [List.length_take]; omega
    omega
  have H1 := Lib.hid h1
  have H2 := Lib.hid h2
  have HBS := Lib.hid hbs
  obtain ⟨R, hR⟩ : ∃ R, R = lineP c := ⟨_, rfl⟩
  rw [← hR]
  have HR := Lib.hid hR
  have H0 : Hid (joinW (c.word :: (c.nums.take 0).map Lib.decDigits) = c.word) := rfl
  obtain ⟨X, hX⟩ : ∃ X, X = strB c.word := ⟨_, rfl⟩
  have HX := Lib.hid hX
  rw [← hX] at HS ⊢
  have hne : ((n1 : Int) != (k : Int)) = false := by rw [bne_eq_false_iff_eq]; omega
  clear hn hnl hc hf hk3 hw hk hk3' hw' h1 h2 hg hX hR hbs hn1k
  cases b with
  | false =>
    obtain rfl : n2 = 0 := HBS.out rfl
    have HLs := Lib.hid (HShort.out rfl)
    rw [← HR.out] at HLs
    go_enter Tryd.func11, Tryd.ntmps11
    go_wp2_with fail
    have B0 : Below w.heap.size w (w.alloc (.cells #[.string X, .slice q1 n1 k1, .slice q2 0 k2] 40 (0, 0))) := al (Below.refl _ _) (Nat.le_refl _)
    have t0 : (w.alloc (.cells #[.string X, .slice q1 n1 k1, .slice q2 0 k2] 40 (0, 0))).heap[w.heap.size]? = some (.cells #[.string X, .slice q1 n1 k1, .slice q2 0 k2] 40 (0, 0)) := hnew rfl
    refine Calls.mono (HS.out _) ?_
    rintro e w1 ⟨rfl, hw1⟩
    rw [hw1] at B0 t0
    clear hw1
    have BW := Lib.hid B0
    have T0 := Lib.hid t0
    obtain ⟨d0, d1, d2⟩ := cells_three t0
    clear B0 t0
    go_wp2
    clear d0 d1 d2 hne
    go_loopw [7, 9, 39] (fun sv _ iv wr => ∃ i, i ≤ n1 ∧ iv = .int .i64 (i : Nat) ∧ sv = .string (strB (joinW (c.word :: (c.nums.take i).map Lib.decDigits))) ∧ Hid (Below w1.heap.size w1 wr)) (fun _ _ iv _ => n1 - (intOf iv).toNat)
    case atStart => exact ⟨0, Nat.zero_le _, rfl, by rw [HX.out]; rfl, Below.refl _ _⟩
    case round =>
      obtain ⟨i, hi, rfl, rfl, HWr⟩ := hrel
      by_cases hlt : i < n1
      · obtain ⟨bb, oo, x, rfl, hc1, hx1⟩ := (H1.out.keep (bl BW.out HWr.out BW.out.size)).at i hlt
        unfold encU at hc1
        have hlt' : (i : Int) < (n1 : Int) := by omega
        have HLT := Lib.hid hlt
        have HXN := Lib.hid (HN.out x (List.mem_of_getElem? hx1.out))
        have HST := Lib.hid (nums_step (W := c.word) hx1.out)
        have HTn := Lib.hid (Tens_any x x (Nat.le_refl _) HXN.out wr)
        have s1 : (strB (joinW (c.word :: (c.nums.take i).map Lib.decDigits))).size ≤ 1000 := by rw [strB_size]; exact HNL.out i
        have s2 : (strB (Lib.decDigits x)).size ≤ 20 := by rw [strB_size]; exact dec_le20 HXN.out
        have s3 : (strB (joinW (c.word :: (c.nums.take i).map Lib.decDigits)) ++ ⟨#[32]⟩).size ≤ 1001 := by
          rw [show (⟨#[32]⟩ : ByteArray) = strB [32] from rfl, txt_app, strB_size, List.length_append]
          have := HNL.out i
          have h1 : ([32] : List UInt8).length = 1 := rfl
          omega
        have HCat : Hid (strB (joinW (c.word :: (c.nums.take i).map Lib.decDigits)) ++ ⟨#[32]⟩ ++ strB (Lib.decDigits x) = strB (joinW (c.word :: (c.nums.take (i + 1)).map Lib.decDigits))) := by
          show _ = _
          rw [HST.out, show (⟨#[32]⟩ : ByteArray) = strB [32] from rfl, txt_app, txt_app]
        clear hlt hx1
        generalize strB (joinW (c.word :: (c.nums.take i).map Lib.decDigits)) = A at *
        generalize strB (Lib.decDigits x) = D at *
        go_wp2_with fail
        refine Calls.mono HTn.out ?_
        rintro e w2 ⟨rfl, hb⟩
        have HW2 := Lib.hid (bl HWr.out hb HWr.out.size)
        clear hb hc1 HTn
        go_wp2
        rw [HCat.out]
        go_roundw
        case rel => exact ⟨i + 1, HLT.out, by go_num, rfl, HW2.out⟩
        case measure => simp [intOf]; have := HLT.out; omega
      · obtain rfl : i = n1 := by omega
        have e9 : c.nums.take i = c.nums := List.take_of_length_le (by have := H1.out.len; omega)
        have hjl := HNL.out i
        rw [e9] at hjl ⊢
        have HBx := Lib.hid (bl BW.out HWr.out BW.out.size)
        obtain ⟨d0, d1, d2⟩ := cells_three ((HWr.out.block _ (lt_of_block T0.out)).trans T0.out)
        have s1 : (strB (joinW (c.word :: c.nums.map Lib.decDigits))).size ≤ 1000 := by rw [strB_size]; exact hjl
        clear hlt e9
        have HF : Hid (strB (joinW (c.word :: c.nums.map Lib.decDigits)) ++ ⟨#[10]⟩ = strB R) := by
          show _ = _
          rw [HLs.out, show (⟨#[10]⟩ : ByteArray) = strB [10] from rfl, txt_app]
        generalize strB (joinW (c.word :: c.nums.map Lib.decDigits)) = A at *
        go_wp2
        rw [HF.out]
        go_ret2
        exact ⟨rfl, HBx.out⟩
  | true =>
    have HLs := Lib.hid (HLong.out rfl)
    rw [← HR.out] at HLs
    have hn2b := H2.out.bound
    by_cases h0 : n2 = 0
    · subst h0
      have hbw : Hid (bytesW c.bytes = [45]) := by
        have hbn : c.bytes = [] := List.length_eq_zero_iff.1 H2.out.len
        show _ = _
        unfold bytesW; rw [if_pos hbn]
      go_enter Tryd.func11, Tryd.ntmps11
      go_wp2_with fail
      have B0 : Below w.heap.size w (w.alloc (.cells #[.string X, .slice q1 n1 k1, .slice q2 0 k2] 40 (0, 0))) := al (Below.refl _ _) (Nat.le_refl _)
      have t0 : (w.alloc (.cells #[.string X, .slice q1 n1 k1, .slice q2 0 k2] 40 (0, 0))).heap[w.heap.size]? = some (.cells #[.string X, .slice q1 n1 k1, .slice q2 0 k2] 40 (0, 0)) := hnew rfl
      refine Calls.mono (HS.out _) ?_
      rintro e w1 ⟨rfl, hw1⟩
      rw [hw1] at B0 t0
      clear hw1
      have BW := Lib.hid B0
      have T0 := Lib.hid t0
      obtain ⟨d0, d1, d2⟩ := cells_three t0
      clear B0 t0
      go_wp2
      clear d0 d1 d2 hne
      go_loopw [7, 9, 39] (fun sv _ iv wr => ∃ i, i ≤ n1 ∧ iv = .int .i64 (i : Nat) ∧ sv = .string (strB (joinW (c.word :: (c.nums.take i).map Lib.decDigits))) ∧ Hid (Below w1.heap.size w1 wr)) (fun _ _ iv _ => n1 - (intOf iv).toNat)
      case atStart => exact ⟨0, Nat.zero_le _, rfl, by rw [HX.out]; rfl, Below.refl _ _⟩
      case round =>
        obtain ⟨i, hi, rfl, rfl, HWr⟩ := hrel
        by_cases hlt : i < n1
        · obtain ⟨bb, oo, x, rfl, hc1, hx1⟩ := (H1.out.keep (bl BW.out HWr.out BW.out.size)).at i hlt
          unfold encU at hc1
          have hlt' : (i : Int) < (n1 : Int) := by omega
          have HLT := Lib.hid hlt
          have HXN := Lib.hid (HN.out x (List.mem_of_getElem? hx1.out))
          have HST := Lib.hid (nums_step (W := c.word) hx1.out)
          have HTn := Lib.hid (Tens_any x x (Nat.le_refl _) HXN.out wr)
          have s1 : (strB (joinW (c.word :: (c.nums.take i).map Lib.decDigits))).size ≤ 1000 := by rw [strB_size]; exact HNL.out i
          have s2 : (strB (Lib.decDigits x)).size ≤ 20 := by rw [strB_size]; exact dec_le20 HXN.out
          have s3 : (strB (joinW (c.word :: (c.nums.take i).map Lib.decDigits)) ++ ⟨#[32]⟩).size ≤ 1001 := by
            rw [show (⟨#[32]⟩ : ByteArray) = strB [32] from rfl, txt_app, strB_size, List.length_append]
            have := HNL.out i
            have h1 : ([32] : List UInt8).length = 1 := rfl
            omega
          have HCat : Hid (strB (joinW (c.word :: (c.nums.take i).map Lib.decDigits)) ++ ⟨#[32]⟩ ++ strB (Lib.decDigits x) = strB (joinW (c.word :: (c.nums.take (i + 1)).map Lib.decDigits))) := by
            show _ = _
            rw [HST.out, show (⟨#[32]⟩ : ByteArray) = strB [32] from rfl, txt_app, txt_app]
          clear hlt hx1
          generalize strB (joinW (c.word :: (c.nums.take i).map Lib.decDigits)) = A at *
          generalize strB (Lib.decDigits x) = D at *
          go_wp2_with fail
          refine Calls.mono HTn.out ?_
          rintro e w2 ⟨rfl, hb⟩
          have HW2 := Lib.hid (bl HWr.out hb HWr.out.size)
          clear hb hc1 HTn
          go_wp2
          rw [HCat.out]
          go_roundw
          case rel => exact ⟨i + 1, HLT.out, by go_num, rfl, HW2.out⟩
          case measure => simp [intOf]; have := HLT.out; omega
        · obtain rfl : i = n1 := by omega
          have e9 : c.nums.take i = c.nums := List.take_of_length_le (by have := H1.out.len; omega)
          have hjl := HNL.out i
          rw [e9] at hjl ⊢
          have HBx := Lib.hid (bl BW.out HWr.out BW.out.size)
          obtain ⟨d0, d1, d2⟩ := cells_three ((HWr.out.block _ (lt_of_block T0.out)).trans T0.out)
          have s1 : (strB (joinW (c.word :: c.nums.map Lib.decDigits))).size ≤ 1000 := by rw [strB_size]; exact hjl
          clear hlt e9
          have HF : Hid (strB (joinW (c.word :: c.nums.map Lib.decDigits)) ++ ⟨#[32, 45]⟩ ++ ⟨#[10]⟩ = strB R) := by
            show _ = _
            rw [HLs.out, hbw.out, show (⟨#[10]⟩ : ByteArray) = strB [10] from rfl, show (⟨#[32, 45]⟩ : ByteArray) = strB [32, 45] from rfl, txt_app, txt_app]
            simp
          have s2 : (strB (joinW (c.word :: c.nums.map Lib.decDigits)) ++ ⟨#[32, 45]⟩).size ≤ 1002 := by
            rw [show (⟨#[32, 45]⟩ : ByteArray) = strB [32, 45] from rfl, txt_app, strB_size, List.length_append]
            have h1 : ([32, 45] : List UInt8).length = 2 := rfl
            omega
          generalize strB (joinW (c.word :: c.nums.map Lib.decDigits)) = A at *
          go_wp2
          rw [HF.out]
          go_ret2
          exact ⟨rfl, HBx.out⟩
    · have hbw : Hid (bytesW c.bytes = hexL c.bytes) := by
        have hbn : c.bytes ≠ [] := fun e => h0 (by have := H2.out.len; rw [e] at this; exact this.symm)
        show _ = _
        unfold bytesW; rw [if_neg hbn]
      have hn0 : ((n2 : Int) == 0) = false := beq_eq_false_iff_ne.2 (by omega)
      have hgt : (0 : Int) < (n2 : Int) := by omega
      clear h0
      go_enter Tryd.func11, Tryd.ntmps11
      go_wp2_with fail
      have B0 : Below w.heap.size w (w.alloc (.cells #[.string X, .slice q1 n1 k1, .slice q2 n2 k2] 40 (0, 0))) := al (Below.refl _ _) (Nat.le_refl _)
      have t0 : (w.alloc (.cells #[.string X, .slice q1 n1 k1, .slice q2 n2 k2] 40 (0, 0))).heap[w.heap.size]? = some (.cells #[.string X, .slice q1 n1 k1, .slice q2 n2 k2] 40 (0, 0)) := hnew rfl
      refine Calls.mono (HS.out _) ?_
      rintro e w1 ⟨rfl, hw1⟩
      rw [hw1] at B0 t0
      clear hw1
      have BW := Lib.hid B0
      have T0 := Lib.hid t0
      obtain ⟨d0, d1, d2⟩ := cells_three t0
      clear B0 t0
      go_wp2
      clear d0 d1 d2 hne
      go_loopw [7, 9, 39] (fun sv _ iv wr => ∃ i, i ≤ n1 ∧ iv = .int .i64 (i : Nat) ∧ sv = .string (strB (joinW (c.word :: (c.nums.take i).map Lib.decDigits))) ∧ Hid (Below w1.heap.size w1 wr)) (fun _ _ iv _ => n1 - (intOf iv).toNat)
      case atStart => exact ⟨0, Nat.zero_le _, rfl, by rw [HX.out]; rfl, Below.refl _ _⟩
      case round =>
        obtain ⟨i, hi, rfl, rfl, HWr⟩ := hrel
        by_cases hlt : i < n1
        · obtain ⟨bb, oo, x, rfl, hc1, hx1⟩ := (H1.out.keep (bl BW.out HWr.out BW.out.size)).at i hlt
          unfold encU at hc1
          have hlt' : (i : Int) < (n1 : Int) := by omega
          have HLT := Lib.hid hlt
          have HXN := Lib.hid (HN.out x (List.mem_of_getElem? hx1.out))
          have HST := Lib.hid (nums_step (W := c.word) hx1.out)
          have HTn := Lib.hid (Tens_any x x (Nat.le_refl _) HXN.out wr)
          have s1 : (strB (joinW (c.word :: (c.nums.take i).map Lib.decDigits))).size ≤ 1000 := by rw [strB_size]; exact HNL.out i
          have s2 : (strB (Lib.decDigits x)).size ≤ 20 := by rw [strB_size]; exact dec_le20 HXN.out
          have s3 : (strB (joinW (c.word :: (c.nums.take i).map Lib.decDigits)) ++ ⟨#[32]⟩).size ≤ 1001 := by
            rw [show (⟨#[32]⟩ : ByteArray) = strB [32] from rfl, txt_app, strB_size, List.length_append]
            have := HNL.out i
            have h1 : ([32] : List UInt8).length = 1 := rfl
            omega
          have HCat : Hid (strB (joinW (c.word :: (c.nums.take i).map Lib.decDigits)) ++ ⟨#[32]⟩ ++ strB (Lib.decDigits x) = strB (joinW (c.word :: (c.nums.take (i + 1)).map Lib.decDigits))) := by
            show _ = _
            rw [HST.out, show (⟨#[32]⟩ : ByteArray) = strB [32] from rfl, txt_app, txt_app]
          clear hlt hx1
          generalize strB (joinW (c.word :: (c.nums.take i).map Lib.decDigits)) = A at *
          generalize strB (Lib.decDigits x) = D at *
          go_wp2_with fail
          refine Calls.mono HTn.out ?_
          rintro e w2 ⟨rfl, hb⟩
          have HW2 := Lib.hid (bl HWr.out hb HWr.out.size)
          clear hb hc1 HTn
          go_wp2
          rw [HCat.out]
          go_roundw
          case rel => exact ⟨i + 1, HLT.out, by go_num, rfl, HW2.out⟩
          case measure => simp [intOf]; have := HLT.out; omega
        · obtain rfl : i = n1 := by omega
          have e9 : c.nums.take i = c.nums := List.take_of_length_le (by have := H1.out.len; omega)
          have hjl := HNL.out i
          rw [e9] at hjl ⊢
          have HBx := Lib.hid (bl BW.out HWr.out BW.out.size)
          obtain ⟨d0, d1, d2⟩ := cells_three ((HWr.out.block _ (lt_of_block T0.out)).trans T0.out)
          have s1 : (strB (joinW (c.word :: c.nums.map Lib.decDigits))).size ≤ 1000 := by rw [strB_size]; exact hjl
          clear hlt e9
          have HHx := Lib.hid (Hex24_any q2 n2 k2 c.bytes wr (H2.out.keep HBx.out) hl)
          have HF : Hid (strB (joinW (c.word :: c.nums.map Lib.decDigits)) ++ ⟨#[32]⟩ ++ strB (hexL c.bytes) ++ ⟨#[10]⟩ = strB R) := by
            show _ = _
            rw [HLs.out, hbw.out, show (⟨#[10]⟩ : ByteArray) = strB [10] from rfl, show (⟨#[32]⟩ : ByteArray) = strB [32] from rfl, txt_app, txt_app, txt_app]
          have s2 : (strB (joinW (c.word :: c.nums.map Lib.decDigits)) ++ ⟨#[32]⟩).size ≤ 1001 := by
            rw [show (⟨#[32]⟩ : ByteArray) = strB [32] from rfl, txt_app, strB_size, List.length_append]
            have h1 : ([32] : List UInt8).length = 1 := rfl
            omega
          have hhl : (hexL c.bytes).length ≤ 2000000 := by rw [hexL_len2, H2.out.len]; omega
          have s3 : (strB (joinW (c.word :: c.nums.map Lib.decDigits)) ++ ⟨#[32]⟩ ++ strB (hexL c.bytes)).size ≤ 2001001 := by
            rw [show (⟨#[32]⟩ : ByteArray) = strB [32] from rfl, txt_app, txt_app, strB_size, List.length_append, List.length_append]
            have h1 : ([32] : List UInt8).length = 1 := rfl
            omega
          have s4 : (strB (hexL c.bytes)).size ≤ 2000000 := by rw [strB_size]; exact hhl
          generalize strB (joinW (c.word :: c.nums.map Lib.decDigits)) = A at *
          generalize strB (hexL c.bytes) = D at *
          go_wp2_with fail
          refine Calls.mono HHx.out ?_
          rintro e w2 ⟨rfl, hb⟩
          have HB2 := Lib.hid (bl HBx.out hb HBx.out.size)
          clear hb d0 d1 d2
          go_wp2
          rw [HF.out]
          go_ret2
          exact ⟨rfl, HB2.out⟩
theorem Line_any (c : Cmd) (q1 q2 : Option Addr) (n1 k1 n2 k2 : Nat) (w : World) (hu : ∀ x ∈ c.nums, x ≤ 18446744073709551615) (h1 : Sl encU w q1 n1 k1 c.nums) (h2 : Sl B8 w q2 n2 k2 c.bytes) (hl : n2 ≤ 1000000) :
    Calls Tryd.prog 11 #[.agg #[.string (strB c.word), .slice q1 n1 k1, .slice q2 n2 k2]] w (PrtR w (lineR c)) := by
  by_cases hz : checkP c = 0
  · exact Line_good c q1 q2 n1 k1 n2 k2 w ⟨hz, hu⟩ h1 h2 hl
  · exact Line_bad c q1 q2 n1 k1 n2 k2 w h1.len h2.len h1.bound h2.bound hz
end Go.Proofs.YtccaiiigdfieoaaDoor
namespace Go.Proofs.YtccaiiigdfieoaaDoor
open Go.RowKit Go.By
/-- the cells of a command whose slices came in -/
def CmdO (wI : World) (u : Value × Value × Value) (c : Cmd) : Prop :=
  u.1 = .string (strB c.word) ∧ (∃ q n k, u.2.1 = .slice q n k ∧ Sl encU wI q n k c.nums) ∧ ∃ q n k, u.2.2 = .slice q n k ∧ Sl B8 wI q n k c.bytes
/-- commands in an own row, whose slices came in -/
def CmdsO (T : TypeId) (B : Nat) (wI w : World) (v : Value) (n : Nat) (cs : List Cmd) : Prop :=
  ∃ vs, w.ownsRow B T 3 v n (fl3 vs) ∧ vs.length = n ∧ cs.length = n ∧ ∀ (j : Nat) (u : Value × Value × Value), vs[j]? = some u → ∃ c, cs[j]? = some c ∧ CmdO wI u c
theorem CmdsO.cmdS {T : TypeId} {B n c : Nat} {wI w : World} {q : Option Addr} {cs : List Cmd} (h : CmdsO T B wI w (.slice q n c) n cs) (hb : Below wI.heap.size wI w) : CmdS w q n c cs := by
  obtain ⟨vs, o, l1, l2, r⟩ := h
  have hv := Rw3.of_owns o
  refine ⟨l2, hv.le, hv.max, hv.nil, fun k x hx => ?_⟩
  have hk : k < n := by have := (List.getElem?_eq_some_iff.1 hx).1; omega
  have hvk : vs[k]? = some vs[k] := List.getElem?_eq_getElem (by omega)
  obtain ⟨c', hc', g1, ⟨q1, n1, c1, e1, g2⟩, q2, n2, c2, e2, g3⟩ := r k _ hvk
  rw [hx] at hc'; cases hc'
  obtain ⟨f0, f1, f2⟩ := fl3_at hvk
  obtain ⟨b, oo, e, k0⟩ := hv.cell _ _ f0
  obtain ⟨b', oo', e', k1⟩ := hv.cell _ _ f1
  rw [e] at e'; cases e'
  obtain ⟨b', oo', e', k2⟩ := hv.cell _ _ f2
  rw [e] at e'; cases e'
  exact ⟨b, oo, q1, n1, c1, q2, n2, c2, e, by rw [k0, g1], by rw [← e1]; exact k1, by rw [← e2]; exact k2, g2.keep hb, g3.keep hb⟩
theorem CmdsO.keep {T : TypeId} {B n : Nat} {wI w w' : World} {v : Value} {cs : List Cmd} (h : CmdsO T B wI w v n cs) (hb : Below w.heap.size w w') : CmdsO T B wI w' v n cs := by
  obtain ⟨vs, o, r⟩ := h
  exact ⟨vs, owns_keepv o hb, r⟩
theorem CmdsO.pushO {T : TypeId} {B n : Nat} {wI w' : World} {v' : Value} {cs : List Cmd} {c : Cmd} {u : Value × Value × Value} {vs : List (Value × Value × Value)} (ho : w'.ownsRow B T 3 v' (n + 1) (fl3 vs ++ [u.1, u.2.1, u.2.2])) (hvl : vs.length = n) (hl : cs.length = n)
    (hr : ∀ (j : Nat) (u : Value × Value × Value), vs[j]? = some u → ∃ c, cs[j]? = some c ∧ CmdO wI u c) (hu : CmdO wI u c) : CmdsO T B wI w' v' (n + 1) (cs ++ [c]) := by
  refine ⟨vs ++ [u], by rw [fl3_append]; exact ho, by simp [hvl], by simp [hl], fun j x hj => ?_⟩
  rcases Nat.lt_or_ge j vs.length with g | g
  · rw [List.getElem?_append_left g] at hj
    obtain ⟨c', hc', h'⟩ := hr j x hj
    exact ⟨c', by rw [List.getElem?_append_left (by omega)]; exact hc', h'⟩
  · have hj0 : j = vs.length := by have := (List.getElem?_eq_some_iff.1 hj).1; simp at this; omega
    subst hj0
    simp at hj
    subst hj
    exact ⟨c, by rw [List.getElem?_append_right (by omega), show vs.length - cs.length = 0 by omega]; rfl, hu⟩
theorem take_snoc {α : Type} {cs : List α} {i : Nat} {x : α} (h : cs[i]? = some x) : cs.take (i + 1) = cs.take i ++ [x] := by
  rw [List.take_add_one, h]; rfl
def wantR (cs : List Cmd) : List UInt8 := cs.flatMap fun c => (lineR c).1
theorem wantR_snoc (cs : List Cmd) (x : Cmd) : wantR (cs ++ [x]) = wantR cs ++ (lineR x).1 := by simp [wantR]
theorem lineR_code (c : Cmd) : (lineR c).2 = checkP c := by
  unfold lineR; split
  · rfl
  · rename_i h; exact (Classical.not_not.1 h).symm
theorem codeP_snoc (x : Cmd) : ∀ cs : List Cmd, codeP (cs ++ [x]) = if codeP cs = 0 then (lineR x).2 else codeP cs
  | [] => by
    rw [lineR_code]
    show (if checkP x ≠ 0 then checkP x else 0) = _
    by_cases h : checkP x = 0 <;> simp [h, codeP]
  | d :: cs => by
    show (if checkP d ≠ 0 then checkP d else codeP (cs ++ [x])) = if (if checkP d ≠ 0 then checkP d else codeP cs) = 0 then _ else (if checkP d ≠ 0 then checkP d else codeP cs)
    rw [codeP_snoc x cs]
    by_cases h : checkP d = 0
    · simp [h]
    · simp [h]
theorem lineR_len {c : Cmd} (hu : ∀ x ∈ c.nums, x ≤ 18446744073709551615) (hb : c.bytes.length ≤ 300) : (lineR c).1.length ≤ 800 := by
  unfold lineR
  split
  · simp
  · rename_i h
    have := lineP_len ⟨Classical.not_not.1 h, hu⟩
    simp only; omega
theorem wantR_len : ∀ {cs : List Cmd}, (∀ c ∈ cs, (lineR c).1.length ≤ 800) → (wantR cs).length ≤ 800 * cs.length
  | [], _ => by simp [wantR]
  | c :: cs, h => by
    show ((lineR c).1 ++ wantR cs).length ≤ _
    have h1 := h c (by simp)
    have h2 := wantR_len (cs := cs) fun d hd => h d (by simp [hd])
    rw [List.length_append, List.length_cons]; omega
theorem wantR_print : ∀ {cs : List Cmd}, (∀ c ∈ cs, checkP c = 0) → wantR cs = printP cs
  | [], _ => rfl
  | c :: cs, h => by
    show (lineR c).1 ++ wantR cs = lineP c ++ printP cs
    rw [wantR_print fun d hd => h d (by simp [hd])]
    have : lineR c = (lineP c, 0) := if_neg (fun g => g (h c (by simp)))
    rw [this]
set_option maxRecDepth 100000 in
set_option maxHeartbeats 8000000 in
theorem ScriptPrints_any (q : Option Addr) (n c : Nat) (cs : List Cmd) (w : World) (h : CmdS w q n c cs ∧ (∀ y ∈ cs, ∀ z ∈ y.nums, z ≤ 18446744073709551615) ∧ ∀ y ∈ cs, y.word.length ≤ maxLen) (hTE : Tab10 w ∧ ErrI w ∧ SynI w) (hM : MaxI w) (hz : n * 64 ≤ 140737488355328) :
    Calls Tryd.prog 4 #[.slice q n c] w fun e w' => e = .returned (.bool true) ∧ Below w.heap.size w w' := by
  obtain ⟨hT, hE, hS⟩ := hTE
  obtain ⟨i0, hi0, hz0, hz1, hz2⟩ := info_parts info_rcmd3
  obtain ⟨h1, hu, hwl⟩ := h
  have H := Lib.hid h1
  have HU := Lib.hid hu
  have HWL : Hid (∀ y ∈ cs, y.word.length ≤ 9223372036854775807) := hwl
  have HAw := Lib.hid (awake26 w hM hE hS)
  have HPr : Hid (∀ W, Below w.heap.size w W → Calls Tryd.prog 10 #[.slice q n c] W (PrtR W (printR cs))) := fun W hb => Print_any q n c cs W (h1.keep hb) hu (hT.keep hb)
  have HPa : Hid (∀ l W, l.length ≤ 1000000 → Below w.heap.size w W → Calls Tryd.prog 7 #[.string (strB l)] W (PrsR 37 W (scriptL l))) := fun l W hl hb => Parse_any l W hl (hM.keep hb) (hE.keep hb) (hS.keep hb)
  have hnb : n ≤ 2199023255552 := by omega
  have hcl : cs.length = n := h1.len
  clear h1 hu hwl hE hS hT hM hz
  go_enter Tryd.func4, Tryd.ntmps4
  go_wp2_with fail
  refine Calls.mono HAw.out ?_
  rintro e w1 ⟨rfl, hb⟩
  have HB1 := Lib.hid hb
  clear hb
  go_wp2
  go_loopw [3, 4, 5, 7, 8, 9, 19] (fun sv bv dv _ _ _ iv wr => ∃ (i kc : Nat) (kq : Option Addr), i ≤ n ∧ iv = .int .i64 (i : Nat) ∧ sv = .string (strB (wantR (cs.take i))) ∧ bv = .int .i64 (codeP (cs.take i)) ∧ dv = .slice kq i kc ∧ Hid (∀ y ∈ cs.take i, y.bytes.length ≤ 300) ∧ Hid (CmdsO 40 w.heap.size w wr (.slice kq i kc) i (cs.take i)) ∧ Hid (Below w.heap.size w wr)) (fun _ _ _ _ _ _ iv _ => n - (intOf iv).toNat)
  case atStart => exact ⟨0, 0, none, Nat.zero_le _, rfl, rfl, rfl, rfl, fun y hy => by simp at hy, ⟨[], World.ownsRow_nil _ _ _ _, rfl, rfl, fun j u h => by simp at h⟩, HB1.out⟩
  case round =>
    obtain ⟨i, kc, kq, hi, rfl, rfl, rfl, rfl, HY, HD, HB⟩ := hrel
    by_cases hlt : i < n
    · obtain ⟨x, hx⟩ : ∃ x, cs[i]? = some x := ⟨_, List.getElem?_eq_getElem (by omega)⟩
      obtain ⟨bb, oo, q1, n1, k1, q2, n2, k2, rfl, d0, d1, d2, s1, s2⟩ := H.out.row i x hx
      replace d0 := (HB.out.cell (p := ⟨bb, oo + i * 3, none⟩) (lt_of_cell d0)).trans d0
      replace d1 := (HB.out.cell (p := ⟨bb, oo + i * 3 + 1, none⟩) (lt_of_cell d1)).trans d1
      replace d2 := (HB.out.cell (p := ⟨bb, oo + i * 3 + 2, none⟩) (lt_of_cell d2)).trans d2
      have hlt' : (i : Int) < (n : Int) := by omega
      have HX := Lib.hid hx
      have HLT := Lib.hid hlt
      have hxm := List.mem_of_getElem? hx
      have HTk : Hid (cs.take (i + 1) = cs.take i ++ [x]) := take_snoc hx
      have hb1 := s1.bound; have hb2 := s2.bound
      have HV : Hid (CmdO w (.string (strB x.word), .slice q1 n1 k1, .slice q2 n2 k2) x) := ⟨rfl, ⟨q1, n1, k1, rfl, s1⟩, q2, n2, k2, rfl, s2⟩
      have HLn : Hid (n2 ≤ 300 → ∀ W, Below w.heap.size w W → Calls Tryd.prog 11 #[.agg #[.string (strB x.word), .slice q1 n1 k1, .slice q2 n2 k2]] W fun e w' => e = .returned (.tuple #[.string (strB (lineR x).1), .int .i64 (lineR x).2]) ∧ Below W.heap.size W w') := fun hl W hb => Line_any x q1 q2 n1 k1 n2 k2 W (HU.out x hxm) (s1.keep hb) (s2.keep hb) (by omega)
      have HL8 : Hid (n2 ≤ 300 → (lineR x).1.length ≤ 800 ∧ x.bytes.length ≤ 300) := fun hl => ⟨lineR_len (HU.out x hxm) (by rw [s2.len]; exact hl), by rw [s2.len]; exact hl⟩
      have hws : (strB x.word).size ≤ 9223372036854775807 := by rw [strB_size]; exact HWL.out x hxm
      have hwn : (wantR (cs.take i)).length ≤ 800 * i := by
        have := wantR_len (cs := cs.take i) fun y hy => lineR_len (HU.out y (List.mem_of_mem_take hy)) (HY.out y hy)
        have h2 : (cs.take i).length ≤ i := by rw [List.length_take]; omega
        omega
      have hss : (strB (wantR (cs.take i))).size ≤ 800 * i := by rw [strB_size]; exact hwn
      generalize hW : strB x.word = W0 at *
      generalize hW : strB (wantR (cs.take i)) = W1 at *
      have HW1 := Lib.hid hW
      clear hx hlt hxm s1 s2 hwn hW
      by_cases c1 : (20 : Int) < (n1 : Int)
      · go_wp2
        go_ret
        exact ⟨rfl, al HB.out HB.out.size⟩
      by_cases c2 : (300 : Int) < (n2 : Int)
      · go_wp2
        go_ret
        exact ⟨rfl, al HB.out HB.out.size⟩
      by_cases c3 : (40 : Int) < (W0.size : Int)
      · go_wp2
        go_ret
        exact ⟨rfl, al HB.out HB.out.size⟩
      have hn2 : n2 ≤ 300 := by omega
      have HLn2 := Lib.hid (HLn.out hn2)
      obtain ⟨hl8, hb8⟩ := HL8.out hn2
      have HBT : Hid (∀ y ∈ cs.take (i + 1), y.bytes.length ≤ 300) := fun y hy => by
        rw [HTk.out] at hy
        rcases List.mem_append.1 hy with hy | hy
        · exact HY.out y hy
        · rcases List.mem_singleton.1 hy with rfl; exact hb8
      have HCat : Hid (W1 ++ strB (lineR x).1 = strB (wantR (cs.take (i + 1)))) := by
        show _ = _
        rw [HTk.out, wantR_snoc, ← HW1.out, txt_app]
      have HCo : Hid (codeP (cs.take (i + 1)) = if codeP (cs.take i) = 0 then (lineR x).2 else codeP (cs.take i)) := by
        show _ = _
        rw [HTk.out, codeP_snoc]
      have hsl : (strB (lineR x).1).size ≤ 800 := by rw [strB_size]; exact hl8
      generalize (lineR x).2 = E at *
      generalize strB (lineR x).1 = L at *
      clear HLn HL8 hl8 hb8 HY hn2
      go_wp2_with fail
      have ba : Below wr.heap.size wr (wr.alloc (.cells #[.string W0, .slice q1 n1 k1, .slice q2 n2 k2] 37 (0, 0))) := al (Below.refl _ _) (Nat.le_refl _)
      have t0 : (wr.alloc (.cells #[.string W0, .slice q1 n1 k1, .slice q2 n2 k2] 37 (0, 0))).heap[wr.heap.size]? = some (.cells #[.string W0, .slice q1 n1 k1, .slice q2 n2 k2] 37 (0, 0)) := hnew rfl
      have HB2 := Lib.hid (bl HB.out ba HB.out.size)
      have HD2 := Lib.hid (HD.out.keep ba)
      refine Calls.mono (HLn2.out _ HB2.out) ?_
      rintro e w2 ⟨rfl, hb⟩
      have HB3 := Lib.hid (bl HB2.out hb HB2.out.size)
      have HD3 := Lib.hid (HD2.out.keep hb)
      have T0 : Hid (w2.heap[wr.heap.size]? = some (.cells #[.string W0, .slice q1 n1 k1, .slice q2 n2 k2] 37 (0, 0))) := (hb.block _ (lt_of_block t0)).trans t0
      obtain ⟨vs, ho, hvl, hcl2, hvr⟩ := HD3.out
      have hOA : Hid (∀ o, (w2.alloc o).ownsRow w.heap.size 40 3 (.slice kq i kc) i (fl3 vs)) := fun o => owns_keep ho (al (Below.refl _ _) (Nat.le_refl _))
      have HVR := Lib.hid hvr
      have HVL := Lib.hid (And.intro hvl hcl2)
      obtain ⟨f0, f1, f2⟩ := cells_three T0.out
      have hszw := HB3.out.size
      clear ba t0 hb d0 d1 d2 HD HB HB2 HD2 HD3 ho hvl hcl2 hvr HLn2
      obtain ⟨bv, hbv⟩ : ∃ bv, bv = codeP (cs.take i) := ⟨_, rfl⟩
      rw [← hbv] at HCo ⊢
      clear hbv
      by_cases hne : bv = 0
      · subst hne
        go_wp2_with (at_builtin; refine wpList_append_own _ rfl _ _ 27 rfl w.heap.size 40 i0 _ 3 64 Tryd.underlying27 hi0 hz0 hz1 hz2 rfl (by omega) _ i (fl3 vs) rfl (hOA.out _) ⟨w2.heap.size, 0, none⟩ 1 1 [.string W0, .slice q1 n1 k1, .slice q2 n2 k2] rfl rfl ?c1 ?c2 ?c3 ?c4 ?c5 ?_)
        case c1 =>
          intro j' y hj'
          rw [Addr.add_lit, Nat.zero_add, cell_of_row _ _ j' _ _ _ (hnew (by simp))]
          match j' with
          | 0 => simpa using hj'
          | 1 => simpa using hj'
          | 2 => simpa using hj'
          | j' + 3 => simp at hj'
        case c2 => intro y hy; simp at hy; rcases hy with rfl | rfl | rfl <;> rfl
        case c3 => unfold maxLen; omega
        case c4 => omega
        case c5 => simp; omega
        intro v' w' ho' hg' _
        obtain ⟨q', c', rfl⟩ := owns_shape ho'
        have HC3 : Hid (CmdsO 40 w.heap.size w w' (.slice q' (i + 1) c') (i + 1) (cs.take (i + 1))) := by
          show CmdsO _ _ _ _ _ _ _
          rw [HTk.out]
          exact CmdsO.pushO ho' HVL.out.1 HVL.out.2 HVR.out HV.out
        have HB4 : Hid (Below w.heap.size w w') := (al HB3.out hszw).grown hg' (by simp; omega) (fun rr hrr => ((hOA.out (.cells #[] 0 (0, 0))).lt rr hrr).1)
        clear ho' hg' hOA HVR HVL hszw f0 f1 f2
        rw [HCat.out]
        go_wp2
        go_roundw
        case rel => exact ⟨i + 1, c', q', HLT.out, by go_num, rfl, by rw [HCo.out]; simp, rfl, HBT.out, HC3.out, HB4.out⟩
        case measure => simp [intOf]; have := HLT.out; omega
      · have hne' : (bv == 0) = false := beq_eq_false_iff_ne.2 hne
        have HNe := Lib.hid hne
        clear hne
        go_wp2_with (at_builtin; refine wpList_append_own _ rfl _ _ 27 rfl w.heap.size 40 i0 _ 3 64 Tryd.underlying27 hi0 hz0 hz1 hz2 rfl (by omega) _ i (fl3 vs) rfl (hOA.out _) ⟨w2.heap.size, 0, none⟩ 1 1 [.string W0, .slice q1 n1 k1, .slice q2 n2 k2] rfl rfl ?c1 ?c2 ?c3 ?c4 ?c5 ?_)
        case c1 =>
          intro j' y hj'
          rw [Addr.add_lit, Nat.zero_add, cell_of_row _ _ j' _ _ _ (hnew (by simp))]
          match j' with
          | 0 => simpa using hj'
          | 1 => simpa using hj'
          | 2 => simpa using hj'
          | j' + 3 => simp at hj'
        case c2 => intro y hy; simp at hy; rcases hy with rfl | rfl | rfl <;> rfl
        case c3 => unfold maxLen; omega
        case c4 => omega
        case c5 => simp; omega
        intro v' w' ho' hg' _
        obtain ⟨q', c', rfl⟩ := owns_shape ho'
        have HC3 : Hid (CmdsO 40 w.heap.size w w' (.slice q' (i + 1) c') (i + 1) (cs.take (i + 1))) := by
          show CmdsO _ _ _ _ _ _ _
          rw [HTk.out]
          exact CmdsO.pushO ho' HVL.out.1 HVL.out.2 HVR.out HV.out
        have HB4 : Hid (Below w.heap.size w w') := (al HB3.out hszw).grown hg' (by simp; omega) (fun rr hrr => ((hOA.out (.cells #[] 0 (0, 0))).lt rr hrr).1)
        clear ho' hg' hOA HVR HVL hszw f0 f1 f2
        rw [HCat.out]
        go_wp2
        go_roundw
        case rel => exact ⟨i + 1, c', q', HLT.out, by go_num, rfl, by rw [HCo.out, if_neg HNe.out], rfl, HBT.out, HC3.out, HB4.out⟩
        case measure => simp [intOf]; have := HLT.out; omega
    · obtain rfl : i = n := by omega
      have e9 : cs.take i = cs := List.take_of_length_le (by omega)
      rw [e9] at HD HY ⊢
      clear e9 hlt
      by_cases c1 : (40 : Int) < (i : Int)
      · go_wp2
        go_ret
        exact ⟨rfl, HB.out⟩
      have hwl := wantR_len fun y hy => lineR_len (HU.out y hy) (HY.out y hy)
      have HPw := Lib.hid (HPr.out wr HB.out)
      by_cases hz : codeP cs = 0
      · have hg : ∀ c ∈ cs, GoodC c := fun c hc => ⟨codeP_good hz c hc, HU.out c hc⟩
        have hwp : wantR cs = printP cs := wantR_print fun c hc => (hg c hc).1
        have hpr := printR_good hg (by rw [← hwp]; omega)
        have hsc : scriptL (printP cs) = (cs, 0, 0) := by
          have : scriptL (printP cs) = scriptP (printP cs) := if_neg (by rw [← hwp]; omega)
          rw [this, script_print hg]
        have HPs : Hid (∀ W, Below w.heap.size w W → Calls Tryd.prog 7 #[.string (strB (printP cs))] W (PrsR 37 W (cs, 0, 0))) := fun W hb => by
          have := HPa.out (printP cs) W (by rw [← hwp]; omega) hb
          rwa [hsc] at this
        rw [hpr] at HPw
        rw [hwp, hz]
        have heq : ((strB (printP cs)).toList == (strB (printP cs)).toList) = true := by simp
        obtain ⟨X, hX⟩ : ∃ X, X = strB (printP cs) := ⟨_, rfl⟩
        unfold PrtR at HPw
        simp only at HPw
        rw [← hX] at HPs HPw heq ⊢
        clear hX hwl hz hg hwp hpr hsc
        go_wp2_with fail
        refine Calls.mono HPw.out ?_
        rintro e w2 ⟨rfl, hb⟩
        have HB2 := Lib.hid (bl HB.out hb HB.out.size)
        have HD2 := Lib.hid (HD.out.keep hb)
        clear hb HD HB
        go_wp2_with fail
        refine Calls.mono (HPs.out w2 HB2.out) ?_
        rintro e w3 ⟨q', m', c', rfl, hc, hb⟩
        have HB3 := Lib.hid (bl HB2.out hb HB2.out.size)
        have HD3 := Lib.hid ((HD2.out.keep hb).cmdS HB3.out)
        have HC3 := Lib.hid hc.cmdS
        clear hb hc HD2 HB2
        go_wp2_with fail
        refine Calls.mono (Same26_yes q' kq m' i c' kc cs w3 HC3.out HD3.out) ?_
        rintro e w4 ⟨rfl, u, rfl⟩
        have HB4 : Hid (Below w.heap.size w (w3.drewN u)) := bdn HB3.out
        clear HC3 HD3 HB3
        go_wp2
        go_ret
        exact ⟨rfl, HB4.out⟩
      · have hz' : (codeP cs != 0) = true := bne_iff_ne.2 hz
        have hpr : printR cs = ([], codeP cs) := if_pos hz
        have heq : (codeP cs == codeP cs) = true := by simp
        rw [hpr] at HPw
        unfold PrtR at HPw
        simp only at HPw
        have e0 : strB [] = ⟨#[]⟩ := rfl
        rw [e0] at HPw
        generalize codeP cs = C at *
        generalize strB (wantR cs) = X at *
        clear hz hpr hwl e0
        go_wp2_with fail
        refine Calls.mono HPw.out ?_
        rintro e w2 ⟨rfl, hb⟩
        have HB2 := Lib.hid (bl HB.out hb HB.out.size)
        clear hb HD HB
        go_wp2
        go_ret
        exact ⟨rfl, HB2.out⟩
end Go.Proofs.YtccaiiigdfieoaaDoor
namespace Go.By
open Go.RowKit
theorem sl_of_row {w : World} {a : Option Addr} {len cap : Nat} {zs : List Int}
    (h : (a = none ∧ len = 0 ∧ cap = 0 ∧ zs = []) ∨ ∃ x, a = some x ∧ len ≤ cap ∧ cap ≤ maxLen ∧ zs.length = cap ∧ (∀ i, i < zs.length → w.cell? (x.add i) = some (.int .u8 (zs.getD i 0))) ∧ ∀ n ∈ zs, (Lit.int .u8 n).wf = true) :
    ∃ xs, Sl B8 w a len cap xs := by
  rcases h with ⟨rfl, rfl, rfl, _⟩ | ⟨x, rfl, hl, hm, hz, hc, hw⟩
  · exact ⟨[], Sl.nil0 _ _⟩
  · refine ⟨(zs.take len).map fun z => UInt8.ofNat z.toNat, ⟨by simp; omega, hl, hm, fun h => by simp at h, ?_⟩⟩
    intro i hi
    have hi' : i < zs.length := by simp at hi; omega
    obtain ⟨b, o, hx, hc'⟩ := ints_at hc (by omega)
    refine ⟨b, o, by rw [hx], ?_⟩
    have hh := hc i hi'
    rw [hx, Addr.add_lit] at hh
    rw [hh]
    have e : zs.getD i 0 = zs[i] := by simp [hi']
    rw [e]
    have hb := bounds_u8 (hw _ (List.getElem_mem hi'))
    simp
    omega
end Go.By
namespace Go.By
open Go.RowKit
end Go.By
namespace Go.Proofs.YtccaiiigdfieoaaDoor
open Go.RowKit Go.By
theorem tab10_of {d32 d64 : DataW Unit} {rest : List (String × DataW Unit)} {W : World} (h : laidMet Tryd.prog (("math/bits.deBruijn32tab", d32) :: ("math/bits.deBruijn64tab", d64) :: ("internal/strconv.uint64pow10", Rows.laid_internal_strconv_uint64pow10) :: rest) W) : Tab10 W := by
  have hz : (Rows.laid_internal_strconv_uint64pow10 : DataW Unit) = Lib.tabData .u64 Lib.pow10Tab := rfl
  have h2 := laidMet.tail (laidMet.tail h)
  rw [hz] at h2
  exact Lib.tabIs_of_head (g := 1) (t := 120) (e := 48) (n := 20) (by kernel_rfl) (by kernel_rfl) (by kernel_rfl) (by kernel_rfl) (by kernel_rfl) (by kernel_rfl) h2
end Go.Proofs.YtccaiiigdfieoaaDoor
namespace Go.By
open Go.RowKit
/-- the wrap of a row with a condition of its own, that hands on the world's shape too -/
theorem handed_shaped_and {H : Type} {enc : TypeId × Value → H} {a : Assume} {C : Checked} {os : Os} {f : FuncId} {fn : Func} {s : ChangeSpec} {conds : List PathCond} {apart fresh handsOn again : Bool} {X : World → Array Value → Prop}
    (hX : ∀ (w w' : World) (args : Array Value), w.heap = w'.heap → X w args → X w' args)
    (own : ownKnob C.prog.godebug = none) (started : os.Started) (noInit : C.prog.inits.idxOf? f = none) (hfn : C.prog.funcs[f]? = some fn)
    (witness : ∃ (w : World) (tape : Tape) (i : Input), w.os = os ∧ (w.forCall tape i).Shaped C.prog ∧ i.vars = [] ∧ Input.okWide C.prog (w.forCall tape i) .any w.heap.size f i ∧
      ((s.pre enc C.prog fn conds apart (w.forCall tape i).memory i.args ∧ X (w.forCall tape i).memory i.args) ∧ sizedMet enc C.prog fn (OpenSpec.ofChange s) apart (w.forCall tape i).memory i.args) ∧ a.holds C.prog (lone (Frame.enter C.prog f i.args .normal) [] (w.forCall tape i)))
    (contract : ∀ (W : World) (base : Nat) (args : Array Value) (ds gs : List (DataW H)) (before : List MemPlace),
      (∀ (j : Nat) t v, fn.params[j]? = some t → args[j]? = some v → Value.okWide C.prog W .any base t v) →
      DataW.Whole enc C.prog fn.params.toList s.vars apart W args.toList ds gs before →
      conds.all (PathCond.test C.prog ⟨fn.params.toList, ds, s.plain.varTypes C.prog, gs⟩) = true →
      (DataW.weightsEach C.prog (fn.params.toList ++ s.plain.varTypes C.prog) (ds ++ gs)).all (· ≤ reachBytes) = true → X W args → W.ShapedOpen C.prog →
      a.holds C.prog (lone (Frame.enter C.prog f args .normal) [] W) →
      Calls C.prog f args W fun e W' => ∃ v, e = .returned v ∧ s.post enc C.prog fn apart fresh handsOn again W args v W') :
    ReturnsInHanded a C os f .any (fun w args => (s.pre enc C.prog fn conds apart w args ∧ X w args) ∧ sizedMet enc C.prog fn (OpenSpec.ofChange s) apart w args) (s.post enc C.prog fn apart fresh handsOn again) :=
  returnsInHanded_of_calls own started noInit witness (fun w tape i _ shape _ ok before holds => by
    have value := ok.2.2.2
    obtain ⟨fn2, h2, _, _, _, _, value⟩ := value
    cases hfn.symm.trans h2
    obtain ⟨⟨⟨ds, gs, places, whole, conds⟩, x⟩, sized⟩ := before
    exact (contract _ w.heap.size i.args ds gs places value (DataW.Whole.of_heap (w := (w.forCall tape i).memory) (w' := w.forCall tape i) rfl whole) conds (sized.weights whole) (hX (w.forCall tape i).memory (w.forCall tape i) _ rfl x) shape holds).mono (fun e W' h => by
      obtain ⟨v, e1, post⟩ := h
      cases e1
      exact ChangeSpec.post_blind post))
end Go.By
namespace Go.Proofs.YtccaiiigdfieoaaDoor
open Go.RowKit Go.By
theorem maxI_of {W : World} (h : W.ShapedOpen Tryd.prog) : MaxI W :=
  Go.Proofs.cell_of_shapedOpen_int (zero := #[.int .i64 0]) (t := 3) h (of_decide_eq_true (by kernel_rfl)) (by kernel_rfl) rfl (by kernel_rfl) (by kernel_rfl) Tryd.underlying3
theorem row_errS (u : TypeId) (h : Tryd.prog.typeName? 3 u = some "*errors.errorString") : u = 133 :=
  typeName_ptr_named (nm := "errors.errorString") (by rw [show "*" ++ "errors.errorString" = "*errors.errorString" by decide]; kernel_rfl) (by kernel_rfl) (by decide) u (by rw [show "*" ++ "errors.errorString" = "*errors.errorString" by decide]; exact h)
theorem errI_of {a b c d : String × DataW Unit} {rest : List (String × DataW Unit)} {W : World} (h : laidMet Tryd.prog (a :: b :: c :: d :: ("strconv.ErrRange", Rows.laid_strconv_ErrRange) :: rest) W) : ErrI W := by
  have h2 := laidMet.tail (laidMet.tail (laidMet.tail (laidMet.tail h)))
  obtain ⟨p, s, hv, _⟩ := laid_sentinel (g := 3) (ti := 61) (tp := 133) (te := 135) (ts := 9) h2 (by kernel_rfl) (by kernel_rfl) Tryd.underlying61 row_errS Tryd.underlying133 Tryd.underlying135 rfl rfl Tryd.underlying9 (by kernel_rfl) (by kernel_rfl)
  exact ⟨_, World.var?_cell (by kernel_rfl) hv 0, .inr ⟨_, _, rfl⟩⟩
end Go.Proofs.YtccaiiigdfieoaaDoor
namespace Go.Proofs.YtccaiiigdfieoaaDoor
open Go.RowKit Go.By
theorem synI_of {a b c d f : String × DataW Unit} {rest : List (String × DataW Unit)} {W : World} (h : laidMet Tryd.prog (a :: b :: c :: d :: f :: ("strconv.ErrSyntax", Rows.laid_strconv_ErrSyntax) :: rest) W) : SynI W := by
  have h2 := laidMet.tail (laidMet.tail (laidMet.tail (laidMet.tail (laidMet.tail h))))
  obtain ⟨p, s, hv, _⟩ := laid_sentinel (g := 2) (ti := 61) (tp := 133) (te := 135) (ts := 9) h2 (by kernel_rfl) (by kernel_rfl) Tryd.underlying61 row_errS Tryd.underlying133 Tryd.underlying135 rfl rfl Tryd.underlying9 (by kernel_rfl) (by kernel_rfl)
  exact ⟨_, World.var?_cell (by kernel_rfl) hv 0, .inr ⟨_, _, rfl⟩⟩
theorem scr_of {d32 d64 : DataW Unit} {d : String × DataW Unit} {rest : List (String × DataW Unit)} {W : World} (h : laidMet Tryd.prog (("math/bits.deBruijn32tab", d32) :: ("math/bits.deBruijn64tab", d64) :: ("internal/strconv.uint64pow10", Rows.laid_internal_strconv_uint64pow10) :: d :: ("strconv.ErrRange", Rows.laid_strconv_ErrRange) :: ("strconv.ErrSyntax", Rows.laid_strconv_ErrSyntax) :: rest) W) : Tab10 W ∧ ErrI W ∧ SynI W := ⟨tab10_of h, errI_of h, synI_of h⟩
end Go.Proofs.YtccaiiigdfieoaaDoor
namespace Go.By
open Go.RowKit
theorem sl64_of_row {w : World} {a : Option Addr} {len cap : Nat} {zs : List Int}
    (h : (a = none ∧ len = 0 ∧ cap = 0 ∧ zs = []) ∨ ∃ x, a = some x ∧ len ≤ cap ∧ cap ≤ maxLen ∧ zs.length = cap ∧ (∀ i, i < zs.length → w.cell? (x.add i) = some (.int .u64 (zs.getD i 0))) ∧ ∀ n ∈ zs, (Lit.int .u64 n).wf = true) :
    ∃ xs, Sl encU w a len cap xs ∧ ∀ z ∈ xs, z ≤ 18446744073709551615 := by
  rcases h with ⟨rfl, rfl, rfl, _⟩ | ⟨x, rfl, hl, hm, hz, hc, hw⟩
  · exact ⟨[], Sl.nil0 _ _, by simp⟩
  · have hbd : ∀ z ∈ zs, 0 ≤ z ∧ z ≤ 18446744073709551615 := fun z hz => by
      have := hw z hz
      simp [Lit.wf, IntKind.min, IntKind.max, IntKind.signed, IntKind.bits] at this
      omega
    refine ⟨(zs.take len).map fun z => z.toNat, ⟨by simp; omega, hl, hm, fun h => by simp at h, ?_⟩, fun z hz => ?_⟩
    · intro i hi
      have hi' : i < zs.length := by simp at hi; omega
      obtain ⟨b, o, hx, hc'⟩ := ints_at hc (by omega)
      refine ⟨b, o, by rw [hx], ?_⟩
      have hh := hc i hi'
      rw [hx, Addr.add_lit] at hh
      rw [hh]
      have e : zs.getD i 0 = zs[i] := by simp [hi']
      rw [e]
      have hb := hbd _ (List.getElem_mem hi')
      simp [encU]
      omega
    · obtain ⟨y, hy, rfl⟩ := List.mem_map.1 hz
      have := hbd y (List.mem_of_mem_take hy)
      omega
end Go.By
namespace Go.Proofs.YtccaiiigdfieoaaDoor
open Go.RowKit Go.By Go.ChangeShapes Go.WideShapes Go.Deep
section
variable {H : Type} {enc : TypeId × Value → H} {P : Program} {w : World} {base : Nat} {held : Bool}
theorem open_bytes1c {t q : TypeId} {fuel : Nat} {c4 : Value} {x : DataW H × List MemPlace} (h4 : P.underlying t = some (.slice q)) (hq : P.underlying q = some (.int .u8)) (cq : P.cellsOf q = 1) (g4 : DataW.trod enc P w base (fun _ => true) held fuel t [c4] = some x) : ∃ p m c bs, c4 = .slice p m c ∧ Sl B8 w p m c bs := by
  rcases open_ints h4 hq cq g4 with ⟨hcs, _⟩ | ⟨x, l, c, zs, hcs, _, hl, hm, hz, _, hcell, hwz⟩
  · simp at hcs
    exact ⟨none, 0, 0, [], hcs, Sl.nil0 _ _⟩
  · simp at hcs
    obtain ⟨xs, hx⟩ := sl_of_row (.inr ⟨_, rfl, hl, hm, by simpa using hz, hcell, hwz⟩)
    exact ⟨_, _, _, xs, hcs, hx⟩
theorem open_u64s1c {t q : TypeId} {fuel : Nat} {c4 : Value} {x : DataW H × List MemPlace} (h4 : P.underlying t = some (.slice q)) (hq : P.underlying q = some (.int .u64)) (cq : P.cellsOf q = 1) (g4 : DataW.trod enc P w base (fun _ => true) held fuel t [c4] = some x) : ∃ p m c bs, c4 = .slice p m c ∧ Sl encU w p m c bs ∧ ∀ z ∈ bs, z ≤ 18446744073709551615 := by
  rcases open_ints h4 hq cq g4 with ⟨hcs, _⟩ | ⟨x, l, c, zs, hcs, _, hl, hm, hz, _, hcell, hwz⟩
  · simp at hcs
    exact ⟨none, 0, 0, [], hcs, Sl.nil0 _ _, by simp⟩
  · simp at hcs
    obtain ⟨xs, hx, hb⟩ := sl64_of_row (.inr ⟨_, rfl, hl, hm, by simpa using hz, hcell, hwz⟩)
    exact ⟨_, _, _, xs, hcs, hx, hb⟩
theorem trod_struct3c {t : TypeId} {f0 f1 f2 : Field} {fuel : Nat} {cs : List Value} {x : DataW H × List MemPlace} {spare : Nat → Bool} (ht : P.underlying t = some (.struct #[f0, f1, f2])) (h : DataW.trod enc P w base spare held fuel t cs = some x) :
    ∃ y0 y1 y2 n, cs.length = P.cellsOf t ∧ DataW.trod enc P w base spare held n f0.type ((cs.drop f0.offset).take (P.cellsOf f0.type)) = some y0 ∧
      DataW.trod enc P w base spare held n f1.type ((cs.drop f1.offset).take (P.cellsOf f1.type)) = some y1 ∧ DataW.trod enc P w base spare held n f2.type ((cs.drop f2.offset).take (P.cellsOf f2.type)) = some y2 := by
  obtain ⟨xs, n, _, rfl, hl, hlen, hf⟩ := DataW.trod_struct ht h
  match xs, hlen with
  | [y0, y1, y2], _ => exact ⟨y0, y1, y2, n, hl, by simpa using hf 0 f0 rfl, by simpa using hf 1 f1 rfl, by simpa using hf 2 f2 rfl⟩
theorem list3c {α : Type} {cs : List α} (h : cs.length = 3) : ∃ c0 c1 c2, cs = [c0, c1, c2] := by
  match cs, h with
  | [c0, c1, c2], _ => exact ⟨c0, c1, c2, rfl⟩
/-- one command, cell by cell -/
theorem open_cmd {t q1 q2 : TypeId} {f0 f1 f2 : Field} {fuel : Nat} {cs : List Value} {x : DataW H × List MemPlace} (ht : P.underlying t = some (.struct #[f0, f1, f2])) (hone : oneCellFields P #[f0, f1, f2] = true) (hC : P.cellsOf t = 3)
    (h0 : P.underlying f0.type = some .string) (h1 : P.underlying f1.type = some (.slice q1)) (h2 : P.underlying f2.type = some (.slice q2)) (hq1 : P.underlying q1 = some (.int .u64)) (cq1 : P.cellsOf q1 = 1) (hq2 : P.underlying q2 = some (.int .u8)) (cq2 : P.cellsOf q2 = 1)
    (h : DataW.trod enc P w base (fun _ => true) held fuel t cs = some x) :
    ∃ (y : Cmd) (p1 : Option Addr) (m1 c1 : Nat) (p2 : Option Addr) (m2 c2 : Nat), cs = [.string (strB y.word), .slice p1 m1 c1, .slice p2 m2 c2] ∧ Sl encU w p1 m1 c1 y.nums ∧ Sl B8 w p2 m2 c2 y.bytes ∧ (∀ z ∈ y.nums, z ≤ 18446744073709551615) ∧ y.word.length ≤ maxLen := by
  obtain ⟨y0, y1, y2, n, hl, g0, g1, g2⟩ := trod_struct3c ht h
  obtain ⟨c0, c1, c2, rfl⟩ := list3c (hl.trans hC)
  obtain ⟨o0, k0⟩ := hone_of hone 0 f0 rfl
  obtain ⟨o1, k1⟩ := hone_of hone 1 f1 rfl
  obtain ⟨o2, k2⟩ := hone_of hone 2 f2 rfl
  rw [o0, k0] at g0; rw [o1, k1] at g1; rw [o2, k2] at g2
  obtain ⟨s, e0, -, hs⟩ := DataW.trod_string h0 g0
  obtain ⟨p1, m1, d1, b1, e1, s1, hb1⟩ := open_u64s1c h1 hq1 cq1 g1
  obtain ⟨p2, m2, d2, b2, e2, s2⟩ := open_bytes1c h2 hq2 cq2 g2
  simp at e0
  subst e0; subst e1; subst e2
  exact ⟨⟨s.data.toList, b1, b2⟩, p1, m1, d1, p2, m2, d2, by show [_, _, _] = [Value.string (strB s.data.toList), _, _]; rw [← strB_of s], s1, s2, hb1, by show s.data.toList.length ≤ maxLen; rw [Array.length_toList]; exact hs⟩
theorem open_cmds {t e q1 q2 : TypeId} {f0 f1 f2 : Field} {fuel : Nat} {cs : List Value} {x : DataW H × List MemPlace} (ht : P.underlying t = some (.slice e)) (he : P.underlying e = some (.struct #[f0, f1, f2])) (hone : oneCellFields P #[f0, f1, f2] = true) (hC : P.cellsOf e = 3)
    (h0 : P.underlying f0.type = some .string) (h1 : P.underlying f1.type = some (.slice q1)) (h2 : P.underlying f2.type = some (.slice q2)) (hq1 : P.underlying q1 = some (.int .u64)) (cq1 : P.cellsOf q1 = 1) (hq2 : P.underlying q2 = some (.int .u8)) (cq2 : P.cellsOf q2 = 1)
    (h : DataW.trod enc P w base (fun _ => true) held fuel t cs = some x) : ∃ p n c l, cs = [.slice p n c] ∧ CmdS w p n c l ∧ (∀ y ∈ l, ∀ z ∈ y.nums, z ≤ 18446744073709551615) ∧ ∀ y ∈ l, y.word.length ≤ maxLen := by
  rcases open_slice ht h with ⟨hcs, _⟩ | ⟨a, len, cap, m, n, D, Pl, rfl, hb, hl, hm, hmm, rfl, hx⟩
  · exact ⟨none, 0, 0, [], hcs, ⟨rfl, Nat.le_refl _, by simp [maxLen], fun _ => ⟨rfl, rfl⟩, fun k a hk => by simp at hk⟩, by simp, by simp⟩
  simp only [if_true] at hmm
  have hmm' := hmm.symm
  subst hmm'
  have hsp : 0 < len → a.spot = none := fun h => by
    obtain ⟨cs', hc, htr⟩ := hx 0 (by omega)
    obtain ⟨y, p, m', c', p', m'', c'', rfl, -⟩ := open_cmd he hone hC h0 h1 h2 hq1 cq1 hq2 cq2 htr
    obtain ⟨_, _, hcell⟩ := World.cells?_some hc
    have z0 := hcell 0 (by omega)
    simpa [Addr.add] using World.cell?_spot (z0.trans rfl)
  have each : ∀ k, k < len → ∃ y : Cmd, (∃ b o q1 n1 c1 q2 n2 c2, a = ⟨b, o, none⟩ ∧ w.cell? ⟨b, o + k * 3, none⟩ = some (.string (strB y.word)) ∧ w.cell? ⟨b, o + k * 3 + 1, none⟩ = some (.slice q1 n1 c1) ∧ w.cell? ⟨b, o + k * 3 + 2, none⟩ = some (.slice q2 n2 c2) ∧ Sl encU w q1 n1 c1 y.nums ∧ Sl B8 w q2 n2 c2 y.bytes) ∧ (∀ z ∈ y.nums, z ≤ 18446744073709551615) ∧ y.word.length ≤ maxLen := by
    intro k hk
    obtain ⟨cs', hc, htr⟩ := hx k (by omega)
    obtain ⟨y, p, m', c', p', m'', c'', rfl, hs1, hs2, hb1, hb2⟩ := open_cmd he hone hC h0 h1 h2 hq1 cq1 hq2 cq2 htr
    obtain ⟨_, _, hcell⟩ := World.cells?_some hc
    rw [hC] at hcell
    obtain ⟨b, o, spot⟩ := a
    have z0 := hcell 0 (by omega)
    have hspot : spot = none := hsp (by omega)
    subst hspot
    have z1 := hcell 1 (by omega); have z2 := hcell 2 (by omega)
    simp only [add_plain] at z0 z1 z2
    exact ⟨y, ⟨b, o, p, m', c', p', m'', c'', rfl, z0, z1, z2, hs1, hs2⟩, hb1, hb2⟩
  have hch : ∃ f : Nat → Cmd, ∀ k, k < len → (∃ b o q1 n1 c1 q2 n2 c2, a = ⟨b, o, none⟩ ∧ w.cell? ⟨b, o + k * 3, none⟩ = some (.string (strB (f k).word)) ∧ w.cell? ⟨b, o + k * 3 + 1, none⟩ = some (.slice q1 n1 c1) ∧ w.cell? ⟨b, o + k * 3 + 2, none⟩ = some (.slice q2 n2 c2) ∧ Sl encU w q1 n1 c1 (f k).nums ∧ Sl B8 w q2 n2 c2 (f k).bytes) ∧ (∀ z ∈ (f k).nums, z ≤ 18446744073709551615) ∧ (f k).word.length ≤ maxLen :=
    ⟨fun k => if hk : k < len then Classical.choose (each k hk) else noCmd, fun k hk => by simp only [dif_pos hk]; exact Classical.choose_spec (each k hk)⟩
  obtain ⟨f, hf⟩ := hch
  have hmem : ∀ y ∈ (List.range len).map f, ∃ k, k < len ∧ y = f k := fun y hy => by
    obtain ⟨k, hk, rfl⟩ := List.mem_map.1 hy
    exact ⟨k, List.mem_range.1 hk, rfl⟩
  refine ⟨some a, len, cap, (List.range len).map f, rfl, ⟨by simp, hl, hm, (fun e => by cases e), fun k y hk => ?_⟩, fun y hy => ?_, fun y hy => ?_⟩
  · rw [List.getElem?_map] at hk
    cases hr : (List.range len)[k]? with
    | none => rw [hr] at hk; simp at hk
    | some k' =>
      rw [hr] at hk
      obtain ⟨hk1, hk2⟩ := List.getElem?_eq_some_iff.1 hr
      simp at hk1 hk2 hk
      subst hk2; subst hk
      obtain ⟨⟨b, o, q1, n1, c1, q2, n2, c2, e, r⟩, -⟩ := hf k hk1
      exact ⟨b, o, q1, n1, c1, q2, n2, c2, by rw [e], r⟩
  · obtain ⟨k, hk, rfl⟩ := hmem y hy
    exact (hf k hk).2.1
  · obtain ⟨k, hk, rfl⟩ := hmem y hy
    exact (hf k hk).2.2
theorem open_cmdz {t e q1 q2 : TypeId} {f0 f1 f2 : Field} {p : Option Addr} {n c jj : Nat} {d : DataW H} {pl : List MemPlace} {ts : List TypeId} {ds : List (DataW H)} (ht : P.underlying t = some (.slice e)) (he : P.underlying e = some (.struct #[f0, f1, f2])) (hone : oneCellFields P #[f0, f1, f2] = true) (hC : P.cellsOf e = 3)
    (h0 : P.underlying f0.type = some .string) (h1 : P.underlying f1.type = some (.slice q1)) (h2 : P.underlying f2.type = some (.slice q2)) (hq1 : P.underlying q1 = some (.int .u64)) (cq1 : P.cellsOf q1 = 1) (hq2 : P.underlying q2 = some (.int .u8)) (cq2 : P.cellsOf q2 = 1) (be : P.bytesOf e = 64)
    (h : DataW.Trod enc P w base (fun _ => true) held t (.slice p n c) d pl) (hsz : (DataW.weightsEach P ts ds).all (· ≤ reachBytes) = true) (hts : ts[jj]? = some t) (hds : ds[jj]? = some d) :
    ∃ l, (CmdS w p n c l ∧ (∀ y ∈ l, ∀ z ∈ y.nums, z ≤ 18446744073709551615) ∧ ∀ y ∈ l, y.word.length ≤ maxLen) ∧ n * 64 ≤ 140737488355328 := by
  obtain ⟨fuel, hf⟩ := h
  obtain ⟨p', n', c', K, hcs, hs, hs2, hs3⟩ := open_cmds ht he hone hC h0 h1 h2 hq1 cq1 hq2 cq2 hf
  simp [Value.cells] at hcs
  obtain ⟨rfl, rfl, rfl⟩ := hcs
  refine ⟨K, ⟨hs, hs2, hs3⟩, ?_⟩
  rcases open_slice ht hf with ⟨hcs, _⟩ | ⟨a, len, cap, m, k, D, Pl, hcs, hb, hl, hm, hmm, hx, _⟩
  · simp [Value.cells] at hcs
    omega
  · simp [Value.cells] at hcs
    obtain ⟨_, rfl, _⟩ := hcs
    simp only [Prod.mk.injEq] at hx
    have hd := hx.1
    subst hd
    have := sized_slice hsz hts hds ht
    rw [be] at this
    simp only [List.length_map, List.length_range, reachBytes] at this
    omega
end
end Go.Proofs.YtccaiiigdfieoaaDoor
