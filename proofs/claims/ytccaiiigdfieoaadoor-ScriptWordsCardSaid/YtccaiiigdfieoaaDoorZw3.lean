/- Chapter 26: ScriptPrints. Chapter 26: the words; scripts as long as they may be. Chapter 26: ScriptWords. Arguments that came in, as bytes and slices of bytes. Arguments that came in: slices of byte slices. The library's table of powers of ten, out of the row's condition. What the library's variables hold: out of the row's condition, and of the world's shape. What the library's variables hold, for scripts: out of the row's condition. -/
import Derived.Test.YtccaiiigdfieoaaDoorZw2
import Derived.OpenShut
import Derived.Deep.Matrix
import Derived.Test.YtccaiiigdfieoaaDoorRows
import Derived.Lib.LaidTab
import Derived.Stop.LaidErr
import Derived.Shelf.Vars
import Derived.SizedLaws
namespace Go.Proofs.YtccaiiigdfieoaaDoor
open Go.RowKit Go.By
/-- the cells of a command whose slices came in -/
def CmdO (wI : World) (u : Value × Value × Value) (c : Cmd) : Prop :=
  u.1 = .string (strB c.word) ∧ (∃ q n k, u.2.1 = .slice q n k ∧ Sl encU wI q n k c.nums) ∧ ∃ q n k, u.2.2 = .slice q n k ∧ Sl B8 wI q n k c.bytes
/-- commands in an own row, whose slices came in -/
def CmdsO (T : TypeId) (B : Nat) (wI w : World) (v : Value) (n : Nat) (cs : List Cmd) : Prop :=
  ∃ vs, w.ownsRow B T 3 v n (fl3 vs) ∧ vs.length = n ∧ cs.length = n ∧ ∀ (j : Nat) (u : Value × Value × Value), vs[j]? = some u → ∃ c, cs[j]? = some c ∧ CmdO wI u c
theorem CmdsO.cmdS {T : TypeId} {B n c : Nat} {wI w : World} {q : Option Addr} {cs : List Cmd} (h : CmdsO T B wI w (.slice q n c) n cs) (hb : Below wI.heap.size wI w) : CmdS w q n c cs := by
  obtain ⟨vs, o, l1, l2, r⟩ := h
  have hv := Rw3.of_owns o
  refine ⟨l2, hv.le, hv.max, hv.nil, fun k x hx => ?_⟩
  have hk : k < n := by have := (List.getElem?_eq_some_iff.1 hx).1; omega
  have hvk : vs[k]? = some vs[k] := List.getElem?_eq_getElem (by omega)
  obtain ⟨c', hc', g1, ⟨q1, n1, c1, e1, g2⟩, q2, n2, c2, e2, g3⟩ := r k _ hvk
  rw [hx] at hc'; cases hc'
  obtain ⟨f0, f1, f2⟩ := fl3_at hvk
  obtain ⟨b, oo, e, k0⟩ := hv.cell _ _ f0
  obtain ⟨b', oo', e', k1⟩ := hv.cell _ _ f1
  rw [e] at e'; cases e'
  obtain ⟨b', oo', e', k2⟩ := hv.cell _ _ f2
  rw [e] at e'; cases e'
  exact ⟨b, oo, q1, n1, c1, q2, n2, c2, e, by rw [k0, g1], by rw [← e1]; exact k1, by rw [← e2]; exact k2, g2.keep hb, g3.keep hb⟩
theorem CmdsO.keep {T : TypeId} {B n : Nat} {wI w w' : World} {v : Value} {cs : List Cmd} (h : CmdsO T B wI w v n cs) (hb : Below w.heap.size w w') : CmdsO T B wI w' v n cs := by
  obtain ⟨vs, o, r⟩ := h
  exact ⟨vs, owns_keepv o hb, r⟩
theorem CmdsO.pushO {T : TypeId} {B n : Nat} {wI w' : World} {v' : Value} {cs : List Cmd} {c : Cmd} {u : Value × Value × Value} {vs : List (Value × Value × Value)} (ho : w'.ownsRow B T 3 v' (n + 1) (fl3 vs ++ [u.1, u.2.1, u.2.2])) (hvl : vs.length = n) (hl : cs.length = n)
    (hr : ∀ (j : Nat) (u : Value × Value × Value), vs[j]? = some u → ∃ c, cs[j]? = some c ∧ CmdO wI u c) (hu : CmdO wI u c) : CmdsO T B wI w' v' (n + 1) (cs ++ [c]) := by
  refine ⟨vs ++ [u], by rw [fl3_append]; exact ho, by simp [hvl], by simp [hl], fun j x hj => ?_⟩
  rcases Nat.lt_or_ge j vs.length with g | g
  · rw [List.getElem?_append_left g] at hj
    obtain ⟨c', hc', h'⟩ := hr j x hj
    exact ⟨c', by rw [List.getElem?_append_left (by omega)]; exact hc', h'⟩
  · have hj0 : j = vs.length := by have := (List.getElem?_eq_some_iff.1 hj).1; simp at this; omega
    subst hj0
    simp at hj
    subst hj
    exact ⟨c, by rw [List.getElem?_append_right (by omega), show vs.length - cs.length = 0 by omega]; rfl, hu⟩
theorem take_snoc {α : Type} {cs : List α} {i : Nat} {x : α} (h : cs[i]? = some x) : cs.take (i + 1) = cs.take i ++ [x] := by
  rw [List.take_add_one, h]; rfl
end Go.Proofs.YtccaiiigdfieoaaDoor
namespace Go.Proofs.YtccaiiigdfieoaaDoor
open Go.RowKit Go.By
theorem forms_index : ∀ (i : Nat) (f : List UInt8 × Nat × Bool), formsL[i]? = some f → ∀ w, (Instr.index 70 (.agg formsC) (.int .i64 (i : Nat))).run Tryd.prog w = .ok (.agg #[.string (strB f.1), .int .i64 (f.2.1 : Nat), .bool f.2.2]) w
  | 0, _, h, _ => by cases h; kernel_rfl
  | 1, _, h, _ => by cases h; kernel_rfl
  | 2, _, h, _ => by cases h; kernel_rfl
  | 3, _, h, _ => by cases h; kernel_rfl
  | 4, _, h, _ => by cases h; kernel_rfl
  | 5, _, h, _ => by cases h; kernel_rfl
  | 6, _, h, _ => by cases h; kernel_rfl
  | 7, _, h, _ => by cases h; kernel_rfl
  | 8, _, h, _ => by cases h; kernel_rfl
  | 9, _, h, _ => by cases h; kernel_rfl
  | 10, _, h, _ => by cases h; kernel_rfl
  | 11, _, h, _ => by cases h; kernel_rfl
  | 12, _, h, _ => by cases h; kernel_rfl
  | 13, _, h, _ => by cases h; kernel_rfl
  | 14, _, h, _ => by cases h; kernel_rfl
  | 15, _, h, _ => by cases h; kernel_rfl
  | 16, _, h, _ => by cases h; kernel_rfl
  | n + 17, _, h, _ => by cases h
def wordC (f : List UInt8 × Nat × Bool) : Value := .string (strB f.1)
set_option maxRecDepth 100000 in
set_option maxHeartbeats 2000000 in
theorem Words_any (w : World) : Calls Tryd.prog 12 #[] w fun e w' => ∃ q c, e = .returned (.slice q 17 c) ∧ w'.ownsRow w.heap.size 9 1 (.slice q 17 c) 17 (formsL.map wordC) ∧ Below w.heap.size w w' := by
  obtain ⟨i0, hi0, hz0, hz1, hz2⟩ := info_parts info_str
  have HF := Lib.hid (fun W => forms_any W)
  have HIX := Lib.hid forms_index
  generalize formsC = F at *
  go_enter Tryd.func12, Tryd.ntmps12
  go_wp2_with fail
  refine Calls.mono (HF.out _) ?_
  rintro e w1 ⟨rfl, hb⟩
  have HB1 := Lib.hid hb
  clear hb HF
  go_wp2
  go_loopw [1, 3, 5] (fun sv _ iv wr => ∃ (i c : Nat) (q : Option Addr), i ≤ 17 ∧ iv = .int .i64 (i : Nat) ∧ sv = .slice q i c ∧ Hid (wr.ownsRow w.heap.size 9 1 (.slice q i c) i ((formsL.take i).map wordC)) ∧ Hid (Below w.heap.size w wr)) (fun _ _ iv _ => 17 - (intOf iv).toNat)
  case atStart => exact ⟨0, 0, none, Nat.zero_le _, rfl, rfl, World.ownsRow_nil _ _ _ _, HB1.out⟩
  case round =>
    obtain ⟨i, c, q, hi, rfl, rfl, HO, HB⟩ := hrel
    by_cases hlt : i < 17
    · obtain ⟨f, hf⟩ : ∃ f, formsL[i]? = some f := ⟨_, List.getElem?_eq_getElem hlt⟩
      have hix := HIX.out i f hf
      have hlt' : (i : Int) < 17 := by omega
      have HLT := Lib.hid hlt
      have HT : Hid ((formsL.take (i + 1)).map wordC = (formsL.take i).map wordC ++ [.string (strB f.1)]) := by show _ = _; rw [take_snoc hf, List.map_append]; rfl
      generalize strB f.1 = S at *
      have hOA : Hid (∀ o o', ((wr.alloc o).alloc o').ownsRow w.heap.size 9 1 (.slice q i c) i ((formsL.take i).map wordC)) := fun o o' => owns_keep HO.out (al (al (Below.refl _ _) (Nat.le_refl _)) (by simp))
      have hszw := HB.out.size
      clear hlt hf
      go_wp2_with (first
        | simp only [hix]
        | (at_builtin; refine wpList_append_own _ rfl _ _ 42 rfl w.heap.size 9 i0 _ 1 16 Tryd.underlying42 hi0 hz0 hz1 hz2 rfl (by omega) _ i ((formsL.take i).map wordC) rfl (hOA.out _ _) ⟨wr.heap.size + 1, 0, none⟩ 1 1 [.string S] rfl rfl ?c1 ?c2 ?c3 ?c4 ?c5 ?_))
      case c1 =>
        intro j' y hj'
        rw [Addr.add_lit, Nat.zero_add, cell_of_row _ _ j' _ _ _ (hnew (by simp))]
        match j' with
        | 0 => simpa using hj'
        | j' + 1 => simp at hj'
      case c2 => intro y hy; simp at hy; subst hy; rfl
      case c3 => unfold maxLen; omega
      case c4 => omega
      case c5 => simp; omega
      intro v' w' ho' hg' _
      obtain ⟨q', c', rfl⟩ := owns_shape ho'
      rw [← HT.out] at ho'
      have HO3 := Lib.hid ho'
      have HB3 : Hid (Below w.heap.size w w') := (al (al HB.out hszw) (by simp; omega)).grown hg' (by simp; omega) (fun rr hrr => ((hOA.out (.cells #[] 0 (0, 0)) (.cells #[] 0 (0, 0))).lt rr hrr).1)
      clear ho' hg' hOA hszw hix
      go_wp2
      go_roundw
      case rel => exact ⟨i + 1, c', q', HLT.out, by go_num, rfl, HO3.out, HB3.out⟩
      case measure => simp [intOf]; have := HLT.out; omega
    · obtain rfl : i = 17 := by omega
      have HO3 : Hid (wr.ownsRow w.heap.size 9 1 (.slice q 17 c) 17 (formsL.map wordC)) := HO.out
      clear hlt HO
      go_wp2
      go_ret
      exact ⟨q, c, rfl, HO3.out, HB.out⟩
def mapC : Cmd := ⟨[109, 97, 112], [], []⟩
theorem map_check : checkP mapC = 0 := by kernel_rfl
theorem map_line : lineP mapC = [109, 97, 112, 10] := by kernel_rfl
theorem map_good : GoodC mapC := ⟨map_check, by simp [mapC]⟩
theorem map_len (n : Nat) : (printP (List.replicate n mapC)).length = 4 * n := by
  induction n with
  | zero => rfl
  | succ n ih => rw [List.replicate_succ, printP_cons, List.length_append, ih, map_line]; simp; omega
theorem longP_long : ∀ {cs : List Cmd} {t : List UInt8}, t.length ≤ 65536 → 65536 < (t ++ printP cs).length → longP cs t = ([], 16)
  | [], t, h, h2 => by simp [printP] at h2; omega
  | c :: cs, t, h, h2 => by
    unfold longP
    split
    · rfl
    · split
      · rfl
      · rename_i h3
        exact longP_long (by omega) (by rw [printP_cons, ← List.append_assoc] at h2; exact h2)
theorem printR_map {n : Nat} (h : n ≤ 16384) : printR (List.replicate n mapC) = (printP (List.replicate n mapC), 0) :=
  printR_good (fun c hc => by rw [List.eq_of_mem_replicate hc]; exact map_good) (by rw [map_len]; omega)
theorem printR_long {n : Nat} (h : 16384 < n) : printR (List.replicate n mapC) = ([], 16) := by
  unfold printR
  rw [codeP_of_good (fun c hc => by rw [List.eq_of_mem_replicate hc]; exact map_check), if_neg (by simp), longP_long (by simp) (by rw [List.nil_append, map_len]; omega)]
theorem read_empty : (readP []).1 = 20 := by kernel_rfl
theorem script_nl {n : Nat} (h : 1 ≤ n) (h2 : n ≤ 65536) : scriptL (List.replicate n 10) = ([], 1, 20) := by
  have e : scriptL (List.replicate n 10) = scriptP (List.replicate n 10) := if_neg (by rw [List.length_replicate]; omega)
  rw [e]
  obtain ⟨k, rfl⟩ : ∃ k, n = k + 1 := ⟨n - 1, by omega⟩
  have hc : cutW 10 (List.replicate (k + 1) 10) = ([], some (List.replicate k 10)) := by rw [List.replicate_succ]; rfl
  unfold scriptP
  rw [runS_some (r := List.replicate k 10) (Nat.le_refl _) (by rw [List.replicate_succ]; simp) (by rw [hc]), hc]
  simp only
  rw [read_empty]
  rfl
theorem script_nl2 {n : Nat} (h2 : 65536 < n) : scriptL (List.replicate n 10) = ([], 0, 16) := if_pos (by rw [List.length_replicate]; exact h2)
theorem make_bytes (n : Nat) (hn : n ≤ 1000000) (W : World) : (Instr.makeSlice 35 (.int .i64 (n : Int)) (.int .i64 (n : Int))).run Tryd.prog W = .ok (.slice (some ⟨W.heap.size, 0, none⟩) n n) (W.alloc (.cells ((List.replicate n (0 : UInt8)).map B8).toArray 5)) := by
  obtain ⟨i0, hi0, hz0, hz1, hz2⟩ := info_parts info_u8
  have := run_make (P := Tryd.prog) W 35 5 i0 _ Tryd.underlying35 hi0 hz0 .i64 .i64 (n : Int) (n : Int) (by omega) (Int.le_refl _) (by rw [hz2]; omega) (by omega)
  rw [hz1] at this
  simp only [Int.toNat_natCast, Nat.mul_one] at this
  have h8 : B8 0 = .int .u8 0 := rfl
  have e : madeCells #[Value.int .u8 0] n = ((List.replicate n (0 : UInt8)).map B8).toArray := by
    apply Array.toList_inj.1
    rw [toList_madeCells_one, List.map_replicate, h8]
  rw [this, ← e]
  rfl
theorem fill_step (n i : Nat) (h : i < n) : (((List.replicate i (10 : UInt8) ++ List.replicate (n - i) 0).map B8).toArray.setIfInBounds i (.int .u8 10)) = ((List.replicate (i + 1) (10 : UInt8) ++ List.replicate (n - (i + 1)) 0).map B8).toArray := by
  obtain ⟨k, hk⟩ : ∃ k, n - i = k + 1 := ⟨n - i - 1, by omega⟩
  have hk2 : n - (i + 1) = k := by omega
  rw [hk, hk2, List.replicate_succ, List.setIfInBounds_toArray, List.map_append, List.map_cons, List.set_append_right _ _ (by simp)]
  congr 1
  simp [List.replicate_succ', B8]
theorem owns_full {W : World} {B T g n : Nat} {vs : List (Value × Value × Value)} (h : W.heap[g]? = some (.cells (fl3 vs).toArray T (0, 0))) (hB : B ≤ g) (hl : vs.length = n) (hm : n ≤ maxLen) : W.ownsRow B T 3 (.slice (some ⟨g, 0, none⟩) n n) n (fl3 vs) :=
  ⟨by rw [fl3_length, hl], .inr ⟨g, n, _, rfl, hB, h, Nat.le_refl _, hm, by simp [fl3_length, hl], List.take_of_length_le (by rw [fl3_length, hl]; exact Nat.le_refl _)⟩⟩
def mapV : Value × Value × Value := (.string ⟨#[109, 97, 112]⟩, .slice none 0 0, .slice none 0 0)
theorem mapV_cmd (w : World) : CmdO w mapV mapC := ⟨rfl, ⟨none, 0, 0, rfl, Sl.nil0 _ _⟩, none, 0, 0, rfl, Sl.nil0 _ _⟩
theorem maps_cmds {W wI : World} {B T g n : Nat} (h : W.heap[g]? = some (.cells (fl3 (List.replicate n mapV)).toArray T (0, 0))) (hB : B ≤ g) (hm : n ≤ maxLen) : CmdsO T B wI W (.slice (some ⟨g, 0, none⟩) n n) n (List.replicate n mapC) := by
  refine ⟨List.replicate n mapV, owns_full h hB (by simp) hm, by simp, by simp, fun j u hu => ?_⟩
  rw [List.getElem?_replicate] at hu
  split at hu
  · rename_i hj
    cases hu
    exact ⟨mapC, by rw [List.getElem?_replicate, if_pos hj], mapV_cmd _⟩
  · cases hu
end Go.Proofs.YtccaiiigdfieoaaDoor
namespace Go.Proofs.YtccaiiigdfieoaaDoor
open Go.RowKit Go.By
theorem shape_of {f : List UInt8 × Nat × Bool} (hf : f ∈ formsL) : ∃ k b, formS f.1 = some (k, b) := by
  have h : ∀ f ∈ formsL, (formS f.1).isSome = true := by decide
  have := h f hf
  cases hx : formS f.1 with
  | none => rw [hx] at this; cases this
  | some y => exact ⟨y.1, y.2, rfl⟩
set_option maxRecDepth 10000000 in
set_option maxHeartbeats 8000000 in
theorem ScriptWords_any (w : World) (hTE : Tab10 w ∧ ErrI w ∧ SynI w) (hM : MaxI w) :
    Calls Tryd.prog 5 #[] w fun e w' => e = .returned (.bool true) ∧ Below w.heap.size w w' := by
  obtain ⟨hT, hE, hS⟩ := hTE
  obtain ⟨i0, hi0, hz0, hz1, hz2⟩ := info_parts info_cmd3
  obtain ⟨N, hN⟩ : ∃ N : Nat, N = 65536 := ⟨_, rfl⟩
  obtain ⟨K, hK⟩ : ∃ K : Nat, K = 16384 := ⟨_, rfl⟩
  have HAw : Hid (∀ W, Below w.heap.size w W → Calls Tryd.prog 6 #[] W fun e w' => e = .returned (.bool true) ∧ Below W.heap.size W w') := fun W hb => awake26 W (hM.keep hb) (hE.keep hb) (hS.keep hb)
  have HW := Lib.hid (Words_any w)
  have HSh : Hid (∀ f ∈ formsL, ∀ W, Calls Tryd.prog 13 #[.string (strB f.1)] W fun e w' => ∃ k b, e = .returned (.tuple #[.int .i64 (k : Nat), .bool b, .bool true]) ∧ W = w') := fun f hf W => by
    obtain ⟨k, b, h⟩ := shape_of hf
    exact (shape_form (c := ⟨f.1, [], []⟩) h W).mono fun e w' h => ⟨k, b, h⟩
  have hmk : ∀ W : World, (Instr.makeSlice 35 (.int .i64 65536) (.int .i64 65536)).run Tryd.prog W = .ok (.slice (some ⟨W.heap.size, 0, none⟩) N N) (W.alloc (.cells ((List.replicate N (0 : UInt8)).map B8).toArray 5)) := fun W => by
    have := make_bytes N (by omega) W
    rw [show ((N : Nat) : Int) = 65536 by omega] at this
    exact this
  obtain ⟨Z, hZ⟩ : ∃ Z, Z = ((List.replicate N (0 : UInt8)).map B8).toArray := ⟨_, rfl⟩
  have HZ := Lib.hid hZ
  rw [← hZ] at hmk
  clear hZ
  have HP1 : Hid (∀ W, Below w.heap.size w W → Calls Tryd.prog 7 #[.string (strB (List.replicate N 10))] W (PrsR 37 W ([], 1, 20))) := fun W hb => by
    have := Parse_any (List.replicate N 10) W (by rw [List.length_replicate]; omega) (hM.keep hb) (hE.keep hb) (hS.keep hb)
    rwa [script_nl (by omega) (by omega)] at this
  have HP2 : Hid (∀ W, Below w.heap.size w W → Calls Tryd.prog 7 #[.string (strB (List.replicate (N + 1) 10))] W (PrsR 37 W ([], 0, 16))) := fun W hb => by
    have := Parse_any (List.replicate (N + 1) 10) W (by rw [List.length_replicate]; omega) (hM.keep hb) (hE.keep hb) (hS.keep hb)
    rwa [script_nl2 (by omega)] at this
  have HRp : Hid (∀ (b : Nat) (W : World), W.heap[b]? = some (.cells #[.string ⟨#[109, 97, 112]⟩, .slice none 0 0, .slice none 0 0] 37 (0, 0)) → Calls Tryd.prog 14 #[.slice (some ⟨b, 0, none⟩) 1 1, .int .i64 16384] W fun e w' => ∃ g, e = .returned (.slice (some ⟨g, 0, none⟩) K K) ∧ W.heap.size ≤ g ∧ w'.heap[g]? = some (.cells (fl3 (List.replicate K mapV)).toArray 37 (0, 0)) ∧ Below W.heap.size W w') := fun b W hb => by
    obtain ⟨d0, d1, d2⟩ := cells_three hb
    have := Repeat_any b 0 1 mapV K W d0 d1 d2 (by intro v hv; simp [mapV] at hv; rcases hv with rfl | rfl <;> rfl) (by omega) (by omega)
    rw [show ((K : Nat) : Int) = 16384 by omega] at this
    exact this
  have HPr : Hid (∀ q c n W, n ≤ 16385 → Below w.heap.size w W → CmdS W q n c (List.replicate n mapC) → Calls Tryd.prog 10 #[.slice q n c] W (PrtR W (printR (List.replicate n mapC)))) := fun q c n W hn hb h => Print_any q n c (List.replicate n mapC) W h (fun x hx => by rw [List.eq_of_mem_replicate hx]; simp [mapC]) (hT.keep hb)
  have HNv : Hid (N = 65536) := hN
  have HKv : Hid (K = 16384) := hK
  have hNi : (N : Int) = 65536 := by omega
  clear hM hE hS hT hN hK
  go_enter Tryd.func5, Tryd.ntmps5
  go_wp2_with fail
  refine Calls.mono HW.out ?_
  rintro e w1 ⟨wq, wc, rfl, ho, hb⟩
  have HO := Lib.hid (Sl.of_owns ho)
  have HB1 := Lib.hid hb
  clear hb ho HW
  go_wp2
  go_loopw [3, 4, 5, 6, 26] (fun _ _ _ _ iv wr => ∃ i : Nat, i ≤ 17 ∧ iv = .int .i64 (i : Nat) ∧ Hid (Below w1.heap.size w1 wr)) (fun _ _ _ _ iv _ => 17 - (intOf iv).toNat)
  case atStart => exact ⟨0, Nat.zero_le _, rfl, Below.refl _ _⟩
  case round =>
    obtain ⟨i, hi, rfl, HB⟩ := hrel
    by_cases hlt : i < 17
    · obtain ⟨b, o, f, rfl, hc, hf⟩ := (HO.out.keep HB.out).at i hlt
      have HShf := Lib.hid (HSh.out f (List.mem_of_getElem? hf.out))
      unfold wordC at hc
      have hlt' : (i : Int) < 17 := by omega
      have HLT := Lib.hid hlt
      generalize strB f.1 = X at *
      clear hf hlt
      go_wp2_with fail
      refine Calls.mono (HShf.out _) ?_
      rintro e w2 ⟨k, bb, rfl, rfl⟩
      go_wp2
      go_roundw
      case rel => exact ⟨i + 1, HLT.out, by go_num, HB.out⟩
      case measure => simp [intOf]; have := HLT.out; omega
    · obtain rfl : i = 17 := by omega
      have HBr := Lib.hid (bl HB1.out HB.out HB1.out.size)
      have HOr := Lib.hid (HO.out.keep HB.out)
      clear hlt HB HO HB1
      go_wp2
      obtain ⟨wo, hwo⟩ : ∃ wo, wo = wr := ⟨_, rfl⟩
      subst hwo
      have HG0 : Hid ((wo.alloc (.cells Z 5)).heap[wo.heap.size]? = some (.cells ((List.replicate 0 (10 : UInt8) ++ List.replicate (N - 0) 0).map B8).toArray 5 (0, 0))) := by
        show _ = _
        rw [hnew rfl, HZ.out]; rfl
      have HB0 : Hid (Below wo.heap.size wo (wo.alloc (.cells Z 5))) := al (Below.refl _ _) (Nat.le_refl _)
      generalize wo.alloc (.cells Z 5) = w2 at *
      clear hmk HSh HZ
      go_loopw [8, 42] (fun _ iv wr => ∃ i : Nat, i ≤ N ∧ iv = .int .i64 (i : Nat) ∧ Hid (wr.heap[wo.heap.size]? = some (.cells ((List.replicate i (10 : UInt8) ++ List.replicate (N - i) 0).map B8).toArray 5 (0, 0))) ∧ Hid (Below wo.heap.size wo wr)) (fun _ iv _ => N - (intOf iv).toNat)
      case atStart => exact ⟨0, Nat.zero_le _, rfl, HG0.out, HB0.out⟩
      case round =>
        obtain ⟨i, hi, rfl, HGx, HBx⟩ := hrel
        clear HG0 HB0
        by_cases hlt : i < N
        · have hlt' : (i : Int) < (N : Int) := by omega
          have HLT := Lib.hid hlt
          have hcell : wr.cell? ⟨wo.heap.size, i, none⟩ = some (.int .u8 0) := by
            rw [cell_of_row _ _ i _ _ _ HGx.out]
            show ((List.replicate i (10 : UInt8) ++ List.replicate (N - i) 0).map B8).toArray[i]? = _
            rw [List.getElem?_toArray, List.getElem?_map, List.getElem?_append_right (by simp), List.length_replicate, Nat.sub_self, List.getElem?_replicate, if_pos (by omega)]
            rfl
          have hfro : wr.frozen? ⟨wo.heap.size, i, none⟩ = false := frozen_of_row _ _ i _ _ HGx.out
          have HG2 : Hid ((wr.setCell ⟨wo.heap.size, i, none⟩ (.int .u8 10)).heap[wo.heap.size]? = some (.cells ((List.replicate (i + 1) (10 : UInt8) ++ List.replicate (N - (i + 1)) 0).map B8).toArray 5 (0, 0))) := by
            show _ = _
            rw [heap_setCell_same _ _ _ _ _ _ HGx.out, fill_step N i hlt]
          have HB2 : Hid (Below wo.heap.size wo (wr.setCell ⟨wo.heap.size, i, none⟩ (.int .u8 10))) := Below.setCell HBx.out (Nat.le_refl _) _
          clear hlt HP1 HP2 HRp HPr HAw
          go_wp2
          go_roundw
          case rel => exact ⟨i + 1, HLT.out, by go_num, HG2.out, HB2.out⟩
          case measure => simp [intOf]; have := HLT.out; omega
        · obtain rfl : i = N := by omega
          have HX : Hid (Sl B8 wr (some ⟨wo.heap.size, 0, none⟩) i i (List.replicate i 10)) := sl_block (List.replicate i 10) i HGx.out (by simp) (by simp) (by unfold maxLen; omega)
          have HBr2 := Lib.hid (bl HBr.out HBx.out HBr.out.size)
          have HQ2 := HBx
          have HCV : Hid (∀ W, Below wr.heap.size wr W → (convert 35 9 (.slice (some ⟨wo.heap.size, 0, none⟩) i i)).run Tryd.prog W = .ok (.string (strB (List.replicate i 10))) W) := fun W hb => conv_sl (HX.out.keep hb) (by omega)
          have hcv := HCV.out wr (Below.refl _ _)
          have HP1w := Lib.hid (HP1.out wr HBr2.out)
          have hXs : (strB (List.replicate i (10 : UInt8))).size = i := by rw [strB_size, List.length_replicate]
          have HCat : Hid (strB (List.replicate i (10 : UInt8)) ++ ⟨#[10]⟩ = strB (List.replicate (i + 1) 10)) := by
            show _ = _
            rw [show (⟨#[10]⟩ : ByteArray) = strB [10] from rfl, txt_app, List.replicate_succ']
          have hib : i ≤ 65536 := by omega
          generalize strB (List.replicate i (10 : UInt8)) = X at *
          clear hlt HBx HGx HBr HP1
          go_wp2_with (first | simp only [hcv] | fail)
          refine Calls.mono HP1w.out ?_
          rintro e w3 ⟨q3, m3, c3, rfl, -, hb3⟩
          have HB3 := Lib.hid (bl HBr2.out hb3 HBr2.out.size)
          have HQ3 := Lib.hid (bl HQ2.out hb3 HQ2.out.size)
          have hcv3 := HCV.out w3 hb3
          clear hb3 HCV hcv HBr2 HQ2 HP1w
          go_wp2_with (first | simp only [hcv3] | fail)
          rw [HCat.out]
          refine Calls.mono (HP2.out w3 HB3.out) ?_
          rintro e w4 ⟨q4, m4, c4, rfl, -, hb4⟩
          have HB4 := Lib.hid (bl HB3.out hb4 HB3.out.size)
          have HQ4 := Lib.hid (bl HQ3.out hb4 HQ3.out.size)
          clear hb4 HB3 HQ3 hcv3 HP2 HCat
          go_wp2_with fail
          refine Calls.mono (HRp.out _ _ (hnew rfl)) ?_
          rintro e w5 ⟨g, rfl, hg, hgc, hb5⟩
          have HB5 : Hid (Below w.heap.size w w5) := bl (al HB4.out HB4.out.size) hb5 (by have := HB4.out.size; simp; omega)
          have HQ5 : Hid (Below wo.heap.size wo w5) := bl (al HQ4.out HQ4.out.size) hb5 (by have := HQ4.out.size; simp; omega)
          have HGQ : Hid (wo.heap.size ≤ g) := by have := HQ4.out.size; simp at hg; show _ ≤ _; omega
          have HGB : Hid (w.heap.size ≤ g) := by have := HB4.out.size; simp at hg; show _ ≤ _; omega
          have HGC := Lib.hid hgc
          have hk1 : K ≤ 16385 := by have := HKv.out; omega
          have HPr5 := HPr.out (some ⟨g, 0, none⟩) K K w5 hk1 HB5.out ((maps_cmds (wI := w5) hgc HGB.out (by unfold maxLen; omega)).cmdS (Below.refl _ _))
          rw [printR_map (by have := HKv.out; omega)] at HPr5
          have HP5 := Lib.hid HPr5
          clear HPr5 hg hgc hb5 HRp
          go_wp2_with fail
          refine Calls.mono HP5.out ?_
          rintro e w6 ⟨rfl, hb6⟩
          have HB6 := Lib.hid (bl HB5.out hb6 HB5.out.size)
          have HQ6 := Lib.hid (bl HQ5.out hb6 HQ5.out.size)
          have hszq := HQ6.out.size
          have HG6 : Hid (w6.heap[g]? = some (.cells (fl3 (List.replicate K mapV)).toArray 37 (0, 0))) := (hb6.block _ (lt_of_block HGC.out)).trans HGC.out
          have hOA : Hid (∀ o, (w6.alloc o).ownsRow w.heap.size 37 3 (.slice (some ⟨g, 0, none⟩) K K) K (fl3 (List.replicate K mapV))) := fun o => owns_full (hal HG6.out) HGB.out (by simp) (by unfold maxLen; omega)
          have hlen : (strB (printP (List.replicate K mapC))).size = 65536 := by rw [strB_size, map_len]; have := HKv.out; omega
          simp only
          generalize strB (printP (List.replicate K mapC)) = Y at *
          have hszw := HB6.out.size
          clear hb6 HB5 HQ5 HGC HP5
          go_wp2_with (at_builtin; refine wpList_append_own _ rfl _ _ 23 rfl w.heap.size 37 i0 _ 3 64 Tryd.underlying23 hi0 hz0 hz1 hz2 rfl (by omega) _ K (fl3 (List.replicate K mapV)) rfl (hOA.out _) ⟨w6.heap.size, 0, none⟩ 1 1 [.string ⟨#[109, 97, 112]⟩, .slice none 0 0, .slice none 0 0] rfl rfl ?c1 ?c2 ?c3 ?c4 ?c5 ?_)
          case c1 =>
            intro j' y hj'
            rw [Addr.add_lit, Nat.zero_add, cell_of_row _ _ j' _ _ _ (hnew (by simp))]
            match j' with
            | 0 => simpa using hj'
            | 1 => simpa using hj'
            | 2 => simpa using hj'
            | j' + 3 => simp at hj'
          case c2 => intro y hy; simp at hy; rcases hy with rfl | rfl | rfl <;> rfl
          case c3 => unfold maxLen; omega
          case c4 => omega
          case c5 => simp; omega
          intro v' w7 ho' hg' _
          obtain ⟨q', c', rfl⟩ := owns_shape ho'
          have HB7 : Hid (Below w.heap.size w w7) := (al HB6.out hszw).grown hg' (by simp; omega) (fun rr hrr => ((hOA.out (.cells #[] 0 (0, 0))).lt rr hrr).1)
          have HO7 : Hid (Sl wordC w7 wq 17 wc formsL) := HOr.out.keep ((al HQ6.out hszq).grown hg' (by simp; omega) (fun rr hrr => by have e : rr = g := (by simpa [Value.ownBlock] using hrr.symm); rw [e]; exact HGQ.out))
          have HC7 : CmdsO 37 w.heap.size w7 w7 (.slice q' (K + 1) c') (K + 1) (List.replicate (K + 1) mapC) := by
            rw [List.replicate_succ']
            exact CmdsO.pushO ho' (by simp) (by simp) (fun j u hu => by
              rw [List.getElem?_replicate] at hu
              split at hu
              · rename_i hj
                cases hu
                exact ⟨mapC, by rw [List.getElem?_replicate, if_pos hj], mapV_cmd _⟩
              · cases hu) (mapV_cmd w7)
          have HPr7 := HPr.out q' c' (K + 1) w7 (by have := HKv.out; omega) HB7.out (HC7.cmdS (Below.refl _ _))
          rw [printR_long (by have := HKv.out; omega)] at HPr7
          have HP7 := Lib.hid HPr7
          clear HPr7 HC7 ho' hg' HPr hOA HG6 HB6 HQ6 hszw
          go_wp2_with fail
          refine Calls.mono HP7.out ?_
          rintro e w8 ⟨rfl, hb8⟩
          have HB8 := Lib.hid (bl HB7.out hb8 HB7.out.size)
          have HO8 := Lib.hid (HO7.out.keep hb8)
          clear hb8 HB7 HO7 HP7
          obtain ⟨b0, o0, f0, rfl, hc0, hf0⟩ := HO8.out.at 0 (by omega)
          obtain ⟨b1, o1, f1, e1, hc1, hf1⟩ := HO8.out.at 16 (by omega)
          cases e1
          have e0 : f0 = ([98, 101, 103, 105, 110], 2, true) := by have := hf0.out; cases this; rfl
          have e1 : f1 = ([109, 97, 112], 0, false) := by have := hf1.out; cases this; rfl
          subst e0; subst e1
          unfold wordC at hc0 hc1
          simp only at hc0 hc1
          rw [Nat.add_zero] at hc0
          have hw0 : ((strB [98, 101, 103, 105, 110]).toList == [98, 101, 103, 105, 110]) = true := by rw [strB_toList]; rfl
          have hw1 : ((strB [109, 97, 112]).toList == [109, 97, 112]) = true := by rw [strB_toList]; rfl
          generalize strB [98, 101, 103, 105, 110] = X0 at *
          generalize strB [109, 97, 112] = X1 at *
          have HA8 := Lib.hid (HAw.out w8 HB8.out)
          clear HAw hf0 hf1 HO8
          go_wp2_with fail
          refine Calls.mono HA8.out ?_
          rintro e w9 ⟨rfl, hb9⟩
          have HB9 := Lib.hid (bl HB8.out hb9 HB8.out.size)
          clear hb9
          go_wp2
          go_ret
          exact ⟨rfl, HB9.out⟩
end Go.Proofs.YtccaiiigdfieoaaDoor
namespace Go.By
open Go.RowKit
end Go.By
namespace Go.By
open Go.RowKit
end Go.By
namespace Go.Proofs.YtccaiiigdfieoaaDoor
open Go.RowKit Go.By
theorem tab10_of {d32 d64 : DataW Unit} {rest : List (String × DataW Unit)} {W : World} (h : laidMet Tryd.prog (("math/bits.deBruijn32tab", d32) :: ("math/bits.deBruijn64tab", d64) :: ("internal/strconv.uint64pow10", Rows.laid_internal_strconv_uint64pow10) :: rest) W) : Tab10 W := by
  have hz : (Rows.laid_internal_strconv_uint64pow10 : DataW Unit) = Lib.tabData .u64 Lib.pow10Tab := rfl
  have h2 := laidMet.tail (laidMet.tail h)
  rw [hz] at h2
  exact Lib.tabIs_of_head (g := 1) (t := 120) (e := 48) (n := 20) (by kernel_rfl) (by kernel_rfl) (by kernel_rfl) (by kernel_rfl) (by kernel_rfl) (by kernel_rfl) h2
end Go.Proofs.YtccaiiigdfieoaaDoor
namespace Go.By
open Go.RowKit
/-- the wrap of a row with a condition of its own, that hands on the world's shape too -/
theorem handed_shaped_and {H : Type} {enc : TypeId × Value → H} {a : Assume} {C : Checked} {os : Os} {f : FuncId} {fn : Func} {s : ChangeSpec} {conds : List PathCond} {apart fresh handsOn again : Bool} {X : World → Array Value → Prop}
    (hX : ∀ (w w' : World) (args : Array Value), w.heap = w'.heap → X w args → X w' args)
    (own : ownKnob C.prog.godebug = none) (started : os.Started) (noInit : C.prog.inits.idxOf? f = none) (hfn : C.prog.funcs[f]? = some fn)
    (witness : ∃ (w : World) (tape : Tape) (i : Input), w.os = os ∧ (w.forCall tape i).Shaped C.prog ∧ i.vars = [] ∧ Input.okWide C.prog (w.forCall tape i) .any w.heap.size f i ∧
      ((s.pre enc C.prog fn conds apart (w.forCall tape i).memory i.args ∧ X (w.forCall tape i).memory i.args) ∧ sizedMet enc C.prog fn (OpenSpec.ofChange s) apart (w.forCall tape i).memory i.args) ∧ a.holds C.prog (lone (Frame.enter C.prog f i.args .normal) [] (w.forCall tape i)))
    (contract : ∀ (W : World) (base : Nat) (args : Array Value) (ds gs : List (DataW H)) (before : List MemPlace),
      (∀ (j : Nat) t v, fn.params[j]? = some t → args[j]? = some v → Value.okWide C.prog W .any base t v) →
      DataW.Whole enc C.prog fn.params.toList s.vars apart W args.toList ds gs before →
      conds.all (PathCond.test C.prog ⟨fn.params.toList, ds, s.plain.varTypes C.prog, gs⟩) = true →
      (DataW.weightsEach C.prog (fn.params.toList ++ s.plain.varTypes C.prog) (ds ++ gs)).all (· ≤ reachBytes) = true → X W args → W.ShapedOpen C.prog →
      a.holds C.prog (lone (Frame.enter C.prog f args .normal) [] W) →
      Calls C.prog f args W fun e W' => ∃ v, e = .returned v ∧ s.post enc C.prog fn apart fresh handsOn again W args v W') :
    ReturnsInHanded a C os f .any (fun w args => (s.pre enc C.prog fn conds apart w args ∧ X w args) ∧ sizedMet enc C.prog fn (OpenSpec.ofChange s) apart w args) (s.post enc C.prog fn apart fresh handsOn again) :=
  returnsInHanded_of_calls own started noInit witness (fun w tape i _ shape _ ok before holds => by
    have value := ok.2.2.2
    obtain ⟨fn2, h2, _, _, _, _, value⟩ := value
    cases hfn.symm.trans h2
    obtain ⟨⟨⟨ds, gs, places, whole, conds⟩, x⟩, sized⟩ := before
    exact (contract _ w.heap.size i.args ds gs places value (DataW.Whole.of_heap (w := (w.forCall tape i).memory) (w' := w.forCall tape i) rfl whole) conds (sized.weights whole) (hX (w.forCall tape i).memory (w.forCall tape i) _ rfl x) shape holds).mono (fun e W' h => by
      obtain ⟨v, e1, post⟩ := h
      cases e1
      exact ChangeSpec.post_blind post))
end Go.By
namespace Go.Proofs.YtccaiiigdfieoaaDoor
open Go.RowKit Go.By
theorem maxI_of {W : World} (h : W.ShapedOpen Tryd.prog) : MaxI W :=
  Go.Proofs.cell_of_shapedOpen_int (zero := #[.int .i64 0]) (t := 3) h (of_decide_eq_true (by kernel_rfl)) (by kernel_rfl) rfl (by kernel_rfl) (by kernel_rfl) Tryd.underlying3
theorem row_errS (u : TypeId) (h : Tryd.prog.typeName? 3 u = some "*errors.errorString") : u = 133 :=
  typeName_ptr_named (nm := "errors.errorString") (by rw [show "*" ++ "errors.errorString" = "*errors.errorString" by decide]; kernel_rfl) (by kernel_rfl) (by decide) u (by rw [show "*" ++ "errors.errorString" = "*errors.errorString" by decide]; exact h)
theorem errI_of {a b c d : String × DataW Unit} {rest : List (String × DataW Unit)} {W : World} (h : laidMet Tryd.prog (a :: b :: c :: d :: ("strconv.ErrRange", Rows.laid_strconv_ErrRange) :: rest) W) : ErrI W := by
  have h2 := laidMet.tail (laidMet.tail (laidMet.tail (laidMet.tail h)))
  obtain ⟨p, s, hv, _⟩ := laid_sentinel (g := 3) (ti := 61) (tp := 133) (te := 135) (ts := 9) h2 (by kernel_rfl) (by kernel_rfl) Tryd.underlying61 row_errS Tryd.underlying133 Tryd.underlying135 rfl rfl Tryd.underlying9 (by kernel_rfl) (by kernel_rfl)
  exact ⟨_, World.var?_cell (by kernel_rfl) hv 0, .inr ⟨_, _, rfl⟩⟩
end Go.Proofs.YtccaiiigdfieoaaDoor
namespace Go.Proofs.YtccaiiigdfieoaaDoor
open Go.RowKit Go.By
theorem synI_of {a b c d f : String × DataW Unit} {rest : List (String × DataW Unit)} {W : World} (h : laidMet Tryd.prog (a :: b :: c :: d :: f :: ("strconv.ErrSyntax", Rows.laid_strconv_ErrSyntax) :: rest) W) : SynI W := by
  have h2 := laidMet.tail (laidMet.tail (laidMet.tail (laidMet.tail (laidMet.tail h))))
  obtain ⟨p, s, hv, _⟩ := laid_sentinel (g := 2) (ti := 61) (tp := 133) (te := 135) (ts := 9) h2 (by kernel_rfl) (by kernel_rfl) Tryd.underlying61 row_errS Tryd.underlying133 Tryd.underlying135 rfl rfl Tryd.underlying9 (by kernel_rfl) (by kernel_rfl)
  exact ⟨_, World.var?_cell (by kernel_rfl) hv 0, .inr ⟨_, _, rfl⟩⟩
theorem scr_of {d32 d64 : DataW Unit} {d : String × DataW Unit} {rest : List (String × DataW Unit)} {W : World} (h : laidMet Tryd.prog (("math/bits.deBruijn32tab", d32) :: ("math/bits.deBruijn64tab", d64) :: ("internal/strconv.uint64pow10", Rows.laid_internal_strconv_uint64pow10) :: d :: ("strconv.ErrRange", Rows.laid_strconv_ErrRange) :: ("strconv.ErrSyntax", Rows.laid_strconv_ErrSyntax) :: rest) W) : Tab10 W ∧ ErrI W ∧ SynI W := ⟨tab10_of h, errI_of h, synI_of h⟩
end Go.Proofs.YtccaiiigdfieoaaDoor
