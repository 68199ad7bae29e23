/- Chapter 26: read. Chapter 26: Parse. slices.Repeat of commands; the words. Chapter 24, the reference: Hex. Chapter 26, the reference: Shape. Chapter 26, the reference: Tens, number. Chapter 26, the reference: number. Chapter 26, the reference: words. Chapter 26, the reference: Read. Chapter 26, the reference: Parse. Chapter 26, the law: are commands the same? strings.Builder: WriteString, WriteByte, String. Chapter 26: check; a builder in a block of its own; line. Chapter 26: line. Chapter 26: Print. Chapter 26, the law: awake. Chapter 26: ScriptParses. Chapter 26, the reference: Line. -/
import Derived.Test.YtccaiiigdfieoaaDoorZw1
import Derived.Laws.CopyOwn
import Derived.Deep.RegionLaw
import Derived.Laws.MakeOwn
import Derived.Deep.DeepCutAuto
import Derived.Lib.ItoaLen
import Derived.Shelf.Strings.Builder1
namespace Go.Proofs.YtccaiiigdfieoaaDoor
open Go.RowKit Go.By
theorem numsP_app : ∀ {a b : List (List UInt8)} {X : List Nat}, numsP a = some X → numsP (a ++ b) = (numsP b).map (X ++ ·)
  | [], b, X, h => by cases h; simp
  | x :: a, b, X, h => by
    rw [numsP_cons] at h
    obtain ⟨y, hy, h2⟩ := Option.bind_eq_some_iff.1 h
    obtain ⟨ys, hys, rfl⟩ := Option.map_eq_some_iff.1 h2
    rw [List.cons_append, numsP_cons, hy, Option.bind_some, numsP_app hys, Option.map_map]; rfl
theorem numsP_step {W : List (List UInt8)} {i : Nat} {a : List UInt8} {X : List Nat} {x : Nat} (h : numsP (W.take i) = some X) (ha : W[i]? = some a) (hx : numB 18446744073709551615 a = some x) : numsP (W.take (i + 1)) = some (X ++ [x]) := by
  rw [List.take_add_one, ha, Option.toList_some, numsP_app h, numsP_cons, hx]; rfl
theorem numsP_bad {W : List (List UInt8)} {i : Nat} {a : List UInt8} {X : List Nat} (h : numsP (W.take i) = some X) (ha : W[i]? = some a) (hx : numB 18446744073709551615 a = none) : numsP W = none := by
  have e : W = W.take i ++ W.drop i := (List.take_append_drop i W).symm
  obtain ⟨h1, e1⟩ := List.getElem?_eq_some_iff.1 ha
  rw [e, numsP_app h, List.drop_eq_getElem_cons h1, e1, numsP_cons, hx]; rfl
theorem readP_none {l : List UInt8} (h : formsL.find? (isW ((splA 32 l).getD 0 [])) = none) : readP l = (20, noCmd) := by
  have e : formS ((partsP l).getD 0 []) = none := by unfold formS; rw [show (formsL.find? fun f => decide (f.1 = (partsP l).getD 0 [])) = formsL.find? (isW ((splA 32 l).getD 0 [])) from rfl, h]; rfl
  unfold readP; rw [e]
theorem readP_some {l : List UInt8} {x : List UInt8} {k : Nat} {b : Bool} (h : formsL.find? (isW ((splA 32 l).getD 0 [])) = some (x, k, b)) : x = (splA 32 l).getD 0 [] ∧ k ≤ 3 ∧ formS ((partsP l).getD 0 []) = some (k, b) := by
  have h1 := List.find?_some h
  have h2 := List.mem_of_find?_eq_some h
  have e : formS ((partsP l).getD 0 []) = some (k, b) := by unfold formS; rw [show (formsL.find? fun f => decide (f.1 = (partsP l).getD 0 [])) = formsL.find? (isW ((splA 32 l).getD 0 [])) from rfl, h]; rfl
  exact ⟨of_decide_eq_true h1, (forms_plain _ h2).2.1, e⟩
section
variable {l : List UInt8} {k : Nat} {b : Bool} (e : formS ((partsP l).getD 0 []) = some (k, b))
include e
theorem readP_len (h : (splA 32 l).length ≠ 1 + k + b.toNat) : readP l = (14, noCmd) := by
  have h' : (partsP l).length ≠ 1 + k + b.toNat := h
  unfold readP; rw [e]; simp only; rw [if_pos h']
theorem readP_nums (h : (splA 32 l).length = 1 + k + b.toNat) (hn : numsP (((splA 32 l).drop 1).take k) = none) : readP l = (14, noCmd) := by
  have h' : ¬ (partsP l).length ≠ 1 + k + b.toNat := fun g => g h
  have hn' : numsP (((partsP l).drop 1).take k) = none := hn
  unfold readP; rw [e]; simp only; rw [if_neg h', hn']
theorem readP_plain {ns : List Nat} (h : (splA 32 l).length = 1 + k + b.toNat) (hn : numsP (((splA 32 l).drop 1).take k) = some ns) (hb : b = false) : readP l = (0, ⟨(splA 32 l).getD 0 [], ns, []⟩) := by
  have h' : ¬ (partsP l).length ≠ 1 + k + b.toNat := fun g => g h
  have hn' : numsP (((partsP l).drop 1).take k) = some ns := hn
  unfold readP; rw [e]; simp only; rw [if_neg h', hn']
  subst hb; rfl
theorem readP_bad {ns : List Nat} (h : (splA 32 l).length = 1 + k + b.toNat) (hn : numsP (((splA 32 l).drop 1).take k) = some ns) (hb : b = true) (hy : bytesP ((splA 32 l).getD (k + 1) []) = none) : readP l = (14, noCmd) := by
  have h' : ¬ (partsP l).length ≠ 1 + k + b.toNat := fun g => g h
  have hn' : numsP (((partsP l).drop 1).take k) = some ns := hn
  have hy' : bytesP ((partsP l).getD (k + 1) []) = none := hy
  unfold readP; rw [e]; simp only; rw [if_neg h', hn']; simp only; rw [if_pos hb, hy']
theorem readP_full {ns : List Nat} {m : List UInt8} (h : (splA 32 l).length = 1 + k + b.toNat) (hn : numsP (((splA 32 l).drop 1).take k) = some ns) (hb : b = true) (hy : bytesP ((splA 32 l).getD (k + 1) []) = some m) : readP l = (0, ⟨(splA 32 l).getD 0 [], ns, m⟩) := by
  have h' : ¬ (partsP l).length ≠ 1 + k + b.toNat := fun g => g h
  have hn' : numsP (((partsP l).drop 1).take k) = some ns := hn
  have hy' : bytesP ((partsP l).getD (k + 1) []) = some m := hy
  unfold readP; rw [e]; simp only; rw [if_neg h', hn']; simp only; rw [if_pos hb, hy']; rfl
end
/-- what read answers -/
def RdR (w : World) (r : Int × Cmd) (e : Ending) (w' : World) : Prop := ∃ v1 v2 v3, e = .returned (.tuple #[.agg #[v1, v2, v3], .int .i64 r.1]) ∧ CmdV w.heap.size w' (v1, v2, v3) r.2 ∧ Below w.heap.size w w'
theorem info_cmd : (Tryd.prog.info? 37).map (·.size) = some 3 := by kernel_rfl
theorem info_u64 : (Tryd.prog.info? 48).map (fun i => (i.zero, i.size, i.bytes)) = some (some (.int .u64 0), 1, 8) := by kernel_rfl
theorem CmdV.no (B : Nat) (w : World) : CmdV B w (.string (strB []), .slice none 0 0, .slice none 0 0) noCmd := ⟨rfl, ⟨none, 0, 0, rfl, World.ownsRow_nil _ _ _ _⟩, none, 0, 0, rfl, Fresh.none _ _ _⟩
set_option maxRecDepth 100000 in
set_option maxHeartbeats 4000000 in
theorem read_none (l : List UInt8) (w : World) (hl : l.length ≤ 1000000) (hM : MaxI w) (hf : formsL.find? (isW ((splA 32 l).getD 0 [])) = none) :
    Calls Tryd.prog 18 #[.string (strB l)] w (RdR w (readP l)) := by
  rw [readP_none hf]
  have HSp : Hid (∀ W, Below w.heap.size w W → Calls Tryd.prog 30 #[.string (strB l), .string ⟨#[32]⟩] W fun e w' => ∃ b, e = .returned (.slice (some ⟨b, 0, none⟩) (splA 32 l).length (splA 32 l).length) ∧ W.heap.size ≤ b ∧ StrRow w' b (splA 32 l) ∧ Below W.heap.size W w') := fun W hb => (Split_any 32 l W hl (hM.keep hb)).mono fun e w' ⟨h1, h2, h3⟩ => ⟨_, h1, Nat.le_refl _, h2, h3⟩
  have HFd : Hid (∀ W, Calls Tryd.prog 31 #[.string (strB ((splA 32 l).getD 0 []))] W fun e w' => e = .returned (.tuple #[.agg #[.string (strB []), .int .i64 0, .bool false], .bool false]) ∧ Below W.heap.size W w') := fun W => by
    have := find_any ((splA 32 l).getD 0 []) W
    unfold findV at this
    rwa [hf] at this
  obtain ⟨x, hx⟩ : ∃ x, (splA 32 l)[0]? = some x := ⟨_, List.getElem?_eq_getElem (List.length_pos_iff.2 (splA_ne 32 l))⟩
  have e0 : (splA 32 l).getD 0 [] = x := by rw [List.getD_eq_getElem?_getD, hx]; rfl
  rw [e0] at HFd
  have hn1 : 1 ≤ (splA 32 l).length := List.length_pos_iff.2 (splA_ne 32 l)
  have hn2 := splA_len 32 l
  have HX := Lib.hid hx
  obtain ⟨P, hP⟩ : ∃ P, P = splA 32 l := ⟨_, rfl⟩
  obtain ⟨S, hS⟩ : ∃ S, S = strB l := ⟨_, rfl⟩
  rw [← hP] at HX hn1 hn2 HSp
  rw [← hS] at HSp ⊢
  obtain ⟨n, hn⟩ : ∃ n, n = P.length := ⟨_, rfl⟩
  rw [← hn] at hn1 hn2 HSp
  clear hf hM hP hS hx e0
  have hn1' : (0 : Int) < (n : Int) := by omega
  clear hn
  go_enter Tryd.func18, Tryd.ntmps18
  go_wp2_with fail
  refine Calls.mono (HSp.out _ (al (Below.refl _ _) (Nat.le_refl _))) ?_
  rintro e w1 ⟨gs, rfl, hgs, hr, hb⟩
  obtain ⟨hb1, k1, hs1⟩ := one_of hb
  have HB1 := Lib.hid hb1
  have hc0 := hr 0 x HX.out
  clear hr hb hb1
  go_wp2_with fail
  refine Calls.mono (HFd.out _) ?_
  rintro e w2 ⟨rfl, hb⟩
  have HB2 := Lib.hid (bl HB1.out hb HB1.out.size)
  have k2 := (hb.block _ (lt_of_block k1)).trans k1
  clear hb hc0 k1 HB1
  go_wp2_with (refine wpList_store_row (o := ⟨none, .store 37 (.tmp 2) (.tmp 24), _, _, _, _⟩) rfl 37 (.tmp 2) (.tmp 24) rfl w.heap.size #[.string (strB []), .slice none 0 0, .slice none 0 0] rfl rfl _ _ (hal k2) info_cmd rfl (by simp [Value.oneCell']) ?_)
  refine bodyPost_ret (res_ct rfl _ _ _ 37 #[.string (strB []), .slice none 0 0, .slice none 0 0] (0, 0) _ (.int .i64 20) rfl (hrs (hal k2)) rfl Tryd.underlying37 rfl info_cmd) rfl ?_
  exact ⟨_, _, _, rfl, CmdV.no _ _, below_row (al HB2.out HB2.out.size) (Nat.le_refl _)⟩
theorem find_form {x : List UInt8} {f : List UInt8 × Nat × Bool} (hf : formsL.find? (isW x) = some f) (W : World) : Calls Tryd.prog 31 #[.string (strB x)] W fun e w' => e = .returned (.tuple #[.agg #[.string (strB f.1), .int .i64 (f.2.1 : Nat), .bool f.2.2], .bool true]) ∧ Below W.heap.size W w' := by
  have := find_any x W
  unfold findV at this
  rwa [hf] at this
set_option maxRecDepth 100000 in
set_option maxHeartbeats 8000000 in
theorem read_long (l : List UInt8) (k : Nat) (w : World) (hl : l.length ≤ 1000000) (hM : MaxI w) (hE : ErrI w) (hS : SynI w) (hf : formsL.find? (isW ((splA 32 l).getD 0 [])) = some ((splA 32 l).getD 0 [], k, true)) :
    Calls Tryd.prog 18 #[.string (strB l)] w (RdR w (readP l)) := by
  obtain ⟨u0, hu, hu0, hu1, hu2⟩ := info_parts info_u64
  obtain ⟨_, hk3, hfS⟩ := readP_some hf
  have HFS := Lib.hid hfS
  have HSp : Hid (∀ W, Below w.heap.size w W → Calls Tryd.prog 30 #[.string (strB l), .string ⟨#[32]⟩] W fun e w' => ∃ b, e = .returned (.slice (some ⟨b, 0, none⟩) (splA 32 l).length (splA 32 l).length) ∧ W.heap.size ≤ b ∧ StrRow w' b (splA 32 l) ∧ Below W.heap.size W w') := fun W hb => (Split_any 32 l W hl (hM.keep hb)).mono fun e w' ⟨h1, h2, h3⟩ => ⟨_, h1, Nat.le_refl _, h2, h3⟩
  have HFd := Lib.hid (fun W => find_form hf W)
  obtain ⟨x, hx⟩ : ∃ x, (splA 32 l)[0]? = some x := ⟨_, List.getElem?_eq_getElem (List.length_pos_iff.2 (splA_ne 32 l))⟩
  have e0 : (splA 32 l).getD 0 [] = x := by rw [List.getD_eq_getElem?_getD, hx]; rfl
  simp only [e0] at HFd
  have E0 := Lib.hid e0
  have hn1 : 1 ≤ (splA 32 l).length := List.length_pos_iff.2 (splA_ne 32 l)
  have hn2 := splA_len 32 l
  have HX := Lib.hid hx
  have HE := Lib.hid hE
  have HS := Lib.hid hS
  obtain ⟨S, hS'⟩ : ∃ S, S = strB l := ⟨_, rfl⟩
  rw [← hS'] at HSp ⊢
  obtain ⟨n, hn⟩ : ∃ n, n = (splA 32 l).length := ⟨_, rfl⟩
  have HN := Lib.hid hn
  rw [← hn] at hn1 hn2 HSp
  obtain ⟨X, hX⟩ : ∃ X, X = strB x := ⟨_, rfl⟩
  rw [← hX] at HFd
  have HXX := Lib.hid hX
  clear hf hM hS' hx e0 hfS hn hE hS hX
  have hn1' : (0 : Int) < (n : Int) := by omega
  obtain ⟨R, hR⟩ : ∃ R, R = readP l := ⟨_, rfl⟩
  rw [← hR]
  have HR := Lib.hid hR
  clear hR
  by_cases hw : n = k + 2
  · have hne : ((n : Int) != 1 + (k : Int) + 1) = false := by rw [bne_eq_false_iff_eq]; omega
    have hle : 1 + (k : Int) ≤ (n : Int) := by omega
    have hcap : ¬ n = 1 := by omega
    have hcap2 : ¬ 1 = n := by omega
    have HW := Lib.hid hw
    have e44 : 1 + k - 1 = k := by omega
    have E44 := Lib.hid e44
    clear hw e44
    go_enter Tryd.func18, Tryd.ntmps18
    go_wp2_with fail
    refine Calls.mono (HSp.out _ (al (Below.refl _ _) (Nat.le_refl _))) ?_
    rintro e w1 ⟨gs, rfl, hgs, hr, hb⟩
    obtain ⟨hb1, k1, hs1⟩ := one_of hb
    have HB1 := Lib.hid hb1
    have HRW := Lib.hid hr
    have hc0 := hr 0 x HX.out
    rw [← HXX.out] at hc0
    clear hr hb hb1
    go_wp2_with fail
    refine Calls.mono (HFd.out _) ?_
    rintro e w2 ⟨rfl, hb⟩
    have HB2 := Lib.hid (bl HB1.out hb HB1.out.size)
    have k2 := (hb.block _ (lt_of_block k1)).trans k1
    have HRW2 := Lib.hid (HRW.out.keep hb)
    clear hb hc0 k1 HB1 HRW
    go_wp2
    have k5 : ((w2.alloc (.cells #[.string X, .int .i64 (k : Nat), .bool true] 69 (0, 0))).alloc (.cells #[.string X, .slice none 0 0, .slice none 0 0] 37 (0, 0))).heap[w2.heap.size]? = some (.cells #[.string X, .int .i64 (k : Nat), .bool true] 69 (0, 0)) := hal (hnew rfl)
    have k8 : ((w2.alloc (.cells #[.string X, .int .i64 (k : Nat), .bool true] 69 (0, 0))).alloc (.cells #[.string X, .slice none 0 0, .slice none 0 0] 37 (0, 0))).heap[w2.heap.size + 1]? = some (.cells #[.string X, .slice none 0 0, .slice none 0 0] 37 (0, 0)) := hnew (by simp)
    have k2' := hal (o := (.cells #[.string X, .slice none 0 0, .slice none 0 0] 37 (0, 0))) (hal (o := (.cells #[.string X, .int .i64 (k : Nat), .bool true] 69 (0, 0))) k2)
    have BW : Hid (Below w.heap.size w ((w2.alloc (.cells #[.string X, .int .i64 (k : Nat), .bool true] 69 (0, 0))).alloc (.cells #[.string X, .slice none 0 0, .slice none 0 0] 37 (0, 0)))) := al (al HB2.out HB2.out.size) (by have := HB2.out.size; simp; omega)
    have RW : Hid (StrRow ((w2.alloc (.cells #[.string X, .int .i64 (k : Nat), .bool true] 69 (0, 0))).alloc (.cells #[.string X, .slice none 0 0, .slice none 0 0] 37 (0, 0))) gs (splA 32 l)) := HRW2.out.keep (al (al (Below.refl _ _) (Nat.le_refl _)) (by simp))
    obtain ⟨g5, hg5⟩ : ∃ g5, g5 = w2.heap.size := ⟨_, rfl⟩
    obtain ⟨g8, hg8⟩ : ∃ g8, g8 = g5 + 1 := ⟨_, rfl⟩
    have hgl : w.heap.size < g8 ∧ g5 < g8 ∧ gs < g8 := by have h1 := lt_of_block k2; have h2 := HB2.out.size; have h3 : gs < w2.heap.size := lt_of_cell (HRW2.out 0 x HX.out); omega
    rw [← hg5] at k5 k8 ⊢
    rw [← hg8] at k8 ⊢
    try rw [E44.out]
    generalize (w2.alloc (.cells #[.string X, .int .i64 (k : Nat), .bool true] 69 (0, 0))).alloc (.cells #[.string X, .slice none 0 0, .slice none 0 0] 37 (0, 0)) = w3 at *
    clear HB2 HRW2 k2 hg5 hg8 HSp HFd hs1 hgs
    have K5 := Lib.hid k5
    have K8 := Lib.hid k8
    have K2 := Lib.hid k2'
    have HGL := Lib.hid hgl
    clear k5 k8 k2' hgl hne hle hcap hcap2
    go_loopw [10, 11, 12, 46] (fun _ _ _ iv wr => ∃ (i : Nat) (q : Option Addr) (c : Nat) (ns : List Nat), i ≤ k ∧ iv = .int .i64 i ∧ Hid (numsP (((splA 32 l).drop 1).take i) = some ns) ∧ Hid (wr.ownsRow g8 48 1 (.slice q i c) i (ns.map encU)) ∧ Hid (wr.heap[g8]? = some (.cells #[.string X, .slice q i c, .slice none 0 0] 37 (0, 0))) ∧ Hid (wr.heap[g5]? = some (.cells #[.string X, .int .i64 (k : Nat), .bool true] 69 (0, 0))) ∧ Hid (wr.heap[w.heap.size]? = some (.cells #[.string (strB []), .slice none 0 0, .slice none 0 0] 37 (0, 0))) ∧ Hid (StrRow wr gs (splA 32 l)) ∧ Hid (Below w.heap.size w wr)) (fun _ _ _ iv _ => k - (intOf iv).toNat)
    case atStart => exact ⟨0, none, 0, [], Nat.zero_le _, rfl, rfl, World.ownsRow_nil _ _ _ _, K8.out, K5.out, K2.out, RW.out, BW.out⟩
    case round =>
      obtain ⟨i, q, c, ns, hik, rfl, HNs, HO, H8, H5, H2, HRr, HBr⟩ := hrel
      clear K5 K8 K2 RW BW
      by_cases hlt : i < k
      · obtain ⟨a, ha⟩ : ∃ a, (splA 32 l)[1 + i]? = some a := ⟨_, List.getElem?_eq_getElem (by have := HN.out; have := HW.out; omega)⟩
        have ca := HRr.out (1 + i) a ha
        have hai : (((splA 32 l).drop 1))[i]? = some a := by rw [List.getElem?_drop]; exact ha
        have hal2 : a.length ≤ 1000000 := Nat.le_trans (spl_shortC _ _ _ _ (List.mem_of_getElem? ha)) hl
        have HRN := Lib.hid (readNumber_any a wr hal2 (HE.out.keep HBr.out) (HS.out.keep HBr.out))
        obtain ⟨A, hA⟩ : ∃ A, A = strB a := ⟨_, rfl⟩
        rw [← hA] at ca HRN
        have hlt' : (i : Int) < (k : Int) := by omega
        have HA := Lib.hid hai
        have HLT := Lib.hid hlt
        clear ha hai hal2 hA hlt
        go_wp2_with fail
        refine Calls.mono HRN.out ?_
        rintro e w4 ⟨v, rfl, ⟨y, rfl, hy⟩, hb⟩
        have HB4 := Lib.hid (bl HBr.out hb HBr.out.size)
        have HO4 := Lib.hid (owns_keep HO.out hb)
        have H84 := Lib.hid ((hb.block _ (lt_of_block H8.out)).trans H8.out)
        have H54 := Lib.hid ((hb.block _ (lt_of_block H5.out)).trans H5.out)
        have H24 := Lib.hid ((hb.block _ (lt_of_block H2.out)).trans H2.out)
        have HR4 := Lib.hid (HRr.out.keep hb)
        clear hb ca HRN HO H8 H5 H2 HRr HBr
        cases hnb : numB 18446744073709551615 a with
        | none =>
          have HRes : Hid (R = (14, noCmd)) := HR.out.trans (readP_nums HFS.out (by have := HN.out; have := HW.out; show _ = 1 + k + 1; omega) (numsP_bad (i := i) (a := a) (X := ns) (by rw [List.take_take, Nat.min_eq_left (by have := HLT.out; omega)]; exact HNs.out) (by rw [List.getElem?_take, if_pos HLT.out]; exact HA.out) hnb))
          have H22 := H24.out
          clear hnb hy HNs HO4 H84 H54 HR4 H24
          go_wp2_with (refine wpList_store_row (o := ⟨none, .store 37 (.tmp 2) (.tmp 57), _, _, _, _⟩) rfl 37 (.tmp 2) (.tmp 57) rfl w.heap.size #[.string (strB []), .slice none 0 0, .slice none 0 0] rfl rfl _ _ H22 info_cmd rfl (by simp [Value.oneCell']) ?_)
          refine bodyPost_ret (res_ct rfl _ _ _ 37 #[.string (strB []), .slice none 0 0, .slice none 0 0] (0, 0) _ (.int .i64 14) rfl (hrs H22) rfl Tryd.underlying37 rfl info_cmd) rfl ?_
          exact ⟨_, _, _, by rw [HRes.out], by rw [HRes.out]; exact CmdV.no _ _, below_row HB4.out (Nat.le_refl _)⟩
        | some z =>
          obtain rfl : y = z := hy z hnb
          have HNB := Lib.hid hnb
          obtain ⟨c0, c1, c2⟩ := cells_three H84.out
          have z1 := frozen_of_row _ _ 1 _ _ H84.out
          have hOA : Hid (∀ o, (w4.alloc o).ownsRow g8 48 1 (.slice q i c) i (ns.map encU)) := fun o => owns_keep HO4.out (al (Below.refl _ _) (Nat.le_refl _))
          have hszw := HB4.out.size
          clear hnb hy
          go_wp2_with (at_builtin; go_loud (refine wpList_append_own _ rfl _ _ 34 rfl g8 48 u0 (.int .u64 0) 1 8 Tryd.underlying34 hu hu0 hu1 hu2 rfl (by omega) _ i (ns.map encU) rfl (hOA.out _) ⟨w4.heap.size, 0, none⟩ 1 1 [encU y] rfl rfl (one_cellI rfl) ?c2 ?c3 ?c4 ?c5 ?_))
          case c2 => first | rfl | (intro y hy; simp at hy; subst hy; rfl)
          case c3 => unfold maxLen; omega
          case c4 => omega
          case c5 => have := lt_of_block H84.out; first | omega | (simp; omega)
          intro v' w' ho' hg' _
          obtain ⟨q', c', rfl⟩ := owns_shape ho'
          have H8' := grown_other (hOA.out _) hg' (hal H84.out) (by decide)
          have BG : Hid (Below g8 w4 w') := (al (Below.refl _ _) (Nat.le_of_lt (lt_of_block H84.out))).grown hg' (by have := lt_of_block H84.out; simp; omega) (fun rr hrr => (HO4.out.lt rr hrr).1)
          have HO5 : Hid (w'.ownsRow g8 48 1 (.slice q' (i + 1) c') (i + 1) ((ns ++ [y]).map encU)) := by
            show World.ownsRow _ _ _ _ _ _ _
            rw [List.map_append]; exact ho'
          have HNs5 := Lib.hid (numsP_step HNs.out HA.out HNB.out)
          obtain ⟨d0, d1, d2⟩ := cells_three H8'
          have z1 := frozen_of_row _ _ 1 _ _ H8'
          have HH8 := Lib.hid H8'
          clear ho' hg' c0 c1 c2 hOA HO4 HNs HA HNB H8'
          go_wp2
          have BF : Hid (Below g8 w4 (w'.setCell ⟨g8, 1, none⟩ (.slice q' (i + 1) c'))) := (BG.out).setCell (Nat.le_refl _) _
          go_roundw
          case rel => exact ⟨i + 1, q', c', ns ++ [y], HLT.out, by go_num, HNs5.out, ownsRow_setCell_other HO5.out (owns_block_ne HO5.out HH8.out (by decide)) _, hss HH8.out, (BF.out.block _ HGL.out.2.1).trans H54.out, (BF.out.block _ HGL.out.1).trans H24.out, fun j z hj => (BF.out.cell (p := ⟨gs, j, none⟩) HGL.out.2.2).trans (HR4.out j z hj), HB4.out.trans (BF.out.mono (by have := HGL.out; omega))⟩
          case measure => simp [intOf]; have := HLT.out; omega
      · obtain rfl : i = k := by omega
        obtain ⟨a, ha⟩ : ∃ a, (splA 32 l)[1 + i]? = some a := ⟨_, List.getElem?_eq_getElem (by have := HN.out; have := HW.out; omega)⟩
        have ca := HRr.out (1 + i) a ha
        have hal2 : a.length ≤ 1000000 := Nat.le_trans (spl_shortC _ _ _ _ (List.mem_of_getElem? ha)) hl
        have HRB := Lib.hid (readBytes_any a wr hal2)
        have HNF : Hid (numsP (((splA 32 l).drop 1).take i) = some ns) := HNs.out
        have HA : Hid ((splA 32 l).getD (i + 1) [] = a) := by show _ = _; rw [List.getD_eq_getElem?_getD, Nat.add_comm, ha]; rfl
        obtain ⟨A, hA⟩ : ∃ A, A = strB a := ⟨_, rfl⟩
        rw [← hA] at ca HRB
        have hin : (i : Int) + 1 < (n : Int) := by have := HW.out; omega
        obtain ⟨d0, d1, d2⟩ := cells_three H5.out
        clear ha hal2 hA hlt HNs
        go_wp2_with fail
        refine Calls.mono HRB.out ?_
        rintro e w4 ⟨q2, n2, c2, rfl, hfr, hb⟩
        have HB4 := Lib.hid (bl HBr.out hb HBr.out.size)
        have HO4 := Lib.hid (owns_keep HO.out hb)
        have H84 := Lib.hid ((hb.block _ (lt_of_block H8.out)).trans H8.out)
        have H24 := Lib.hid ((hb.block _ (lt_of_block H2.out)).trans H2.out)
        have HF4 := Lib.hid (hfr.mono HBr.out.size)
        have b0 := cell_of_row _ _ 2 _ _ _ H84.out
        have z2 := frozen_of_row _ _ 2 _ _ H84.out
        clear hb hfr ca HRB HO H8 H5 H2 HRr HBr d0 d1 d2
        have hgs := Lib.hid (show Below g8 w4 (w4.setCell ⟨g8, 2, none⟩ (.slice q2 n2 c2)) from (Below.refl g8 w4).setCell (Nat.le_refl g8) _)
        have H85 : Hid ((w4.setCell ⟨g8, 2, none⟩ (.slice q2 n2 c2)).heap[g8]? = some (.cells #[.string X, .slice q i c, .slice q2 n2 c2] 37 (0, 0))) := hss H84.out
        have H25 := Lib.hid ((hgs.out.block _ HGL.out.1).trans H24.out)
        have HO5 : Hid ((w4.setCell ⟨g8, 2, none⟩ (.slice q2 n2 c2)).ownsRow g8 48 1 (.slice q i c) i (ns.map encU)) := ownsRow_setCell_other HO4.out (owns_block_ne HO4.out H84.out (by decide)) _
        have HF5 := Lib.hid (HF4.out.cellI (v := .slice q2 n2 c2) (i := 2) H84.out (by decide))
        have HB5 := Lib.hid (HB4.out.trans (hgs.out.mono (by have := HGL.out; omega)))
        cases hy : bytesP a with
        | none =>
          have HRes : Hid (R = (14, noCmd)) := HR.out.trans (readP_bad HFS.out (by have := HN.out; have := HW.out; show _ = 1 + i + 1; omega) HNF.out rfl (by rw [HA.out]; exact hy))
          clear hy
          go_upto_region 21 with (fail)
          generalize w4.setCell ⟨g8, 2, none⟩ (.slice q2 n2 c2) = w5 at *
          clear b0 z2 HB4 HO4 H84 H24 HF4 hgs
          have H26 := H25.out
          go_wp2_with (refine wpList_store_row (o := ⟨none, .store 37 (.tmp 2) (.tmp 79), _, _, _, _⟩) rfl 37 (.tmp 2) (.tmp 79) rfl w.heap.size #[.string (strB []), .slice none 0 0, .slice none 0 0] rfl rfl _ _ H26 info_cmd rfl (by simp [Value.oneCell']) ?_)
          refine bodyPost_ret (res_ct rfl _ _ _ 37 #[.string (strB []), .slice none 0 0, .slice none 0 0] (0, 0) _ (.int .i64 14) rfl (hrs H26) rfl Tryd.underlying37 rfl info_cmd) rfl ?_
          exact ⟨_, _, _, by rw [HRes.out], by rw [HRes.out]; exact CmdV.no _ _, below_row HB5.out (Nat.le_refl _)⟩
        | some m =>
          have HRes : Hid (R = (0, ⟨x, ns, m⟩)) := by
            have := HR.out.trans (readP_full HFS.out (by have := HN.out; have := HW.out; show _ = 1 + i + 1; omega) HNF.out rfl (by rw [HA.out]; exact hy))
            rw [E0.out] at this
            exact this
          rw [hy] at HF5 HF4
          clear hy
          go_upto_region 21 with (fail)
          generalize w4.setCell ⟨g8, 2, none⟩ (.slice q2 n2 c2) = w5 at *
          clear b0 z2 HB4 HO4 H84 H24 HF4 hgs
          have H26 := H25.out
          obtain ⟨d0, d1, d2⟩ := cells_three H85.out
          go_wp2_with (refine wpList_store_row (o := ⟨none, .store 37 (.tmp 2) (.tmp 80), _, _, _, _⟩) rfl 37 (.tmp 2) (.tmp 80) rfl w.heap.size #[.string X, .slice q i c, .slice q2 n2 c2] rfl rfl _ _ H26 info_cmd rfl (by simp [Value.oneCell']) ?_)
          refine bodyPost_ret (res_ct rfl _ _ _ 37 #[.string X, .slice q i c, .slice q2 n2 c2] (0, 0) _ (.int .i64 0) rfl (hrs H26) rfl Tryd.underlying37 rfl info_cmd) rfl ?_
          refine ⟨_, _, _, by rw [HRes.out], ?_, below_row HB5.out (Nat.le_refl _)⟩
          rw [HRes.out]
          refine ⟨by rw [HXX.out], ⟨q, i, c, rfl, ?_⟩, q2, n2, c2, rfl, HF5.out.row H26 (by decide)⟩
          exact owns_mono (owns_setRow HO5.out H26 (by decide)) (Nat.le_of_lt HGL.out.1)
  · have hne : ((n : Int) != 1 + (k : Int) + 1) = true := bne_iff_ne.2 (by omega)
    have HRes : Hid (R = (14, noCmd)) := HR.out.trans (readP_len HFS.out (by have := HN.out; show _ ≠ 1 + k + 1; omega))
    clear hw
    go_enter Tryd.func18, Tryd.ntmps18
    go_wp2_with fail
    refine Calls.mono (HSp.out _ (al (Below.refl _ _) (Nat.le_refl _))) ?_
    rintro e w1 ⟨gs, rfl, hgs, hr, hb⟩
    obtain ⟨hb1, k1, hs1⟩ := one_of hb
    have HB1 := Lib.hid hb1
    have hc0 := hr 0 x HX.out
    rw [← HXX.out] at hc0
    clear hr hb hb1
    go_wp2_with fail
    refine Calls.mono (HFd.out _) ?_
    rintro e w2 ⟨rfl, hb⟩
    have HB2 := Lib.hid (bl HB1.out hb HB1.out.size)
    have k2 := (hb.block _ (lt_of_block k1)).trans k1
    clear hb hc0 k1 HB1
    have K3 := hal (o := (.cells #[.string X, .int .i64 (k : Nat), .bool true] 69 (0, 0))) k2
    go_wp2_with (refine wpList_store_row (o := ⟨none, .store 37 (.tmp 2) (.tmp 36), _, _, _, _⟩) rfl 37 (.tmp 2) (.tmp 36) rfl w.heap.size #[.string (strB []), .slice none 0 0, .slice none 0 0] rfl rfl _ _ K3 info_cmd rfl (by simp [Value.oneCell']) ?_)
    refine bodyPost_ret (res_ct rfl _ _ _ 37 #[.string (strB []), .slice none 0 0, .slice none 0 0] (0, 0) _ (.int .i64 14) rfl (hrs K3) rfl Tryd.underlying37 rfl info_cmd) rfl ?_
    exact ⟨_, _, _, by rw [HRes.out], by rw [HRes.out]; exact CmdV.no _ _, below_row (al HB2.out HB2.out.size) (Nat.le_refl _)⟩
set_option maxRecDepth 100000 in
set_option maxHeartbeats 4000000 in
theorem read_zero (l : List UInt8) (w : World) (hl : l.length ≤ 1000000) (S X : ByteArray) (x : List UInt8) (R : Int × Cmd) (HFS : Hid (formS ((partsP l).getD 0 []) = some (0, false))) (HR : Hid (R = readP l)) (HX : Hid ((splA 32 l)[0]? = some x)) (HN : Hid (1 = (splA 32 l).length)) (HXX : Hid (X = strB x)) (E0 : Hid ((splA 32 l).getD 0 [] = x))
    (HSp : Hid (∀ W, Below w.heap.size w W → Calls Tryd.prog 30 #[.string S, .string ⟨#[32]⟩] W fun e w' => ∃ b, e = .returned (.slice (some ⟨b, 0, none⟩) 1 1) ∧ W.heap.size ≤ b ∧ StrRow w' b (splA 32 l) ∧ Below W.heap.size W w'))
    (HFd : Hid (∀ W, Calls Tryd.prog 31 #[.string X] W fun e w' => e = .returned (.tuple #[.agg #[.string X, .int .i64 ((0 : Nat) : Int), .bool false], .bool true]) ∧ Below W.heap.size W w')) :
    Calls Tryd.prog 18 #[.string S] w (RdR w R) := by
  have HRes : Hid (R = (0, ⟨x, [], []⟩)) := by
    have := HR.out.trans (readP_plain (ns := []) HFS.out (by have := HN.out; show _ = 1 + 0 + 0; omega) rfl rfl)
    rw [E0.out] at this
    exact this
  clear HFS HR
  go_enter Tryd.func18, Tryd.ntmps18
  go_wp2_with fail
  refine Calls.mono (HSp.out _ (al (Below.refl _ _) (Nat.le_refl _))) ?_
  rintro e w1 ⟨gs, rfl, hgs, hr, hb⟩
  obtain ⟨hb1, k1, hs1⟩ := one_of hb
  have HB1 := Lib.hid hb1
  have hc0 := hr 0 x HX.out
  rw [← HXX.out] at hc0
  clear hr hb hb1
  go_wp2_with fail
  refine Calls.mono (HFd.out _) ?_
  rintro e w2 ⟨rfl, hb⟩
  have HB2 := Lib.hid (bl HB1.out hb HB1.out.size)
  have k2 := (hb.block _ (lt_of_block k1)).trans k1
  clear hb hc0 k1 HB1
  go_wp2
  have k8 : ((w2.alloc (.cells #[.string X, .int .i64 0, .bool false] 69 (0, 0))).alloc (.cells #[.string X, .slice none 0 0, .slice none 0 0] 37 (0, 0))).heap[w2.heap.size + 1]? = some (.cells #[.string X, .slice none 0 0, .slice none 0 0] 37 (0, 0)) := hnew (by simp)
  have k5 : ((w2.alloc (.cells #[.string X, .int .i64 0, .bool false] 69 (0, 0))).alloc (.cells #[.string X, .slice none 0 0, .slice none 0 0] 37 (0, 0))).heap[w2.heap.size]? = some (.cells #[.string X, .int .i64 0, .bool false] 69 (0, 0)) := hal (hnew rfl)
  have k2' := hal (o := (.cells #[.string X, .slice none 0 0, .slice none 0 0] 37 (0, 0))) (hal (o := (.cells #[.string X, .int .i64 0, .bool false] 69 (0, 0))) k2)
  have BW : Hid (Below w.heap.size w ((w2.alloc (.cells #[.string X, .int .i64 0, .bool false] 69 (0, 0))).alloc (.cells #[.string X, .slice none 0 0, .slice none 0 0] 37 (0, 0)))) := al (al HB2.out HB2.out.size) (by have := HB2.out.size; simp; omega)
  generalize (w2.alloc (.cells #[.string X, .int .i64 0, .bool false] 69 (0, 0))).alloc (.cells #[.string X, .slice none 0 0, .slice none 0 0] 37 (0, 0)) = w3 at *
  clear HB2 k2 HSp HFd hs1 hgs
  go_loopw [46] (fun iv wr => iv = .int .i64 0 ∧ wr = w3) (fun _ _ => 0)
  case atStart => exact ⟨rfl, rfl⟩
  case round =>
    obtain ⟨rfl, rfl⟩ := hrel
    obtain ⟨d0, d1, d2⟩ := cells_three k8
    obtain ⟨f0, f1, f2⟩ := cells_three k5
    go_wp2_with (refine wpList_store_row (o := ⟨none, .store 37 (.tmp 2) (.tmp 80), _, _, _, _⟩) rfl 37 (.tmp 2) (.tmp 80) rfl w.heap.size #[.string X, .slice none 0 0, .slice none 0 0] rfl rfl _ _ k2' info_cmd rfl (by simp [Value.oneCell']) ?_)
    refine bodyPost_ret (res_ct rfl _ _ _ 37 #[.string X, .slice none 0 0, .slice none 0 0] (0, 0) _ (.int .i64 0) rfl (hrs k2') rfl Tryd.underlying37 rfl info_cmd) rfl ?_
    refine ⟨_, _, _, by rw [HRes.out], ?_, below_row BW.out (Nat.le_refl _)⟩
    rw [HRes.out]
    exact ⟨by rw [HXX.out], ⟨none, 0, 0, rfl, World.ownsRow_nil _ _ _ _⟩, none, 0, 0, rfl, Fresh.none _ _ _⟩
set_option maxRecDepth 100000 in
set_option maxHeartbeats 8000000 in
theorem read_short (l : List UInt8) (k : Nat) (w : World) (hl : l.length ≤ 1000000) (hM : MaxI w) (hE : ErrI w) (hS : SynI w) (hf : formsL.find? (isW ((splA 32 l).getD 0 [])) = some ((splA 32 l).getD 0 [], k, false)) :
    Calls Tryd.prog 18 #[.string (strB l)] w (RdR w (readP l)) := by
  obtain ⟨u0, hu, hu0, hu1, hu2⟩ := info_parts info_u64
  obtain ⟨_, hk3, hfS⟩ := readP_some hf
  have HFS := Lib.hid hfS
  have HSp : Hid (∀ W, Below w.heap.size w W → Calls Tryd.prog 30 #[.string (strB l), .string ⟨#[32]⟩] W fun e w' => ∃ b, e = .returned (.slice (some ⟨b, 0, none⟩) (splA 32 l).length (splA 32 l).length) ∧ W.heap.size ≤ b ∧ StrRow w' b (splA 32 l) ∧ Below W.heap.size W w') := fun W hb => (Split_any 32 l W hl (hM.keep hb)).mono fun e w' ⟨h1, h2, h3⟩ => ⟨_, h1, Nat.le_refl _, h2, h3⟩
  have HFd := Lib.hid (fun W => find_form hf W)
  obtain ⟨x, hx⟩ : ∃ x, (splA 32 l)[0]? = some x := ⟨_, List.getElem?_eq_getElem (List.length_pos_iff.2 (splA_ne 32 l))⟩
  have e0 : (splA 32 l).getD 0 [] = x := by rw [List.getD_eq_getElem?_getD, hx]; rfl
  simp only [e0] at HFd
  have E0 := Lib.hid e0
  have hn1 : 1 ≤ (splA 32 l).length := List.length_pos_iff.2 (splA_ne 32 l)
  have hn2 := splA_len 32 l
  have HX := Lib.hid hx
  have HE := Lib.hid hE
  have HS := Lib.hid hS
  obtain ⟨S, hS'⟩ : ∃ S, S = strB l := ⟨_, rfl⟩
  rw [← hS'] at HSp ⊢
  obtain ⟨n, hn⟩ : ∃ n, n = (splA 32 l).length := ⟨_, rfl⟩
  have HN := Lib.hid hn
  rw [← hn] at hn1 hn2 HSp
  obtain ⟨X, hX⟩ : ∃ X, X = strB x := ⟨_, rfl⟩
  rw [← hX] at HFd
  have HXX := Lib.hid hX
  clear hf hM hS' hx e0 hfS hn hE hS hX
  have hn1' : (0 : Int) < (n : Int) := by omega
  obtain ⟨R, hR⟩ : ∃ R, R = readP l := ⟨_, rfl⟩
  rw [← hR]
  have HR := Lib.hid hR
  clear hR
  by_cases hw : n = k + 1
  · have hne : ((n : Int) != 1 + (k : Int)) = false := by rw [bne_eq_false_iff_eq]; omega
    have hle : 1 + (k : Int) ≤ (n : Int) := by omega
    rcases Nat.eq_zero_or_pos k with hk0 | hk0
    · subst hk0
      obtain rfl : n = 1 := by omega
      have HFa := HFS; have HRa := HR; have HXa := HX; have HSpa := HSp; have HFda := HFd
      exact read_zero l w hl S X x R HFa HRa HXa HN HXX E0 HSpa HFda
    have hcap : ¬ n = 1 := by omega
    have hcap2 : ¬ 1 = n := by omega
    have HW := Lib.hid hw
    have e44 : 1 + k - 1 = k := by omega
    have E44 := Lib.hid e44
    clear hw e44
    go_enter Tryd.func18, Tryd.ntmps18
    go_wp2_with fail
    refine Calls.mono (HSp.out _ (al (Below.refl _ _) (Nat.le_refl _))) ?_
    rintro e w1 ⟨gs, rfl, hgs, hr, hb⟩
    obtain ⟨hb1, k1, hs1⟩ := one_of hb
    have HB1 := Lib.hid hb1
    have HRW := Lib.hid hr
    have hc0 := hr 0 x HX.out
    rw [← HXX.out] at hc0
    clear hr hb hb1
    go_wp2_with fail
    refine Calls.mono (HFd.out _) ?_
    rintro e w2 ⟨rfl, hb⟩
    have HB2 := Lib.hid (bl HB1.out hb HB1.out.size)
    have k2 := (hb.block _ (lt_of_block k1)).trans k1
    have HRW2 := Lib.hid (HRW.out.keep hb)
    clear hb hc0 k1 HB1 HRW
    go_wp2
    have k5 : ((w2.alloc (.cells #[.string X, .int .i64 (k : Nat), .bool false] 69 (0, 0))).alloc (.cells #[.string X, .slice none 0 0, .slice none 0 0] 37 (0, 0))).heap[w2.heap.size]? = some (.cells #[.string X, .int .i64 (k : Nat), .bool false] 69 (0, 0)) := hal (hnew rfl)
    have k8 : ((w2.alloc (.cells #[.string X, .int .i64 (k : Nat), .bool false] 69 (0, 0))).alloc (.cells #[.string X, .slice none 0 0, .slice none 0 0] 37 (0, 0))).heap[w2.heap.size + 1]? = some (.cells #[.string X, .slice none 0 0, .slice none 0 0] 37 (0, 0)) := hnew (by simp)
    have k2' := hal (o := (.cells #[.string X, .slice none 0 0, .slice none 0 0] 37 (0, 0))) (hal (o := (.cells #[.string X, .int .i64 (k : Nat), .bool false] 69 (0, 0))) k2)
    have BW : Hid (Below w.heap.size w ((w2.alloc (.cells #[.string X, .int .i64 (k : Nat), .bool false] 69 (0, 0))).alloc (.cells #[.string X, .slice none 0 0, .slice none 0 0] 37 (0, 0)))) := al (al HB2.out HB2.out.size) (by have := HB2.out.size; simp; omega)
    have RW : Hid (StrRow ((w2.alloc (.cells #[.string X, .int .i64 (k : Nat), .bool false] 69 (0, 0))).alloc (.cells #[.string X, .slice none 0 0, .slice none 0 0] 37 (0, 0))) gs (splA 32 l)) := HRW2.out.keep (al (al (Below.refl _ _) (Nat.le_refl _)) (by simp))
    obtain ⟨g5, hg5⟩ : ∃ g5, g5 = w2.heap.size := ⟨_, rfl⟩
    obtain ⟨g8, hg8⟩ : ∃ g8, g8 = g5 + 1 := ⟨_, rfl⟩
    have hgl : w.heap.size < g8 ∧ g5 < g8 ∧ gs < g8 := by have h1 := lt_of_block k2; have h2 := HB2.out.size; have h3 : gs < w2.heap.size := lt_of_cell (HRW2.out 0 x HX.out); omega
    rw [← hg5] at k5 k8 ⊢
    rw [← hg8] at k8 ⊢
    try rw [E44.out]
    generalize (w2.alloc (.cells #[.string X, .int .i64 (k : Nat), .bool false] 69 (0, 0))).alloc (.cells #[.string X, .slice none 0 0, .slice none 0 0] 37 (0, 0)) = w3 at *
    clear HB2 HRW2 k2 hg5 hg8 HSp HFd hs1 hgs
    have K5 := Lib.hid k5
    have K8 := Lib.hid k8
    have K2 := Lib.hid k2'
    have HGL := Lib.hid hgl
    clear k5 k8 k2' hgl hne hle hcap hcap2
    go_loopw [10, 11, 12, 46] (fun _ _ _ iv wr => ∃ (i : Nat) (q : Option Addr) (c : Nat) (ns : List Nat), i ≤ k ∧ iv = .int .i64 i ∧ Hid (numsP (((splA 32 l).drop 1).take i) = some ns) ∧ Hid (wr.ownsRow g8 48 1 (.slice q i c) i (ns.map encU)) ∧ Hid (wr.heap[g8]? = some (.cells #[.string X, .slice q i c, .slice none 0 0] 37 (0, 0))) ∧ Hid (wr.heap[g5]? = some (.cells #[.string X, .int .i64 (k : Nat), .bool false] 69 (0, 0))) ∧ Hid (wr.heap[w.heap.size]? = some (.cells #[.string (strB []), .slice none 0 0, .slice none 0 0] 37 (0, 0))) ∧ Hid (StrRow wr gs (splA 32 l)) ∧ Hid (Below w.heap.size w wr)) (fun _ _ _ iv _ => k - (intOf iv).toNat)
    case atStart => exact ⟨0, none, 0, [], Nat.zero_le _, rfl, rfl, World.ownsRow_nil _ _ _ _, K8.out, K5.out, K2.out, RW.out, BW.out⟩
    case round =>
      obtain ⟨i, q, c, ns, hik, rfl, HNs, HO, H8, H5, H2, HRr, HBr⟩ := hrel
      clear K5 K8 K2 RW BW
      by_cases hlt : i < k
      · obtain ⟨a, ha⟩ : ∃ a, (splA 32 l)[1 + i]? = some a := ⟨_, List.getElem?_eq_getElem (by have := HN.out; have := HW.out; omega)⟩
        have ca := HRr.out (1 + i) a ha
        have hai : (((splA 32 l).drop 1))[i]? = some a := by rw [List.getElem?_drop]; exact ha
        have hal2 : a.length ≤ 1000000 := Nat.le_trans (spl_shortC _ _ _ _ (List.mem_of_getElem? ha)) hl
        have HRN := Lib.hid (readNumber_any a wr hal2 (HE.out.keep HBr.out) (HS.out.keep HBr.out))
        obtain ⟨A, hA⟩ : ∃ A, A = strB a := ⟨_, rfl⟩
        rw [← hA] at ca HRN
        have hlt' : (i : Int) < (k : Int) := by omega
        have HA := Lib.hid hai
        have HLT := Lib.hid hlt
        clear ha hai hal2 hA hlt
        go_wp2_with fail
        refine Calls.mono HRN.out ?_
        rintro e w4 ⟨v, rfl, ⟨y, rfl, hy⟩, hb⟩
        have HB4 := Lib.hid (bl HBr.out hb HBr.out.size)
        have HO4 := Lib.hid (owns_keep HO.out hb)
        have H84 := Lib.hid ((hb.block _ (lt_of_block H8.out)).trans H8.out)
        have H54 := Lib.hid ((hb.block _ (lt_of_block H5.out)).trans H5.out)
        have H24 := Lib.hid ((hb.block _ (lt_of_block H2.out)).trans H2.out)
        have HR4 := Lib.hid (HRr.out.keep hb)
        clear hb ca HRN HO H8 H5 H2 HRr HBr
        cases hnb : numB 18446744073709551615 a with
        | none =>
          have HRes : Hid (R = (14, noCmd)) := HR.out.trans (readP_nums HFS.out (by have := HN.out; have := HW.out; show _ = 1 + k + 0; omega) (numsP_bad (i := i) (a := a) (X := ns) (by rw [List.take_take, Nat.min_eq_left (by have := HLT.out; omega)]; exact HNs.out) (by rw [List.getElem?_take, if_pos HLT.out]; exact HA.out) hnb))
          have H22 := H24.out
          clear hnb hy HNs HO4 H84 H54 HR4 H24
          go_wp2_with (refine wpList_store_row (o := ⟨none, .store 37 (.tmp 2) (.tmp 57), _, _, _, _⟩) rfl 37 (.tmp 2) (.tmp 57) rfl w.heap.size #[.string (strB []), .slice none 0 0, .slice none 0 0] rfl rfl _ _ H22 info_cmd rfl (by simp [Value.oneCell']) ?_)
          refine bodyPost_ret (res_ct rfl _ _ _ 37 #[.string (strB []), .slice none 0 0, .slice none 0 0] (0, 0) _ (.int .i64 14) rfl (hrs H22) rfl Tryd.underlying37 rfl info_cmd) rfl ?_
          exact ⟨_, _, _, by rw [HRes.out], by rw [HRes.out]; exact CmdV.no _ _, below_row HB4.out (Nat.le_refl _)⟩
        | some z =>
          obtain rfl : y = z := hy z hnb
          have HNB := Lib.hid hnb
          obtain ⟨c0, c1, c2⟩ := cells_three H84.out
          have z1 := frozen_of_row _ _ 1 _ _ H84.out
          have hOA : Hid (∀ o, (w4.alloc o).ownsRow g8 48 1 (.slice q i c) i (ns.map encU)) := fun o => owns_keep HO4.out (al (Below.refl _ _) (Nat.le_refl _))
          have hszw := HB4.out.size
          clear hnb hy
          go_wp2_with (at_builtin; go_loud (refine wpList_append_own _ rfl _ _ 34 rfl g8 48 u0 (.int .u64 0) 1 8 Tryd.underlying34 hu hu0 hu1 hu2 rfl (by omega) _ i (ns.map encU) rfl (hOA.out _) ⟨w4.heap.size, 0, none⟩ 1 1 [encU y] rfl rfl (one_cellI rfl) ?c2 ?c3 ?c4 ?c5 ?_))
          case c2 => first | rfl | (intro y hy; simp at hy; subst hy; rfl)
          case c3 => unfold maxLen; omega
          case c4 => omega
          case c5 => have := lt_of_block H84.out; first | omega | (simp; omega)
          intro v' w' ho' hg' _
          obtain ⟨q', c', rfl⟩ := owns_shape ho'
          have H8' := grown_other (hOA.out _) hg' (hal H84.out) (by decide)
          have BG : Hid (Below g8 w4 w') := (al (Below.refl _ _) (Nat.le_of_lt (lt_of_block H84.out))).grown hg' (by have := lt_of_block H84.out; simp; omega) (fun rr hrr => (HO4.out.lt rr hrr).1)
          have HO5 : Hid (w'.ownsRow g8 48 1 (.slice q' (i + 1) c') (i + 1) ((ns ++ [y]).map encU)) := by
            show World.ownsRow _ _ _ _ _ _ _
            rw [List.map_append]; exact ho'
          have HNs5 := Lib.hid (numsP_step HNs.out HA.out HNB.out)
          obtain ⟨d0, d1, d2⟩ := cells_three H8'
          have z1 := frozen_of_row _ _ 1 _ _ H8'
          have HH8 := Lib.hid H8'
          clear ho' hg' c0 c1 c2 hOA HO4 HNs HA HNB H8'
          go_wp2
          have BF : Hid (Below g8 w4 (w'.setCell ⟨g8, 1, none⟩ (.slice q' (i + 1) c'))) := (BG.out).setCell (Nat.le_refl _) _
          go_roundw
          case rel => exact ⟨i + 1, q', c', ns ++ [y], HLT.out, by go_num, HNs5.out, ownsRow_setCell_other HO5.out (owns_block_ne HO5.out HH8.out (by decide)) _, hss HH8.out, (BF.out.block _ HGL.out.2.1).trans H54.out, (BF.out.block _ HGL.out.1).trans H24.out, fun j z hj => (BF.out.cell (p := ⟨gs, j, none⟩) HGL.out.2.2).trans (HR4.out j z hj), HB4.out.trans (BF.out.mono (by have := HGL.out; omega))⟩
          case measure => simp [intOf]; have := HLT.out; omega
      · obtain rfl : i = k := by omega
        have HRes : Hid (R = (0, ⟨x, ns, []⟩)) := by
          have := HR.out.trans (readP_plain HFS.out (by have := HN.out; have := HW.out; show _ = 1 + i + 0; omega) HNs.out rfl)
          rw [E0.out] at this
          exact this
        have H26 := H2.out
        obtain ⟨d0, d1, d2⟩ := cells_three H8.out
        obtain ⟨f0, f1, f2⟩ := cells_three H5.out
        clear hlt HNs
        go_wp2_with (refine wpList_store_row (o := ⟨none, .store 37 (.tmp 2) (.tmp 80), _, _, _, _⟩) rfl 37 (.tmp 2) (.tmp 80) rfl w.heap.size #[.string X, .slice q i c, .slice none 0 0] rfl rfl _ _ H26 info_cmd rfl (by simp [Value.oneCell']) ?_)
        refine bodyPost_ret (res_ct rfl _ _ _ 37 #[.string X, .slice q i c, .slice none 0 0] (0, 0) _ (.int .i64 0) rfl (hrs H26) rfl Tryd.underlying37 rfl info_cmd) rfl ?_
        refine ⟨_, _, _, by rw [HRes.out], ?_, below_row HBr.out (Nat.le_refl _)⟩
        rw [HRes.out]
        refine ⟨by rw [HXX.out], ⟨q, i, c, rfl, ?_⟩, none, 0, 0, rfl, Fresh.none _ _ _⟩
        exact owns_mono (owns_setRow HO.out H26 (by decide)) (Nat.le_of_lt HGL.out.1)
  · have hne : ((n : Int) != 1 + (k : Int)) = true := bne_iff_ne.2 (by omega)
    have HRes : Hid (R = (14, noCmd)) := HR.out.trans (readP_len HFS.out (by have := HN.out; show _ ≠ 1 + k + 0; omega))
    clear hw
    go_enter Tryd.func18, Tryd.ntmps18
    go_wp2_with fail
    refine Calls.mono (HSp.out _ (al (Below.refl _ _) (Nat.le_refl _))) ?_
    rintro e w1 ⟨gs, rfl, hgs, hr, hb⟩
    obtain ⟨hb1, k1, hs1⟩ := one_of hb
    have HB1 := Lib.hid hb1
    have hc0 := hr 0 x HX.out
    rw [← HXX.out] at hc0
    clear hr hb hb1
    go_wp2_with fail
    refine Calls.mono (HFd.out _) ?_
    rintro e w2 ⟨rfl, hb⟩
    have HB2 := Lib.hid (bl HB1.out hb HB1.out.size)
    have k2 := (hb.block _ (lt_of_block k1)).trans k1
    clear hb hc0 k1 HB1
    have K3 := hal (o := (.cells #[.string X, .int .i64 (k : Nat), .bool false] 69 (0, 0))) k2
    go_wp2_with (refine wpList_store_row (o := ⟨none, .store 37 (.tmp 2) (.tmp 36), _, _, _, _⟩) rfl 37 (.tmp 2) (.tmp 36) rfl w.heap.size #[.string (strB []), .slice none 0 0, .slice none 0 0] rfl rfl _ _ K3 info_cmd rfl (by simp [Value.oneCell']) ?_)
    refine bodyPost_ret (res_ct rfl _ _ _ 37 #[.string (strB []), .slice none 0 0, .slice none 0 0] (0, 0) _ (.int .i64 14) rfl (hrs K3) rfl Tryd.underlying37 rfl info_cmd) rfl ?_
    exact ⟨_, _, _, by rw [HRes.out], by rw [HRes.out]; exact CmdV.no _ _, below_row (al HB2.out HB2.out.size) (Nat.le_refl _)⟩
theorem read_any (l : List UInt8) (w : World) (hl : l.length ≤ 1000000) (hM : MaxI w) (hE : ErrI w) (hS : SynI w) : Calls Tryd.prog 18 #[.string (strB l)] w (RdR w (readP l)) := by
  cases hf : formsL.find? (isW ((splA 32 l).getD 0 [])) with
  | none => exact read_none l w hl hM hf
  | some f =>
    obtain ⟨x, k, b⟩ := f
    have hx := (readP_some hf).1
    subst hx
    cases b with
    | true => exact read_long l k w hl hM hE hS hf
    | false => exact read_short l k w hl hM hE hS hf
end Go.Proofs.YtccaiiigdfieoaaDoor
namespace Go.Proofs.YtccaiiigdfieoaaDoor
open Go.RowKit Go.By
/-- what a script says, or why not -/
def scriptL (s : List UInt8) : List Cmd × Nat × Int := if 65536 < s.length then ([], 0, 16) else scriptP s
/-- what Parse answers -/
def PrsR (T : TypeId) (w : World) (R : List Cmd × Nat × Int) (e : Ending) (w' : World) : Prop := ∃ q m c, e = .returned (.tuple #[.slice q m c, .int .i64 (R.2.1 : Nat), .int .i64 R.2.2]) ∧ CmdsF T w.heap.size w' (.slice q m c) m R.1 ∧ Below w.heap.size w w'
theorem PrsR.no {T : TypeId} {w w' : World} {R : List Cmd × Nat × Int} {n : Nat} {e : Int} (h : R = ([], n, e)) (hb : Below w.heap.size w w') : PrsR T w R (.returned (.tuple #[.slice none 0 0, .int .i64 (n : Nat), .int .i64 e])) w' := by
  subst h; exact ⟨none, 0, 0, rfl, CmdsF.nil _ _ _, hb⟩
theorem info_cmd3 : (Tryd.prog.info? 37).map (fun i => (i.zero, i.size, i.bytes)) = some (some (.agg #[.string ⟨#[]⟩, .slice none 0 0, .slice none 0 0]), 3, 64) := by kernel_rfl
theorem code_cases (s : List UInt8) : (readP s).1 = 0 ∨ ((readP s).1 == 0) = false ∧ ((readP s).1 != 0) = true := by
  by_cases h : (readP s).1 = 0
  · exact .inl h
  · exact .inr ⟨beq_eq_false_iff_ne.2 h, bne_iff_ne.2 h⟩
theorem cut_short {c : UInt8} {r : List UInt8} : (cutW c r).1.length ≤ r.length := by
  cases h : (cutW c r).2 with
  | none => rw [(cutW_none h).1]; exact Nat.le_refl _
  | some r' => obtain ⟨i, _, e2, _, _⟩ := cutW_some h; rw [← e2, List.length_take]; omega
set_option maxRecDepth 100000 in
set_option maxHeartbeats 8000000 in
theorem Parse_any (l : List UInt8) (w : World) (hl : l.length ≤ 1000000) (hM : MaxI w) (hE : ErrI w) (hS : SynI w) :
    Calls Tryd.prog 7 #[.string (strB l)] w (PrsR 37 w (scriptL l)) := by
  obtain ⟨i0, hi0, hz0, hz1, hz2⟩ := info_parts info_cmd3
  obtain ⟨n, hn⟩ : ∃ n, n = l.length := ⟨_, rfl⟩
  have hsz : (strB l).size = n := by rw [strB_size, hn]
  have HN := Lib.hid hn
  by_cases hbig : 65536 < n
  · have HR : Hid (scriptL l = ([], 0, 16)) := if_pos (by omega)
    rw [HR.out]
    have hb : (65536 : Int) < (n : Int) := by omega
    have hnb : n ≤ 1000000 := by omega
    generalize strB l = S at *
    clear hn hM hE hS hbig HR hl
    go_enter Tryd.func7, Tryd.ntmps7
    go_wp2
    go_ret3
    exact PrsR.no rfl (Below.refl _ _)
  have HR : Hid (scriptL l = scriptP l) := if_neg (by omega)
  rw [HR.out]
  obtain ⟨R, hR⟩ : ∃ R, R = scriptP l := ⟨_, rfl⟩
  rw [← hR]
  have HRD : Hid (∀ s W, s.length ≤ l.length → Below w.heap.size w W → Calls Tryd.prog 18 #[.string (strB s)] W (RdR W (readP s))) := fun s W hs hb => read_any s W (by omega) (hM.keep hb) (hE.keep hb) (hS.keep hb)
  have HCT : Hid (∀ s W, s.length ≤ l.length → Below w.heap.size w W → Calls Tryd.prog 17 #[.string (strB s), .string ⟨#[10]⟩] W _) := fun s W hs hb => Cut_any 10 s W (by omega) (hM.keep hb)
  have H0 : Hid (SrAt l R 1 l []) := by rw [hR]; exact SrAt.zero l
  have hb : ¬ (65536 : Int) < (n : Int) := by omega
  have hnb : n ≤ 65536 := by omega
  clear hn hM hE hS hbig HR hR hl
  go_enter Tryd.func7, Tryd.ntmps7
  go_wp2
  go_loopw [0, 5, 6, 7, 8, 9, 10, 11] (fun rv lv nv _ _ _ _ _ wr => ∃ (r : List UInt8) (acc : List Cmd) (k m c : Nat) (q : Option Addr), rv = .string (strB r) ∧ lv = .slice q m c ∧ nv = .int .i64 (k : Nat) ∧ k ≤ 65537 ∧ m ≤ 65536 ∧ Hid (SrAt l R k r acc) ∧ Hid (CmdsF 37 w.heap.size wr (.slice q m c) m acc) ∧ Hid (Below w.heap.size w wr)) (fun rv _ _ _ _ _ _ _ _ => match rv with | .string s => s.size | _ => 0)
  case atStart => exact ⟨l, [], 1, 0, 0, none, rfl, rfl, rfl, by omega, by omega, H0.out, CmdsF.nil _ _ _, Below.refl _ _⟩
  case round =>
    obtain ⟨r, acc, k, m, c, q, rfl, rfl, rfl, hk, hm, HA, HC, HB⟩ := hrel
    clear H0
    have hemp := txt_emp r
    by_cases hr : r = []
    · rw [decide_eq_true hr] at hemp
      have HRes : Hid (R = (acc, 0, 0)) := by have := HA.out; rw [hr] at this; exact this.done
      clear hr HA
      go_wp2
      go_ret3
      exact ⟨q, m, c, by rw [HRes.out]; rfl, by rw [HRes.out]; exact HC.out, HB.out⟩
    · rw [decide_eq_false hr] at hemp
      have hrl := HA.out.1
      have HCt := Lib.hid (HCT.out r wr hrl HB.out)
      have HLs : Hid (r.length ≤ l.length) := hrl
      have HRN := Lib.hid hr
      have HC0 := Lib.hid (code_cases (cutW 10 r).1)
      have HRd : Hid (∀ W, Below w.heap.size w W → Calls Tryd.prog 18 #[.string (strB (cutW 10 r).1)] W (RdR W (readP (cutW 10 r).1))) := fun W hb => HRD.out _ W (Nat.le_trans cut_short hrl) hb
      clear hr hrl
      go_wp2_with fail
      refine Calls.mono HCt.out ?_
      rintro e w1 ⟨rfl, hb1⟩
      have HB1 := Lib.hid (bl HB.out hb1 HB.out.size)
      have HC1 := Lib.hid (HC.out.keep hb1)
      clear hb1 HCt HB HC
      go_wp2_with fail
      refine Calls.mono (HRd.out w1 HB1.out) ?_
      rintro e w2 ⟨v1, v2, v3, rfl, hcv, hb2⟩
      obtain ⟨e1, ⟨q1, n1, c1, e2, o1⟩, q2, n2, c2, e3, f2⟩ := hcv
      have e1' : v1 = .string (strB (readP (cutW 10 r).1).2.word) := e1
      have e2' : v2 = .slice q1 n1 c1 := e2
      have e3' : v3 = .slice q2 n2 c2 := e3
      subst e1' e2' e3'
      have HB2 := Lib.hid (bl HB1.out hb2 HB1.out.size)
      have HC2 := Lib.hid (HC1.out.keep hb2)
      have HV2 : Hid (CmdV w1.heap.size w2 (.string (strB (readP (cutW 10 r).1).2.word), .slice q1 n1 c1, .slice q2 n2 c2) (readP (cutW 10 r).1).2) := ⟨rfl, ⟨q1, n1, c1, rfl, o1⟩, q2, n2, c2, rfl, f2⟩
      clear hb2 e1 e2 e3 o1 f2 HC1 HRd
      generalize hW : strB (readP (cutW 10 r).1).2.word = W0 at *
      have HW := Lib.hid hW
      clear hW
      rcases HC0.out with hz | ⟨hz1, hz2'⟩
      · have HZ := Lib.hid hz
        rw [hz]
        cases hct : (cutW 10 r).2 with
        | none =>
          have HRes : Hid (R = ([], k, 14)) := by
            have := HA.out.end_ HRN.out hct
            rw [if_pos hz] at this
            exact this
          simp only [Option.isSome_none]
          clear hct hz HA
          go_wp2
          go_ret3
          exact PrsR.no HRes.out (al HB2.out HB2.out.size)
        | some r' =>
          have HA2 := Lib.hid (HA.out.next HRN.out hct hz)
          have hln : r'.length < r.length := by have := cutW_len hct; omega
          have hk2 : Hid (k + 1 ≤ 65537 ∧ m + 1 ≤ 65536) := by
            have h1 := HA2.out.2.1; have h2 := HA2.out.2.2.1; have h3 := HC2.out.len; have h4 := HN.out
            simp at h1
            exact ⟨by omega, by omega⟩
          simp only [Option.isSome_some, Option.getD_some]
          obtain ⟨vs, ho, hvl, hcl, hvr⟩ := HC2.out
          have ba : Below w2.heap.size w2 (w2.alloc (.cells #[.string W0, .slice q1 n1 c1, .slice q2 n2 c2] 37 (0, 0))) := al (Below.refl _ _) (Nat.le_refl _)
          have hOA : Hid (∀ o, ((w2.alloc (.cells #[.string W0, .slice q1 n1 c1, .slice q2 n2 c2] 37 (0, 0))).alloc o).ownsRow w.heap.size 37 3 (.slice q m c) m (fl3 vs)) := fun o => owns_keep ho (al ba (by simp))
          have HVR : Hid (∀ o, ∀ (j : Nat) (u : Value × Value × Value), vs[j]? = some u → ∃ c, acc[j]? = some c ∧ CmdV w.heap.size ((w2.alloc (.cells #[.string W0, .slice q1 n1 c1, .slice q2 n2 c2] 37 (0, 0))).alloc o) u c) := fun o j u hj => by obtain ⟨c', hc', g⟩ := hvr j u hj; exact ⟨c', hc', g.keep (al ba (by simp))⟩
          have HVU : Hid (∀ o, CmdV w.heap.size ((w2.alloc (.cells #[.string W0, .slice q1 n1 c1, .slice q2 n2 c2] 37 (0, 0))).alloc o) (.string W0, .slice q1 n1 c1, .slice q2 n2 c2) (readP (cutW 10 r).1).2) := fun o => (HV2.out.keep (al ba (by simp))).mono HB1.out.size
          have HVL := Lib.hid (And.intro hvl hcl)
          have hszw := HB2.out.size
          have HLN := Lib.hid hln
          clear hct hz HA HC2 ho hvl hcl hvr ba hln HV2
          go_wp2_with (at_builtin; refine wpList_append_own _ rfl _ _ 23 rfl w.heap.size 37 i0 _ 3 64 Tryd.underlying23 hi0 hz0 hz1 hz2 rfl (by omega) _ m (fl3 vs) rfl (hOA.out _) ⟨w2.heap.size + 1, 0, none⟩ 1 1 [.string W0, .slice q1 n1 c1, .slice q2 n2 c2] rfl rfl ?c1 ?c2 ?c3 ?c4 ?c5 ?_)
          case c1 =>
            intro j' y hj'
            rw [Addr.add_lit, Nat.zero_add, cell_of_row _ _ j' _ _ _ (hnew (by simp))]
            match j' with
            | 0 => simpa using hj'
            | 1 => simpa using hj'
            | 2 => simpa using hj'
            | j' + 3 => simp at hj'
          case c2 => intro y hy; simp at hy; rcases hy with rfl | rfl | rfl <;> rfl
          case c3 => unfold maxLen; omega
          case c4 => omega
          case c5 => simp; omega
          intro v' w' ho' hg' _
          obtain ⟨q', c', rfl⟩ := owns_shape ho'
          have HC3 : Hid (CmdsF 37 w.heap.size w' (.slice q' (m + 1) c') (m + 1) (acc ++ [(readP (cutW 10 r).1).2])) := CmdsF.pushG (hOA.out _) hg' ho' HVL.out.1 HVL.out.2 (HVR.out _) (HVU.out _) (by decide) (by decide)
          have HB3 : Hid (Below w.heap.size w w') := (al (al HB2.out hszw) (by simp; omega)).grown hg' (by simp; omega) (fun rr hrr => ((hOA.out (.cells #[] 0 (0, 0))).lt rr hrr).1)
          have hk3 := hk2.out.1
          have hm3 := hk2.out.2
          clear ho' hg' hOA HVR HVU HVL hszw hk2
          go_wp2
          go_roundw
          case rel => exact ⟨r', _, k + 1, m + 1, c', q', rfl, rfl, by go_num, hk3, hm3, HA2.out, HC3.out, HB3.out⟩
          case measure => show (strB r').size < (strB r).size; rw [strB_size, strB_size]; exact HLN.out
      · have hct : (cutW 10 r).2 = none ∨ ∃ r', (cutW 10 r).2 = some r' := by cases (cutW 10 r).2 with
          | none => exact .inl rfl
          | some r' => exact .inr ⟨r', rfl⟩
        have HRes : Hid (R = ([], k, (readP (cutW 10 r).1).1)) := by
          rcases hct with h | ⟨r', h⟩
          · have := HA.out.end_ HRN.out h
            rw [if_neg (bne_iff_ne.1 hz2')] at this
            exact this
          · exact HA.out.bad HRN.out h (bne_iff_ne.1 hz2')
        generalize (readP (cutW 10 r).1).1 = code at *
        clear hct HA
        go_wp2
        go_ret3
        exact PrsR.no HRes.out (al HB2.out HB2.out.size)
end Go.Proofs.YtccaiiigdfieoaaDoor
namespace Go.By
open Go.RowKit
section
variable {P : Program}
theorem run_copy_rows (w : World) (dT sT ty elem : TypeId) (g o dLen dCap : Nat) (a : Addr) (sLen sCap sz : Nat) (cur : Array Value) (t : TypeId) (cs : List Value)
    (hu : P.underlying dT = some (.slice elem)) (hs : (P.info? elem).map (·.size) = some sz)
    (hg : w.heap[g]? = some (.cells cur t (0, 0))) (hn : cs.length = Nat.min sLen dLen * sz)
    (hsrc : ∀ j v, cs[j]? = some v → w.cell? (a.add j) = some v) (hfit : o + cs.length ≤ cur.size) (h1 : ∀ v ∈ cs, v.oneCell' = true) :
    (Builtin.copy_ #[dT, sT] ty #[.slice (some ⟨g, o, none⟩) dLen dCap, .slice (some a) sLen sCap]).run P w =
      .ok (goInt (Nat.min sLen dLen)) (w.setRow g (cur.toList.take o ++ cs ++ cur.toList.drop (o + cs.length)).toArray) := by
  have hl := run_loadCells_list (P := P) w a cs hsrc
  have hst := run_storeCells_at P g o t cs 0 cur w hg (by simpa using hfit) h1
  cases hq : P.info? elem with
  | none => simp [hq] at hs
  | some i =>
    have hi : i.size = sz := by simpa [hq] using hs
    simp [Builtin.copy_, run_underlying hu, Builtin.lenOf, Builtin.firstCells, sizeOf, typeInfo, hq, hi, ← hn, hl, hst]
theorem fl3_splice (A X C Y : List (Value × Value × Value)) (h : X.length = Y.length) :
    (fl3 (A ++ (X ++ C))).take (A.length * 3) ++ fl3 Y ++ (fl3 (A ++ (X ++ C))).drop (A.length * 3 + (fl3 Y).length) = fl3 (A ++ (Y ++ C)) := by
  have l1 : (fl3 A).length = A.length * 3 := fl3_length A
  have l2 : (fl3 Y).length = (fl3 X).length := by rw [fl3_length, fl3_length, h]
  rw [fl3_append, fl3_append, fl3_append, fl3_append, l2, ← l1, List.take_left', ← List.append_assoc (fl3 A), ← List.length_append, List.drop_left', List.append_assoc]
  · rfl
  · rfl
theorem wpList_copy_fl3 {w : World} {ops : Array Oper} {rest : List Oper} {o : Oper} {a : Act} {Q : Exit → Act → World → Prop} (hgd : o.guard = none) (d s : Operand) (dT sT : TypeId)
    (ho : o.op = .call { callee := .builtin .copy, args := #[d, s], argTypes := #[dT, sT] }) (elem : TypeId) (hu : P.underlying dT = some (.slice elem)) (hsz : (P.info? elem).map (·.size) = some 3)
    (g off dLen dCap sLen sCap : Nat) (ad : Addr) (A X C Y : List (Value × Value × Value)) (hoff : off = A.length * 3) (hd : a.eval d = .slice (some ⟨g, off, none⟩) dLen dCap) (hs : a.eval s = .slice (some ad) sLen sCap)
    (t : TypeId) (hg : w.heap[g]? = some (.cells (fl3 (A ++ (X ++ C))).toArray t (0, 0))) (hY : Y.length = Nat.min sLen dLen) (hX : X.length = Y.length)
    (hsrc : ∀ j v, (fl3 Y)[j]? = some v → w.cell? (ad.add j) = some v) (h1 : ∀ v ∈ fl3 Y, v.oneCell' = true)
    (h : wpList P ops Q rest (a.put o.dst (goInt Y.length)) (w.setRow g (fl3 (A ++ (Y ++ C))).toArray)) : wpList P ops Q (o :: rest) a w := by
  subst hoff
  refine wpList_plain hgd fun K hK => ?_
  have hrun := run_copy_rows (P := P) w dT sT o.type elem g (A.length * 3) dLen dCap ad sLen sCap 3 _ t (fl3 Y) hu hsz hg (by rw [fl3_length, hY]) hsrc (by
    simp only [fl3_length, List.length_append, List.size_toArray]; omega) h1
  have e := fl3_splice A X C Y hX
  simp only at hrun
  rw [e, ← hY] at hrun
  unfold Oper.wp
  simp [execOp, ho, resolve, invoke, builtin, hd, hs, hrun, Result.andThen]
  exact hK _ _ h
theorem step_copy_fl3 {ops : Array Oper} {o : Oper} {a : Act} {w : World} {K : Act → World → Prop} {Q : Exit → Act → World → Prop} {E : Prop} (hgd : o.guard = none) (d s : Operand) (dT sT : TypeId)
    (ho : o.op = .call { callee := .builtin .copy, args := #[d, s], argTypes := #[dT, sT] }) (elem : TypeId) (hu : P.underlying dT = some (.slice elem)) (hsz : (P.info? elem).map (·.size) = some 3)
    (g off dLen dCap sLen sCap : Nat) (ad : Addr) (A X C Y : List (Value × Value × Value)) (hoff : off = A.length * 3) (hd : a.eval d = .slice (some ⟨g, off, none⟩) dLen dCap) (hs : a.eval s = .slice (some ad) sLen sCap)
    (t : TypeId) (hg : w.heap[g]? = some (.cells (fl3 (A ++ (X ++ C))).toArray t (0, 0))) (hY : Y.length = Nat.min sLen dLen) (hX : X.length = Y.length)
    (hsrc : ∀ j v, (fl3 Y)[j]? = some v → w.cell? (ad.add j) = some v) (h1 : ∀ v ∈ fl3 Y, v.oneCell' = true)
    (h : K (a.put o.dst (goInt Y.length)) (w.setRow g (fl3 (A ++ (Y ++ C))).toArray)) :
    if Region.wanted o (yielded ops a.tmps) = true then Oper.wp P o a w K Q else E := by
  subst hoff
  have hw : Region.wanted o (yielded ops a.tmps) = true := by simp [Region.wanted, hgd]
  rw [if_pos hw]
  have hrun := run_copy_rows (P := P) w dT sT o.type elem g (A.length * 3) dLen dCap ad sLen sCap 3 _ t (fl3 Y) hu hsz hg (by rw [fl3_length, hY]) hsrc (by
    simp only [fl3_length, List.length_append, List.size_toArray]; omega) h1
  have e := fl3_splice A X C Y hX
  simp only at hrun
  rw [e, ← hY] at hrun
  unfold Oper.wp
  simp [execOp, ho, resolve, invoke, builtin, hd, hs, hrun, Result.andThen]
  exact h
end
theorem fl3_rep_at (u : Value × Value × Value) (n j : Nat) : (fl3 (List.replicate n u))[j]? = if j < n * 3 then some (if j % 3 = 0 then u.1 else if j % 3 = 1 then u.2.1 else u.2.2) else none := by
  by_cases h : j < n * 3
  · rw [if_pos h]
    obtain ⟨i, r, hi, hr, rfl⟩ : ∃ i r, i < n ∧ r < 3 ∧ j = i * 3 + r := ⟨j / 3, j % 3, by omega, by omega, by omega⟩
    have hu : (List.replicate n u)[i]? = some u := by rw [List.getElem?_replicate, if_pos hi]
    obtain ⟨f0, f1, f2⟩ := fl3_at hu
    have : r = 0 ∨ r = 1 ∨ r = 2 := by omega
    rcases this with rfl | rfl | rfl
    · rw [Nat.add_zero, f0, if_pos (by omega)]
    · rw [f1, if_neg (by omega), if_pos (by omega)]
    · rw [f2, if_neg (by omega), if_neg (by omega)]
  · rw [if_neg h, List.getElem?_eq_none (by rw [fl3_length, List.length_replicate]; omega)]
theorem made_fl3 (a b c : Value) (n : Nat) : madeCells #[a, b, c] (n * 3) = (fl3 (List.replicate n (a, b, c))).toArray := by
  apply Array.ext_getElem?
  intro j
  have e0 : (fl3 (List.replicate n (a, b, c))).toArray[j]? = (fl3 (List.replicate n (a, b, c)))[j]? := by simp
  rw [e0, fl3_rep_at]
  by_cases h : j < n * 3
  · rw [if_pos h]
    have hz : (#[a, b, c] : Array Value).size = 3 := rfl
    simp only [madeCells, hz, Array.getElem?_map, Array.getElem?_range, h, if_true, Option.map_some]
    congr 1
    have : j % 3 = 0 ∨ j % 3 = 1 ∨ j % 3 = 2 := by omega
    rcases this with e | e | e <;> rw [e] <;> rfl
  · rw [if_neg h]
    simp [madeCells, h]
end Go.By
namespace Go.Proofs.YtccaiiigdfieoaaDoor
open Go.RowKit Go.By
def zc : Value × Value × Value := (.string ⟨#[]⟩, .slice none 0 0, .slice none 0 0)
theorem rep_split (u : Value × Value × Value) {k m n : Nat} (h : k + m ≤ n) : List.replicate k u ++ (List.replicate m zc ++ List.replicate (n - k - m) zc) = List.replicate k u ++ List.replicate (n - k) zc := by
  rw [List.replicate_append_replicate]; congr 2; omega
theorem rep_join (u : Value × Value × Value) {k m n : Nat} (h : k + m ≤ n) : List.replicate k u ++ (List.replicate m u ++ List.replicate (n - k - m) zc) = List.replicate (k + m) u ++ List.replicate (n - (k + m)) zc := by
  rw [← List.append_assoc, List.replicate_append_replicate]; congr 2; omega
theorem size_cmd3 : (Tryd.prog.info? 37).map (·.size) = some 3 := by kernel_rfl
set_option maxRecDepth 100000 in
set_option maxHeartbeats 4000000 in
theorem Repeat_any (b o c : Nat) (u : Value × Value × Value) (n : Nat) (w : World) (h0 : w.cell? ⟨b, o, none⟩ = some u.1) (h1 : w.cell? ⟨b, o + 1, none⟩ = some u.2.1) (h2 : w.cell? ⟨b, o + 2, none⟩ = some u.2.2) (o1 : ∀ v ∈ [u.1, u.2.1, u.2.2], v.oneCell' = true) (hn : 1 ≤ n) (hn2 : n ≤ 1000000) :
    Calls Tryd.prog 14 #[.slice (some ⟨b, o, none⟩) 1 c, .int .i64 (n : Nat)] w fun e w' => ∃ g, e = .returned (.slice (some ⟨g, 0, none⟩) n n) ∧ w.heap.size ≤ g ∧ w'.heap[g]? = some (.cells (fl3 (List.replicate n u)).toArray 37 (0, 0)) ∧ Below w.heap.size w w' := by
  obtain ⟨i0, hi0, hz0, hz1, hz2⟩ := info_parts info_cmd3
  have hmk : ∀ W : World, (Instr.makeSlice 23 (.int .i64 (n : Int)) (.int .i64 (n : Int))).run Tryd.prog W = .ok (.slice (some ⟨W.heap.size, 0, none⟩) n n) (W.alloc (.cells (fl3 (List.replicate n zc)).toArray 37)) := fun W => by
    have := run_make (P := Tryd.prog) W 23 37 i0 _ Tryd.underlying23 hi0 hz0 .i64 .i64 (n : Int) (n : Int) (by omega) (Int.le_refl _) (by rw [hz2]; omega) (by omega)
    rw [hz1] at this
    simp only [Int.toNat_natCast] at this
    rw [this]
    congr 3
    exact made_fl3 _ _ _ n
  have hMul : ∀ W, Calls Tryd.prog 28 #[.int .u64 1, .int .u64 (n : Nat)] W fun e w' => e = .returned (.tuple #[.int .u64 0, .int .u64 (n : Nat)]) ∧ W = w' := fun W => by
    have := Tryd.bits_Mul 1 n (by omega) (by omega) W
    rw [show 1 * n / 18446744073709551616 = 0 by omega, show 1 * n % 18446744073709551616 = n by omega] at this
    exact this.mono fun e w' ⟨h1, h2⟩ => ⟨h1, h2.symm⟩
  have H0 := Lib.hid h0; have H1 := Lib.hid h1; have H2 := Lib.hid h2
  have HM := Lib.hid hMul
  obtain ⟨z, hz⟩ : ∃ Z, Z = (fl3 (List.replicate n zc)).toArray := ⟨_, rfl⟩
  rw [← hz] at hmk
  have HZ := Lib.hid hz
  clear h0 h1 h2 hMul hz
  go_enter Tryd.func14, Tryd.ntmps14
  go_wp2_with fail
  refine Calls.mono (HM.out _) ?_
  rintro e w1 ⟨rfl, rfl⟩
  have HG1 : Hid ((w.alloc (.cells z 37)).heap[w.heap.size]? = some (.cells (fl3 ([] ++ ([zc] ++ List.replicate (n - 1) zc))).toArray 37 (0, 0))) := by
    show _ = _
    rw [hnew rfl, HZ.out]
    congr 5
    show List.replicate n zc = List.replicate 1 zc ++ List.replicate (n - 1) zc
    rw [List.replicate_append_replicate]; congr 1; omega
  have HS1 : Hid (∀ j v, (fl3 [u])[j]? = some v → (w.alloc (.cells z 37)).cell? ((⟨b, o, none⟩ : Addr).add j) = some v) := fun j v hj => by
    have hb : Below w.heap.size w (w.alloc (.cells z 37)) := al (Below.refl _ _) (Nat.le_refl _)
    have key : ∀ {k : Nat} {x : Value}, w.cell? ⟨b, k, none⟩ = some x → (w.alloc (.cells z 37)).cell? ⟨b, k, none⟩ = some x := fun {k x} h => (hb.cell (p := ⟨b, k, none⟩) (lt_of_cell h)).trans h
    rw [Addr.add_lit]
    match j with
    | 0 => simp [fl3] at hj; subst hj; exact key H0.out
    | 1 => simp [fl3] at hj; subst hj; exact key H1.out
    | 2 => simp [fl3] at hj; subst hj; exact key H2.out
    | j + 3 => simp [fl3] at hj
  have HO : Hid (∀ v ∈ fl3 [u], v.oneCell' = true) := fun v hv => o1 v (by simpa [fl3] using hv)
  have hmin : Hid ([u].length = Nat.min 1 n) := (Nat.min_eq_left hn).symm
  have hl1 : Hid ([zc].length = [u].length) := rfl
  have hl0 : Hid (0 = ([] : List (Value × Value × Value)).length * 3) := rfl
  go_wp2_with (with_reducible refine wpList_copy_fl3 (o := ⟨some 33, _, _, _, _, _⟩) rfl (.tmp 31) (.tmp 32) 23 23 rfl 37 Tryd.underlying23 size_cmd3 w.heap.size 0 n n 1 c ⟨b, o, none⟩ [] [zc] (List.replicate (n - 1) zc) [u] hl0.out rfl rfl 37 HG1.out hmin.out hl1.out HS1.out HO.out ?_)
  have HG2 : Hid (((w.alloc (.cells z 37)).setRow w.heap.size (fl3 (u :: List.replicate (n - 1) zc)).toArray).heap[w.heap.size]? = some (.cells (fl3 (List.replicate 1 u ++ List.replicate (n - 1) zc)).toArray 37 (0, 0))) := hrs HG1.out
  have HB2 : Hid (Below w.heap.size w ((w.alloc (.cells z 37)).setRow w.heap.size (fl3 (u :: List.replicate (n - 1) zc)).toArray)) := below_setRow (al (Below.refl _ _) (Nat.le_refl _)) (Nat.le_refl _) _
  generalize (w.alloc (.cells z 37)).setRow w.heap.size (fl3 (u :: List.replicate (n - 1) zc)).toArray = w2 at *
  clear HG1 HS1 HZ hmk HM H0 H1 H2 hl0 hl1 hmin HO
  go_loopw [8] (fun kv wr => ∃ k : Nat, 1 ≤ k ∧ k ≤ n ∧ kv = .int .i64 (k : Nat) ∧ Hid (wr.heap[w.heap.size]? = some (.cells (fl3 (List.replicate k u ++ List.replicate (n - k) zc)).toArray 37 (0, 0))) ∧ Hid (Below w.heap.size w wr)) (fun kv _ => n - (intOf kv).toNat)
  case atStart => exact ⟨1, Nat.le_refl _, hn, rfl, HG2.out, HB2.out⟩
  case round =>
    obtain ⟨k, hk1, hk, rfl, HG, HB⟩ := hrel
    by_cases hlt : k < n
    · obtain ⟨m, hm⟩ : ∃ m, m = Nat.min k (n - k) := ⟨_, rfl⟩
      have hm1 : 1 ≤ m ∧ k + m ≤ n ∧ m ≤ k := by
        have h1 : m = min k (n - k) := hm
        omega
      obtain ⟨hm1, hm2, hm3⟩ := hm1
      have hlt' : (k : Int) < (n : Int) := by omega
      have HLT := Lib.hid hlt
      have hGd : Hid (wr.drew.heap[w.heap.size]? = some (.cells (fl3 (List.replicate k u ++ (List.replicate m zc ++ List.replicate (n - k - m) zc))).toArray 37 (0, 0))) := by
        show _ = _
        rw [rep_split u hm2]; exact HG.out
      have hl0 : Hid (k * 3 = (List.replicate k u).length * 3) := by show _ = _; rw [List.length_replicate]
      have hY : Hid ((List.replicate m u).length = Nat.min k (n - k)) := by show _ = _; rw [List.length_replicate]; exact hm
      have hX : Hid ((List.replicate m zc).length = (List.replicate m u).length) := by show _ = _; rw [List.length_replicate, List.length_replicate]
      have hS : Hid (∀ j v, (fl3 (List.replicate m u))[j]? = some v → wr.drew.cell? ((⟨w.heap.size, 0, none⟩ : Addr).add j) = some v) := fun j v hj => by
        have hjm : j < m * 3 := by have := (List.getElem?_eq_some_iff.1 hj).1; rw [fl3_length, List.length_replicate] at this; exact this
        show wr.cell? _ = _
        rw [Addr.add_lit, Nat.zero_add, cell_of_row _ _ j _ _ _ HG.out]
        rw [fl3_rep_at, if_pos hjm] at hj
        have e : (fl3 (List.replicate k u ++ List.replicate (n - k) zc)).toArray[j]? = (fl3 (List.replicate k u))[j]? := by
          rw [fl3_append, List.getElem?_toArray, List.getElem?_append_left (by rw [fl3_length, List.length_replicate]; omega)]
        rw [e, fl3_rep_at, if_pos (by omega)]; exact hj
      have hO : Hid (∀ v ∈ fl3 (List.replicate m u), v.oneCell' = true) := fun v hv => by
        obtain ⟨x, hx, hv2⟩ := List.mem_flatMap.1 hv
        obtain rfl := List.eq_of_mem_replicate hx
        exact o1 v hv2
      have hmn : (k : Int) + (m : Int) ≤ (n : Int) := by omega
      have HM3 := Lib.hid (And.intro hm1 hm2)
      clear hlt hm hm1 hm2 hm3
      go_wp2_with fail
      go_region_law (refine step_copy_fl3 rfl (.tmp 41) (.tmp 44) 23 23 rfl 37 Tryd.underlying23 size_cmd3 w.heap.size (k * 3) (n - k) (n - k) k n ⟨w.heap.size, 0, none⟩ (List.replicate k u) (List.replicate m zc) (List.replicate (n - k - m) zc) (List.replicate m u) hl0.out (by simp [Act.eval, Act.put]; omega) (by simp [Act.eval, Act.put]) 37 hGd.out hY.out hX.out hS.out hO.out ?_)
      have HG3 : Hid ((wr.drew.setRow w.heap.size (fl3 (List.replicate k u ++ (List.replicate m u ++ List.replicate (n - k - m) zc))).toArray).heap[w.heap.size]? = some (.cells (fl3 (List.replicate (k + m) u ++ List.replicate (n - (k + m)) zc)).toArray 37 (0, 0))) := by
        show _ = _
        rw [hrs hGd.out, rep_join u HM3.out.2]
      have HB3 : Hid (Below w.heap.size w (wr.drew.setRow w.heap.size (fl3 (List.replicate k u ++ (List.replicate m u ++ List.replicate (n - k - m) zc))).toArray)) := below_setRow HB.out.drew (Nat.le_refl _) _
      generalize wr.drew.setRow w.heap.size (fl3 (List.replicate k u ++ (List.replicate m u ++ List.replicate (n - k - m) zc))).toArray = w3 at *
      have hwr : IntKind.i64.wrap ((k : Int) + (m : Int)) = ((k + m : Nat) : Int) := by rw [IntKind.wrap_i64]; omega
      rw [hwr]
      go_wp2
      go_roundw
      case rel => exact ⟨k + m, by have := HM3.out; omega, HM3.out.2, rfl, HG3.out⟩
      case measure => simp [intOf]; have := HLT.out; have := HM3.out; omega
    · obtain rfl : k = n := by omega
      have e9 : List.replicate k u ++ List.replicate (k - k) zc = List.replicate k u := by simp
      have HF : Hid (wr.heap[w.heap.size]? = some (.cells (fl3 (List.replicate k u)).toArray 37 (0, 0))) := by
        show _ = _
        rw [HG.out, e9]
      clear hlt e9
      go_wp2
      go_ret
      exact ⟨_, rfl, Nat.le_refl _, HF.out, HB.out⟩
end Go.Proofs.YtccaiiigdfieoaaDoor
namespace Go.By
open Go.RowKit Go.Proofs.YtccaiiigdfieoaaDoor
end Go.By
namespace Go.Proofs.YtccaiiigdfieoaaDoor
open Go.RowKit Go.By
theorem conv_sl {W : World} {q : Option Addr} {n c : Nat} {xs : List UInt8} (h : Sl B8 W q n c xs) (h0 : 0 < n) : (convert 35 9 (.slice q n c)).run Tryd.prog W = .ok (.string (strB xs)) W := by
  obtain ⟨b, o, rfl, -⟩ := h.has h0
  have h1 := run_convert_bytes_back W 35 9 5 ⟨b, o, none⟩ c xs Tryd.underlying35 Tryd.underlying5 Tryd.underlying9 (fun t ht => by
    obtain ⟨b', o', e, hc⟩ := h.rs t ht
    cases e
    rw [Addr.add_lit, hc])
  rw [h.len] at h1
  exact h1
end Go.Proofs.YtccaiiigdfieoaaDoor
namespace Go.Proofs.YtccaiiigdfieoaaDoor
open Go.RowKit Go.By
/-- what Shape answers -/
def shapeV (x : List UInt8) : Value := match formS x with
  | some f => .tuple #[.int .i64 (f.1 : Nat), .bool f.2, .bool true]
  | none => .tuple #[.int .i64 0, .bool false, .bool false]
theorem txt_is (x c : List UInt8) : ((strB x).toList == c) = decide (x = c) := by
  have := txt_beq x c
  rwa [strB_toList c] at this
theorem shape_0 (w : World) : Calls Tryd.prog 13 #[.string (strB [98, 101, 103, 105, 110])] w fun e w' => e = .returned (.tuple #[.int .i64 2, .bool true, .bool true]) ∧ w = w' := by
  have f0 : ((strB [98, 101, 103, 105, 110]).toList == [98, 101, 103, 105, 110]) = true := by rw [txt_is]; decide
  generalize strB [98, 101, 103, 105, 110] = X at *
  go_enter Tryd.func13, Tryd.ntmps13
  go_wp2
  go_ret3
  exact ⟨rfl, rfl⟩
theorem shape_1 (w : World) : Calls Tryd.prog 13 #[.string (strB [114, 111, 119])] w fun e w' => e = .returned (.tuple #[.int .i64 0, .bool true, .bool true]) ∧ w = w' := by
  have f0 : ((strB [114, 111, 119]).toList == [98, 101, 103, 105, 110]) = false := by rw [txt_is]; decide
  have f1 : ((strB [114, 111, 119]).toList == [114, 111, 119]) = true := by rw [txt_is]; decide
  generalize strB [114, 111, 119] = X at *
  go_enter Tryd.func13, Tryd.ntmps13
  go_wp2
  go_ret3
  exact ⟨rfl, rfl⟩
theorem shape_2 (w : World) : Calls Tryd.prog 13 #[.string (strB [102, 111, 114, 103, 101])] w fun e w' => e = .returned (.tuple #[.int .i64 0, .bool true, .bool true]) ∧ w = w' := by
  have f0 : ((strB [102, 111, 114, 103, 101]).toList == [98, 101, 103, 105, 110]) = false := by rw [txt_is]; decide
  have f1 : ((strB [102, 111, 114, 103, 101]).toList == [114, 111, 119]) = false := by rw [txt_is]; decide
  have f2 : ((strB [102, 111, 114, 103, 101]).toList == [102, 111, 114, 103, 101]) = true := by rw [txt_is]; decide
  generalize strB [102, 111, 114, 103, 101] = X at *
  go_enter Tryd.func13, Tryd.ntmps13
  go_wp2
  go_ret3
  exact ⟨rfl, rfl⟩
theorem shape_3 (w : World) : Calls Tryd.prog 13 #[.string (strB [115, 97, 121])] w fun e w' => e = .returned (.tuple #[.int .i64 0, .bool true, .bool true]) ∧ w = w' := by
  have f0 : ((strB [115, 97, 121]).toList == [98, 101, 103, 105, 110]) = false := by rw [txt_is]; decide
  have f1 : ((strB [115, 97, 121]).toList == [114, 111, 119]) = false := by rw [txt_is]; decide
  have f2 : ((strB [115, 97, 121]).toList == [102, 111, 114, 103, 101]) = false := by rw [txt_is]; decide
  have f3 : ((strB [115, 97, 121]).toList == [115, 97, 121]) = true := by rw [txt_is]; decide
  generalize strB [115, 97, 121] = X at *
  go_enter Tryd.func13, Tryd.ntmps13
  go_wp2
  go_ret3
  exact ⟨rfl, rfl⟩
theorem shape_4 (w : World) : Calls Tryd.prog 13 #[.string (strB [115, 101, 101, 100])] w fun e w' => e = .returned (.tuple #[.int .i64 1, .bool false, .bool true]) ∧ w = w' := by
  have f0 : ((strB [115, 101, 101, 100]).toList == [98, 101, 103, 105, 110]) = false := by rw [txt_is]; decide
  have f1 : ((strB [115, 101, 101, 100]).toList == [114, 111, 119]) = false := by rw [txt_is]; decide
  have f2 : ((strB [115, 101, 101, 100]).toList == [102, 111, 114, 103, 101]) = false := by rw [txt_is]; decide
  have f3 : ((strB [115, 101, 101, 100]).toList == [115, 97, 121]) = false := by rw [txt_is]; decide
  have f4 : ((strB [115, 101, 101, 100]).toList == [115, 101, 101, 100]) = true := by rw [txt_is]; decide
  generalize strB [115, 101, 101, 100] = X at *
  go_enter Tryd.func13, Tryd.ntmps13
  go_wp2
  go_ret3
  exact ⟨rfl, rfl⟩
theorem shape_5 (w : World) : Calls Tryd.prog 13 #[.string (strB [115, 107, 105, 112])] w fun e w' => e = .returned (.tuple #[.int .i64 1, .bool false, .bool true]) ∧ w = w' := by
  have f0 : ((strB [115, 107, 105, 112]).toList == [98, 101, 103, 105, 110]) = false := by rw [txt_is]; decide
  have f1 : ((strB [115, 107, 105, 112]).toList == [114, 111, 119]) = false := by rw [txt_is]; decide
  have f2 : ((strB [115, 107, 105, 112]).toList == [102, 111, 114, 103, 101]) = false := by rw [txt_is]; decide
  have f3 : ((strB [115, 107, 105, 112]).toList == [115, 97, 121]) = false := by rw [txt_is]; decide
  have f4 : ((strB [115, 107, 105, 112]).toList == [115, 101, 101, 100]) = false := by rw [txt_is]; decide
  have f5 : ((strB [115, 107, 105, 112]).toList == [115, 107, 105, 112]) = true := by rw [txt_is]; decide
  generalize strB [115, 107, 105, 112] = X at *
  go_enter Tryd.func13, Tryd.ntmps13
  go_wp2
  go_ret3
  exact ⟨rfl, rfl⟩
theorem shape_6 (w : World) : Calls Tryd.prog 13 #[.string (strB [100, 114, 111, 112])] w fun e w' => e = .returned (.tuple #[.int .i64 1, .bool false, .bool true]) ∧ w = w' := by
  have f0 : ((strB [100, 114, 111, 112]).toList == [98, 101, 103, 105, 110]) = false := by rw [txt_is]; decide
  have f1 : ((strB [100, 114, 111, 112]).toList == [114, 111, 119]) = false := by rw [txt_is]; decide
  have f2 : ((strB [100, 114, 111, 112]).toList == [102, 111, 114, 103, 101]) = false := by rw [txt_is]; decide
  have f3 : ((strB [100, 114, 111, 112]).toList == [115, 97, 121]) = false := by rw [txt_is]; decide
  have f4 : ((strB [100, 114, 111, 112]).toList == [115, 101, 101, 100]) = false := by rw [txt_is]; decide
  have f5 : ((strB [100, 114, 111, 112]).toList == [115, 107, 105, 112]) = false := by rw [txt_is]; decide
  have f6 : ((strB [100, 114, 111, 112]).toList == [100, 114, 111, 112]) = true := by rw [txt_is]; decide
  generalize strB [100, 114, 111, 112] = X at *
  go_enter Tryd.func13, Tryd.ntmps13
  go_wp2
  go_ret3
  exact ⟨rfl, rfl⟩
theorem shape_7 (w : World) : Calls Tryd.prog 13 #[.string (strB [100, 111, 117, 98, 108, 101])] w fun e w' => e = .returned (.tuple #[.int .i64 1, .bool false, .bool true]) ∧ w = w' := by
  have f0 : ((strB [100, 111, 117, 98, 108, 101]).toList == [98, 101, 103, 105, 110]) = false := by rw [txt_is]; decide
  have f1 : ((strB [100, 111, 117, 98, 108, 101]).toList == [114, 111, 119]) = false := by rw [txt_is]; decide
  have f2 : ((strB [100, 111, 117, 98, 108, 101]).toList == [102, 111, 114, 103, 101]) = false := by rw [txt_is]; decide
  have f3 : ((strB [100, 111, 117, 98, 108, 101]).toList == [115, 97, 121]) = false := by rw [txt_is]; decide
  have f4 : ((strB [100, 111, 117, 98, 108, 101]).toList == [115, 101, 101, 100]) = false := by rw [txt_is]; decide
  have f5 : ((strB [100, 111, 117, 98, 108, 101]).toList == [115, 107, 105, 112]) = false := by rw [txt_is]; decide
  have f6 : ((strB [100, 111, 117, 98, 108, 101]).toList == [100, 114, 111, 112]) = false := by rw [txt_is]; decide
  have f7 : ((strB [100, 111, 117, 98, 108, 101]).toList == [100, 111, 117, 98, 108, 101]) = true := by rw [txt_is]; decide
  generalize strB [100, 111, 117, 98, 108, 101] = X at *
  go_enter Tryd.func13, Tryd.ntmps13
  go_wp2
  go_ret3
  exact ⟨rfl, rfl⟩
theorem shape_8 (w : World) : Calls Tryd.prog 13 #[.string (strB [97, 114, 114, 105, 118, 101])] w fun e w' => e = .returned (.tuple #[.int .i64 1, .bool false, .bool true]) ∧ w = w' := by
  have f0 : ((strB [97, 114, 114, 105, 118, 101]).toList == [98, 101, 103, 105, 110]) = false := by rw [txt_is]; decide
  have f1 : ((strB [97, 114, 114, 105, 118, 101]).toList == [114, 111, 119]) = false := by rw [txt_is]; decide
  have f2 : ((strB [97, 114, 114, 105, 118, 101]).toList == [102, 111, 114, 103, 101]) = false := by rw [txt_is]; decide
  have f3 : ((strB [97, 114, 114, 105, 118, 101]).toList == [115, 97, 121]) = false := by rw [txt_is]; decide
  have f4 : ((strB [97, 114, 114, 105, 118, 101]).toList == [115, 101, 101, 100]) = false := by rw [txt_is]; decide
  have f5 : ((strB [97, 114, 114, 105, 118, 101]).toList == [115, 107, 105, 112]) = false := by rw [txt_is]; decide
  have f6 : ((strB [97, 114, 114, 105, 118, 101]).toList == [100, 114, 111, 112]) = false := by rw [txt_is]; decide
  have f7 : ((strB [97, 114, 114, 105, 118, 101]).toList == [100, 111, 117, 98, 108, 101]) = false := by rw [txt_is]; decide
  have f8 : ((strB [97, 114, 114, 105, 118, 101]).toList == [97, 114, 114, 105, 118, 101]) = true := by rw [txt_is]; decide
  generalize strB [97, 114, 114, 105, 118, 101] = X at *
  go_enter Tryd.func13, Tryd.ntmps13
  go_wp2
  go_ret3
  exact ⟨rfl, rfl⟩
theorem shape_9 (w : World) : Calls Tryd.prog 13 #[.string (strB [104, 101, 97, 114])] w fun e w' => e = .returned (.tuple #[.int .i64 1, .bool false, .bool true]) ∧ w = w' := by
  have f0 : ((strB [104, 101, 97, 114]).toList == [98, 101, 103, 105, 110]) = false := by rw [txt_is]; decide
  have f1 : ((strB [104, 101, 97, 114]).toList == [114, 111, 119]) = false := by rw [txt_is]; decide
  have f2 : ((strB [104, 101, 97, 114]).toList == [102, 111, 114, 103, 101]) = false := by rw [txt_is]; decide
  have f3 : ((strB [104, 101, 97, 114]).toList == [115, 97, 121]) = false := by rw [txt_is]; decide
  have f4 : ((strB [104, 101, 97, 114]).toList == [115, 101, 101, 100]) = false := by rw [txt_is]; decide
  have f5 : ((strB [104, 101, 97, 114]).toList == [115, 107, 105, 112]) = false := by rw [txt_is]; decide
  have f6 : ((strB [104, 101, 97, 114]).toList == [100, 114, 111, 112]) = false := by rw [txt_is]; decide
  have f7 : ((strB [104, 101, 97, 114]).toList == [100, 111, 117, 98, 108, 101]) = false := by rw [txt_is]; decide
  have f8 : ((strB [104, 101, 97, 114]).toList == [97, 114, 114, 105, 118, 101]) = false := by rw [txt_is]; decide
  have f9 : ((strB [104, 101, 97, 114]).toList == [104, 101, 97, 114]) = true := by rw [txt_is]; decide
  generalize strB [104, 101, 97, 114] = X at *
  go_enter Tryd.func13, Tryd.ntmps13
  go_wp2
  go_ret3
  exact ⟨rfl, rfl⟩
theorem shape_10 (w : World) : Calls Tryd.prog 13 #[.string (strB [99, 111, 117, 110, 116])] w fun e w' => e = .returned (.tuple #[.int .i64 1, .bool false, .bool true]) ∧ w = w' := by
  have f0 : ((strB [99, 111, 117, 110, 116]).toList == [98, 101, 103, 105, 110]) = false := by rw [txt_is]; decide
  have f1 : ((strB [99, 111, 117, 110, 116]).toList == [114, 111, 119]) = false := by rw [txt_is]; decide
  have f2 : ((strB [99, 111, 117, 110, 116]).toList == [102, 111, 114, 103, 101]) = false := by rw [txt_is]; decide
  have f3 : ((strB [99, 111, 117, 110, 116]).toList == [115, 97, 121]) = false := by rw [txt_is]; decide
  have f4 : ((strB [99, 111, 117, 110, 116]).toList == [115, 101, 101, 100]) = false := by rw [txt_is]; decide
  have f5 : ((strB [99, 111, 117, 110, 116]).toList == [115, 107, 105, 112]) = false := by rw [txt_is]; decide
  have f6 : ((strB [99, 111, 117, 110, 116]).toList == [100, 114, 111, 112]) = false := by rw [txt_is]; decide
  have f7 : ((strB [99, 111, 117, 110, 116]).toList == [100, 111, 117, 98, 108, 101]) = false := by rw [txt_is]; decide
  have f8 : ((strB [99, 111, 117, 110, 116]).toList == [97, 114, 114, 105, 118, 101]) = false := by rw [txt_is]; decide
  have f9 : ((strB [99, 111, 117, 110, 116]).toList == [104, 101, 97, 114]) = false := by rw [txt_is]; decide
  have f10 : ((strB [99, 111, 117, 110, 116]).toList == [99, 111, 117, 110, 116]) = true := by rw [txt_is]; decide
  generalize strB [99, 111, 117, 110, 116] = X at *
  go_enter Tryd.func13, Tryd.ntmps13
  go_wp2
  go_ret3
  exact ⟨rfl, rfl⟩
theorem shape_11 (w : World) : Calls Tryd.prog 13 #[.string (strB [109, 111, 118, 101])] w fun e w' => e = .returned (.tuple #[.int .i64 2, .bool false, .bool true]) ∧ w = w' := by
  have f0 : ((strB [109, 111, 118, 101]).toList == [98, 101, 103, 105, 110]) = false := by rw [txt_is]; decide
  have f1 : ((strB [109, 111, 118, 101]).toList == [114, 111, 119]) = false := by rw [txt_is]; decide
  have f2 : ((strB [109, 111, 118, 101]).toList == [102, 111, 114, 103, 101]) = false := by rw [txt_is]; decide
  have f3 : ((strB [109, 111, 118, 101]).toList == [115, 97, 121]) = false := by rw [txt_is]; decide
  have f4 : ((strB [109, 111, 118, 101]).toList == [115, 101, 101, 100]) = false := by rw [txt_is]; decide
  have f5 : ((strB [109, 111, 118, 101]).toList == [115, 107, 105, 112]) = false := by rw [txt_is]; decide
  have f6 : ((strB [109, 111, 118, 101]).toList == [100, 114, 111, 112]) = false := by rw [txt_is]; decide
  have f7 : ((strB [109, 111, 118, 101]).toList == [100, 111, 117, 98, 108, 101]) = false := by rw [txt_is]; decide
  have f8 : ((strB [109, 111, 118, 101]).toList == [97, 114, 114, 105, 118, 101]) = false := by rw [txt_is]; decide
  have f9 : ((strB [109, 111, 118, 101]).toList == [104, 101, 97, 114]) = false := by rw [txt_is]; decide
  have f10 : ((strB [109, 111, 118, 101]).toList == [99, 111, 117, 110, 116]) = false := by rw [txt_is]; decide
  have f11 : ((strB [109, 111, 118, 101]).toList == [109, 111, 118, 101]) = true := by rw [txt_is]; decide
  generalize strB [109, 111, 118, 101] = X at *
  go_enter Tryd.func13, Tryd.ntmps13
  go_wp2
  go_ret3
  exact ⟨rfl, rfl⟩
theorem shape_12 (w : World) : Calls Tryd.prog 13 #[.string (strB [99, 117, 116])] w fun e w' => e = .returned (.tuple #[.int .i64 2, .bool false, .bool true]) ∧ w = w' := by
  have f0 : ((strB [99, 117, 116]).toList == [98, 101, 103, 105, 110]) = false := by rw [txt_is]; decide
  have f1 : ((strB [99, 117, 116]).toList == [114, 111, 119]) = false := by rw [txt_is]; decide
  have f2 : ((strB [99, 117, 116]).toList == [102, 111, 114, 103, 101]) = false := by rw [txt_is]; decide
  have f3 : ((strB [99, 117, 116]).toList == [115, 97, 121]) = false := by rw [txt_is]; decide
  have f4 : ((strB [99, 117, 116]).toList == [115, 101, 101, 100]) = false := by rw [txt_is]; decide
  have f5 : ((strB [99, 117, 116]).toList == [115, 107, 105, 112]) = false := by rw [txt_is]; decide
  have f6 : ((strB [99, 117, 116]).toList == [100, 114, 111, 112]) = false := by rw [txt_is]; decide
  have f7 : ((strB [99, 117, 116]).toList == [100, 111, 117, 98, 108, 101]) = false := by rw [txt_is]; decide
  have f8 : ((strB [99, 117, 116]).toList == [97, 114, 114, 105, 118, 101]) = false := by rw [txt_is]; decide
  have f9 : ((strB [99, 117, 116]).toList == [104, 101, 97, 114]) = false := by rw [txt_is]; decide
  have f10 : ((strB [99, 117, 116]).toList == [99, 111, 117, 110, 116]) = false := by rw [txt_is]; decide
  have f11 : ((strB [99, 117, 116]).toList == [109, 111, 118, 101]) = false := by rw [txt_is]; decide
  have f12 : ((strB [99, 117, 116]).toList == [99, 117, 116]) = true := by rw [txt_is]; decide
  generalize strB [99, 117, 116] = X at *
  go_enter Tryd.func13, Tryd.ntmps13
  go_wp2
  go_ret3
  exact ⟨rfl, rfl⟩
theorem shape_13 (w : World) : Calls Tryd.prog 13 #[.string (strB [109, 97, 115, 107])] w fun e w' => e = .returned (.tuple #[.int .i64 3, .bool false, .bool true]) ∧ w = w' := by
  have f0 : ((strB [109, 97, 115, 107]).toList == [98, 101, 103, 105, 110]) = false := by rw [txt_is]; decide
  have f1 : ((strB [109, 97, 115, 107]).toList == [114, 111, 119]) = false := by rw [txt_is]; decide
  have f2 : ((strB [109, 97, 115, 107]).toList == [102, 111, 114, 103, 101]) = false := by rw [txt_is]; decide
  have f3 : ((strB [109, 97, 115, 107]).toList == [115, 97, 121]) = false := by rw [txt_is]; decide
  have f4 : ((strB [109, 97, 115, 107]).toList == [115, 101, 101, 100]) = false := by rw [txt_is]; decide
  have f5 : ((strB [109, 97, 115, 107]).toList == [115, 107, 105, 112]) = false := by rw [txt_is]; decide
  have f6 : ((strB [109, 97, 115, 107]).toList == [100, 114, 111, 112]) = false := by rw [txt_is]; decide
  have f7 : ((strB [109, 97, 115, 107]).toList == [100, 111, 117, 98, 108, 101]) = false := by rw [txt_is]; decide
  have f8 : ((strB [109, 97, 115, 107]).toList == [97, 114, 114, 105, 118, 101]) = false := by rw [txt_is]; decide
  have f9 : ((strB [109, 97, 115, 107]).toList == [104, 101, 97, 114]) = false := by rw [txt_is]; decide
  have f10 : ((strB [109, 97, 115, 107]).toList == [99, 111, 117, 110, 116]) = false := by rw [txt_is]; decide
  have f11 : ((strB [109, 97, 115, 107]).toList == [109, 111, 118, 101]) = false := by rw [txt_is]; decide
  have f12 : ((strB [109, 97, 115, 107]).toList == [99, 117, 116]) = false := by rw [txt_is]; decide
  have f13 : ((strB [109, 97, 115, 107]).toList == [109, 97, 115, 107]) = true := by rw [txt_is]; decide
  generalize strB [109, 97, 115, 107] = X at *
  go_enter Tryd.func13, Tryd.ntmps13
  go_wp2
  go_ret3
  exact ⟨rfl, rfl⟩
theorem shape_14 (w : World) : Calls Tryd.prog 13 #[.string (strB [115, 116, 97, 116, 117, 115])] w fun e w' => e = .returned (.tuple #[.int .i64 0, .bool false, .bool true]) ∧ w = w' := by
  have f0 : ((strB [115, 116, 97, 116, 117, 115]).toList == [98, 101, 103, 105, 110]) = false := by rw [txt_is]; decide
  have f1 : ((strB [115, 116, 97, 116, 117, 115]).toList == [114, 111, 119]) = false := by rw [txt_is]; decide
  have f2 : ((strB [115, 116, 97, 116, 117, 115]).toList == [102, 111, 114, 103, 101]) = false := by rw [txt_is]; decide
  have f3 : ((strB [115, 116, 97, 116, 117, 115]).toList == [115, 97, 121]) = false := by rw [txt_is]; decide
  have f4 : ((strB [115, 116, 97, 116, 117, 115]).toList == [115, 101, 101, 100]) = false := by rw [txt_is]; decide
  have f5 : ((strB [115, 116, 97, 116, 117, 115]).toList == [115, 107, 105, 112]) = false := by rw [txt_is]; decide
  have f6 : ((strB [115, 116, 97, 116, 117, 115]).toList == [100, 114, 111, 112]) = false := by rw [txt_is]; decide
  have f7 : ((strB [115, 116, 97, 116, 117, 115]).toList == [100, 111, 117, 98, 108, 101]) = false := by rw [txt_is]; decide
  have f8 : ((strB [115, 116, 97, 116, 117, 115]).toList == [97, 114, 114, 105, 118, 101]) = false := by rw [txt_is]; decide
  have f9 : ((strB [115, 116, 97, 116, 117, 115]).toList == [104, 101, 97, 114]) = false := by rw [txt_is]; decide
  have f10 : ((strB [115, 116, 97, 116, 117, 115]).toList == [99, 111, 117, 110, 116]) = false := by rw [txt_is]; decide
  have f11 : ((strB [115, 116, 97, 116, 117, 115]).toList == [109, 111, 118, 101]) = false := by rw [txt_is]; decide
  have f12 : ((strB [115, 116, 97, 116, 117, 115]).toList == [99, 117, 116]) = false := by rw [txt_is]; decide
  have f13 : ((strB [115, 116, 97, 116, 117, 115]).toList == [109, 97, 115, 107]) = false := by rw [txt_is]; decide
  have f14 : ((strB [115, 116, 97, 116, 117, 115]).toList == [115, 116, 97, 116, 117, 115]) = true := by rw [txt_is]; decide
  generalize strB [115, 116, 97, 116, 117, 115] = X at *
  go_enter Tryd.func13, Tryd.ntmps13
  go_wp2
  go_ret3
  exact ⟨rfl, rfl⟩
theorem shape_15 (w : World) : Calls Tryd.prog 13 #[.string (strB [115, 104, 111, 119])] w fun e w' => e = .returned (.tuple #[.int .i64 0, .bool false, .bool true]) ∧ w = w' := by
  have f0 : ((strB [115, 104, 111, 119]).toList == [98, 101, 103, 105, 110]) = false := by rw [txt_is]; decide
  have f1 : ((strB [115, 104, 111, 119]).toList == [114, 111, 119]) = false := by rw [txt_is]; decide
  have f2 : ((strB [115, 104, 111, 119]).toList == [102, 111, 114, 103, 101]) = false := by rw [txt_is]; decide
  have f3 : ((strB [115, 104, 111, 119]).toList == [115, 97, 121]) = false := by rw [txt_is]; decide
  have f4 : ((strB [115, 104, 111, 119]).toList == [115, 101, 101, 100]) = false := by rw [txt_is]; decide
  have f5 : ((strB [115, 104, 111, 119]).toList == [115, 107, 105, 112]) = false := by rw [txt_is]; decide
  have f6 : ((strB [115, 104, 111, 119]).toList == [100, 114, 111, 112]) = false := by rw [txt_is]; decide
  have f7 : ((strB [115, 104, 111, 119]).toList == [100, 111, 117, 98, 108, 101]) = false := by rw [txt_is]; decide
  have f8 : ((strB [115, 104, 111, 119]).toList == [97, 114, 114, 105, 118, 101]) = false := by rw [txt_is]; decide
  have f9 : ((strB [115, 104, 111, 119]).toList == [104, 101, 97, 114]) = false := by rw [txt_is]; decide
  have f10 : ((strB [115, 104, 111, 119]).toList == [99, 111, 117, 110, 116]) = false := by rw [txt_is]; decide
  have f11 : ((strB [115, 104, 111, 119]).toList == [109, 111, 118, 101]) = false := by rw [txt_is]; decide
  have f12 : ((strB [115, 104, 111, 119]).toList == [99, 117, 116]) = false := by rw [txt_is]; decide
  have f13 : ((strB [115, 104, 111, 119]).toList == [109, 97, 115, 107]) = false := by rw [txt_is]; decide
  have f14 : ((strB [115, 104, 111, 119]).toList == [115, 116, 97, 116, 117, 115]) = false := by rw [txt_is]; decide
  have f15 : ((strB [115, 104, 111, 119]).toList == [115, 104, 111, 119]) = true := by rw [txt_is]; decide
  generalize strB [115, 104, 111, 119] = X at *
  go_enter Tryd.func13, Tryd.ntmps13
  go_wp2
  go_ret3
  exact ⟨rfl, rfl⟩
theorem shape_16 (w : World) : Calls Tryd.prog 13 #[.string (strB [109, 97, 112])] w fun e w' => e = .returned (.tuple #[.int .i64 0, .bool false, .bool true]) ∧ w = w' := by
  have f0 : ((strB [109, 97, 112]).toList == [98, 101, 103, 105, 110]) = false := by rw [txt_is]; decide
  have f1 : ((strB [109, 97, 112]).toList == [114, 111, 119]) = false := by rw [txt_is]; decide
  have f2 : ((strB [109, 97, 112]).toList == [102, 111, 114, 103, 101]) = false := by rw [txt_is]; decide
  have f3 : ((strB [109, 97, 112]).toList == [115, 97, 121]) = false := by rw [txt_is]; decide
  have f4 : ((strB [109, 97, 112]).toList == [115, 101, 101, 100]) = false := by rw [txt_is]; decide
  have f5 : ((strB [109, 97, 112]).toList == [115, 107, 105, 112]) = false := by rw [txt_is]; decide
  have f6 : ((strB [109, 97, 112]).toList == [100, 114, 111, 112]) = false := by rw [txt_is]; decide
  have f7 : ((strB [109, 97, 112]).toList == [100, 111, 117, 98, 108, 101]) = false := by rw [txt_is]; decide
  have f8 : ((strB [109, 97, 112]).toList == [97, 114, 114, 105, 118, 101]) = false := by rw [txt_is]; decide
  have f9 : ((strB [109, 97, 112]).toList == [104, 101, 97, 114]) = false := by rw [txt_is]; decide
  have f10 : ((strB [109, 97, 112]).toList == [99, 111, 117, 110, 116]) = false := by rw [txt_is]; decide
  have f11 : ((strB [109, 97, 112]).toList == [109, 111, 118, 101]) = false := by rw [txt_is]; decide
  have f12 : ((strB [109, 97, 112]).toList == [99, 117, 116]) = false := by rw [txt_is]; decide
  have f13 : ((strB [109, 97, 112]).toList == [109, 97, 115, 107]) = false := by rw [txt_is]; decide
  have f14 : ((strB [109, 97, 112]).toList == [115, 116, 97, 116, 117, 115]) = false := by rw [txt_is]; decide
  have f15 : ((strB [109, 97, 112]).toList == [115, 104, 111, 119]) = false := by rw [txt_is]; decide
  have f16 : ((strB [109, 97, 112]).toList == [109, 97, 112]) = true := by rw [txt_is]; decide
  generalize strB [109, 97, 112] = X at *
  go_enter Tryd.func13, Tryd.ntmps13
  go_wp2
  go_ret3
  exact ⟨rfl, rfl⟩
theorem shape_no (x : List UInt8) (h : formS x = none) (w : World) : Calls Tryd.prog 13 #[.string (strB x)] w fun e w' => e = .returned (.tuple #[.int .i64 0, .bool false, .bool false]) ∧ w = w' := by
  have hn : ∀ p ∈ formsL, x ≠ p.1 := fun p hp e => by
    unfold formS at h
    rw [Option.map_eq_none_iff, List.find?_eq_none] at h
    exact absurd (h p hp) (by simp [e])
  have f0 : ((strB x).toList == [98, 101, 103, 105, 110]) = false := by rw [txt_is]; exact decide_eq_false (hn ([98, 101, 103, 105, 110], 2, true) (by decide))
  have f1 : ((strB x).toList == [114, 111, 119]) = false := by rw [txt_is]; exact decide_eq_false (hn ([114, 111, 119], 0, true) (by decide))
  have f2 : ((strB x).toList == [102, 111, 114, 103, 101]) = false := by rw [txt_is]; exact decide_eq_false (hn ([102, 111, 114, 103, 101], 0, true) (by decide))
  have f3 : ((strB x).toList == [115, 97, 121]) = false := by rw [txt_is]; exact decide_eq_false (hn ([115, 97, 121], 0, true) (by decide))
  have f4 : ((strB x).toList == [115, 101, 101, 100]) = false := by rw [txt_is]; exact decide_eq_false (hn ([115, 101, 101, 100], 1, false) (by decide))
  have f5 : ((strB x).toList == [115, 107, 105, 112]) = false := by rw [txt_is]; exact decide_eq_false (hn ([115, 107, 105, 112], 1, false) (by decide))
  have f6 : ((strB x).toList == [100, 114, 111, 112]) = false := by rw [txt_is]; exact decide_eq_false (hn ([100, 114, 111, 112], 1, false) (by decide))
  have f7 : ((strB x).toList == [100, 111, 117, 98, 108, 101]) = false := by rw [txt_is]; exact decide_eq_false (hn ([100, 111, 117, 98, 108, 101], 1, false) (by decide))
  have f8 : ((strB x).toList == [97, 114, 114, 105, 118, 101]) = false := by rw [txt_is]; exact decide_eq_false (hn ([97, 114, 114, 105, 118, 101], 1, false) (by decide))
  have f9 : ((strB x).toList == [104, 101, 97, 114]) = false := by rw [txt_is]; exact decide_eq_false (hn ([104, 101, 97, 114], 1, false) (by decide))
  have f10 : ((strB x).toList == [99, 111, 117, 110, 116]) = false := by rw [txt_is]; exact decide_eq_false (hn ([99, 111, 117, 110, 116], 1, false) (by decide))
  have f11 : ((strB x).toList == [109, 111, 118, 101]) = false := by rw [txt_is]; exact decide_eq_false (hn ([109, 111, 118, 101], 2, false) (by decide))
  have f12 : ((strB x).toList == [99, 117, 116]) = false := by rw [txt_is]; exact decide_eq_false (hn ([99, 117, 116], 2, false) (by decide))
  have f13 : ((strB x).toList == [109, 97, 115, 107]) = false := by rw [txt_is]; exact decide_eq_false (hn ([109, 97, 115, 107], 3, false) (by decide))
  have f14 : ((strB x).toList == [115, 116, 97, 116, 117, 115]) = false := by rw [txt_is]; exact decide_eq_false (hn ([115, 116, 97, 116, 117, 115], 0, false) (by decide))
  have f15 : ((strB x).toList == [115, 104, 111, 119]) = false := by rw [txt_is]; exact decide_eq_false (hn ([115, 104, 111, 119], 0, false) (by decide))
  have f16 : ((strB x).toList == [109, 97, 112]) = false := by rw [txt_is]; exact decide_eq_false (hn ([109, 97, 112], 0, false) (by decide))
  generalize strB x = X at *
  clear hn h
  go_enter Tryd.func13, Tryd.ntmps13
  go_wp2
  go_ret3
  exact ⟨rfl, rfl⟩
theorem Shape_any (x : List UInt8) (w : World) : Calls Tryd.prog 13 #[.string (strB x)] w fun e w' => e = .returned (shapeV x) ∧ w = w' := by
  cases h : formS x with
  | none =>
    have e : shapeV x = .tuple #[.int .i64 0, .bool false, .bool false] := by unfold shapeV; rw [h]
    rw [e]; exact shape_no x h w
  | some f =>
    have e : shapeV x = .tuple #[.int .i64 (f.1 : Nat), .bool f.2, .bool true] := by unfold shapeV; rw [h]
    rw [e]
    have hm := formS_mem h
    obtain ⟨k, b⟩ := f
    simp only [formsL, List.mem_cons, Prod.mk.injEq, List.not_mem_nil, or_false] at hm
    rcases hm with ⟨rfl, rfl, rfl⟩ | ⟨rfl, rfl, rfl⟩ | ⟨rfl, rfl, rfl⟩ | ⟨rfl, rfl, rfl⟩ | ⟨rfl, rfl, rfl⟩ | ⟨rfl, rfl, rfl⟩ | ⟨rfl, rfl, rfl⟩ | ⟨rfl, rfl, rfl⟩ | ⟨rfl, rfl, rfl⟩ | ⟨rfl, rfl, rfl⟩ | ⟨rfl, rfl, rfl⟩ | ⟨rfl, rfl, rfl⟩ | ⟨rfl, rfl, rfl⟩ | ⟨rfl, rfl, rfl⟩ | ⟨rfl, rfl, rfl⟩ | ⟨rfl, rfl, rfl⟩ | ⟨rfl, rfl, rfl⟩
    · exact shape_0 w
    · exact shape_1 w
    · exact shape_2 w
    · exact shape_3 w
    · exact shape_4 w
    · exact shape_5 w
    · exact shape_6 w
    · exact shape_7 w
    · exact shape_8 w
    · exact shape_9 w
    · exact shape_10 w
    · exact shape_11 w
    · exact shape_12 w
    · exact shape_13 w
    · exact shape_14 w
    · exact shape_15 w
    · exact shape_16 w
end Go.Proofs.YtccaiiigdfieoaaDoor
namespace Go.Proofs.YtccaiiigdfieoaaDoor
open Go.RowKit Go.By
end Go.Proofs.YtccaiiigdfieoaaDoor
namespace Go.Proofs.YtccaiiigdfieoaaDoor
open Go.RowKit Go.By
end Go.Proofs.YtccaiiigdfieoaaDoor
namespace Go.By
open Go.RowKit Go.Proofs.YtccaiiigdfieoaaDoor
end Go.By
namespace Go.Proofs.YtccaiiigdfieoaaDoor
open Go.RowKit Go.By
theorem info_str : (Tryd.prog.info? 9).map (fun i => (i.zero, i.size, i.bytes)) = some (some (.string ⟨#[]⟩), 1, 16) := by kernel_rfl
end Go.Proofs.YtccaiiigdfieoaaDoor
namespace Go.Proofs.YtccaiiigdfieoaaDoor
open Go.RowKit Go.By
end Go.Proofs.YtccaiiigdfieoaaDoor
namespace Go.Proofs.YtccaiiigdfieoaaDoor
open Go.RowKit Go.By
end Go.Proofs.YtccaiiigdfieoaaDoor
namespace Go.Proofs.YtccaiiigdfieoaaDoor
open Go.RowKit Go.By
set_option maxRecDepth 100000 in
set_option maxHeartbeats 1000000 in
theorem EqU_d (p1 p2 : Option Addr) (n1 n2 c1 c2 : Nat) (xs : List Nat) (w : World) (h1 : Sl encU w p1 n1 c1 xs) (h2 : Sl encU w p2 n2 c2 xs) :
    Calls Tryd.prog 15 #[.slice p1 n1 c1, .slice p2 n2 c2] w fun e w' => e = .returned (.bool true) ∧ ∃ m, w' = w.drewN m := by
  obtain rfl : n1 = n2 := by rw [← h1.len, ← h2.len]
  have H1 := Lib.hid h1; have H2 := Lib.hid h2
  have hnb := h1.bound
  clear h1 h2
  go_enter Tryd.func15, Tryd.ntmps15
  go_wp2
  go_loopw [13] (fun iv wr => ∃ j q : Nat, j ≤ n1 ∧ iv = .int .i64 (j : Nat) ∧ wr = w.drewN q) (fun iv _ => n1 - (intOf iv).toNat)
  case atStart => exact ⟨0, 0, Nat.zero_le _, rfl, rfl⟩
  case round =>
    obtain ⟨j, q, hj, rfl, rfl⟩ := hrel
    by_cases hlt : j < n1
    · obtain ⟨b1, o1, x1, rfl, hc1, hx1⟩ := H1.out.at j hlt
      obtain ⟨b2, o2, x2, rfl, hc2, hx2⟩ := H2.out.at j hlt
      obtain rfl : x1 = x2 := by have := hx1.out; rw [hx2.out] at this; exact (Option.some.inj this).symm
      have hlt' : (j : Int) < (n1 : Int) := by omega
      have HLT := Lib.hid hlt
      unfold encU at hc1 hc2
      clear hlt hx1 hx2
      go_wp2
      go_quiet (fail)
      rw [World.drewN_drewN]
      go_wp2
      go_roundw
      case rel => exact ⟨j + 1, _, by have := HLT.out; omega, by go_num, rfl⟩
      case measure => simp [intOf]; have := HLT.out; omega
    · obtain rfl : j = n1 := by omega
      clear hlt
      go_wp2
      go_ret
      exact ⟨rfl, _, rfl⟩
theorem SameB_q (p1 p2 : Option Addr) (n1 n2 c1 c2 : Nat) (xs : List UInt8) (w : World) (h1 : Sl B8 w p1 n1 c1 xs) (h2 : Sl B8 w p2 n2 c2 xs) :
    Calls Tryd.prog 16 #[.slice p1 n1 c1, .slice p2 n2 c2] w fun e w' => e = .returned (.bool true) ∧ ∃ m, w' = w.drewN m :=
  (Same_d p1 p2 n1 n2 c1 c2 xs xs w h1 h2).mono fun e w' ⟨he, hq⟩ => ⟨by rw [he, decide_eq_true rfl], hq⟩
end Go.Proofs.YtccaiiigdfieoaaDoor
namespace Go.Proofs.YtccaiiigdfieoaaDoor
open Go.RowKit Go.By
def wbRen : Go.Shelf.Ren := ⟨fun | 166 => 21 | 167 => 38 | 240 => 37 | 276 => 50 | n => n, fun | 0 => 0 | 3 => 3 | 4 => 4 | 5 => 5 | 9 => 9 | 20 => 20 | 37 => 35 | 70 => 57 | 72 => 59 | 75 => 61 | 164 => 100 | 80 => 64 | n => n, fun n => n⟩
theorem wbLays166 : Go.Proofs.Lays.n166 Tryd.prog wbRen :=
  { mixed := by kernel_rfl
    f166 := Tryd.func21.trans (congrArg some (by kernel_rfl))
    f240 := Tryd.func37.trans (congrArg some (by kernel_rfl))
    f276 := Tryd.func50.trans (congrArg some (by kernel_rfl))
    t0 := Tryd.underlying0
    a0 := Tryd.isAgg0
    z0 := Tryd.sizeOf0
    v0 := Tryd.zeroValue0
    t3 := Tryd.underlying3
    a3 := Tryd.isAgg3
    z3 := Tryd.sizeOf3
    v3 := Tryd.zeroValue3
    t4 := Tryd.underlying4
    a4 := Tryd.isAgg4
    z4 := Tryd.sizeOf4
    v4 := Tryd.zeroValue4
    t9 := Tryd.underlying9
    a9 := Tryd.isAgg9
    z9 := Tryd.sizeOf9
    v9 := Tryd.zeroValue9
    t20 := Tryd.underlying20
    a20 := Tryd.isAgg20
    z20 := Tryd.sizeOf20
    v20 := Tryd.zeroValue20
    t37 := Tryd.underlying35
    a37 := Tryd.isAgg35
    z37 := Tryd.sizeOf35
    v37 := Tryd.zeroValue35
    t70 := Tryd.underlying57
    a70 := Tryd.isAgg57
    z70 := Tryd.sizeOf57
    v70 := Tryd.zeroValue57
    t72 := Tryd.underlying59
    a72 := Tryd.isAgg59
    z72 := Tryd.sizeOf59
    v72 := Tryd.zeroValue59
    t75 := Tryd.underlying61
    a75 := Tryd.isAgg61
    z75 := Tryd.sizeOf61
    v75 := Tryd.zeroValue61
    t164 := Tryd.underlying100
    a164 := Tryd.isAgg100
    z164 := Tryd.sizeOf100
    v164 := Tryd.zeroValue100 }
theorem wbLays167 : Go.Proofs.Lays.n167 Tryd.prog wbRen :=
  { mixed := by kernel_rfl
    f167 := Tryd.func38.trans (congrArg some (by kernel_rfl))
    f240 := Tryd.func37.trans (congrArg some (by kernel_rfl))
    f276 := Tryd.func50.trans (congrArg some (by kernel_rfl))
    t0 := Tryd.underlying0
    a0 := Tryd.isAgg0
    z0 := Tryd.sizeOf0
    v0 := Tryd.zeroValue0
    t4 := Tryd.underlying4
    a4 := Tryd.isAgg4
    z4 := Tryd.sizeOf4
    v4 := Tryd.zeroValue4
    t5 := Tryd.underlying5
    a5 := Tryd.isAgg5
    z5 := Tryd.sizeOf5
    v5 := Tryd.zeroValue5
    t9 := Tryd.underlying9
    a9 := Tryd.isAgg9
    z9 := Tryd.sizeOf9
    v9 := Tryd.zeroValue9
    t20 := Tryd.underlying20
    a20 := Tryd.isAgg20
    z20 := Tryd.sizeOf20
    v20 := Tryd.zeroValue20
    t37 := Tryd.underlying35
    a37 := Tryd.isAgg35
    z37 := Tryd.sizeOf35
    v37 := Tryd.zeroValue35
    t70 := Tryd.underlying57
    a70 := Tryd.isAgg57
    z70 := Tryd.sizeOf57
    v70 := Tryd.zeroValue57
    t72 := Tryd.underlying59
    a72 := Tryd.isAgg59
    z72 := Tryd.sizeOf59
    v72 := Tryd.zeroValue59
    t75 := Tryd.underlying61
    a75 := Tryd.isAgg61
    z75 := Tryd.sizeOf61
    v75 := Tryd.zeroValue61
    t164 := Tryd.underlying100
    a164 := Tryd.isAgg100
    z164 := Tryd.sizeOf100
    v164 := Tryd.zeroValue100 }
theorem wbExtra : Builder.Extra Tryd.prog wbRen := {
  sizeBuilder := by kernel_rfl
  liesBuilder := by kernel_rfl
  t5 := Tryd.underlying5
  a5 := Tryd.isAgg5
  z5 := Tryd.sizeOf5
  v5 := Tryd.zeroValue5
  infoByte := by kernel_rfl
  cellsByte := by kernel_rfl
  sizeByte := by kernel_rfl
  neB5 := by decide }
theorem WriteS_b (B b : Nat) (t s : List UInt8) (w : World) (h : Lib.IsBuilder 59 5 B b (Lib.byteCells t) w) (hlen : t.length + s.length ≤ 100000000) (hBw : B ≤ w.heap.size) :
    Calls Tryd.prog 21 #[.pointer (some ⟨b, 0, none⟩), .string (strB s)] w fun e w' => e = .returned (.tuple #[.int .i64 s.length, .nilIface]) ∧ Lib.BuilderAt 59 5 B b (.pointer (some ⟨b, 0, none⟩)) (Lib.byteCells (t ++ s)) w' ∧ Below B w w' := by
  have := Any.Builder_WriteString (ρ := wbRen) wbLays166 wbExtra B b (Lib.byteCells t) (strB s) w h (by rw [Lib.byteCells_length, strB_size]; omega) hBw
  refine Calls.mono this ?_
  rintro e w' ⟨rfl, h1, h2⟩
  rw [strB_cells, bytes_append] at h1
  rw [strB_size]
  exact ⟨rfl, h1, h2⟩
theorem WriteB_b (B b : Nat) (t : List UInt8) (x : UInt8) (w : World) (h : Lib.IsBuilder 59 5 B b (Lib.byteCells t) w) (hlen : t.length + 1 ≤ 100000000) (hBw : B ≤ w.heap.size) :
    Calls Tryd.prog 38 #[.pointer (some ⟨b, 0, none⟩), B8 x] w fun e w' => e = .returned .nilIface ∧ Lib.BuilderAt 59 5 B b (.pointer (some ⟨b, 0, none⟩)) (Lib.byteCells (t ++ [x])) w' ∧ Below B w w' := by
  have := Any.Builder_WriteByte (ρ := wbRen) wbLays167 wbExtra B b (Lib.byteCells t) x.toNat w h (by rw [Lib.byteCells_length]; omega) hBw
  refine Calls.mono this ?_
  rintro e w' ⟨rfl, h1, h2⟩
  refine ⟨rfl, ?_, h2⟩
  rw [← bytes_append]
  exact h1
theorem StringB_b (B b : Nat) (t : List UInt8) (w : World) (h : Lib.IsBuilder 59 5 B b (Lib.byteCells t) w) (hBw : B ≤ w.heap.size) :
    Calls Tryd.prog 24 #[.pointer (some ⟨b, 0, none⟩)] w fun e w' => e = .returned (.string (strB t)) ∧ Below B w w' := Tryd.Builder_String_any B b t w h hBw
theorem LenB_b (B b : Nat) (t : List UInt8) (w : World) (h : Lib.IsBuilder 59 5 B b (Lib.byteCells t) w) :
    Calls Tryd.prog 23 #[.pointer (some ⟨b, 0, none⟩)] w fun e w' => e = .returned (.int .i64 (t.length : Nat)) ∧ w = w' := Calls.mono (Tryd.Builder_Len B b (Lib.byteCells t) w h) fun e w' ⟨h1, h2⟩ => ⟨by rw [h1, Lib.byteCells_length], h2.symm⟩
end Go.Proofs.YtccaiiigdfieoaaDoor
namespace Go.Proofs.YtccaiiigdfieoaaDoor
open Go.RowKit Go.By
theorem find_formW (x : List UInt8) (W : World) : Calls Tryd.prog 31 #[.string (strB x)] W fun e w' => e = .returned (match formS x with
    | some f => .tuple #[.agg #[.string (strB x), .int .i64 (f.1 : Nat), .bool f.2], .bool true]
    | none => .tuple #[.agg #[.string (strB []), .int .i64 0, .bool false], .bool false]) ∧ Below W.heap.size W w' := by
  have h := find_any x W
  unfold findV at h
  unfold formS
  rw [show (formsL.find? fun f => decide (f.1 = x)) = formsL.find? (isW x) from rfl]
  cases hf : formsL.find? (isW x) with
  | none => rw [hf] at h; exact h
  | some f =>
    rw [hf] at h
    have h1 : f.1 = x := of_decide_eq_true (show isW x f = true from List.find?_some hf)
    simp only at h
    rw [h1] at h
    exact h
set_option maxRecDepth 100000 in
set_option maxHeartbeats 2000000 in
theorem check_any (c : Cmd) (q1 q2 : Option Addr) (n1 k1 n2 k2 : Nat) (w : World) (h1 : c.nums.length = n1) (h2 : c.bytes.length = n2) (b1 : n1 ≤ 9223372036854775807) (b2 : n2 ≤ 9223372036854775807) :
    Calls Tryd.prog 20 #[.agg #[.string (strB c.word), .slice q1 n1 k1, .slice q2 n2 k2]] w fun e w' => e = .returned (.int .i64 (checkP c)) ∧ Below w.heap.size w w' := by
  have HF := Lib.hid (find_formW c.word)
  obtain ⟨X, hX⟩ : ∃ X, X = strB c.word := ⟨_, rfl⟩
  rw [← hX] at HF ⊢
  obtain ⟨R, hR⟩ : ∃ R, R = checkP c := ⟨_, rfl⟩
  rw [← hR]
  unfold checkP at hR
  clear hX
  cases hf : formS c.word with
  | none =>
    rw [hf] at HF hR
    have HR := Lib.hid hR
    clear hR hf h1 h2
    go_enter Tryd.func20, Tryd.ntmps20
    go_wp2_with fail
    refine Calls.mono (HF.out _) ?_
    rintro e w1 ⟨rfl, hb⟩
    obtain ⟨hb1, kp, hs1⟩ := one_of hb
    have HB1 := Lib.hid hb1
    clear hb hb1
    go_wp2
    go_ret
    exact ⟨by rw [HR.out]; rfl, al HB1.out HB1.out.size⟩
  | some f =>
    obtain ⟨k, b⟩ := f
    rw [hf] at HF hR
    simp only at hR HF
    rw [h1] at hR
    have hkk : k ≤ 3 := (forms_plain _ (formS_mem hf)).2.1
    have hbe : (c.bytes ≠ []) ↔ 0 < n2 := by rw [← h2, List.length_pos_iff]
    have HR := Lib.hid hR
    clear hR hf h1 h2
    have cs : ((n1 : Int) != (k : Int)) = true ∧ R = 14 ∨ ((n1 : Int) != (k : Int)) = false ∧ ((b = false ∧ 0 < n2 ∧ R = 14) ∨ (b = false ∧ ¬ 0 < n2 ∧ R = 0) ∨ (b = true ∧ R = 0)) := by
      have hr := HR.out
      by_cases e : n1 = k
      · right
        refine ⟨by rw [bne_eq_false_iff_eq]; omega, ?_⟩
        cases b with
        | true => right; right; exact ⟨rfl, by rw [hr, if_neg (by simp [e])]⟩
        | false =>
          by_cases g : 0 < n2
          · left; exact ⟨rfl, g, by rw [hr, if_pos (.inr ⟨rfl, hbe.2 g⟩)]⟩
          · right; left; exact ⟨rfl, g, by rw [hr, if_neg (by rintro (h | ⟨_, h⟩); exact h e; exact g (hbe.1 h))]⟩
      · left; exact ⟨bne_iff_ne.2 (by omega), by rw [hr, if_pos (.inl e)]⟩
    clear HR hbe
    go_enter Tryd.func20, Tryd.ntmps20
    go_wp2_with fail
    refine Calls.mono (HF.out _) ?_
    rintro e w1 ⟨rfl, hb⟩
    obtain ⟨hb1, kp, hs1⟩ := one_of hb
    have HB1 := Lib.hid hb1
    obtain ⟨d0, d1, d2⟩ := cells_three kp
    have a1 : ∀ o', (w1.alloc o').cell? ⟨w.heap.size, 1, none⟩ = _ := fun _ => calloc d1
    have a2 : ∀ o', (w1.alloc o').cell? ⟨w.heap.size, 2, none⟩ = _ := fun _ => calloc d2
    clear hb hb1 d0 kp HF
    rcases cs with ⟨e1, rfl⟩ | ⟨e1, ⟨rfl, g, rfl⟩ | ⟨rfl, g, rfl⟩ | ⟨rfl, rfl⟩⟩
    · go_wp2
      go_ret
      exact ⟨rfl, al HB1.out HB1.out.size⟩
    · have g' : (0 : Int) < (n2 : Int) := by omega
      go_wp2
      go_ret
      exact ⟨rfl, al HB1.out HB1.out.size⟩
    · obtain rfl : n2 = 0 := by omega
      go_wp2
      go_ret
      exact ⟨rfl, al HB1.out HB1.out.size⟩
    · go_wp2
      go_ret
      exact ⟨rfl, al HB1.out HB1.out.size⟩
/-- a builder in block b that holds t -/
def BldI (w : World) (b : Nat) (t : List UInt8) : Prop := Lib.IsBuilder 59 5 b b (Lib.byteCells t) w
theorem BldI.keep {w w' : World} {b : Nat} {t : List UInt8} (h : BldI w b t) (hb : Below w.heap.size w w') : BldI w' b t := Or.imp (fun h => BuilderAt.keep h hb) (fun h => BuilderAt.keep h hb) h
theorem BldI.lt {w : World} {b : Nat} {t : List UInt8} (h : BldI w b t) : b < w.heap.size := h.elim (fun h => h.lt) (fun h => h.lt)
theorem BldI.new {w : World} {b : Nat} (h : w.heap[b]? = some (.cells #[.pointer none, .slice none 0 0] 59 (0, 0))) : BldI w b [] := Or.inl ⟨Nat.le_refl _, _, h, World.ownsRow_nil _ _ _ _, by simp [Value.ownBlock]⟩
theorem BldI.str {w : World} {b : Nat} {t : List UInt8} (h : BldI w b t) (s : List UInt8) (hl : t.length + s.length ≤ 100000000) : Calls Tryd.prog 21 #[.pointer (some ⟨b, 0, none⟩), .string (strB s)] w fun e w' => e = .returned (.tuple #[.int .i64 s.length, .nilIface]) ∧ BldI w' b (t ++ s) ∧ Below b w w' :=
  (WriteS_b b b t s w h hl (Nat.le_of_lt h.lt)).mono fun _ _ ⟨h1, h2, h3⟩ => ⟨h1, Or.inr h2, h3⟩
theorem BldI.byte {w : World} {b : Nat} {t : List UInt8} (h : BldI w b t) (x : UInt8) (hl : t.length + 1 ≤ 100000000) : Calls Tryd.prog 38 #[.pointer (some ⟨b, 0, none⟩), B8 x] w fun e w' => e = .returned .nilIface ∧ BldI w' b (t ++ [x]) ∧ Below b w w' :=
  (WriteB_b b b t x w h hl (Nat.le_of_lt h.lt)).mono fun _ _ ⟨h1, h2, h3⟩ => ⟨h1, Or.inr h2, h3⟩
theorem BldI.done {w : World} {b : Nat} {t : List UInt8} (h : BldI w b t) : Calls Tryd.prog 24 #[.pointer (some ⟨b, 0, none⟩)] w fun e w' => e = .returned (.string (strB t)) ∧ Below b w w' := StringB_b b b t w h (Nat.le_of_lt h.lt)
theorem BldI.len {w : World} {b : Nat} {t : List UInt8} (h : BldI w b t) : Calls Tryd.prog 23 #[.pointer (some ⟨b, 0, none⟩)] w fun e w' => e = .returned (.int .i64 (t.length : Nat)) ∧ w = w' := LenB_b b b t w h
theorem digits_at : ∀ y, y < 16 → digitsC.data.toList[y]? = some (dgt y) := by decide
theorem digits_run {y : Nat} (hy : y < 16) (z : Int) (hz : z = (y : Int)) (w : World) : (Instr.index 9 (.string ⟨#[48, 49, 50, 51, 52, 53, 54, 55, 56, 57, 97, 98, 99, 100, 101, 102]⟩) (.int .u8 z)).run Tryd.prog w = .ok (B8 (dgt y)) w :=
  txt_idx (l := digitsC.data.toList) _ Tryd.underlying9 (digits_at y hy) .u8 z hz w
theorem and15 (x : UInt8) : bits BinOp.and IntKind.u8 (x.toNat : Int) 15 = ((x.toNat % 16 : Nat) : Int) := by
  have h : ∀ n : Fin 256, bits BinOp.and IntKind.u8 (n.1 : Int) 15 = ((n.1 % 16 : Nat) : Int) := by decide +kernel
  exact h ⟨x.toNat, x.toNat_lt⟩
theorem hexL_step {l : List UInt8} {i : Nat} {x : UInt8} (h : l[i]? = some x) : hexL (l.take (i + 1)) = hexL (l.take i) ++ [dgt (x.toNat / 16)] ++ [dgt (x.toNat % 16)] := by
  unfold hexL
  rw [List.take_add_one, h, List.flatMap_append]; simp
theorem hexL_len2 (xs : List UInt8) : (hexL xs).length = 2 * xs.length := by
  unfold hexL
  induction xs with
  | nil => rfl
  | cons x l ih => rw [List.flatMap_cons, List.length_append, ih, List.length_cons]; simp; omega
theorem nums_step {W : List UInt8} {l : List Nat} {i x : Nat} (h : l[i]? = some x) : joinW (W :: (l.take (i + 1)).map Lib.decDigits) = joinW (W :: (l.take i).map Lib.decDigits) ++ [32] ++ Lib.decDigits x := by
  rw [List.take_add_one, h, List.map_append, ← List.cons_append, Option.toList_some, List.map_cons, List.map_nil, joinW_snoc _ (by simp)]; simp
theorem nums_len {W : List UInt8} : ∀ {l : List Nat}, (∀ x ∈ l, x < 18446744073709551616) → (joinW (W :: l.map Lib.decDigits)).length ≤ W.length + 21 * l.length := fun {l} h => by
  have key : ∀ n, (joinW (W :: (l.take n).map Lib.decDigits)).length ≤ W.length + 21 * n := fun n => by
    induction n with
    | zero => simp [joinW]
    | succ n ih =>
      cases hx : l[n]? with
      | none =>
        have hl : l.length ≤ n := List.getElem?_eq_none_iff.1 hx
        rw [List.take_of_length_le (by omega)] at ih ⊢
        omega
      | some x =>
        rw [nums_step hx, List.length_append, List.length_append]
        have h2 : (Lib.decDigits x).length ≤ 20 := by rw [Lib.decDigits_length]; exact Lib.nDigits_le20 x (h x (List.mem_of_getElem? hx))
        have h1 : ([32] : List UInt8).length = 1 := rfl
        omega
  have := key l.length
  rwa [List.take_length] at this
end Go.Proofs.YtccaiiigdfieoaaDoor
namespace Go.Proofs.YtccaiiigdfieoaaDoor
open Go.RowKit Go.By
theorem lineP_long {c : Cmd} {k : Nat} (hf : formS c.word = some (k, true)) : lineP c = joinW (c.word :: c.nums.map Lib.decDigits) ++ [32] ++ bytesW c.bytes ++ [10] := by
  unfold lineP bodyP wordsP
  rw [hf]
  simp only
  rw [← List.cons_append, joinW_snoc _ (by simp)]; simp
theorem lineP_short {c : Cmd} {k : Nat} (hf : formS c.word = some (k, false)) : lineP c = joinW (c.word :: c.nums.map Lib.decDigits) ++ [10] := by
  unfold lineP bodyP wordsP
  rw [hf]
  simp
theorem lineP_len {c : Cmd} (h : GoodC c) : (lineP c).length ≤ 200 + 2 * c.bytes.length := by
  have hn : ∀ x ∈ c.nums, x < 18446744073709551616 := fun x hx => Nat.lt_succ_of_le (h.2 x hx)
  have h1 := nums_len (W := c.word) hn
  have hc := h.1
  unfold checkP at hc
  cases hf : formS c.word with
  | none => rw [hf] at hc; cases hc
  | some f =>
    obtain ⟨k, b⟩ := f
    rw [hf] at hc
    obtain ⟨_, hk3, hw, _⟩ := forms_plain _ (formS_mem hf)
    have hk : c.nums.length = k := Classical.byContradiction fun e => by simp only at hc; rw [if_pos (.inl e)] at hc; cases hc
    have hk3' : k ≤ 3 := hk3
    have hw' : c.word.length ≤ 7 := hw
    have h10 : ([10] : List UInt8).length = 1 := rfl
    have h32 : ([32] : List UInt8).length = 1 := rfl
    cases b with
    | true =>
      rw [lineP_long hf]
      simp only [List.length_append]
      have hb : (bytesW c.bytes).length ≤ 2 * c.bytes.length + 1 := by
        unfold bytesW
        split
        · simp
        · rw [hexL_len2]; omega
      omega
    | false =>
      rw [lineP_short hf, List.length_append]
      omega
set_option maxRecDepth 100000 in
set_option maxHeartbeats 8000000 in
theorem line_any (c : Cmd) (q1 q2 : Option Addr) (n1 k1 n2 k2 : Nat) (w : World) (hg : GoodC c) (h1 : Sl encU w q1 n1 k1 c.nums) (h2 : Sl B8 w q2 n2 k2 c.bytes) (hl : n2 ≤ 1000000) (hT : Tab10 w) :
    Calls Tryd.prog 22 #[.agg #[.string (strB c.word), .slice q1 n1 k1, .slice q2 n2 k2]] w fun e w' => e = .returned (.string (strB (lineP c))) ∧ Below w.heap.size w w' := by
  have hn : ∀ x ∈ c.nums, x < 18446744073709551616 := fun x hx => Nat.lt_succ_of_le (hg.2 x hx)
  have hnl := nums_len (W := c.word) hn
  have hc := hg.1
  unfold checkP at hc
  obtain ⟨k, b, hf⟩ : ∃ k b, formS c.word = some (k, b) := by
    cases hf : formS c.word with
    | none => rw [hf] at hc; cases hc
    | some f => exact ⟨f.1, f.2, rfl⟩
  rw [hf] at hc
  obtain ⟨_, hk3, hw, _⟩ := forms_plain _ (formS_mem hf)
  have hk : c.nums.length = k := Classical.byContradiction fun e => by simp only at hc; rw [if_pos (.inl e)] at hc; cases hc
  have hk3' : k ≤ 3 := hk3
  have hw' : c.word.length ≤ 7 := hw
  have hn1 : n1 ≤ 3 := by rw [← h1.len]; omega
  have HFd : Hid (∀ W, Calls Tryd.prog 31 #[.string (strB c.word)] W fun e w' => e = .returned (.tuple #[.agg #[.string (strB c.word), .int .i64 (k : Nat), .bool b], .bool true]) ∧ Below W.heap.size W w') := fun W => by
    have := find_formW c.word W
    rw [hf] at this
    exact this
  have HLong : Hid (b = true → lineP c = joinW (c.word :: c.nums.map Lib.decDigits) ++ [32] ++ bytesW c.bytes ++ [10]) := fun e => by subst e; exact lineP_long hf
  have HShort : Hid (b = false → lineP c = joinW (c.word :: c.nums.map Lib.decDigits) ++ [10]) := fun e => by subst e; exact lineP_short hf
  have HFU : Hid (∀ (x : Nat) W, x < 18446744073709551616 → Below w.heap.size w W → Calls Tryd.prog 39 #[.int .u64 (x : Nat), .int .i64 10] W fun e w' => e = .returned (.string (strB (Lib.decDigits x))) ∧ Below W.heap.size W w') := fun x W hx hb => FormatUint_10 x hx W (hT.keep hb)
  have HN := Lib.hid hn
  have HNL : Hid (∀ i, (joinW (c.word :: (c.nums.take i).map Lib.decDigits)).length ≤ 1000) := fun i => by
    have := nums_len (W := c.word) (l := c.nums.take i) (fun x hx => hn x (List.mem_of_mem_take hx))
    have h3 : (c.nums.take i).length ≤ 3 := by rw [List.length_take]; omega
    omega
  have H1 := Lib.hid h1
  have H2 := Lib.hid h2
  obtain ⟨R, hR⟩ : ∃ R, R = lineP c := ⟨_, rfl⟩
  rw [← hR]
  have HR := Lib.hid hR
  obtain ⟨X, hX⟩ : ∃ X, X = strB c.word := ⟨_, rfl⟩
  have HX := Lib.hid hX
  rw [← hX] at HFd ⊢
  clear hn hnl hc hf hk3 hw hk hk3' hw' h1 h2 hT hg hX hR
  go_enter Tryd.func22, Tryd.ntmps22
  go_wp2_with fail
  have t0 : ((w.alloc (.cells #[.string X, .slice q1 n1 k1, .slice q2 n2 k2] 37 (0, 0))).alloc (.cells #[.pointer none, .slice none 0 0] 59 (0, 0))).heap[w.heap.size]? = some (.cells #[.string X, .slice q1 n1 k1, .slice q2 n2 k2] 37 (0, 0)) := hal (hnew rfl)
  have t1 : BldI ((w.alloc (.cells #[.string X, .slice q1 n1 k1, .slice q2 n2 k2] 37 (0, 0))).alloc (.cells #[.pointer none, .slice none 0 0] 59 (0, 0))) (w.heap.size + 1) [] := BldI.new (hnew (by simp))
  have BW : Hid (Below w.heap.size w ((w.alloc (.cells #[.string X, .slice q1 n1 k1, .slice q2 n2 k2] 37 (0, 0))).alloc (.cells #[.pointer none, .slice none 0 0] 59 (0, 0)))) := al (al (Below.refl _ _) (Nat.le_refl _)) (by simp)
  generalize (w.alloc (.cells #[.string X, .slice q1 n1 k1, .slice q2 n2 k2] 37 (0, 0))).alloc (.cells #[.pointer none, .slice none 0 0] 59 (0, 0)) = w1 at *
  obtain ⟨g, hg⟩ : ∃ g, g = w.heap.size + 1 := ⟨_, rfl⟩
  rw [← hg] at t1 ⊢
  have hgw : w.heap.size < g := by omega
  have HGW := Lib.hid hgw
  have H1g : Hid (∀ W, Below g w1 W → Sl encU W q1 n1 k1 c.nums) := fun W hb => H1.out.keep (BW.out.trans (hb.mono (Nat.le_of_lt hgw)))
  have H2g : Hid (∀ W, Below g w1 W → Sl B8 W q2 n2 k2 c.bytes) := fun W hb => H2.out.keep (BW.out.trans (hb.mono (Nat.le_of_lt hgw)))
  have HFg : Hid (∀ (x : Nat) W, x < 18446744073709551616 → Below g w1 W → Calls Tryd.prog 39 #[.int .u64 (x : Nat), .int .i64 10] W fun e w' => e = .returned (.string (strB (Lib.decDigits x))) ∧ Below W.heap.size W w') := fun x W hx hb => HFU.out x W hx (BW.out.trans (hb.mono (Nat.le_of_lt hgw)))
  have T0 := Lib.hid t0
  have hs := Lib.hid (t1.str c.word (by have := HNL.out 0; simp [joinW] at this ⊢; omega))
  rw [← HX.out] at hs
  clear t0 t1 hg hgw H1 H2 HFU
  refine Calls.mono hs.out ?_
  rintro e w2 ⟨rfl, hb2, hw2⟩
  have HB2 := Lib.hid hb2
  have HW2 := Lib.hid hw2
  have T2 := Lib.hid ((hw2.block _ HGW.out).trans T0.out)
  obtain ⟨d0, d1, d2⟩ := cells_three T2.out
  clear hb2 hw2 T0 hs
  go_wp2
  go_loopw [16, 5] (fun iv _ wr => ∃ i, i ≤ n1 ∧ iv = .int .i64 (i : Nat) ∧ Hid (BldI wr g (joinW (c.word :: (c.nums.take i).map Lib.decDigits))) ∧ Hid (Below g w1 wr)) (fun iv _ _ => n1 - (intOf iv).toNat)
  case atStart => exact ⟨0, Nat.zero_le _, rfl, HB2.out, HW2.out⟩
  case round =>
    obtain ⟨i, hi, rfl, HBd, HWr⟩ := hrel
    clear d0 d1 d2
    by_cases hlt : i < n1
    · obtain ⟨bb, oo, x, rfl, hc1, hx1⟩ := (H1g.out wr HWr.out).at i hlt
      unfold encU at hc1
      have hlt' : (i : Int) < (n1 : Int) := by omega
      have HLT := Lib.hid hlt
      have HXN := Lib.hid (HN.out x (List.mem_of_getElem? hx1.out))
      have HST := Lib.hid (nums_step (W := c.word) hx1.out)
      clear hlt hx1
      go_wp2_with fail
      refine Calls.mono (HBd.out.byte 32 (by have := HNL.out i; omega)) ?_
      rintro e w3 ⟨rfl, hb3, hw3⟩
      have HB3 := Lib.hid hb3
      have HW3 := Lib.hid (HWr.out.trans hw3)
      clear hb3 hw3 HBd HWr hc1
      go_wp2_with fail
      refine Calls.mono (HFg.out x w3 HXN.out HW3.out) ?_
      rintro e w4 ⟨rfl, hb⟩
      have HB4 := Lib.hid (HB3.out.keep hb)
      have HW4 := Lib.hid (HW3.out.trans (hb.mono (Nat.le_of_lt HB3.out.lt)))
      clear hb HB3 HW3
      go_wp2_with fail
      refine Calls.mono (HB4.out.str (Lib.decDigits x) (by have := HNL.out i; have h2 : (Lib.decDigits x).length ≤ 20 := by { rw [Lib.decDigits_length]; exact Lib.nDigits_le20 x HXN.out }; have h1 : ([32] : List UInt8).length = 1 := rfl; rw [List.length_append]; omega)) ?_
      rintro e w5 ⟨rfl, hb5, hw5⟩
      have HB5 : Hid (BldI w5 g (joinW (c.word :: (c.nums.take (i + 1)).map Lib.decDigits))) := by show BldI _ _ _; rw [HST.out]; exact hb5
      have HW5 := Lib.hid (HW4.out.trans hw5)
      clear hb5 hw5 HB4 HW4
      go_wp2
      go_roundw
      case rel => exact ⟨i + 1, HLT.out, by go_num, HB5.out, HW5.out⟩
      case measure => simp [intOf]; have := HLT.out; omega
    · obtain rfl : i = n1 := by omega
      have HBn : Hid (BldI wr g (joinW (c.word :: c.nums.map Lib.decDigits))) := by
        have h9 : c.nums.length = i := (H1g.out wr HWr.out).len
        have := HBd.out
        rw [List.take_of_length_le (by omega)] at this
        exact this
      have Tr := Lib.hid ((HWr.out.block _ HGW.out).trans ((HW2.out.block _ HGW.out).symm.trans T2.out))
      obtain ⟨d0, d1, d2⟩ := cells_three Tr.out
      have HNLn := HNL.out i
      have HNLa : Hid ((joinW (c.word :: c.nums.map Lib.decDigits)).length ≤ 1000) := by
        have h9 : c.nums.length = i := (H1g.out wr HWr.out).len
        have := HNL.out i
        rw [List.take_of_length_le (by omega)] at this
        exact this
      clear hlt HBd HNLn T2 HB2 HW2
      go_wp2_with fail
      refine Calls.mono (HFd.out wr) ?_
      rintro e w3 ⟨rfl, hb⟩
      have HB3 := Lib.hid (HBn.out.keep hb)
      have HW3 := Lib.hid (HWr.out.trans (hb.mono (Nat.le_of_lt HBn.out.lt)))
      have T3 := Lib.hid ((hb.block _ (lt_of_block Tr.out)).trans Tr.out)
      clear hb HBn HWr Tr d0 d1 d2
      have B4 : Below w3.heap.size w3 (w3.alloc (.cells #[.string X, .int .i64 (k : Nat), .bool b] 69 (0, 0))) := al (Below.refl _ _) (Nat.le_refl _)
      have HB4 := Lib.hid (HB3.out.keep B4)
      have HW4 := Lib.hid (HW3.out.trans (B4.mono (Nat.le_of_lt HB3.out.lt)))
      have T4 := Lib.hid ((B4.block _ (lt_of_block T3.out)).trans T3.out)
      clear B4
      cases b with
      | false =>
        have HL := HShort.out rfl
        rw [← HR.out] at HL
        have HLs := Lib.hid HL
        clear HL
        go_wp2_with fail
        refine Calls.mono (HB4.out.byte 10 (by have := HNLa.out; omega)) ?_
        rintro e w5 ⟨rfl, hb5, hw5⟩
        have HB5 := Lib.hid hb5
        have HW5 := Lib.hid (HW4.out.trans hw5)
        clear hb5 hw5 HB4 HW4 HB3 HW3 T3 T4
        go_wp2_with fail
        refine Calls.mono HB5.out.done ?_
        rintro e w6 ⟨rfl, hw6⟩
        have HW6 := Lib.hid (HW5.out.trans hw6)
        clear hw6
        go_wp2
        go_ret
        exact ⟨by rw [HLs.out]; simp, BW.out.trans (HW6.out.mono (Nat.le_of_lt HGW.out))⟩
      | true =>
        have HL := HLong.out rfl
        rw [← HR.out] at HL
        have HLs := Lib.hid HL
        clear HL
        go_wp2_with fail
        refine Calls.mono (HB4.out.byte 32 (by have := HNLa.out; omega)) ?_
        rintro e w5 ⟨rfl, hb5, hw5⟩
        have HB5 := Lib.hid hb5
        have HW5 := Lib.hid (HW4.out.trans hw5)
        have T5 := Lib.hid ((hw5.block _ HGW.out).trans T4.out)
        obtain ⟨d0, d1, d2⟩ := cells_three T5.out
        clear hb5 hw5 HB4 HW4 HB3 HW3 T3 T4
        by_cases h0 : n2 = 0
        · subst h0
          have hbn : c.bytes = [] := List.length_eq_zero_iff.1 (H2g.out w5 HW5.out).len
          have hbw : bytesW c.bytes = [45] := by unfold bytesW; rw [if_pos hbn]
          rw [hbw] at HLs
          clear hbn hbw
          go_wp2_with fail
          refine Calls.mono (HB5.out.byte 45 (by have := HNLa.out; simp; omega)) ?_
          rintro e w6 ⟨rfl, hb6, hw6⟩
          have HB6 := Lib.hid hb6
          have HW6 := Lib.hid (HW5.out.trans hw6)
          have T6 := Lib.hid ((hw6.block _ HGW.out).trans T5.out)
          clear hb6 hw6 HB5 HW5 T5 d0 d1 d2
          obtain ⟨d0, d1, d2⟩ := cells_three T6.out
          go_wp2
          go_loopw [42, 9] (fun iv _ wr => iv = .int .i64 0 ∧ wr = w6) (fun _ _ _ => 0)
          case atStart => exact ⟨rfl, rfl⟩
          case round =>
            obtain ⟨rfl, rfl⟩ := hrel
            clear d0 d1 d2
            go_wp2_with fail
            refine Calls.mono (HB6.out.byte 10 (by have := HNLa.out; simp; omega)) ?_
            rintro e w7 ⟨rfl, hb7, hw7⟩
            have HB7 := Lib.hid hb7
            have HW7 := Lib.hid (HW6.out.trans hw7)
            clear hb7 hw7
            go_wp2_with fail
            refine Calls.mono HB7.out.done ?_
            rintro e w8 ⟨rfl, hw8⟩
            have HW8 := Lib.hid (HW7.out.trans hw8)
            clear hw8
            go_wp2
            go_ret
            exact ⟨by rw [HLs.out]; simp, BW.out.trans (HW8.out.mono (Nat.le_of_lt HGW.out))⟩
        · have hbn : c.bytes ≠ [] := fun e => h0 (by have := (H2g.out w5 HW5.out).len; rw [e] at this; exact this.symm)
          have hbw : bytesW c.bytes = hexL c.bytes := by unfold bytesW; rw [if_neg hbn]
          rw [hbw] at HLs
          have hne : ((n2 : Int) == 0) = false := beq_eq_false_iff_ne.2 (by omega)
          clear hbn hbw h0
          go_wp2
          go_loopw [42, 9] (fun iv _ wr => ∃ i, i ≤ n2 ∧ iv = .int .i64 (i : Nat) ∧ Hid (BldI wr g (joinW (c.word :: c.nums.map Lib.decDigits) ++ [32] ++ hexL (c.bytes.take i))) ∧ Hid (Below g w1 wr)) (fun iv _ _ => n2 - (intOf iv).toNat)
          case atStart => exact ⟨0, Nat.zero_le _, rfl, by show BldI _ _ _; simpa [hexL] using HB5.out, HW5.out⟩
          case round =>
            obtain ⟨i, hi, rfl, HBd, HWr⟩ := hrel
            clear d0 d1 d2 hne
            by_cases hlt : i < n2
            · obtain ⟨bb, oo, x, rfl, hc1, hx1⟩ := (H2g.out wr HWr.out).at i hlt
              have hlt' : (i : Int) < (n2 : Int) := by omega
              have HLT := Lib.hid hlt
              have HST := Lib.hid (hexL_step hx1.out)
              have hx8 := x.toNat_lt
              have hdA := digits_run (y := x.toNat / 16) (by omega) ((x.toNat : Int) / 16) (by omega)
              have hdB := digits_run (y := x.toNat % 16) (by omega) ((x.toNat % 16 : Nat) : Int) rfl
              have hand := and15 x
              have HLn : Hid ((joinW (c.word :: c.nums.map Lib.decDigits) ++ [32] ++ hexL (c.bytes.take i)).length ≤ 3000000) := by
                have h3 := HNLa.out
                have h4 := hexL_len2 (c.bytes.take i)
                have h5 : (c.bytes.take i).length ≤ i := List.length_take_le _ _
                show _ ≤ _
                simp; omega
              clear hlt hx1
              go_wp2_with (first | simp only [hdA] | fail)
              refine Calls.mono (HBd.out.byte _ (by have := HLn.out; omega)) ?_
              rintro e w6 ⟨rfl, hb6, hw6⟩
              have HB6 := Lib.hid hb6
              have HW6 := Lib.hid (HWr.out.trans hw6)
              clear hb6 hw6 HBd HWr hc1 hdA
              go_wp2_with (first | simp only [hand, hdB] | simp only [hdB] | fail)
              refine Calls.mono (HB6.out.byte _ (by have := HLn.out; have h1 : ([dgt (x.toNat / 16)] : List UInt8).length = 1 := rfl; rw [List.length_append]; omega)) ?_
              rintro e w7 ⟨rfl, hb7, hw7⟩
              have ed : ∀ h, (ByteArray.mk #[48, 49, 50, 51, 52, 53, 54, 55, 56, 57, 97, 98, 99, 100, 101, 102])[x.toNat % 16]'h = dgt (x.toNat % 16) := fun h => txt_get (l := digitsC.data.toList) (digits_at _ (by omega)) h
              rw [ed] at hb7
              have HB7 : Hid (BldI w7 g (joinW (c.word :: c.nums.map Lib.decDigits) ++ [32] ++ hexL (c.bytes.take (i + 1)))) := by show BldI _ _ _; rw [HST.out, ← List.append_assoc, ← List.append_assoc]; exact hb7
              have HW7 := Lib.hid (HW6.out.trans hw7)
              clear hb7 hw7 HB6 HW6 hdB hand
              go_wp2
              go_roundw
              case rel => exact ⟨i + 1, HLT.out, by go_num, HB7.out, HW7.out⟩
              case measure => simp [intOf]; have := HLT.out; omega
            · obtain rfl : i = n2 := by omega
              have HBn : Hid (BldI wr g (joinW (c.word :: c.nums.map Lib.decDigits) ++ [32] ++ hexL c.bytes)) := by
                have h9 : c.bytes.length = i := (H2g.out wr HWr.out).len
                have := HBd.out
                rw [List.take_of_length_le (by omega)] at this
                exact this
              have HLn : Hid ((joinW (c.word :: c.nums.map Lib.decDigits) ++ [32] ++ hexL c.bytes).length ≤ 3000000) := by
                have h3 := HNLa.out
                have h4 := hexL_len2 c.bytes
                have h9 : c.bytes.length = i := (H2g.out wr HWr.out).len
                show _ ≤ _
                simp; omega
              clear hlt HBd
              go_wp2_with fail
              refine Calls.mono (HBn.out.byte 10 (by have := HLn.out; omega)) ?_
              rintro e w7 ⟨rfl, hb7, hw7⟩
              have HB7 := Lib.hid hb7
              have HW7 := Lib.hid (HWr.out.trans hw7)
              clear hb7 hw7
              go_wp2_with fail
              refine Calls.mono HB7.out.done ?_
              rintro e w8 ⟨rfl, hw8⟩
              have HW8 := Lib.hid (HW7.out.trans hw8)
              clear hw8
              go_wp2
              go_ret
              exact ⟨by rw [HLs.out]; simp, BW.out.trans (HW8.out.mono (Nat.le_of_lt HGW.out))⟩
end Go.Proofs.YtccaiiigdfieoaaDoor
namespace Go.Proofs.YtccaiiigdfieoaaDoor
open Go.RowKit Go.By
/-- lines, as long as they aren't too long -/
def longP : List Cmd → List UInt8 → List UInt8 × Int
  | [], t => (t, 0)
  | c :: cs, t => if 65536 < c.bytes.length then ([], 16) else if 65536 < (t ++ lineP c).length then ([], 16) else longP cs (t ++ lineP c)
def printR (cs : List Cmd) : List UInt8 × Int := if codeP cs ≠ 0 then ([], codeP cs) else longP cs []
theorem codeP_at : ∀ {cs : List Cmd} {i : Nat} {c : Cmd}, cs[i]? = some c → (∀ j d, j < i → cs[j]? = some d → checkP d = 0) → checkP c ≠ 0 → codeP cs = checkP c
  | [], i, c, h, _, _ => by simp at h
  | d :: cs, 0, c, h, _, hz => by
    have e : d = c := by simpa using h
    subst e
    unfold codeP; rw [if_pos hz]
  | d :: cs, i + 1, c, h, hb, hz => by
    have h0 := hb 0 d (by omega) rfl
    unfold codeP
    rw [if_neg (by rw [h0]; simp)]
    exact codeP_at (by simpa using h) (fun j e hj he => hb (j + 1) e (by omega) (by simpa using he)) hz
theorem codeP_zero {cs : List Cmd} {n : Nat} (hn : cs.length ≤ n) (h : ∀ j d, j < n → cs[j]? = some d → checkP d = 0) : codeP cs = 0 := codeP_of_good fun c hc => by
  obtain ⟨j, hj, e⟩ := List.getElem_of_mem hc
  exact h j c (by omega) (by rw [List.getElem?_eq_getElem hj, e])
theorem longP_at {cs : List Cmd} {i : Nat} {c : Cmd} {t : List UInt8} (h : cs[i]? = some c) : longP (cs.drop i) t = if 65536 < c.bytes.length then ([], 16) else if 65536 < (t ++ lineP c).length then ([], 16) else longP (cs.drop (i + 1)) (t ++ lineP c) := by
  obtain ⟨h1, e1⟩ := List.getElem?_eq_some_iff.1 h
  rw [List.drop_eq_getElem_cons h1, e1]; rfl
theorem longP_print : ∀ {cs : List Cmd} {t : List UInt8}, (∀ c ∈ cs, c.bytes.length ≤ 65536) → (t ++ printP cs).length ≤ 65536 → longP cs t = (t ++ printP cs, 0)
  | [], t, _, _ => by unfold longP; simp [printP]
  | c :: cs, t, hb, hl => by
    rw [printP_cons, ← List.append_assoc] at hl ⊢
    unfold longP
    rw [if_neg (by have := hb c (by simp); omega), if_neg (by rw [List.length_append] at hl; omega)]
    exact longP_print (fun d hd => hb d (by simp [hd])) hl
theorem app_len {a b : List UInt8} : (a ++ b).length = a.length + b.length := List.length_append
def PrtR (w : World) (r : List UInt8 × Int) (e : Ending) (w' : World) : Prop := e = .returned (.tuple #[.string (strB r.1), .int .i64 r.2]) ∧ Below w.heap.size w w'
set_option maxRecDepth 100000 in
set_option maxHeartbeats 8000000 in
theorem Print_any (q : Option Addr) (n c : Nat) (cs : List Cmd) (w : World) (h : CmdS w q n c cs) (hU : ∀ x ∈ cs, ∀ y ∈ x.nums, y ≤ 18446744073709551615) (hT : Tab10 w) :
    Calls Tryd.prog 10 #[.slice q n c] w (PrtR w (printR cs)) := by
  have hnb : n ≤ 9223372036854775807 := by have g1 := h.le; have g2 := h.max; unfold maxLen at g2; omega
  have H := Lib.hid h
  have HU := Lib.hid hU
  have HT := Lib.hid hT
  obtain ⟨R, hR⟩ : ∃ R, R = printR cs := ⟨_, rfl⟩
  rw [← hR]
  have HR := Lib.hid hR
  clear h hU hT hR
  go_enter Tryd.func10, Tryd.ntmps10
  go_wp2
  go_loopw [5, 6, 12] (fun _ _ iv wr => ∃ i, i ≤ n ∧ iv = .int .i64 (i : Nat) ∧ Hid (∀ j d, j < i → cs[j]? = some d → checkP d = 0) ∧ Hid (Below w.heap.size w wr)) (fun _ _ iv _ => n - (intOf iv).toNat)
  case atStart => exact ⟨0, Nat.zero_le _, rfl, fun j d hj => by omega, Below.refl _ _⟩
  case round =>
    obtain ⟨i, hi, rfl, HZ, HB⟩ := hrel
    by_cases hlt : i < n
    · obtain ⟨x, hx⟩ : ∃ x, cs[i]? = some x := ⟨_, List.getElem?_eq_getElem (by rw [H.out.len]; exact hlt)⟩
      obtain ⟨bb, oo, q1, n1, k1, q2, n2, k2, rfl, d0, d1, d2, s1, s2⟩ := (H.out.keep HB.out).row i x hx
      have hlt' : (i : Int) < (n : Int) := by omega
      have HX := Lib.hid hx
      have HLT := Lib.hid hlt
      have HCk := Lib.hid (fun W => check_any x q1 q2 n1 k1 n2 k2 W s1.len s2.len s1.bound s2.bound)
      obtain ⟨C, hC⟩ : ∃ C, C = checkP x := ⟨_, rfl⟩
      rw [← hC] at HCk
      have HC := Lib.hid hC
      generalize strB x.word = W0 at *
      clear hx s1 s2 hlt hC
      go_wp2_with fail
      refine Calls.mono (HCk.out _) ?_
      rintro e w1 ⟨rfl, hb⟩
      obtain ⟨hb1, kp, hs1⟩ := one_of hb
      have HB1 := Lib.hid (bl HB.out hb1 HB.out.size)
      clear hb hb1 d0 d1 d2 HB kp hs1
      by_cases hz : C = 0
      · have HZ2 : Hid (∀ j d, j < i + 1 → cs[j]? = some d → checkP d = 0) := fun j d hj hd => by
          by_cases e : j = i
          · subst e; have := HX.out; rw [hd] at this; cases this; rw [← HC.out]; exact hz
          · exact HZ.out j d (by omega) hd
        subst hz
        clear HZ
        go_wp2
        go_roundw
        case rel => exact ⟨i + 1, HLT.out, by go_num, HZ2.out, HB1.out⟩
        case measure => simp [intOf]; have := HLT.out; omega
      · have HRes : Hid (R = ([], C)) := by
          have h1 := codeP_at HX.out HZ.out (by rw [← HC.out]; exact hz)
          rw [← HC.out] at h1
          have h2 := HR.out
          unfold printR at h2
          rw [h1, if_pos hz] at h2
          exact h2
        have hz' : (C != 0) = true := bne_iff_ne.2 hz
        clear hz HZ
        go_wp2
        go_ret2
        exact ⟨by rw [HRes.out]; rfl, HB1.out⟩
    · obtain rfl : i = n := by omega
      have HG : Hid (∀ x ∈ cs, GoodC x) := fun x hx => ⟨by
        obtain ⟨j, hj, e⟩ := List.getElem_of_mem hx
        exact HZ.out j x (by have := H.out.len; omega) (by rw [List.getElem?_eq_getElem hj, e]), HU.out x hx⟩
      have HL0 : Hid (longP (cs.drop 0) [] = R) := by
        have h1 : codeP cs = 0 := codeP_zero (by have := H.out.len; omega) HZ.out
        have h2 := HR.out
        unfold printR at h2
        rw [h1, if_neg (by simp)] at h2
        exact h2.symm
      clear hlt HZ
      go_wp2
      have t1 : BldI (wr.alloc (.cells #[.pointer none, .slice none 0 0] 59 (0, 0))) wr.heap.size [] := BldI.new (hnew rfl)
      have HB1 : Hid (Below w.heap.size w (wr.alloc (.cells #[.pointer none, .slice none 0 0] 59 (0, 0)))) := al HB.out HB.out.size
      obtain ⟨g, hg⟩ : ∃ g, g = wr.heap.size := ⟨_, rfl⟩
      have HGW : Hid (w.heap.size ≤ g) := by have := HB.out.size; show _ ≤ _; omega
      rw [← hg] at t1 ⊢
      have T1 := Lib.hid t1
      generalize wr.alloc (.cells #[.pointer none, .slice none 0 0] 59 (0, 0)) = w1 at *
      clear HB t1 hg
      go_loopw [9, 24] (fun _ iv wz => ∃ (j : Nat) (t : List UInt8), j ≤ i ∧ iv = .int .i64 (j : Nat) ∧ Hid (t.length ≤ 65536) ∧ Hid (BldI wz g t) ∧ Hid (longP (cs.drop j) t = R) ∧ Hid (Below w.heap.size w wz)) (fun _ iv _ => i - (intOf iv).toNat)
      case atStart => exact ⟨0, [], Nat.zero_le _, rfl, Nat.zero_le _, T1.out, HL0.out, HB1.out⟩
      case round =>
        rename World => wz
        clear T1 HL0 HB1
        obtain ⟨j, t, hj, rfl, HTl, HBd, HLp, HWz⟩ := hrel
        by_cases hlt : j < i
        · obtain ⟨x, hx⟩ : ∃ x, cs[j]? = some x := ⟨_, List.getElem?_eq_getElem (by rw [H.out.len]; exact hlt)⟩
          obtain ⟨bb, oo, q1, n1, k1, q2, n2, k2, rfl, d0, d1, d2, s1, s2⟩ := (H.out.keep HWz.out).row j x hx
          have hlt' : (j : Int) < (i : Int) := by omega
          have HLT := Lib.hid hlt
          have HLx := HLp.out
          rw [longP_at hx] at HLx
          have hn2 : x.bytes.length = n2 := s2.len
          rw [hn2] at HLx
          have HGx := Lib.hid (HG.out x (List.mem_of_getElem? hx))
          have HLin : Hid (n2 ≤ 1000000 → ∀ W, Below wz.heap.size wz W → Calls Tryd.prog 22 #[.agg #[.string (strB x.word), .slice q1 n1 k1, .slice q2 n2 k2]] W fun e w' => e = .returned (.string (strB (lineP x))) ∧ Below W.heap.size W w') := fun hb W hw => line_any x q1 q2 n1 k1 n2 k2 W HGx.out (s1.keep hw) (s2.keep hw) hb (HT.out.keep (bl HWz.out hw HWz.out.size))
          have HLl : Hid (n2 ≤ 65536 → (lineP x).length ≤ 200000) := fun h => by have := lineP_len HGx.out; omega
          have hn2b := s2.bound
          generalize strB x.word = W0 at *
          have HLX := Lib.hid HLx
          clear hx s1 s2 hlt HLp HLx hn2
          by_cases hbig : 65536 < n2
          · have hbig' : (65536 : Int) < (n2 : Int) := by omega
            have HRes : Hid (R = ([], 16)) := by have := HLX.out; rw [if_pos hbig] at this; exact this.symm
            clear hbig HLX
            go_wp2
            go_ret2
            exact ⟨by rw [HRes.out]; rfl, al HWz.out HWz.out.size⟩
          · have hsm : ¬ (65536 : Int) < (n2 : Int) := by omega
            have HLY : Hid ((if 65536 < (t ++ lineP x).length then ([], 16) else longP (cs.drop (j + 1)) (t ++ lineP x)) = R) := by have := HLX.out; rw [if_neg hbig] at this; exact this
            have hlin := Lib.hid (HLin.out (by omega))
            have hll := Lib.hid (HLl.out (by omega))
            have ba : Below wz.heap.size wz (wz.alloc (.cells #[.string W0, .slice q1 n1 k1, .slice q2 n2 k2] 37 (0, 0))) := al (Below.refl _ _) (Nat.le_refl _)
            have HBa := Lib.hid (HBd.out.keep ba)
            have HWa := Lib.hid (bl HWz.out ba HWz.out.size)
            have BA := Lib.hid ba
            clear hbig HLX HLin HLl ba
            go_wp2_with fail
            refine Calls.mono (hlin.out _ BA.out) ?_
            rintro e w2 ⟨rfl, hb⟩
            have HB2 := Lib.hid (HBa.out.keep hb)
            have HW2 := Lib.hid (bl HWa.out hb HWa.out.size)
            clear hb HBa HWa d0 d1 d2 hlin BA HBd HWz
            go_wp2_with fail
            refine Calls.mono (HB2.out.str (lineP x) (by have := hll.out; have := HTl.out; omega)) ?_
            rintro e w3 ⟨rfl, hb3, hw3⟩
            have HB3 := Lib.hid hb3
            have HW3 := Lib.hid (HW2.out.trans (hw3.mono HGW.out))
            clear hb3 hw3 HB2 HW2
            go_wp2_with fail
            refine Calls.mono HB3.out.len ?_
            rintro e w4 ⟨rfl, rfl⟩
            obtain ⟨m, hm⟩ : ∃ m, m = (t ++ lineP x).length := ⟨_, rfl⟩
            have hmb : m ≤ 300000 := by have := hll.out; have := HTl.out; rw [hm, app_len]; omega
            rw [← hm]
            have HM := Lib.hid hm
            clear hm
            by_cases hbig : 65536 < m
            · have hbig' : (65536 : Int) < (m : Int) := by omega
              have HRes : Hid (R = ([], 16)) := by have := HLY.out; rw [if_pos (by rw [← HM.out]; exact hbig)] at this; exact this.symm
              clear hbig HLY
              go_wp2
              go_ret2
              exact ⟨by rw [HRes.out]; rfl, HW3.out⟩
            · have hsm2 : ¬ (65536 : Int) < (m : Int) := by omega
              have HLZ : Hid (longP (cs.drop (j + 1)) (t ++ lineP x) = R) := by have := HLY.out; rw [if_neg (by rw [← HM.out]; exact hbig)] at this; exact this
              have HTl2 : Hid ((t ++ lineP x).length ≤ 65536) := by have := HM.out; show _ ≤ _; omega
              clear hbig HLY
              go_wp2
              go_roundw
              case rel => exact ⟨j + 1, t ++ lineP x, HLT.out, by go_num, HTl2.out, HB3.out, HLZ.out, HW3.out⟩
              case measure => simp [intOf]; have := HLT.out; omega
        · obtain rfl : j = i := by omega
          have HRes : Hid (R = (t, 0)) := by
            have := HLp.out
            rw [List.drop_eq_nil_of_le (by have := H.out.len; omega)] at this
            exact this.symm
          clear hlt HLp
          go_wp2_with fail
          refine Calls.mono HBd.out.done ?_
          rintro e w2 ⟨rfl, hb⟩
          have HW2 := Lib.hid (HWz.out.trans (hb.mono HGW.out))
          clear hb
          go_wp2
          go_ret2
          exact ⟨by rw [HRes.out]; rfl, HW2.out⟩
end Go.Proofs.YtccaiiigdfieoaaDoor
namespace Go.Proofs.YtccaiiigdfieoaaDoor
open Go.RowKit Go.By
theorem awake_parse : scriptL [98, 101, 103, 105, 110, 32, 55, 32, 50, 32, 48, 49, 48, 50, 102, 102, 10] = ([⟨[98, 101, 103, 105, 110], [7, 2], [1, 2, 255]⟩], 0, 0) := by kernel_rfl
theorem sl_u64 {W : World} {g n : Nat} {fr : Nat × Nat} (xs : List Nat) (h : W.heap[g]? = some (.cells (xs.map encU).toArray 48 fr)) (hn : xs.length = n) (hm : n ≤ maxLen) : Sl encU W (some ⟨g, 0, none⟩) n n xs := sl_block xs n h rfl hn hm
set_option maxRecDepth 100000 in
set_option maxHeartbeats 2000000 in
theorem awake26 (w : World) (hM : MaxI w) (hE : ErrI w) (hS : SynI w) : Calls Tryd.prog 6 #[] w fun e w' => e = .returned (.bool true) ∧ Below w.heap.size w w' := by
  have HP := Parse_any [98, 101, 103, 105, 110, 32, 55, 32, 50, 32, 48, 49, 48, 50, 102, 102, 10] w (by decide) hM hE hS
  rw [awake_parse] at HP
  have HPh := Lib.hid HP
  clear HP hM hE hS
  go_enter Tryd.func6, Tryd.ntmps6
  go_wp2_with fail
  refine Calls.mono HPh.out ?_
  rintro e w1 ⟨q, m, c, rfl, hc, hb⟩
  obtain rfl : 1 = m := hc.len
  obtain ⟨b, o, q1, n1, k1, q2, n2, k2, rfl, d0, d1, d2, s1, s2⟩ := hc.cmdS.row 0 _ rfl
  have HB := Lib.hid hb
  have S1 := Lib.hid s1
  have S2 := Lib.hid s2
  rw [Nat.zero_mul, Nat.add_zero] at d0 d1 d2
  have hw : ((strB [98, 101, 103, 105, 110]).toList == [98, 101, 103, 105, 110]) = true := by rw [strB_toList]; rfl
  generalize strB [98, 101, 103, 105, 110] = X at *
  clear hc hb s1 s2
  go_wp2_with fail
  have b2 : Below w1.heap.size w1 (w1.alloc (.cells #[.int .u64 7, .int .u64 2] 48 (0, 0))) := al (Below.refl _ _) (Nat.le_refl _)
  refine Calls.mono (EqU_d q1 _ n1 2 k1 2 [7, 2] _ (S1.out.keep b2) (sl_u64 [7, 2] (hnew rfl) rfl (by simp [maxLen]))) ?_
  rintro e w2 ⟨rfl, u, rfl⟩
  have HB2 : Hid (Below w1.heap.size w1 ((w1.alloc (.cells #[.int .u64 7, .int .u64 2] 48 (0, 0))).drewN u)) := bdn b2
  have d2' := (HB2.out.cell (p := ⟨b, o + 2, none⟩) (lt_of_cell d2)).trans d2
  generalize (w1.alloc (.cells #[.int .u64 7, .int .u64 2] 48 (0, 0))).drewN u = w3 at *
  clear b2 d0 d1 d2
  go_wp2_with fail
  have b2 : Below w3.heap.size w3 (w3.alloc (.cells #[.int .u8 1, .int .u8 2, .int .u8 255] 5 (0, 0))) := al (Below.refl _ _) (Nat.le_refl _)
  refine Calls.mono (SameB_q q2 _ n2 3 k2 3 [1, 2, 255] _ ((S2.out.keep HB2.out).keep b2) (sl_block [1, 2, 255] 3 (hnew rfl) rfl rfl (by simp [maxLen]))) ?_
  rintro e w4 ⟨rfl, u, rfl⟩
  have HB4 : Hid (Below w.heap.size w ((w3.alloc (.cells #[.int .u8 1, .int .u8 2, .int .u8 255] 5 (0, 0))).drewN u)) := bl HB.out (HB2.out.trans ((bdn b2).mono HB2.out.size)) HB.out.size
  clear b2
  go_wp2
  go_ret
  exact ⟨rfl, HB4.out⟩
end Go.Proofs.YtccaiiigdfieoaaDoor
namespace Go.Proofs.YtccaiiigdfieoaaDoor
open Go.RowKit Go.By
theorem bytes_short {c : Cmd} (h : checkP c = 0) : c.bytes.length ≤ (lineP c).length := by
  by_cases h0 : c.bytes = []
  · rw [h0]; exact Nat.zero_le _
  · unfold checkP at h
    cases hf : formS c.word with
    | none => rw [hf] at h; cases h
    | some f =>
      obtain ⟨k, b⟩ := f
      cases b with
      | false =>
        rw [hf] at h
        simp only at h
        rw [if_pos (.inr ⟨trivial, h0⟩)] at h
        cases h
      | true =>
        rw [lineP_long hf]
        have e : bytesW c.bytes = hexL c.bytes := by unfold bytesW; rw [if_neg h0]
        rw [e]
        have := hexL_len2 c.bytes
        simp only [List.length_append]
        omega
theorem line_short : ∀ {cs : List Cmd} {c : Cmd}, c ∈ cs → (lineP c).length ≤ (printP cs).length
  | d :: cs, c, h => by
    rw [printP_cons, List.length_append]
    rcases List.mem_cons.1 h with rfl | h
    · omega
    · have := line_short h; omega
theorem printR_good {cs : List Cmd} (h : ∀ c ∈ cs, GoodC c) (hl : (printP cs).length ≤ 65536) : printR cs = (printP cs, 0) := by
  unfold printR
  rw [codeP_of_good (fun c hc => (h c hc).1), if_neg (by simp), longP_print (fun c hc => by
    have h1 := bytes_short (h c hc).1
    have h2 := line_short hc
    omega) (by simpa using hl)]
  simp
end Go.Proofs.YtccaiiigdfieoaaDoor
namespace Go.Proofs.YtccaiiigdfieoaaDoor
open Go.RowKit Go.By
theorem shape_form {c : Cmd} {k : Nat} {b : Bool} (hf : formS c.word = some (k, b)) (W : World) : Calls Tryd.prog 13 #[.string (strB c.word)] W fun e w' => e = .returned (.tuple #[.int .i64 (k : Nat), .bool b, .bool true]) ∧ W = w' := by
  have := Shape_any c.word W
  unfold shapeV at this
  rwa [hf] at this
end Go.Proofs.YtccaiiigdfieoaaDoor
