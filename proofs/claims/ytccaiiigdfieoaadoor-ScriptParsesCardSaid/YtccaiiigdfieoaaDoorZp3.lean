/- Chapter 26: read. Chapter 26, the reference: words. Chapter 26, the reference: Read. Chapter 26: Parse. Chapter 26, the reference: Parse. Chapter 26, the law: are commands the same? strings.Builder: WriteString, WriteByte, String. Chapter 26: check; a builder in a block of its own; line. Chapter 26: line. -/
import Derived.Test.YtccaiiigdfieoaaDoorZp2
import Derived.Deep.DeepCutAuto
import Derived.Shelf.Strings.Builder1
import Derived.Lib.ItoaLen
namespace Go.Proofs.YtccaiiigdfieoaaDoor
open Go.RowKit Go.By
theorem numsP_app : ∀ {a b : List (List UInt8)} {X : List Nat}, numsP a = some X → numsP (a ++ b) = (numsP b).map (X ++ ·)
  | [], b, X, h => by cases h; simp
  | x :: a, b, X, h => by
    rw [numsP_cons] at h
    obtain ⟨y, hy, h2⟩ := Option.bind_eq_some_iff.1 h
    obtain ⟨ys, hys, rfl⟩ := Option.map_eq_some_iff.1 h2
    rw [List.cons_append, numsP_cons, hy, Option.bind_some, numsP_app hys, Option.map_map]; rfl
theorem numsP_step {W : List (List UInt8)} {i : Nat} {a : List UInt8} {X : List Nat} {x : Nat} (h : numsP (W.take i) = some X) (ha : W[i]? = some a) (hx : numB 18446744073709551615 a = some x) : numsP (W.take (i + 1)) = some (X ++ [x]) := by
  rw [List.take_add_one, ha, Option.toList_some, numsP_app h, numsP_cons, hx]; rfl
theorem numsP_bad {W : List (List UInt8)} {i : Nat} {a : List UInt8} {X : List Nat} (h : numsP (W.take i) = some X) (ha : W[i]? = some a) (hx : numB 18446744073709551615 a = none) : numsP W = none := by
  have e : W = W.take i ++ W.drop i := (List.take_append_drop i W).symm
  obtain ⟨h1, e1⟩ := List.getElem?_eq_some_iff.1 ha
  rw [e, numsP_app h, List.drop_eq_getElem_cons h1, e1, numsP_cons, hx]; rfl
theorem readP_none {l : List UInt8} (h : formsL.find? (isW ((splA 32 l).getD 0 [])) = none) : readP l = (20, noCmd) := by
  have e : formS ((partsP l).getD 0 []) = none := by unfold formS; rw [show (formsL.find? fun f => decide (f.1 = (partsP l).getD 0 [])) = formsL.find? (isW ((splA 32 l).getD 0 [])) from rfl, h]; rfl
  unfold readP; rw [e]
theorem readP_some {l : List UInt8} {x : List UInt8} {k : Nat} {b : Bool} (h : formsL.find? (isW ((splA 32 l).getD 0 [])) = some (x, k, b)) : x = (splA 32 l).getD 0 [] ∧ k ≤ 3 ∧ formS ((partsP l).getD 0 []) = some (k, b) := by
  have h1 := List.find?_some h
  have h2 := List.mem_of_find?_eq_some h
  have e : formS ((partsP l).getD 0 []) = some (k, b) := by unfold formS; rw [show (formsL.find? fun f => decide (f.1 = (partsP l).getD 0 [])) = formsL.find? (isW ((splA 32 l).getD 0 [])) from rfl, h]; rfl
  exact ⟨of_decide_eq_true h1, (forms_plain _ h2).2.1, e⟩
section
variable {l : List UInt8} {k : Nat} {b : Bool} (e : formS ((partsP l).getD 0 []) = some (k, b))
include e
theorem readP_len (h : (splA 32 l).length ≠ 1 + k + b.toNat) : readP l = (14, noCmd) := by
  have h' : (partsP l).length ≠ 1 + k + b.toNat := h
  unfold readP; rw [e]; simp only; rw [if_pos h']
theorem readP_nums (h : (splA 32 l).length = 1 + k + b.toNat) (hn : numsP (((splA 32 l).drop 1).take k) = none) : readP l = (14, noCmd) := by
  have h' : ¬ (partsP l).length ≠ 1 + k + b.toNat := fun g => g h
  have hn' : numsP (((partsP l).drop 1).take k) = none := hn
  unfold readP; rw [e]; simp only; rw [if_neg h', hn']
theorem readP_plain {ns : List Nat} (h : (splA 32 l).length = 1 + k + b.toNat) (hn : numsP (((splA 32 l).drop 1).take k) = some ns) (hb : b = false) : readP l = (0, ⟨(splA 32 l).getD 0 [], ns, []⟩) := by
  have h' : ¬ (partsP l).length ≠ 1 + k + b.toNat := fun g => g h
  have hn' : numsP (((partsP l).drop 1).take k) = some ns := hn
  unfold readP; rw [e]; simp only; rw [if_neg h', hn']
  subst hb; rfl
theorem readP_bad {ns : List Nat} (h : (splA 32 l).length = 1 + k + b.toNat) (hn : numsP (((splA 32 l).drop 1).take k) = some ns) (hb : b = true) (hy : bytesP ((splA 32 l).getD (k + 1) []) = none) : readP l = (14, noCmd) := by
  have h' : ¬ (partsP l).length ≠ 1 + k + b.toNat := fun g => g h
  have hn' : numsP (((partsP l).drop 1).take k) = some ns := hn
  have hy' : bytesP ((partsP l).getD (k + 1) []) = none := hy
  unfold readP; rw [e]; simp only; rw [if_neg h', hn']; simp only; rw [if_pos hb, hy']
theorem readP_full {ns : List Nat} {m : List UInt8} (h : (splA 32 l).length = 1 + k + b.toNat) (hn : numsP (((splA 32 l).drop 1).take k) = some ns) (hb : b = true) (hy : bytesP ((splA 32 l).getD (k + 1) []) = some m) : readP l = (0, ⟨(splA 32 l).getD 0 [], ns, m⟩) := by
  have h' : ¬ (partsP l).length ≠ 1 + k + b.toNat := fun g => g h
  have hn' : numsP (((partsP l).drop 1).take k) = some ns := hn
  have hy' : bytesP ((partsP l).getD (k + 1) []) = some m := hy
  unfold readP; rw [e]; simp only; rw [if_neg h', hn']; simp only; rw [if_pos hb, hy']; rfl
end
/-- what read answers -/
def RdR (w : World) (r : Int × Cmd) (e : Ending) (w' : World) : Prop := ∃ v1 v2 v3, e = .returned (.tuple #[.agg #[v1, v2, v3], .int .i64 r.1]) ∧ CmdV w.heap.size w' (v1, v2, v3) r.2 ∧ Below w.heap.size w w'
theorem info_cmd : (Tryd.prog.info? 37).map (·.size) = some 3 := by kernel_rfl
theorem info_u64 : (Tryd.prog.info? 48).map (fun i => (i.zero, i.size, i.bytes)) = some (some (.int .u64 0), 1, 8) := by kernel_rfl
theorem CmdV.no (B : Nat) (w : World) : CmdV B w (.string (strB []), .slice none 0 0, .slice none 0 0) noCmd := ⟨rfl, ⟨none, 0, 0, rfl, World.ownsRow_nil _ _ _ _⟩, none, 0, 0, rfl, Fresh.none _ _ _⟩
set_option maxRecDepth 100000 in
set_option maxHeartbeats 4000000 in
theorem read_none (l : List UInt8) (w : World) (hl : l.length ≤ 1000000) (hM : MaxI w) (hf : formsL.find? (isW ((splA 32 l).getD 0 [])) = none) :
    Calls Tryd.prog 18 #[.string (strB l)] w (RdR w (readP l)) := by
  rw [readP_none hf]
  have HSp : Hid (∀ W, Below w.heap.size w W → Calls Tryd.prog 30 #[.string (strB l), .string ⟨#[32]⟩] W fun e w' => ∃ b, e = .returned (.slice (some ⟨b, 0, none⟩) (splA 32 l).length (splA 32 l).length) ∧ W.heap.size ≤ b ∧ StrRow w' b (splA 32 l) ∧ Below W.heap.size W w') := fun W hb => (Split_any 32 l W hl (hM.keep hb)).mono fun e w' ⟨h1, h2, h3⟩ => ⟨_, h1, Nat.le_refl _, h2, h3⟩
  have HFd : Hid (∀ W, Calls Tryd.prog 31 #[.string (strB ((splA 32 l).getD 0 []))] W fun e w' => e = .returned (.tuple #[.agg #[.string (strB []), .int .i64 0, .bool false], .bool false]) ∧ Below W.heap.size W w') := fun W => by
    have := find_any ((splA 32 l).getD 0 []) W
    unfold findV at this
    rwa [hf] at this
  obtain ⟨x, hx⟩ : ∃ x, (splA 32 l)[0]? = some x := ⟨_, List.getElem?_eq_getElem (List.length_pos_iff.2 (splA_ne 32 l))⟩
  have e0 : (splA 32 l).getD 0 [] = x := by rw [List.getD_eq_getElem?_getD, hx]; rfl
  rw [e0] at HFd
  have hn1 : 1 ≤ (splA 32 l).length := List.length_pos_iff.2 (splA_ne 32 l)
  have hn2 := splA_len 32 l
  have HX := Lib.hid hx
  obtain ⟨P, hP⟩ : ∃ P, P = splA 32 l := ⟨_, rfl⟩
  obtain ⟨S, hS⟩ : ∃ S, S = strB l := ⟨_, rfl⟩
  rw [← hP] at HX hn1 hn2 HSp
  rw [← hS] at HSp ⊢
  obtain ⟨n, hn⟩ : ∃ n, n = P.length := ⟨_, rfl⟩
  rw [← hn] at hn1 hn2 HSp
  clear hf hM hP hS hx e0
  have hn1' : (0 : Int) < (n : Int) := by omega
  clear hn
  go_enter Tryd.func18, Tryd.ntmps18
  go_wp2_with fail
  refine Calls.mono (HSp.out _ (al (Below.refl _ _) (Nat.le_refl _))) ?_
  rintro e w1 ⟨gs, rfl, hgs, hr, hb⟩
  obtain ⟨hb1, k1, hs1⟩ := one_of hb
  have HB1 := Lib.hid hb1
  have hc0 := hr 0 x HX.out
  clear hr hb hb1
  go_wp2_with fail
  refine Calls.mono (HFd.out _) ?_
  rintro e w2 ⟨rfl, hb⟩
  have HB2 := Lib.hid (bl HB1.out hb HB1.out.size)
  have k2 := (hb.block _ (lt_of_block k1)).trans k1
  clear hb hc0 k1 HB1
  go_wp2_with (refine wpList_store_row (o := ⟨none, .store 37 (.tmp 2) (.tmp 24), _, _, _, _⟩) rfl 37 (.tmp 2) (.tmp 24) rfl w.heap.size #[.string (strB []), .slice none 0 0, .slice none 0 0] rfl rfl _ _ (hal k2) info_cmd rfl (by simp [Value.oneCell']) ?_)
  refine bodyPost_ret (res_ct rfl _ _ _ 37 #[.string (strB []), .slice none 0 0, .slice none 0 0] (0, 0) _ (.int .i64 20) rfl (hrs (hal k2)) rfl Tryd.underlying37 rfl info_cmd) rfl ?_
  exact ⟨_, _, _, rfl, CmdV.no _ _, below_row (al HB2.out HB2.out.size) (Nat.le_refl _)⟩
theorem find_form {x : List UInt8} {f : List UInt8 × Nat × Bool} (hf : formsL.find? (isW x) = some f) (W : World) : Calls Tryd.prog 31 #[.string (strB x)] W fun e w' => e = .returned (.tuple #[.agg #[.string (strB f.1), .int .i64 (f.2.1 : Nat), .bool f.2.2], .bool true]) ∧ Below W.heap.size W w' := by
  have := find_any x W
  unfold findV at this
  rwa [hf] at this
set_option maxRecDepth 100000 in
set_option maxHeartbeats 8000000 in
theorem read_long (l : List UInt8) (k : Nat) (w : World) (hl : l.length ≤ 1000000) (hM : MaxI w) (hE : ErrI w) (hS : SynI w) (hf : formsL.find? (isW ((splA 32 l).getD 0 [])) = some ((splA 32 l).getD 0 [], k, true)) :
    Calls Tryd.prog 18 #[.string (strB l)] w (RdR w (readP l)) := by
  obtain ⟨u0, hu, hu0, hu1, hu2⟩ := info_parts info_u64
  obtain ⟨_, hk3, hfS⟩ := readP_some hf
  have HFS := Lib.hid hfS
  have HSp : Hid (∀ W, Below w.heap.size w W → Calls Tryd.prog 30 #[.string (strB l), .string ⟨#[32]⟩] W fun e w' => ∃ b, e = .returned (.slice (some ⟨b, 0, none⟩) (splA 32 l).length (splA 32 l).length) ∧ W.heap.size ≤ b ∧ StrRow w' b (splA 32 l) ∧ Below W.heap.size W w') := fun W hb => (Split_any 32 l W hl (hM.keep hb)).mono fun e w' ⟨h1, h2, h3⟩ => ⟨_, h1, Nat.le_refl _, h2, h3⟩
  have HFd := Lib.hid (fun W => find_form hf W)
  obtain ⟨x, hx⟩ : ∃ x, (splA 32 l)[0]? = some x := ⟨_, List.getElem?_eq_getElem (List.length_pos_iff.2 (splA_ne 32 l))⟩
  have e0 : (splA 32 l).getD 0 [] = x := by rw [List.getD_eq_getElem?_getD, hx]; rfl
  simp only [e0] at HFd
  have E0 := Lib.hid e0
  have hn1 : 1 ≤ (splA 32 l).length := List.length_pos_iff.2 (splA_ne 32 l)
  have hn2 := splA_len 32 l
  have HX := Lib.hid hx
  have HE := Lib.hid hE
  have HS := Lib.hid hS
  obtain ⟨S, hS'⟩ : ∃ S, S = strB l := ⟨_, rfl⟩
  rw [← hS'] at HSp ⊢
  obtain ⟨n, hn⟩ : ∃ n, n = (splA 32 l).length := ⟨_, rfl⟩
  have HN := Lib.hid hn
  rw [← hn] at hn1 hn2 HSp
  obtain ⟨X, hX⟩ : ∃ X, X = strB x := ⟨_, rfl⟩
  rw [← hX] at HFd
  have HXX := Lib.hid hX
  clear hf hM hS' hx e0 hfS hn hE hS hX
  have hn1' : (0 : Int) < (n : Int) := by omega
  obtain ⟨R, hR⟩ : ∃ R, R = readP l := ⟨_, rfl⟩
  rw [← hR]
  have HR := Lib.hid hR
  clear hR
  by_cases hw : n = k + 2
  · have hne : ((n : Int) != 1 + (k : Int) + 1) = false := by rw [bne_eq_false_iff_eq]; omega
    have hle : 1 + (k : Int) ≤ (n : Int) := by omega
    have hcap : ¬ n = 1 := by omega
    have hcap2 : ¬ 1 = n := by omega
    have HW := Lib.hid hw
    have e44 : 1 + k - 1 = k := by omega
    have E44 := Lib.hid e44
    clear hw e44
    go_enter Tryd.func18, Tryd.ntmps18
    go_wp2_with fail
    refine Calls.mono (HSp.out _ (al (Below.refl _ _) (Nat.le_refl _))) ?_
    rintro e w1 ⟨gs, rfl, hgs, hr, hb⟩
    obtain ⟨hb1, k1, hs1⟩ := one_of hb
    have HB1 := Lib.hid hb1
    have HRW := Lib.hid hr
    have hc0 := hr 0 x HX.out
    rw [← HXX.out] at hc0
    clear hr hb hb1
    go_wp2_with fail
    refine Calls.mono (HFd.out _) ?_
    rintro e w2 ⟨rfl, hb⟩
    have HB2 := Lib.hid (bl HB1.out hb HB1.out.size)
    have k2 := (hb.block _ (lt_of_block k1)).trans k1
    have HRW2 := Lib.hid (HRW.out.keep hb)
    clear hb hc0 k1 HB1 HRW
    go_wp2
    have k5 : ((w2.alloc (.cells #[.string X, .int .i64 (k : Nat), .bool true] 69 (0, 0))).alloc (.cells #[.string X, .slice none 0 0, .slice none 0 0] 37 (0, 0))).heap[w2.heap.size]? = some (.cells #[.string X, .int .i64 (k : Nat), .bool true] 69 (0, 0)) := hal (hnew rfl)
    have k8 : ((w2.alloc (.cells #[.string X, .int .i64 (k : Nat), .bool true] 69 (0, 0))).alloc (.cells #[.string X, .slice none 0 0, .slice none 0 0] 37 (0, 0))).heap[w2.heap.size + 1]? = some (.cells #[.string X, .slice none 0 0, .slice none 0 0] 37 (0, 0)) := hnew (by simp)
    have k2' := hal (o := (.cells #[.string X, .slice none 0 0, .slice none 0 0] 37 (0, 0))) (hal (o := (.cells #[.string X, .int .i64 (k : Nat), .bool true] 69 (0, 0))) k2)
    have BW : Hid (Below w.heap.size w ((w2.alloc (.cells #[.string X, .int .i64 (k : Nat), .bool true] 69 (0, 0))).alloc (.cells #[.string X, .slice none 0 0, .slice none 0 0] 37 (0, 0)))) := al (al HB2.out HB2.out.size) (by have := HB2.out.size; simp; omega)
    have RW : Hid (StrRow ((w2.alloc (.cells #[.string X, .int .i64 (k : Nat), .bool true] 69 (0, 0))).alloc (.cells #[.string X, .slice none 0 0, .slice none 0 0] 37 (0, 0))) gs (splA 32 l)) := HRW2.out.keep (al (al (Below.refl _ _) (Nat.le_refl _)) (by simp))
    obtain ⟨g5, hg5⟩ : ∃ g5, g5 = w2.heap.size := ⟨_, rfl⟩
    obtain ⟨g8, hg8⟩ : ∃ g8, g8 = g5 + 1 := ⟨_, rfl⟩
    have hgl : w.heap.size < g8 ∧ g5 < g8 ∧ gs < g8 := by have h1 := lt_of_block k2; have h2 := HB2.out.size; have h3 : gs < w2.heap.size := lt_of_cell (HRW2.out 0 x HX.out); omega
    rw [← hg5] at k5 k8 ⊢
    rw [← hg8] at k8 ⊢
    try rw [E44.out]
    generalize (w2.alloc (.cells #[.string X, .int .i64 (k : Nat), .bool true] 69 (0, 0))).alloc (.cells #[.string X, .slice none 0 0, .slice none 0 0] 37 (0, 0)) = w3 at *
    clear HB2 HRW2 k2 hg5 hg8 HSp HFd hs1 hgs
    have K5 := Lib.hid k5
    have K8 := Lib.hid k8
    have K2 := Lib.hid k2'
    have HGL := Lib.hid hgl
    clear k5 k8 k2' hgl hne hle hcap hcap2
    go_loopw [10, 11, 12, 46] (fun _ _ _ iv wr => ∃ (i : Nat) (q : Option Addr) (c : Nat) (ns : List Nat), i ≤ k ∧ iv = .int .i64 i ∧ Hid (numsP (((splA 32 l).drop 1).take i) = some ns) ∧ Hid (wr.ownsRow g8 48 1 (.slice q i c) i (ns.map encU)) ∧ Hid (wr.heap[g8]? = some (.cells #[.string X, .slice q i c, .slice none 0 0] 37 (0, 0))) ∧ Hid (wr.heap[g5]? = some (.cells #[.string X, .int .i64 (k : Nat), .bool true] 69 (0, 0))) ∧ Hid (wr.heap[w.heap.size]? = some (.cells #[.string (strB []), .slice none 0 0, .slice none 0 0] 37 (0, 0))) ∧ Hid (StrRow wr gs (splA 32 l)) ∧ Hid (Below w.heap.size w wr)) (fun _ _ _ iv _ => k - (intOf iv).toNat)
    case atStart => exact ⟨0, none, 0, [], Nat.zero_le _, rfl, rfl, World.ownsRow_nil _ _ _ _, K8.out, K5.out, K2.out, RW.out, BW.out⟩
    case round =>
      obtain ⟨i, q, c, ns, hik, rfl, HNs, HO, H8, H5, H2, HRr, HBr⟩ := hrel
      clear K5 K8 K2 RW BW
      by_cases hlt : i < k
      · obtain ⟨a, ha⟩ : ∃ a, (splA 32 l)[1 + i]? = some a := ⟨_, List.getElem?_eq_getElem (by have := HN.out; have := HW.out; omega)⟩
        have ca := HRr.out (1 + i) a ha
        have hai : (((splA 32 l).drop 1))[i]? = some a := by rw [List.getElem?_drop]; exact ha
        have hal2 : a.length ≤ 1000000 := Nat.le_trans (spl_shortC _ _ _ _ (List.mem_of_getElem? ha)) hl
        have HRN := Lib.hid (readNumber_any a wr hal2 (HE.out.keep HBr.out) (HS.out.keep HBr.out))
        obtain ⟨A, hA⟩ : ∃ A, A = strB a := ⟨_, rfl⟩
        rw [← hA] at ca HRN
        have hlt' : (i : Int) < (k : Int) := by omega
        have HA := Lib.hid hai
        have HLT := Lib.hid hlt
        clear ha hai hal2 hA hlt
        go_wp2_with fail
        refine Calls.mono HRN.out ?_
        rintro e w4 ⟨v, rfl, ⟨y, rfl, hy⟩, hb⟩
        have HB4 := Lib.hid (bl HBr.out hb HBr.out.size)
        have HO4 := Lib.hid (owns_keep HO.out hb)
        have H84 := Lib.hid ((hb.block _ (lt_of_block H8.out)).trans H8.out)
        have H54 := Lib.hid ((hb.block _ (lt_of_block H5.out)).trans H5.out)
        have H24 := Lib.hid ((hb.block _ (lt_of_block H2.out)).trans H2.out)
        have HR4 := Lib.hid (HRr.out.keep hb)
        clear hb ca HRN HO H8 H5 H2 HRr HBr
        cases hnb : numB 18446744073709551615 a with
        | none =>
          have HRes : Hid (R = (14, noCmd)) := HR.out.trans (readP_nums HFS.out (by have := HN.out; have := HW.out; show _ = 1 + k + 1; omega) (numsP_bad (i := i) (a := a) (X := ns) (by rw [List.take_take, Nat.min_eq_left (by have := HLT.out; omega)]; exact HNs.out) (by rw [List.getElem?_take, if_pos HLT.out]; exact HA.out) hnb))
          have H22 := H24.out
          clear hnb hy HNs HO4 H84 H54 HR4 H24
          go_wp2_with (refine wpList_store_row (o := ⟨none, .store 37 (.tmp 2) (.tmp 57), _, _, _, _⟩) rfl 37 (.tmp 2) (.tmp 57) rfl w.heap.size #[.string (strB []), .slice none 0 0, .slice none 0 0] rfl rfl _ _ H22 info_cmd rfl (by simp [Value.oneCell']) ?_)
          refine bodyPost_ret (res_ct rfl _ _ _ 37 #[.string (strB []), .slice none 0 0, .slice none 0 0] (0, 0) _ (.int .i64 14) rfl (hrs H22) rfl Tryd.underlying37 rfl info_cmd) rfl ?_
          exact ⟨_, _, _, by rw [HRes.out], by rw [HRes.out]; exact CmdV.no _ _, below_row HB4.out (Nat.le_refl _)⟩
        | some z =>
          obtain rfl : y = z := hy z hnb
          have HNB := Lib.hid hnb
          obtain ⟨c0, c1, c2⟩ := cells_three H84.out
          have z1 := frozen_of_row _ _ 1 _ _ H84.out
          have hOA : Hid (∀ o, (w4.alloc o).ownsRow g8 48 1 (.slice q i c) i (ns.map encU)) := fun o => owns_keep HO4.out (al (Below.refl _ _) (Nat.le_refl _))
          have hszw := HB4.out.size
          clear hnb hy
          go_wp2_with (at_builtin; go_loud (refine wpList_append_own _ rfl _ _ 34 rfl g8 48 u0 (.int .u64 0) 1 8 Tryd.underlying34 hu hu0 hu1 hu2 rfl (by omega) _ i (ns.map encU) rfl (hOA.out _) ⟨w4.heap.size, 0, none⟩ 1 1 [encU y] rfl rfl (one_cellI rfl) ?c2 ?c3 ?c4 ?c5 ?_))
          case c2 => first | rfl | (intro y hy; simp at hy; subst hy; rfl)
          case c3 => unfold maxLen; omega
          case c4 => omega
          case c5 => have := lt_of_block H84.out; first | omega | (simp; omega)
          intro v' w' ho' hg' _
          obtain ⟨q', c', rfl⟩ := owns_shape ho'
          have H8' := grown_other (hOA.out _) hg' (hal H84.out) (by decide)
          have BG : Hid (Below g8 w4 w') := (al (Below.refl _ _) (Nat.le_of_lt (lt_of_block H84.out))).grown hg' (by have := lt_of_block H84.out; simp; omega) (fun rr hrr => (HO4.out.lt rr hrr).1)
          have HO5 : Hid (w'.ownsRow g8 48 1 (.slice q' (i + 1) c') (i + 1) ((ns ++ [y]).map encU)) := by
            show World.ownsRow _ _ _ _ _ _ _
            rw [List.map_append]; exact ho'
          have HNs5 := Lib.hid (numsP_step HNs.out HA.out HNB.out)
          obtain ⟨d0, d1, d2⟩ := cells_three H8'
          have z1 := frozen_of_row _ _ 1 _ _ H8'
          have HH8 := Lib.hid H8'
          clear ho' hg' c0 c1 c2 hOA HO4 HNs HA HNB H8'
          go_wp2
          have BF : Hid (Below g8 w4 (w'.setCell ⟨g8, 1, none⟩ (.slice q' (i + 1) c'))) := (BG.out).setCell (Nat.le_refl _) _
          go_roundw
          case rel => exact ⟨i + 1, q', c', ns ++ [y], HLT.out, by go_num, HNs5.out, ownsRow_setCell_other HO5.out (owns_block_ne HO5.out HH8.out (by decide)) _, hss HH8.out, (BF.out.block _ HGL.out.2.1).trans H54.out, (BF.out.block _ HGL.out.1).trans H24.out, fun j z hj => (BF.out.cell (p := ⟨gs, j, none⟩) HGL.out.2.2).trans (HR4.out j z hj), HB4.out.trans (BF.out.mono (by have := HGL.out; omega))⟩
          case measure => simp [intOf]; have := HLT.out; omega
      · obtain rfl : i = k := by omega
        obtain ⟨a, ha⟩ : ∃ a, (splA 32 l)[1 + i]? = some a := ⟨_, List.getElem?_eq_getElem (by have := HN.out; have := HW.out; omega)⟩
        have ca := HRr.out (1 + i) a ha
        have hal2 : a.length ≤ 1000000 := Nat.le_trans (spl_shortC _ _ _ _ (List.mem_of_getElem? ha)) hl
        have HRB := Lib.hid (readBytes_any a wr hal2)
        have HNF : Hid (numsP (((splA 32 l).drop 1).take i) = some ns) := HNs.out
        have HA : Hid ((splA 32 l).getD (i + 1) [] = a) := by show _ = _; rw [List.getD_eq_getElem?_getD, Nat.add_comm, ha]; rfl
        obtain ⟨A, hA⟩ : ∃ A, A = strB a := ⟨_, rfl⟩
        rw [← hA] at ca HRB
        have hin : (i : Int) + 1 < (n : Int) := by have := HW.out; omega
        obtain ⟨d0, d1, d2⟩ := cells_three H5.out
        clear ha hal2 hA hlt HNs
        go_wp2_with fail
        refine Calls.mono HRB.out ?_
        rintro e w4 ⟨q2, n2, c2, rfl, hfr, hb⟩
        have HB4 := Lib.hid (bl HBr.out hb HBr.out.size)
        have HO4 := Lib.hid (owns_keep HO.out hb)
        have H84 := Lib.hid ((hb.block _ (lt_of_block H8.out)).trans H8.out)
        have H24 := Lib.hid ((hb.block _ (lt_of_block H2.out)).trans H2.out)
        have HF4 := Lib.hid (hfr.mono HBr.out.size)
        have b0 := cell_of_row _ _ 2 _ _ _ H84.out
        have z2 := frozen_of_row _ _ 2 _ _ H84.out
        clear hb hfr ca HRB HO H8 H5 H2 HRr HBr d0 d1 d2
        have hgs := Lib.hid (show Below g8 w4 (w4.setCell ⟨g8, 2, none⟩ (.slice q2 n2 c2)) from (Below.refl g8 w4).setCell (Nat.le_refl g8) _)
        have H85 : Hid ((w4.setCell ⟨g8, 2, none⟩ (.slice q2 n2 c2)).heap[g8]? = some (.cells #[.string X, .slice q i c, .slice q2 n2 c2] 37 (0, 0))) := hss H84.out
        have H25 := Lib.hid ((hgs.out.block _ HGL.out.1).trans H24.out)
        have HO5 : Hid ((w4.setCell ⟨g8, 2, none⟩ (.slice q2 n2 c2)).ownsRow g8 48 1 (.slice q i c) i (ns.map encU)) := ownsRow_setCell_other HO4.out (owns_block_ne HO4.out H84.out (by decide)) _
        have HF5 := Lib.hid (HF4.out.cellI (v := .slice q2 n2 c2) (i := 2) H84.out (by decide))
        have HB5 := Lib.hid (HB4.out.trans (hgs.out.mono (by have := HGL.out; omega)))
        cases hy : bytesP a with
        | none =>
          have HRes : Hid (R = (14, noCmd)) := HR.out.trans (readP_bad HFS.out (by have := HN.out; have := HW.out; show _ = 1 + i + 1; omega) HNF.out rfl (by rw [HA.out]; exact hy))
          clear hy
          go_upto_region 21 with (fail)
          generalize w4.setCell ⟨g8, 2, none⟩ (.slice q2 n2 c2) = w5 at *
          clear b0 z2 HB4 HO4 H84 H24 HF4 hgs
          have H26 := H25.out
          go_wp2_with (refine wpList_store_row (o := ⟨none, .store 37 (.tmp 2) (.tmp 79), _, _, _, _⟩) rfl 37 (.tmp 2) (.tmp 79) rfl w.heap.size #[.string (strB []), .slice none 0 0, .slice none 0 0] rfl rfl _ _ H26 info_cmd rfl (by simp [Value.oneCell']) ?_)
          refine bodyPost_ret (res_ct rfl _ _ _ 37 #[.string (strB []), .slice none 0 0, .slice none 0 0] (0, 0) _ (.int .i64 14) rfl (hrs H26) rfl Tryd.underlying37 rfl info_cmd) rfl ?_
          exact ⟨_, _, _, by rw [HRes.out], by rw [HRes.out]; exact CmdV.no _ _, below_row HB5.out (Nat.le_refl _)⟩
        | some m =>
          have HRes : Hid (R = (0, ⟨x, ns, m⟩)) := by
            have := HR.out.trans (readP_full HFS.out (by have := HN.out; have := HW.out; show _ = 1 + i + 1; omega) HNF.out rfl (by rw [HA.out]; exact hy))
            rw [E0.out] at this
            exact this
          rw [hy] at HF5 HF4
          clear hy
          go_upto_region 21 with (fail)
          generalize w4.setCell ⟨g8, 2, none⟩ (.slice q2 n2 c2) = w5 at *
          clear b0 z2 HB4 HO4 H84 H24 HF4 hgs
          have H26 := H25.out
          obtain ⟨d0, d1, d2⟩ := cells_three H85.out
          go_wp2_with (refine wpList_store_row (o := ⟨none, .store 37 (.tmp 2) (.tmp 80), _, _, _, _⟩) rfl 37 (.tmp 2) (.tmp 80) rfl w.heap.size #[.string X, .slice q i c, .slice q2 n2 c2] rfl rfl _ _ H26 info_cmd rfl (by simp [Value.oneCell']) ?_)
          refine bodyPost_ret (res_ct rfl _ _ _ 37 #[.string X, .slice q i c, .slice q2 n2 c2] (0, 0) _ (.int .i64 0) rfl (hrs H26) rfl Tryd.underlying37 rfl info_cmd) rfl ?_
          refine ⟨_, _, _, by rw [HRes.out], ?_, below_row HB5.out (Nat.le_refl _)⟩
          rw [HRes.out]
          refine ⟨by rw [HXX.out], ⟨q, i, c, rfl, ?_⟩, q2, n2, c2, rfl, HF5.out.row H26 (by decide)⟩
          exact owns_mono (owns_setRow HO5.out H26 (by decide)) (Nat.le_of_lt HGL.out.1)
  · have hne : ((n : Int) != 1 + (k : Int) + 1) = true := bne_iff_ne.2 (by omega)
    have HRes : Hid (R = (14, noCmd)) := HR.out.trans (readP_len HFS.out (by have := HN.out; show _ ≠ 1 + k + 1; omega))
    clear hw
    go_enter Tryd.func18, Tryd.ntmps18
    go_wp2_with fail
    refine Calls.mono (HSp.out _ (al (Below.refl _ _) (Nat.le_refl _))) ?_
    rintro e w1 ⟨gs, rfl, hgs, hr, hb⟩
    obtain ⟨hb1, k1, hs1⟩ := one_of hb
    have HB1 := Lib.hid hb1
    have hc0 := hr 0 x HX.out
    rw [← HXX.out] at hc0
    clear hr hb hb1
    go_wp2_with fail
    refine Calls.mono (HFd.out _) ?_
    rintro e w2 ⟨rfl, hb⟩
    have HB2 := Lib.hid (bl HB1.out hb HB1.out.size)
    have k2 := (hb.block _ (lt_of_block k1)).trans k1
    clear hb hc0 k1 HB1
    have K3 := hal (o := (.cells #[.string X, .int .i64 (k : Nat), .bool true] 69 (0, 0))) k2
    go_wp2_with (refine wpList_store_row (o := ⟨none, .store 37 (.tmp 2) (.tmp 36), _, _, _, _⟩) rfl 37 (.tmp 2) (.tmp 36) rfl w.heap.size #[.string (strB []), .slice none 0 0, .slice none 0 0] rfl rfl _ _ K3 info_cmd rfl (by simp [Value.oneCell']) ?_)
    refine bodyPost_ret (res_ct rfl _ _ _ 37 #[.string (strB []), .slice none 0 0, .slice none 0 0] (0, 0) _ (.int .i64 14) rfl (hrs K3) rfl Tryd.underlying37 rfl info_cmd) rfl ?_
    exact ⟨_, _, _, by rw [HRes.out], by rw [HRes.out]; exact CmdV.no _ _, below_row (al HB2.out HB2.out.size) (Nat.le_refl _)⟩
set_option maxRecDepth 100000 in
set_option maxHeartbeats 4000000 in
theorem read_zero (l : List UInt8) (w : World) (hl : l.length ≤ 1000000) (S X : ByteArray) (x : List UInt8) (R : Int × Cmd) (HFS : Hid (formS ((partsP l).getD 0 []) = some (0, false))) (HR : Hid (R = readP l)) (HX : Hid ((splA 32 l)[0]? = some x)) (HN : Hid (1 = (splA 32 l).length)) (HXX : Hid (X = strB x)) (E0 : Hid ((splA 32 l).getD 0 [] = x))
    (HSp : Hid (∀ W, Below w.heap.size w W → Calls Tryd.prog 30 #[.string S, .string ⟨#[32]⟩] W fun e w' => ∃ b, e = .returned (.slice (some ⟨b, 0, none⟩) 1 1) ∧ W.heap.size ≤ b ∧ StrRow w' b (splA 32 l) ∧ Below W.heap.size W w'))
    (HFd : Hid (∀ W, Calls Tryd.prog 31 #[.string X] W fun e w' => e = .returned (.tuple #[.agg #[.string X, .int .i64 ((0 : Nat) : Int), .bool false], .bool true]) ∧ Below W.heap.size W w')) :
    Calls Tryd.prog 18 #[.string S] w (RdR w R) := by
  have HRes : Hid (R = (0, ⟨x, [], []⟩)) := by
    have := HR.out.trans (readP_plain (ns := []) HFS.out (by have := HN.out; show _ = 1 + 0 + 0; omega) rfl rfl)
    rw [E0.out] at this
    exact this
  clear HFS HR
  go_enter Tryd.func18, Tryd.ntmps18
  go_wp2_with fail
  refine Calls.mono (HSp.out _ (al (Below.refl _ _) (Nat.le_refl _))) ?_
  rintro e w1 ⟨gs, rfl, hgs, hr, hb⟩
  obtain ⟨hb1, k1, hs1⟩ := one_of hb
  have HB1 := Lib.hid hb1
  have hc0 := hr 0 x HX.out
  rw [← HXX.out] at hc0
  clear hr hb hb1
  go_wp2_with fail
  refine Calls.mono (HFd.out _) ?_
  rintro e w2 ⟨rfl, hb⟩
  have HB2 := Lib.hid (bl HB1.out hb HB1.out.size)
  have k2 := (hb.block _ (lt_of_block k1)).trans k1
  clear hb hc0 k1 HB1
  go_wp2
  have k8 : ((w2.alloc (.cells #[.string X, .int .i64 0, .bool false] 69 (0, 0))).alloc (.cells #[.string X, .slice none 0 0, .slice none 0 0] 37 (0, 0))).heap[w2.heap.size + 1]? = some (.cells #[.string X, .slice none 0 0, .slice none 0 0] 37 (0, 0)) := hnew (by simp)
  have k5 : ((w2.alloc (.cells #[.string X, .int .i64 0, .bool false] 69 (0, 0))).alloc (.cells #[.string X, .slice none 0 0, .slice none 0 0] 37 (0, 0))).heap[w2.heap.size]? = some (.cells #[.string X, .int .i64 0, .bool false] 69 (0, 0)) := hal (hnew rfl)
  have k2' := hal (o := (.cells #[.string X, .slice none 0 0, .slice none 0 0] 37 (0, 0))) (hal (o := (.cells #[.string X, .int .i64 0, .bool false] 69 (0, 0))) k2)
  have BW : Hid (Below w.heap.size w ((w2.alloc (.cells #[.string X, .int .i64 0, .bool false] 69 (0, 0))).alloc (.cells #[.string X, .slice none 0 0, .slice none 0 0] 37 (0, 0)))) := al (al HB2.out HB2.out.size) (by have := HB2.out.size; simp; omega)
  generalize (w2.alloc (.cells #[.string X, .int .i64 0, .bool false] 69 (0, 0))).alloc (.cells #[.string X, .slice none 0 0, .slice none 0 0] 37 (0, 0)) = w3 at *
  clear HB2 k2 HSp HFd hs1 hgs
  go_loopw [46] (fun iv wr => iv = .int .i64 0 ∧ wr = w3) (fun _ _ => 0)
  case atStart => exact ⟨rfl, rfl⟩
  case round =>
    obtain ⟨rfl, rfl⟩ := hrel
    obtain ⟨d0, d1, d2⟩ := cells_three k8
    obtain ⟨f0, f1, f2⟩ := cells_three k5
    go_wp2_with (refine wpList_store_row (o := ⟨none, .store 37 (.tmp 2) (.tmp 80), _, _, _, _⟩) rfl 37 (.tmp 2) (.tmp 80) rfl w.heap.size #[.string X, .slice none 0 0, .slice none 0 0] rfl rfl _ _ k2' info_cmd rfl (by simp [Value.oneCell']) ?_)
    refine bodyPost_ret (res_ct rfl _ _ _ 37 #[.string X, .slice none 0 0, .slice none 0 0] (0, 0) _ (.int .i64 0) rfl (hrs k2') rfl Tryd.underlying37 rfl info_cmd) rfl ?_
    refine ⟨_, _, _, by rw [HRes.out], ?_, below_row BW.out (Nat.le_refl _)⟩
    rw [HRes.out]
    exact ⟨by rw [HXX.out], ⟨none, 0, 0, rfl, World.ownsRow_nil _ _ _ _⟩, none, 0, 0, rfl, Fresh.none _ _ _⟩
set_option maxRecDepth 100000 in
set_option maxHeartbeats 8000000 in
theorem read_short (l : List UInt8) (k : Nat) (w : World) (hl : l.length ≤ 1000000) (hM : MaxI w) (hE : ErrI w) (hS : SynI w) (hf : formsL.find? (isW ((splA 32 l).getD 0 [])) = some ((splA 32 l).getD 0 [], k, false)) :
    Calls Tryd.prog 18 #[.string (strB l)] w (RdR w (readP l)) := by
  obtain ⟨u0, hu, hu0, hu1, hu2⟩ := info_parts info_u64
  obtain ⟨_, hk3, hfS⟩ := readP_some hf
  have HFS := Lib.hid hfS
  have HSp : Hid (∀ W, Below w.heap.size w W → Calls Tryd.prog 30 #[.string (strB l), .string ⟨#[32]⟩] W fun e w' => ∃ b, e = .returned (.slice (some ⟨b, 0, none⟩) (splA 32 l).length (splA 32 l).length) ∧ W.heap.size ≤ b ∧ StrRow w' b (splA 32 l) ∧ Below W.heap.size W w') := fun W hb => (Split_any 32 l W hl (hM.keep hb)).mono fun e w' ⟨h1, h2, h3⟩ => ⟨_, h1, Nat.le_refl _, h2, h3⟩
  have HFd := Lib.hid (fun W => find_form hf W)
  obtain ⟨x, hx⟩ : ∃ x, (splA 32 l)[0]? = some x := ⟨_, List.getElem?_eq_getElem (List.length_pos_iff.2 (splA_ne 32 l))⟩
  have e0 : (splA 32 l).getD 0 [] = x := by rw [List.getD_eq_getElem?_getD, hx]; rfl
  simp only [e0] at HFd
  have E0 := Lib.hid e0
  have hn1 : 1 ≤ (splA 32 l).length := List.length_pos_iff.2 (splA_ne 32 l)
  have hn2 := splA_len 32 l
  have HX := Lib.hid hx
  have HE := Lib.hid hE
  have HS := Lib.hid hS
  obtain ⟨S, hS'⟩ : ∃ S, S = strB l := ⟨_, rfl⟩
  rw [← hS'] at HSp ⊢
  obtain ⟨n, hn⟩ : ∃ n, n = (splA 32 l).length := ⟨_, rfl⟩
  have HN := Lib.hid hn
  rw [← hn] at hn1 hn2 HSp
  obtain ⟨X, hX⟩ : ∃ X, X = strB x := ⟨_, rfl⟩
  rw [← hX] at HFd
  have HXX := Lib.hid hX
  clear hf hM hS' hx e0 hfS hn hE hS hX
  have hn1' : (0 : Int) < (n : Int) := by omega
  obtain ⟨R, hR⟩ : ∃ R, R = readP l := ⟨_, rfl⟩
  rw [← hR]
  have HR := Lib.hid hR
  clear hR
  by_cases hw : n = k + 1
  · have hne : ((n : Int) != 1 + (k : Int)) = false := by rw [bne_eq_false_iff_eq]; omega
    have hle : 1 + (k : Int) ≤ (n : Int) := by omega
    rcases Nat.eq_zero_or_pos k with hk0 | hk0
    · subst hk0
      obtain rfl : n = 1 := by omega
      have HFa := HFS; have HRa := HR; have HXa := HX; have HSpa := HSp; have HFda := HFd
      exact read_zero l w hl S X x R HFa HRa HXa HN HXX E0 HSpa HFda
    have hcap : ¬ n = 1 := by omega
    have hcap2 : ¬ 1 = n := by omega
    have HW := Lib.hid hw
    have e44 : 1 + k - 1 = k := by omega
    have E44 := Lib.hid e44
    clear hw e44
    go_enter Tryd.func18, Tryd.ntmps18
    go_wp2_with fail
    refine Calls.mono (HSp.out _ (al (Below.refl _ _) (Nat.le_refl _))) ?_
    rintro e w1 ⟨gs, rfl, hgs, hr, hb⟩
    obtain ⟨hb1, k1, hs1⟩ := one_of hb
    have HB1 := Lib.hid hb1
    have HRW := Lib.hid hr
    have hc0 := hr 0 x HX.out
    rw [← HXX.out] at hc0
    clear hr hb hb1
    go_wp2_with fail
    refine Calls.mono (HFd.out _) ?_
    rintro e w2 ⟨rfl, hb⟩
    have HB2 := Lib.hid (bl HB1.out hb HB1.out.size)
    have k2 := (hb.block _ (lt_of_block k1)).trans k1
    have HRW2 := Lib.hid (HRW.out.keep hb)
    clear hb hc0 k1 HB1 HRW
    go_wp2
    have k5 : ((w2.alloc (.cells #[.string X, .int .i64 (k : Nat), .bool false] 69 (0, 0))).alloc (.cells #[.string X, .slice none 0 0, .slice none 0 0] 37 (0, 0))).heap[w2.heap.size]? = some (.cells #[.string X, .int .i64 (k : Nat), .bool false] 69 (0, 0)) := hal (hnew rfl)
    have k8 : ((w2.alloc (.cells #[.string X, .int .i64 (k : Nat), .bool false] 69 (0, 0))).alloc (.cells #[.string X, .slice none 0 0, .slice none 0 0] 37 (0, 0))).heap[w2.heap.size + 1]? = some (.cells #[.string X, .slice none 0 0, .slice none 0 0] 37 (0, 0)) := hnew (by simp)
    have k2' := hal (o := (.cells #[.string X, .slice none 0 0, .slice none 0 0] 37 (0, 0))) (hal (o := (.cells #[.string X, .int .i64 (k : Nat), .bool false] 69 (0, 0))) k2)
    have BW : Hid (Below w.heap.size w ((w2.alloc (.cells #[.string X, .int .i64 (k : Nat), .bool false] 69 (0, 0))).alloc (.cells #[.string X, .slice none 0 0, .slice none 0 0] 37 (0, 0)))) := al (al HB2.out HB2.out.size) (by have := HB2.out.size; simp; omega)
    have RW : Hid (StrRow ((w2.alloc (.cells #[.string X, .int .i64 (k : Nat), .bool false] 69 (0, 0))).alloc (.cells #[.string X, .slice none 0 0, .slice none 0 0] 37 (0, 0))) gs (splA 32 l)) := HRW2.out.keep (al (al (Below.refl _ _) (Nat.le_refl _)) (by simp))
    obtain ⟨g5, hg5⟩ : ∃ g5, g5 = w2.heap.size := ⟨_, rfl⟩
    obtain ⟨g8, hg8⟩ : ∃ g8, g8 = g5 + 1 := ⟨_, rfl⟩
    have hgl : w.heap.size < g8 ∧ g5 < g8 ∧ gs < g8 := by have h1 := lt_of_block k2; have h2 := HB2.out.size; have h3 : gs < w2.heap.size := lt_of_cell (HRW2.out 0 x HX.out); omega
    rw [← hg5] at k5 k8 ⊢
    rw [← hg8] at k8 ⊢
    try rw [E44.out]
    generalize (w2.alloc (.cells #[.string X, .int .i64 (k : Nat), .bool false] 69 (0, 0))).alloc (.cells #[.string X, .slice none 0 0, .slice none 0 0] 37 (0, 0)) = w3 at *
    clear HB2 HRW2 k2 hg5 hg8 HSp HFd hs1 hgs
    have K5 := Lib.hid k5
    have K8 := Lib.hid k8
    have K2 := Lib.hid k2'
    have HGL := Lib.hid hgl
    clear k5 k8 k2' hgl hne hle hcap hcap2
    go_loopw [10, 11, 12, 46] (fun _ _ _ iv wr => ∃ (i : Nat) (q : Option Addr) (c : Nat) (ns : List Nat), i ≤ k ∧ iv = .int .i64 i ∧ Hid (numsP (((splA 32 l).drop 1).take i) = some ns) ∧ Hid (wr.ownsRow g8 48 1 (.slice q i c) i (ns.map encU)) ∧ Hid (wr.heap[g8]? = some (.cells #[.string X, .slice q i c, .slice none 0 0] 37 (0, 0))) ∧ Hid (wr.heap[g5]? = some (.cells #[.string X, .int .i64 (k : Nat), .bool false] 69 (0, 0))) ∧ Hid (wr.heap[w.heap.size]? = some (.cells #[.string (strB []), .slice none 0 0, .slice none 0 0] 37 (0, 0))) ∧ Hid (StrRow wr gs (splA 32 l)) ∧ Hid (Below w.heap.size w wr)) (fun _ _ _ iv _ => k - (intOf iv).toNat)
    case atStart => exact ⟨0, none, 0, [], Nat.zero_le _, rfl, rfl, World.ownsRow_nil _ _ _ _, K8.out, K5.out, K2.out, RW.out, BW.out⟩
    case round =>
      obtain ⟨i, q, c, ns, hik, rfl, HNs, HO, H8, H5, H2, HRr, HBr⟩ := hrel
      clear K5 K8 K2 RW BW
      by_cases hlt : i < k
      · obtain ⟨a, ha⟩ : ∃ a, (splA 32 l)[1 + i]? = some a := ⟨_, List.getElem?_eq_getElem (by have := HN.out; have := HW.out; omega)⟩
        have ca := HRr.out (1 + i) a ha
        have hai : (((splA 32 l).drop 1))[i]? = some a := by rw [List.getElem?_drop]; exact ha
        have hal2 : a.length ≤ 1000000 := Nat.le_trans (spl_shortC _ _ _ _ (List.mem_of_getElem? ha)) hl
        have HRN := Lib.hid (readNumber_any a wr hal2 (HE.out.keep HBr.out) (HS.out.keep HBr.out))
        obtain ⟨A, hA⟩ : ∃ A, A = strB a := ⟨_, rfl⟩
        rw [← hA] at ca HRN
        have hlt' : (i : Int) < (k : Int) := by omega
        have HA := Lib.hid hai
        have HLT := Lib.hid hlt
        clear ha hai hal2 hA hlt
        go_wp2_with fail
        refine Calls.mono HRN.out ?_
        rintro e w4 ⟨v, rfl, ⟨y, rfl, hy⟩, hb⟩
        have HB4 := Lib.hid (bl HBr.out hb HBr.out.size)
        have HO4 := Lib.hid (owns_keep HO.out hb)
        have H84 := Lib.hid ((hb.block _ (lt_of_block H8.out)).trans H8.out)
        have H54 := Lib.hid ((hb.block _ (lt_of_block H5.out)).trans H5.out)
        have H24 := Lib.hid ((hb.block _ (lt_of_block H2.out)).trans H2.out)
        have HR4 := Lib.hid (HRr.out.keep hb)
        clear hb ca HRN HO H8 H5 H2 HRr HBr
        cases hnb : numB 18446744073709551615 a with
        | none =>
          have HRes : Hid (R = (14, noCmd)) := HR.out.trans (readP_nums HFS.out (by have := HN.out; have := HW.out; show _ = 1 + k + 0; omega) (numsP_bad (i := i) (a := a) (X := ns) (by rw [List.take_take, Nat.min_eq_left (by have := HLT.out; omega)]; exact HNs.out) (by rw [List.getElem?_take, if_pos HLT.out]; exact HA.out) hnb))
          have H22 := H24.out
          clear hnb hy HNs HO4 H84 H54 HR4 H24
          go_wp2_with (refine wpList_store_row (o := ⟨none, .store 37 (.tmp 2) (.tmp 57), _, _, _, _⟩) rfl 37 (.tmp 2) (.tmp 57) rfl w.heap.size #[.string (strB []), .slice none 0 0, .slice none 0 0] rfl rfl _ _ H22 info_cmd rfl (by simp [Value.oneCell']) ?_)
          refine bodyPost_ret (res_ct rfl _ _ _ 37 #[.string (strB []), .slice none 0 0, .slice none 0 0] (0, 0) _ (.int .i64 14) rfl (hrs H22) rfl Tryd.underlying37 rfl info_cmd) rfl ?_
          exact ⟨_, _, _, by rw [HRes.out], by rw [HRes.out]; exact CmdV.no _ _, below_row HB4.out (Nat.le_refl _)⟩
        | some z =>
          obtain rfl : y = z := hy z hnb
          have HNB := Lib.hid hnb
          obtain ⟨c0, c1, c2⟩ := cells_three H84.out
          have z1 := frozen_of_row _ _ 1 _ _ H84.out
          have hOA : Hid (∀ o, (w4.alloc o).ownsRow g8 48 1 (.slice q i c) i (ns.map encU)) := fun o => owns_keep HO4.out (al (Below.refl _ _) (Nat.le_refl _))
          have hszw := HB4.out.size
          clear hnb hy
          go_wp2_with (at_builtin; go_loud (refine wpList_append_own _ rfl _ _ 34 rfl g8 48 u0 (.int .u64 0) 1 8 Tryd.underlying34 hu hu0 hu1 hu2 rfl (by omega) _ i (ns.map encU) rfl (hOA.out _) ⟨w4.heap.size, 0, none⟩ 1 1 [encU y] rfl rfl (one_cellI rfl) ?c2 ?c3 ?c4 ?c5 ?_))
          case c2 => first | rfl | (intro y hy; simp at hy; subst hy; rfl)
          case c3 => unfold maxLen; omega
          case c4 => omega
          case c5 => have := lt_of_block H84.out; first | omega | (simp; omega)
          intro v' w' ho' hg' _
          obtain ⟨q', c', rfl⟩ := owns_shape ho'
          have H8' := grown_other (hOA.out _) hg' (hal H84.out) (by decide)
          have BG : Hid (Below g8 w4 w') := (al (Below.refl _ _) (Nat.le_of_lt (lt_of_block H84.out))).grown hg' (by have := lt_of_block H84.out; simp; omega) (fun rr hrr => (HO4.out.lt rr hrr).1)
          have HO5 : Hid (w'.ownsRow g8 48 1 (.slice q' (i + 1) c') (i + 1) ((ns ++ [y]).map encU)) := by
            show World.ownsRow _ _ _ _ _ _ _
            rw [List.map_append]; exact ho'
          have HNs5 := Lib.hid (numsP_step HNs.out HA.out HNB.out)
          obtain ⟨d0, d1, d2⟩ := cells_three H8'
          have z1 := frozen_of_row _ _ 1 _ _ H8'
          have HH8 := Lib.hid H8'
          clear ho' hg' c0 c1 c2 hOA HO4 HNs HA HNB H8'
          go_wp2
          have BF : Hid (Below g8 w4 (w'.setCell ⟨g8, 1, none⟩ (.slice q' (i + 1) c'))) := (BG.out).setCell (Nat.le_refl _) _
          go_roundw
          case rel => exact ⟨i + 1, q', c', ns ++ [y], HLT.out, by go_num, HNs5.out, ownsRow_setCell_other HO5.out (owns_block_ne HO5.out HH8.out (by decide)) _, hss HH8.out, (BF.out.block _ HGL.out.2.1).trans H54.out, (BF.out.block _ HGL.out.1).trans H24.out, fun j z hj => (BF.out.cell (p := ⟨gs, j, none⟩) HGL.out.2.2).trans (HR4.out j z hj), HB4.out.trans (BF.out.mono (by have := HGL.out; omega))⟩
          case measure => simp [intOf]; have := HLT.out; omega
      · obtain rfl : i = k := by omega
        have HRes : Hid (R = (0, ⟨x, ns, []⟩)) := by
          have := HR.out.trans (readP_plain HFS.out (by have := HN.out; have := HW.out; show _ = 1 + i + 0; omega) HNs.out rfl)
          rw [E0.out] at this
          exact this
        have H26 := H2.out
        obtain ⟨d0, d1, d2⟩ := cells_three H8.out
        obtain ⟨f0, f1, f2⟩ := cells_three H5.out
        clear hlt HNs
        go_wp2_with (refine wpList_store_row (o := ⟨none, .store 37 (.tmp 2) (.tmp 80), _, _, _, _⟩) rfl 37 (.tmp 2) (.tmp 80) rfl w.heap.size #[.string X, .slice q i c, .slice none 0 0] rfl rfl _ _ H26 info_cmd rfl (by simp [Value.oneCell']) ?_)
        refine bodyPost_ret (res_ct rfl _ _ _ 37 #[.string X, .slice q i c, .slice none 0 0] (0, 0) _ (.int .i64 0) rfl (hrs H26) rfl Tryd.underlying37 rfl info_cmd) rfl ?_
        refine ⟨_, _, _, by rw [HRes.out], ?_, below_row HBr.out (Nat.le_refl _)⟩
        rw [HRes.out]
        refine ⟨by rw [HXX.out], ⟨q, i, c, rfl, ?_⟩, none, 0, 0, rfl, Fresh.none _ _ _⟩
        exact owns_mono (owns_setRow HO.out H26 (by decide)) (Nat.le_of_lt HGL.out.1)
  · have hne : ((n : Int) != 1 + (k : Int)) = true := bne_iff_ne.2 (by omega)
    have HRes : Hid (R = (14, noCmd)) := HR.out.trans (readP_len HFS.out (by have := HN.out; show _ ≠ 1 + k + 0; omega))
    clear hw
    go_enter Tryd.func18, Tryd.ntmps18
    go_wp2_with fail
    refine Calls.mono (HSp.out _ (al (Below.refl _ _) (Nat.le_refl _))) ?_
    rintro e w1 ⟨gs, rfl, hgs, hr, hb⟩
    obtain ⟨hb1, k1, hs1⟩ := one_of hb
    have HB1 := Lib.hid hb1
    have hc0 := hr 0 x HX.out
    rw [← HXX.out] at hc0
    clear hr hb hb1
    go_wp2_with fail
    refine Calls.mono (HFd.out _) ?_
    rintro e w2 ⟨rfl, hb⟩
    have HB2 := Lib.hid (bl HB1.out hb HB1.out.size)
    have k2 := (hb.block _ (lt_of_block k1)).trans k1
    clear hb hc0 k1 HB1
    have K3 := hal (o := (.cells #[.string X, .int .i64 (k : Nat), .bool false] 69 (0, 0))) k2
    go_wp2_with (refine wpList_store_row (o := ⟨none, .store 37 (.tmp 2) (.tmp 36), _, _, _, _⟩) rfl 37 (.tmp 2) (.tmp 36) rfl w.heap.size #[.string (strB []), .slice none 0 0, .slice none 0 0] rfl rfl _ _ K3 info_cmd rfl (by simp [Value.oneCell']) ?_)
    refine bodyPost_ret (res_ct rfl _ _ _ 37 #[.string (strB []), .slice none 0 0, .slice none 0 0] (0, 0) _ (.int .i64 14) rfl (hrs K3) rfl Tryd.underlying37 rfl info_cmd) rfl ?_
    exact ⟨_, _, _, by rw [HRes.out], by rw [HRes.out]; exact CmdV.no _ _, below_row (al HB2.out HB2.out.size) (Nat.le_refl _)⟩
theorem read_any (l : List UInt8) (w : World) (hl : l.length ≤ 1000000) (hM : MaxI w) (hE : ErrI w) (hS : SynI w) : Calls Tryd.prog 18 #[.string (strB l)] w (RdR w (readP l)) := by
  cases hf : formsL.find? (isW ((splA 32 l).getD 0 [])) with
  | none => exact read_none l w hl hM hf
  | some f =>
    obtain ⟨x, k, b⟩ := f
    have hx := (readP_some hf).1
    subst hx
    cases b with
    | true => exact read_long l k w hl hM hE hS hf
    | false => exact read_short l k w hl hM hE hS hf
end Go.Proofs.YtccaiiigdfieoaaDoor
namespace Go.By
open Go.RowKit Go.Proofs.YtccaiiigdfieoaaDoor
/-- a cell of an owned slice, written -/
theorem owns_put {w : World} {base e g n c k : Nat} {xs : List Value} {u : Value} (h : w.ownsRow base e 1 (.slice (some ⟨g, 0, none⟩) n c) n xs) : (w.setCell ⟨g, k, none⟩ u).ownsRow base e 1 (.slice (some ⟨g, 0, none⟩) n c) n (xs.set k u) := by
  refine ⟨by rw [List.length_set]; exact h.1, ?_⟩
  rcases h.2 with ⟨e1, _⟩ | ⟨g', cap, cur, e1, h2, h3, h4, h5, h6, h7⟩
  · cases e1
  · cases e1
    refine .inr ⟨g, c, cur.setIfInBounds k u, rfl, h2, hss h3, h4, h5, by simpa using h6, ?_⟩
    rw [← h7, Array.toList_setIfInBounds, List.take_set]
theorem owns_lit1 {w : World} {T : TypeId} {u : Value} {base : Nat} (hb : base ≤ w.heap.size) : (w.alloc (.cells #[u] T)).ownsRow base T 1 (.slice (some ⟨w.heap.size, 0, none⟩) 1 1) 1 [u] :=
  ⟨rfl, .inr ⟨w.heap.size, 1, #[u], rfl, hb, hnew rfl, Nat.le_refl _, by simp [maxLen], rfl, rfl⟩⟩
theorem own_ptr {w : World} {base e s n c : Nat} {q : Option Addr} {xs : List Value} (h : w.ownsRow base e s (.slice q n c) n xs) (hn : 0 < n) : ∃ g, q = some ⟨g, 0, none⟩ ∧ n ≤ c ∧ base ≤ g := by
  rcases h.2 with ⟨_, e1⟩ | ⟨g', cap, cur, e1, h2, h3, h4, _⟩
  · omega
  · cases e1; exact ⟨g', rfl, h4, h2⟩
theorem own_cell {w : World} {base e g n c k : Nat} {xs : List Value} {u : Value} (h : w.ownsRow base e 1 (.slice (some ⟨g, 0, none⟩) n c) n xs) (hk : xs[k]? = some u) : w.cell? ⟨g, k, none⟩ = some u := by
  have := (List.getElem?_eq_some_iff.1 hk).1
  have h2 := h.cellAt k (by have := h.1; omega)
  rw [h2]; exact hk
theorem own_free {w : World} {base e g n c k : Nat} {xs : List Value} (h : w.ownsRow base e 1 (.slice (some ⟨g, 0, none⟩) n c) n xs) : w.frozen? ⟨g, k, none⟩ = false := by
  rcases h.2 with ⟨e1, _⟩ | ⟨g', cap, cur, e1, h2, h3, _⟩
  · cases e1
  · cases e1; exact frozen_of_row _ _ k _ _ h3
def encS (x : List UInt8) : Value := .string (strB x)
theorem last_set (F : List (List UInt8)) (a b : List UInt8) : ((F ++ [a]).map encS).set F.length (encS b) = (F ++ [b]).map encS := by
  rw [List.map_append, List.set_append_right _ _ (by simp)]
  simp
theorem last_at (F : List (List UInt8)) (a : List UInt8) : ((F ++ [a]).map encS)[F.length]? = some (encS a) := by simp
theorem txt_one {s : List UInt8} {i : Nat} {c : UInt8} (h : s[i]? = some c) : (strB s).extract i (i + 1) = strB [c] := by
  rw [txt_ext, List.take_add_one, h]
  have hi := (List.getElem?_eq_some_iff.1 h).1
  rw [List.drop_append_of_le_length (by simp; omega), List.drop_eq_nil_of_le (by simp; omega)]; rfl
end Go.By
namespace Go.Proofs.YtccaiiigdfieoaaDoor
open Go.RowKit Go.By
theorem info_str : (Tryd.prog.info? 9).map (fun i => (i.zero, i.size, i.bytes)) = some (some (.string ⟨#[]⟩), 1, 16) := by kernel_rfl
def WdR (w : World) (L : List (List UInt8)) (e : Ending) (w' : World) : Prop := ∃ b c, e = .returned (.slice (some ⟨b, 0, none⟩) L.length c) ∧ L.length ≤ c ∧ w.heap.size ≤ b ∧ StrRow w' b L ∧ Below w.heap.size w w'
set_option maxRecDepth 100000 in
set_option maxHeartbeats 4000000 in
theorem words_any (l : List UInt8) (w : World) (hl : l.length ≤ 1000000) : Calls Tryd.prog 34 #[.string (strB l)] w (WdR w (splA 32 l)) := by
  obtain ⟨i0, h0, hz0, hz1, hz2⟩ := info_parts info_str
  obtain ⟨n, hn⟩ : ∃ n, n = l.length := ⟨_, rfl⟩
  have hsz : (strB l).size = n := by rw [strB_size, hn]
  have hixk : Hid (∀ (k : Nat) (d : UInt8), l[k]? = some d → ∀ w, (Instr.index 9 (.string (strB l)) (.int .i64 (k : Int))).run Tryd.prog w = .ok (B8 d) w) := fun k d hd w => txt_idx _ Tryd.underlying9 hd _ _ rfl w
  have HEX : Hid (∀ i d, l[i]? = some d → (strB l).extract i (i + 1) = strB [d]) := fun i d h => txt_one h
  have hl' : n ≤ 1000000 := by omega
  have HN := Lib.hid hn
  obtain ⟨S, hS⟩ : ∃ S, S = strB l := ⟨_, rfl⟩
  rw [← hS] at hsz hixk HEX ⊢
  clear hS hn hl
  go_enter Tryd.func34, Tryd.ntmps34
  go_wp2
  go_loopw [3, 4] (fun ov iv wr => ∃ (i m c g : Nat) (F : List (List UInt8)) (cur : List UInt8), i ≤ n ∧ iv = .int .i64 i ∧ ov = .slice (some ⟨g, 0, none⟩) m c ∧ m ≤ i + 1 ∧ Hid (m = F.length + 1) ∧ Hid (PcAt 32 l i F cur) ∧ Hid (wr.ownsRow w.heap.size 9 1 (.slice (some ⟨g, 0, none⟩) m c) m ((F ++ [cur]).map encS)) ∧ Hid (Below w.heap.size w wr)) (fun _ iv _ => n - (intOf iv).toNat)
  case atStart => exact ⟨0, 1, 1, w.heap.size, [], [], Nat.zero_le _, rfl, rfl, by omega, rfl, PcAt.zero _ _, owns_lit1 (Nat.le_refl _), al (Below.refl _ _) (Nat.le_refl _)⟩
  case round =>
    obtain ⟨i, m, c, g, F, cur, hi, rfl, rfl, hm, HM, HP, HO, HB⟩ := hrel
    by_cases hlt : i < n
    · obtain ⟨d, hd⟩ : ∃ d, l[i]? = some d := ⟨_, List.getElem?_eq_getElem (by have := HN.out; omega)⟩
      have hix := hixk.out i d hd
      have hlt' : (i : Int) < (n : Int) := by omega
      have HD := Lib.hid hd
      have HLT := Lib.hid hlt
      by_cases h32 : d = 32
      · have h8 : B8 d = .int .u8 32 := by rw [h32]; rfl
        rw [h8] at hix
        have HP2 : Hid (PcAt 32 l (i + 1) (F ++ [cur]) []) := HP.out.cut (by rw [← h32]; exact hd)
        have hOA : Hid (∀ o, (wr.alloc o).ownsRow w.heap.size 9 1 (.slice (some ⟨g, 0, none⟩) m c) m ((F ++ [cur]).map encS)) := fun o => owns_keep HO.out (al (Below.refl _ _) (Nat.le_refl _))
        have hszw := HB.out.size
        clear hd hlt h32 h8 HP
        go_wp2_with (first | simp only [hix] | (at_builtin; refine wpList_append_own _ rfl _ _ 42 rfl w.heap.size 9 i0 (.string ⟨#[]⟩) 1 16 Tryd.underlying42 h0 hz0 hz1 hz2 rfl (by omega) _ m ((F ++ [cur]).map encS) rfl (hOA.out _) ⟨wr.heap.size, 0, none⟩ 1 1 [encS []] rfl rfl (one_cellI rfl) ?c2 ?c3 ?c4 ?c5 ?_))
        case c2 => first | rfl | (intro y hy; simp at hy; subst hy; rfl)
        case c3 => unfold maxLen; omega
        case c4 => omega
        case c5 => first | omega | (simp; omega)
        intro v' w' ho' hg' _
        obtain ⟨q', c', rfl⟩ := owns_shape ho'
        obtain ⟨g', rfl, -, -⟩ := own_ptr ho' (by omega)
        have FIN : Hid (w'.ownsRow w.heap.size 9 1 (.slice (some ⟨g', 0, none⟩) (m + 1) c') (m + 1) ((F ++ [cur] ++ [[]]).map encS) ∧ Below w.heap.size w w') := by
          refine ⟨?_, ?_⟩
          · rw [List.map_append]; exact ho'
          · exact (al HB.out hszw).grown hg' (by simp; omega) (fun rr hrr => (HO.out.lt rr hrr).1)
        clear ho' hg' HO HB hOA hix
        go_wp2
        go_roundw
        case rel => exact ⟨i + 1, m + 1, c', g', F ++ [cur], [], HLT.out, by go_num, rfl, by omega, by have := HM.out; show _ = _; simp; omega, HP2.out, FIN.out.1, FIN.out.2⟩
        case measure => simp [intOf]; have := HLT.out; omega
      · have hne : ((d.toNat : Int) == 32) = false := beq_eq_false_iff_ne.2 (fun e => h32 (UInt8.toNat_inj.1 (by show d.toNat = 32; omega)))
        have HP2 : Hid (PcAt 32 l (i + 1) F (cur ++ [d])) := HP.out.sign hd h32
        obtain ⟨k, hk⟩ : ∃ k, k = F.length := ⟨_, rfl⟩
        have hcc : wr.cell? ⟨g, k, none⟩ = some (.string (strB cur)) := own_cell HO.out (by rw [hk]; exact last_at F cur)
        have hmk : IntKind.i64.wrap ((m : Int) - 1) = (k : Int) := by have := HM.out; rw [IntKind.wrap_i64]; omega
        have hkm : k < m := by have := HM.out; omega
        have hi1 : IntKind.i64.wrap ((i : Int) + 1) = (i : Int) + 1 := by rw [IntKind.wrap_i64]; omega
        have hext := HEX.out i d hd
        have hcl : cur.length ≤ i := HP.out.2.1
        have HK := Lib.hid hk
        have hin : (i : Int) + 1 ≤ (n : Int) := by omega
        have hin2 : (i : Int) ≤ (i : Int) + 1 := by omega
        have hin3 : ((i : Int) + 1).toNat = i + 1 := by omega
        have hin4 : (0 : Int) ≤ (i : Int) + 1 := by omega
        clear hd hlt h32 HP hk
        go_upto_region 7 with (simp only [hix])
        refine wp_region_tail (fun ix => ([.val (.slice (some ⟨g, 0, none⟩) m c), .val (.slice (some ⟨g, 0, none⟩) m c), .val (.int .i64 (m : Nat)), .val (.int .i64 (k : Nat)), .val (.slice (some ⟨g, 0, none⟩) m c), .val (.slice (some ⟨g, 0, none⟩) m c), .val (.int .i64 (m : Nat)), .val (.int .i64 (k : Nat)), .val (.pointer (some ⟨g, k, none⟩)), .val (.string (strB cur)), .val (.string S), .val (.int .i64 (i : Nat)), .val (.int .i64 (i : Nat)), .val (.int .i64 ((i : Int) + 1)), .val (.string (strB [d])), .val (.string ((strB cur) ++ (strB [d]))), .val (.pointer (some ⟨g, k, none⟩)), .any][ix]?).getD (.any)) 37 17 rfl (by kernel_rfl) (by decide +kernel) (by decide +kernel) (by decide +kernel) (by decide +kernel) ?_ ?_
        · refine ⟨?_, ?_, ?_, ?_, ?_, ?_, ?_, ?_, ?_, ?_, ?_, ?_, ?_, ?_, ?_, ?_, ?_, trivial⟩
          · intro a W hb0 hs hp hi; have hb := undrew hb0; clear hb0
            have t3 : sl a 3 = .slice (some ⟨g, 0, none⟩) m c := hi 3 (by decide)
            exact ite_y rfl (wp_val (sl a 3) rfl ⟨_, rfl, Below.refl _ _, t3⟩)
          · intro a W hb0 hs hp hi; have hb := undrew hb0; clear hb0
            have t3 : sl a 3 = .slice (some ⟨g, 0, none⟩) m c := hi 3 (by decide)
            exact ite_y rfl (wp_val (sl a 3) rfl ⟨_, rfl, Below.refl _ _, t3⟩)
          · intro a W hb0 hs hp hi; have hb := undrew hb0; clear hb0
            have t20 : sl a 20 = .slice (some ⟨g, 0, none⟩) m c := hp 1 (by decide)
            refine ite_y rfl (wp_val (.int .i64 (m : Nat)) ?_ ?_)
            · simp only [execOp, resolve, List.map_toArray, List.map, eval_tmp, eval_func, eval_const, t20]; simp [go_sem]
            · exact ⟨_, rfl, Below.refl _ _, rfl⟩
          · intro a W hb0 hs hp hi; have hb := undrew hb0; clear hb0
            have t21 : sl a 21 = .int .i64 (m : Nat) := hp 2 (by decide)
            refine ite_y rfl (wp_val (.int .i64 (k : Nat)) ?_ ?_)
            · simp only [execOp, eval_tmp, eval_const, t21]; simp [go_sem, hmk]
            · exact ⟨_, rfl, Below.refl _ _, rfl⟩
          · intro a W hb0 hs hp hi; have hb := undrew hb0; clear hb0
            have t3 : sl a 3 = .slice (some ⟨g, 0, none⟩) m c := hi 3 (by decide)
            exact ite_y rfl (wp_val (sl a 3) rfl ⟨_, rfl, Below.refl _ _, t3⟩)
          · intro a W hb0 hs hp hi; have hb := undrew hb0; clear hb0
            have t3 : sl a 3 = .slice (some ⟨g, 0, none⟩) m c := hi 3 (by decide)
            exact ite_y rfl (wp_val (sl a 3) rfl ⟨_, rfl, Below.refl _ _, t3⟩)
          · intro a W hb0 hs hp hi; have hb := undrew hb0; clear hb0
            have t24 : sl a 24 = .slice (some ⟨g, 0, none⟩) m c := hp 5 (by decide)
            refine ite_y rfl (wp_val (.int .i64 (m : Nat)) ?_ ?_)
            · simp only [execOp, resolve, List.map_toArray, List.map, eval_tmp, eval_func, eval_const, t24]; simp [go_sem]
            · exact ⟨_, rfl, Below.refl _ _, rfl⟩
          · intro a W hb0 hs hp hi; have hb := undrew hb0; clear hb0
            have t25 : sl a 25 = .int .i64 (m : Nat) := hp 6 (by decide)
            refine ite_y rfl (wp_val (.int .i64 (k : Nat)) ?_ ?_)
            · simp only [execOp, eval_tmp, eval_const, t25]; simp [go_sem, hmk]
            · exact ⟨_, rfl, Below.refl _ _, rfl⟩
          · intro a W hb0 hs hp hi; have hb := undrew hb0; clear hb0
            have ti0 : sl a 23 = .slice (some ⟨g, 0, none⟩) m c := hp 4 (by decide)
            have ti1 : sl a 26 = .int .i64 (k : Nat) := hp 7 (by decide)
            refine ite_y rfl (wp_val (.pointer (some ⟨g, k, none⟩)) ?_ ?_)
            · simp only [execOp, eval_tmp, eval_const, ti0, ti1]; simp [go_sem, hkm]
            · exact ⟨_, rfl, Below.refl _ _, rfl⟩
          · intro a W hb0 hs hp hi; have hb := undrew hb0; clear hb0
            have tt : sl a 27 = .pointer (some ⟨g, k, none⟩) := hp 8 (by decide)
            have dd := (hb.cell (p := ⟨g, k, none⟩) (lt_of_cell hcc)).trans hcc
            refine ite_y rfl (wp_val (.string (strB cur)) ?_ ?_)
            · simp only [execOp, eval_tmp, tt]; simp [go_sem, dd]
            · exact ⟨_, rfl, Below.refl _ _, rfl⟩
          · intro a W hb0 hs hp hi; have hb := undrew hb0; clear hb0
            have t0 : sl a 0 = .string S := hi 0 (by decide)
            exact ite_y rfl (wp_val (sl a 0) rfl ⟨_, rfl, Below.refl _ _, t0⟩)
          · intro a W hb0 hs hp hi; have hb := undrew hb0; clear hb0
            have t4 : sl a 4 = .int .i64 (i : Nat) := hi 4 (by decide)
            exact ite_y rfl (wp_val (sl a 4) rfl ⟨_, rfl, Below.refl _ _, t4⟩)
          · intro a W hb0 hs hp hi; have hb := undrew hb0; clear hb0
            have t4 : sl a 4 = .int .i64 (i : Nat) := hi 4 (by decide)
            exact ite_y rfl (wp_val (sl a 4) rfl ⟨_, rfl, Below.refl _ _, t4⟩)
          · intro a W hb0 hs hp hi; have hb := undrew hb0; clear hb0
            have t31 : sl a 31 = .int .i64 (i : Nat) := hp 12 (by decide)
            refine ite_y rfl (wp_val (.int .i64 ((i : Int) + 1)) ?_ ?_)
            · simp only [execOp, eval_tmp, eval_const, t31]; simp [go_sem, hi1]
            · exact ⟨_, rfl, Below.refl _ _, rfl⟩
          · intro a W hb0 hs hp hi; have hb := undrew hb0; clear hb0
            have t29 : sl a 29 = .string S := hp 10 (by decide)
            have t30 : sl a 30 = .int .i64 (i : Nat) := hp 11 (by decide)
            have t32 : sl a 32 = .int .i64 ((i : Int) + 1) := hp 13 (by decide)
            have v30 : a.tmps[30]?.getD undef = sl a 30 := by simp [sl]
            rw [t30] at v30
            have v32 : a.tmps[32]?.getD undef = sl a 32 := by simp [sl]
            rw [t32] at v32
            refine ite_y rfl (wp_val (.string (strB [d])) ?_ ?_)
            · simp only [execOp, eval_tmp, eval_const, t29, t30, t32]; simp [go_sem, v30, v32, hext, hsz, hin, hin2, hin3, hin4]
            · exact ⟨_, rfl, Below.refl _ _, rfl⟩
          · intro a W hb0 hs hp hi; have hb := undrew hb0; clear hb0
            have ti0 : sl a 28 = .string (strB cur) := hp 9 (by decide)
            have ti1 : sl a 33 = .string (strB [d]) := hp 14 (by decide)
            refine ite_y rfl (wp_val (.string ((strB cur) ++ (strB [d]))) ?_ ?_)
            · simp only [execOp, eval_tmp, eval_const, ti0, ti1]; simp [go_sem, strB_size] <;> omega
            · exact ⟨_, rfl, Below.refl _ _, rfl⟩
          · intro a W hb0 hs hp hi; have hb := undrew hb0; clear hb0
            have ti0 : sl a 19 = .slice (some ⟨g, 0, none⟩) m c := hp 0 (by decide)
            have ti1 : sl a 22 = .int .i64 (k : Nat) := hp 3 (by decide)
            refine ite_y rfl (wp_val (.pointer (some ⟨g, k, none⟩)) ?_ ?_)
            · simp only [execOp, eval_tmp, eval_const, ti0, ti1]; simp [go_sem, hkm]
            · exact ⟨_, rfl, Below.refl _ _, rfl⟩
        intro a w5 hb hs hd hI ht
        have ha := act_is [19, 20, 21, 22, 23, 24, 25, 26, 27, 28, 29, 30, 31, 32, 33, 34, 35] hs hd ht (by decide)
        have t34 : sl a 34 = .string ((strB cur) ++ (strB [d])) := hI 15 (by decide)
        have t35 : sl a 35 = .pointer (some ⟨g, k, none⟩) := hI 16 (by decide)
        simp only [List.foldl, t34, t35] at ha
        generalize sl a 19 = u19 at ha
        generalize sl a 20 = u20 at ha
        generalize sl a 21 = u21 at ha
        generalize sl a 22 = u22 at ha
        generalize sl a 23 = u23 at ha
        generalize sl a 24 = u24 at ha
        generalize sl a 25 = u25 at ha
        generalize sl a 26 = u26 at ha
        generalize sl a 27 = u27 at ha
        generalize sl a 28 = u28 at ha
        generalize sl a 29 = u29 at ha
        generalize sl a 30 = u30 at ha
        generalize sl a 31 = u31 at ha
        generalize sl a 32 = u32 at ha
        generalize sl a 33 = u33 at ha
        simp only [Act.put, List.setIfInBounds_toArray, List.set_cons_zero, List.set_cons_succ] at ha
        rw [ha]; clear ha hI ht hs hd
        simp only [List.drop_succ_cons, List.drop_zero]
        have HO5 := Lib.hid (owns_keep HO.out hb)
        have HB5 := Lib.hid (bl HB.out hb HB.out.size)
        rw [txt_app]
        have c5 := (hb.cell (p := ⟨g, k, none⟩) (lt_of_cell hcc)).trans hcc
        have z5 := own_free (k := k) HO5.out
        clear hb hcc hix HO HB hmk hkm hi1 hin hin2 hin3 hin4 hext
        go_wp2
        have HO6 : Hid ((w5.setCell ⟨g, k, none⟩ (.string (strB (cur ++ [d])))).ownsRow w.heap.size 9 1 (.slice (some ⟨g, 0, none⟩) m c) m ((F ++ [cur ++ [d]]).map encS)) := by
          have := owns_put (k := k) (u := encS (cur ++ [d])) HO5.out
          rw [HK.out, last_set] at this
          rw [HK.out]; exact this
        have HB6 : Hid (Below w.heap.size w (w5.setCell ⟨g, k, none⟩ (.string (strB (cur ++ [d]))))) := HB5.out.setCell (HO5.out.lt g rfl).1 _
        go_roundw
        case rel => exact ⟨i + 1, m, c, g, F, cur ++ [d], HLT.out, by go_num, rfl, by omega, HM.out, HP2.out, HO6.out, HB6.out⟩
        case measure => simp [intOf]; have := HLT.out; omega
    · obtain rfl : i = n := by omega
      have HR : Hid (splA 32 l = F ++ [cur]) := HP.out.done (by have := HN.out; omega)
      clear hlt
      go_wp2
      go_ret
      obtain ⟨g', e1, hc, hg⟩ := own_ptr HO.out (by have := HM.out; omega)
      cases e1
      refine ⟨g, c, ?_, ?_, hg, ?_, HB.out⟩
      · rw [HR.out]; simp [HM.out]
      · rw [HR.out]; have := HM.out; simp; omega
      · rw [HR.out]
        intro j x hx
        exact own_cell HO.out (by rw [List.getElem?_map, hx]; rfl)
end Go.Proofs.YtccaiiigdfieoaaDoor
namespace Go.Proofs.YtccaiiigdfieoaaDoor
open Go.RowKit Go.By
theorem info_rcmd : (Tryd.prog.info? 40).map (·.size) = some 3 := by kernel_rfl
theorem bytesP_dash {a : List UInt8} (h : a = [45]) : bytesP a = some [] := by unfold bytesP; rw [if_pos h]
theorem bytesP_not {a : List UInt8} (h : a ≠ [45]) : bytesP a = unhexO a := by unfold bytesP unhexO; rw [if_neg h]
set_option maxRecDepth 100000 in
set_option maxHeartbeats 8000000 in
theorem Rread_none (l : List UInt8) (w : World) (hl : l.length ≤ 1000000) (hfS : formS ((partsP l).getD 0 []) = none) :
    Calls Tryd.prog 19 #[.string (strB l)] w (RdR w (readP l)) := by
  have HFS := Lib.hid hfS
  have HWd := Lib.hid (fun W => words_any l W hl)
  obtain ⟨x, hx⟩ : ∃ x, (splA 32 l)[0]? = some x := ⟨_, List.getElem?_eq_getElem (List.length_pos_iff.2 (splA_ne 32 l))⟩
  have e0 : (splA 32 l).getD 0 [] = x := by rw [List.getD_eq_getElem?_getD, hx]; rfl
  have hfx : formS x = none := by rw [← e0]; exact hfS
  have HSh : Hid (∀ W, Calls Tryd.prog 13 #[.string (strB x)] W fun e w' => e = .returned (.tuple #[.int .i64 0, .bool false, .bool false]) ∧ W = w') := fun W => by
    have := Shape_any x W
    unfold shapeV at this
    rwa [hfx] at this
  have E0 := Lib.hid e0
  have hn1 : 1 ≤ (splA 32 l).length := List.length_pos_iff.2 (splA_ne 32 l)
  have hn2 := splA_len 32 l
  have HX := Lib.hid hx
  obtain ⟨S, hS'⟩ : ∃ S, S = strB l := ⟨_, rfl⟩
  rw [← hS'] at HWd ⊢
  obtain ⟨n, hn⟩ : ∃ n, n = (splA 32 l).length := ⟨_, rfl⟩
  have HN := Lib.hid hn
  rw [← hn] at hn1 hn2
  obtain ⟨X, hX⟩ : ∃ X, X = strB x := ⟨_, rfl⟩
  rw [← hX] at HSh
  have HXX := Lib.hid hX
  clear hS' hx e0 hfS hfx hn hX
  have hn1' : (0 : Int) < (n : Int) := by omega
  obtain ⟨R, hR⟩ : ∃ R, R = readP l := ⟨_, rfl⟩
  rw [← hR]
  have HR := Lib.hid hR
  clear hR
  have HRes : Hid (R = (20, noCmd)) := by
    have := HR.out
    have h := HFS.out
    unfold readP at this
    rw [h] at this
    exact this
  go_enter Tryd.func19, Tryd.ntmps19
  go_wp2_with fail
  refine Calls.mono (HWd.out _) ?_
  rintro e w1 ⟨gs, cs, rfl, hcs, hgs, hr, hb⟩
  rw [← HN.out] at hcs ⊢
  obtain ⟨hb1, k1, hs1⟩ := one_of hb
  have HB1 := Lib.hid hb1
  have HRW := Lib.hid hr
  have hc0 := hr 0 x HX.out
  rw [← HXX.out] at hc0
  clear hr hb hb1
  go_wp2_with fail
  refine Calls.mono (HSh.out _) ?_
  rintro e w2 ⟨rfl, rfl⟩
  go_wp2_with (refine wpList_store_row (o := ⟨none, .store 40 (.tmp 2) (.tmp 27), _, _, _, _⟩) rfl 40 (.tmp 2) (.tmp 27) rfl w.heap.size #[.string (strB []), .slice none 0 0, .slice none 0 0] rfl rfl _ _ k1 info_rcmd rfl (by simp [Value.oneCell']) ?_)
  refine bodyPost_ret (res_ct rfl _ _ _ 40 #[.string (strB []), .slice none 0 0, .slice none 0 0] (0, 0) _ (.int .i64 20) rfl (hrs k1) rfl Tryd.underlying40 rfl info_rcmd) rfl ?_
  exact ⟨_, _, _, by rw [HRes.out], by rw [HRes.out]; exact CmdV.no _ _, below_row HB1.out (Nat.le_refl _)⟩
set_option maxRecDepth 100000 in
set_option maxHeartbeats 8000000 in
theorem Rread_long (l : List UInt8) (k : Nat) (w : World) (hl : l.length ≤ 1000000) (hfS : formS ((partsP l).getD 0 []) = some (k, true)) :
    Calls Tryd.prog 19 #[.string (strB l)] w (RdR w (readP l)) := by
  obtain ⟨u0, hu, hu0, hu1, hu2⟩ := info_parts info_u64
  have hk3 : k ≤ 3 := (forms_plain _ (formS_mem hfS)).2.1
  have HFS := Lib.hid hfS
  have HWd := Lib.hid (fun W => words_any l W hl)
  obtain ⟨x, hx⟩ : ∃ x, (splA 32 l)[0]? = some x := ⟨_, List.getElem?_eq_getElem (List.length_pos_iff.2 (splA_ne 32 l))⟩
  have e0 : (splA 32 l).getD 0 [] = x := by rw [List.getD_eq_getElem?_getD, hx]; rfl
  have hfx : formS x = some (k, true) := by rw [← e0]; exact hfS
  have HSh : Hid (∀ W, Calls Tryd.prog 13 #[.string (strB x)] W fun e w' => e = .returned (.tuple #[.int .i64 (k : Nat), .bool true, .bool true]) ∧ W = w') := fun W => by
    have := Shape_any x W
    unfold shapeV at this
    rwa [hfx] at this
  have E0 := Lib.hid e0
  have hn1 : 1 ≤ (splA 32 l).length := List.length_pos_iff.2 (splA_ne 32 l)
  have hn2 := splA_len 32 l
  have HX := Lib.hid hx
  obtain ⟨S, hS'⟩ : ∃ S, S = strB l := ⟨_, rfl⟩
  rw [← hS'] at HWd ⊢
  obtain ⟨n, hn⟩ : ∃ n, n = (splA 32 l).length := ⟨_, rfl⟩
  have HN := Lib.hid hn
  rw [← hn] at hn1 hn2
  obtain ⟨X, hX⟩ : ∃ X, X = strB x := ⟨_, rfl⟩
  rw [← hX] at HSh
  have HXX := Lib.hid hX
  clear hS' hx e0 hfS hfx hn hX
  have hn1' : (0 : Int) < (n : Int) := by omega
  obtain ⟨R, hR⟩ : ∃ R, R = readP l := ⟨_, rfl⟩
  rw [← hR]
  have HR := Lib.hid hR
  clear hR
  by_cases hw : n = k + 2
  · have hne : ((n : Int) != 1 + (k : Int) + 1) = false := by rw [bne_eq_false_iff_eq]; omega
    have HW := Lib.hid hw
    clear hw
    go_enter Tryd.func19, Tryd.ntmps19
    go_wp2_with fail
    refine Calls.mono (HWd.out _) ?_
    rintro e w1 ⟨gs, cs, rfl, hcs, hgs, hr, hb⟩
    rw [← HN.out] at hcs ⊢
    obtain ⟨hb1, k1, hs1⟩ := one_of hb
    have HB1 := Lib.hid hb1
    have HRW := Lib.hid hr
    have hc0 := hr 0 x HX.out
    rw [← HXX.out] at hc0
    clear hr hb hb1
    go_wp2_with fail
    refine Calls.mono (HSh.out _) ?_
    rintro e w2 ⟨rfl, rfl⟩
    go_wp2
    have k8 : (w1.alloc (.cells #[.string X, .slice none 0 0, .slice none 0 0] 40 (0, 0))).heap[w1.heap.size]? = some (.cells #[.string X, .slice none 0 0, .slice none 0 0] 40 (0, 0)) := hnew rfl
    have k2' := hal (o := (.cells #[.string X, .slice none 0 0, .slice none 0 0] 40 (0, 0))) k1
    have BW : Hid (Below w.heap.size w (w1.alloc (.cells #[.string X, .slice none 0 0, .slice none 0 0] 40 (0, 0)))) := al HB1.out HB1.out.size
    have RW : Hid (StrRow (w1.alloc (.cells #[.string X, .slice none 0 0, .slice none 0 0] 40 (0, 0))) gs (splA 32 l)) := HRW.out.keep (al (Below.refl _ _) (Nat.le_refl _))
    obtain ⟨g8, hg8⟩ : ∃ g8, g8 = w1.heap.size := ⟨_, rfl⟩
    have hgl : w.heap.size < g8 ∧ gs < g8 := by have h1 := lt_of_block k1; have h3 : gs < w1.heap.size := lt_of_cell (HRW.out 0 x HX.out); omega
    rw [← hg8] at k8 ⊢
    generalize w1.alloc (.cells #[.string X, .slice none 0 0, .slice none 0 0] 40 (0, 0)) = w3 at *
    clear HB1 HRW k1 hg8 HWd HSh hs1 hgs hc0
    have K8 := Lib.hid k8
    have K2 := Lib.hid k2'
    have HGL := Lib.hid hgl
    clear k8 k2' hgl hne
    go_loopw [10, 11, 12] (fun iv _ _ wr => ∃ (i j : Nat) (q : Option Addr) (c : Nat) (ns : List Nat), j ≤ k ∧ iv = .int .i64 (i : Nat) ∧ Hid (i = j + 1) ∧ Hid (numsP (((splA 32 l).drop 1).take j) = some ns) ∧ Hid (wr.ownsRow g8 48 1 (.slice q j c) j (ns.map encU)) ∧ Hid (wr.heap[g8]? = some (.cells #[.string X, .slice q j c, .slice none 0 0] 40 (0, 0))) ∧ Hid (wr.heap[w.heap.size]? = some (.cells #[.string (strB []), .slice none 0 0, .slice none 0 0] 40 (0, 0))) ∧ Hid (StrRow wr gs (splA 32 l)) ∧ Hid (Below w.heap.size w wr)) (fun iv _ _ _ => k + 1 - (intOf iv).toNat)
    case atStart => exact ⟨1, 0, none, 0, [], Nat.zero_le _, rfl, rfl, rfl, World.ownsRow_nil _ _ _ _, K8.out, K2.out, RW.out, BW.out⟩
    case round =>
      obtain ⟨i, j, q, c, ns, hjk, rfl, HIJ, HNs, HO, H8, H2, HRr, HBr⟩ := hrel
      clear K8 K2 RW BW
      have hij := HIJ.out
      by_cases hlt : j < k
      · obtain ⟨a, ha⟩ : ∃ a, (splA 32 l)[i]? = some a := ⟨_, List.getElem?_eq_getElem (by have := HN.out; have := HW.out; omega)⟩
        have ca := HRr.out i a ha
        have hai : (((splA 32 l).drop 1))[j]? = some a := by rw [List.getElem?_drop, Nat.add_comm, ← hij]; exact ha
        have hal2 : a.length ≤ 1000000 := Nat.le_trans (spl_shortC _ _ _ _ (List.mem_of_getElem? ha)) hl
        have HRN := Lib.hid (RNumber26_any a wr hal2)
        obtain ⟨A, hA⟩ : ∃ A, A = strB a := ⟨_, rfl⟩
        rw [← hA] at ca HRN
        have hlt' : (i : Int) ≤ (k : Int) := by omega
        have hin : (i : Int) < (n : Int) := by have := HW.out; omega
        have hi4 : i ≤ 4 := by omega
        have HA := Lib.hid hai
        have HLT := Lib.hid hlt
        clear ha hai hal2 hA hlt hij
        go_wp2_with fail
        refine Calls.mono HRN.out ?_
        rintro e w4 ⟨v, rfl, ⟨y, rfl, hy⟩, hb⟩
        have HB4 := Lib.hid (bl HBr.out hb HBr.out.size)
        have HO4 := Lib.hid (owns_keep HO.out hb)
        have H84 := Lib.hid ((hb.block _ (lt_of_block H8.out)).trans H8.out)
        have H24 := Lib.hid ((hb.block _ (lt_of_block H2.out)).trans H2.out)
        have HR4 := Lib.hid (HRr.out.keep hb)
        clear hb ca HRN HO H8 H2 HRr HBr
        cases hnb : numB 18446744073709551615 a with
        | none =>
          have HRes : Hid (R = (14, noCmd)) := HR.out.trans (readP_nums HFS.out (by have := HN.out; have := HW.out; show _ = 1 + k + 1; omega) (numsP_bad (i := j) (a := a) (X := ns) (by rw [List.take_take, Nat.min_eq_left (by have := HLT.out; omega)]; exact HNs.out) (by rw [List.getElem?_take, if_pos HLT.out]; exact HA.out) hnb))
          have H22 := H24.out
          clear hnb hy HNs HO4 H84 HR4 H24
          go_wp2_with (refine wpList_store_row (o := ⟨none, .store 40 (.tmp 2) (.tmp 57), _, _, _, _⟩) rfl 40 (.tmp 2) (.tmp 57) rfl w.heap.size #[.string (strB []), .slice none 0 0, .slice none 0 0] rfl rfl _ _ H22 info_rcmd rfl (by simp [Value.oneCell']) ?_)
          refine bodyPost_ret (res_ct rfl _ _ _ 40 #[.string (strB []), .slice none 0 0, .slice none 0 0] (0, 0) _ (.int .i64 14) rfl (hrs H22) rfl Tryd.underlying40 rfl info_rcmd) rfl ?_
          exact ⟨_, _, _, by rw [HRes.out], by rw [HRes.out]; exact CmdV.no _ _, below_row HB4.out (Nat.le_refl _)⟩
        | some z =>
          obtain rfl : y = z := hy z hnb
          have HNB := Lib.hid hnb
          obtain ⟨c0, c1, c2⟩ := cells_three H84.out
          have z1 := frozen_of_row _ _ 1 _ _ H84.out
          have hOA : Hid (∀ o, (w4.alloc o).ownsRow g8 48 1 (.slice q j c) j (ns.map encU)) := fun o => owns_keep HO4.out (al (Below.refl _ _) (Nat.le_refl _))
          have hszw := HB4.out.size
          clear hnb hy
          go_wp2_with (at_builtin; refine wpList_append_own _ rfl _ _ 34 rfl g8 48 u0 (.int .u64 0) 1 8 Tryd.underlying34 hu hu0 hu1 hu2 rfl (by omega) _ j (ns.map encU) rfl (hOA.out _) ⟨w4.heap.size, 0, none⟩ 1 1 [encU y] rfl rfl (one_cellI rfl) ?c2 ?c3 ?c4 ?c5 ?_)
          case c2 => first | rfl | (intro y hy; simp at hy; subst hy; rfl)
          case c3 => unfold maxLen; omega
          case c4 => omega
          case c5 => have := lt_of_block H84.out; first | omega | (simp; omega)
          intro v' w' ho' hg' _
          obtain ⟨q', c', rfl⟩ := owns_shape ho'
          have H8' := grown_other (hOA.out _) hg' (hal H84.out) (by decide)
          have BG : Hid (Below g8 w4 w') := (al (Below.refl _ _) (Nat.le_of_lt (lt_of_block H84.out))).grown hg' (by have := lt_of_block H84.out; simp; omega) (fun rr hrr => (HO4.out.lt rr hrr).1)
          have HO5 : Hid (w'.ownsRow g8 48 1 (.slice q' (j + 1) c') (j + 1) ((ns ++ [y]).map encU)) := by
            show World.ownsRow _ _ _ _ _ _ _
            rw [List.map_append]; exact ho'
          have HNs5 := Lib.hid (numsP_step HNs.out HA.out HNB.out)
          obtain ⟨d0, d1, d2⟩ := cells_three H8'
          have z1 := frozen_of_row _ _ 1 _ _ H8'
          have HH8 := Lib.hid H8'
          clear ho' hg' c0 c1 c2 hOA HO4 HNs HA HNB H8'
          go_wp2
          have BF : Hid (Below g8 w4 (w'.setCell ⟨g8, 1, none⟩ (.slice q' (j + 1) c'))) := (BG.out).setCell (Nat.le_refl _) _
          go_roundw
          case rel => exact ⟨i + 1, j + 1, q', c', ns ++ [y], HLT.out, by go_num, by have := HIJ.out; show _ = _; omega, HNs5.out, ownsRow_setCell_other HO5.out (owns_block_ne HO5.out HH8.out (by decide)) _, hss HH8.out, (BF.out.block _ HGL.out.1).trans H24.out, fun jj z hj => (BF.out.cell (p := ⟨gs, jj, none⟩) HGL.out.2).trans (HR4.out jj z hj), HB4.out.trans (BF.out.mono (by have := HGL.out; omega))⟩
          case measure => simp [intOf]; have := HIJ.out; have := HLT.out; omega
      · obtain rfl : j = k := by omega
        have hgt : ¬ (i : Int) ≤ (j : Int) := by omega
        obtain ⟨a, ha⟩ : ∃ a, (splA 32 l)[1 + j]? = some a := ⟨_, List.getElem?_eq_getElem (by have := HN.out; have := HW.out; omega)⟩
        have ca := HRr.out (1 + j) a ha
        have hal2 : a.length ≤ 1000000 := Nat.le_trans (spl_shortC _ _ _ _ (List.mem_of_getElem? ha)) hl
        have HRB := Lib.hid (Unhex24_any a wr hal2)
        have HNF : Hid (numsP (((splA 32 l).drop 1).take j) = some ns) := HNs.out
        have HA : Hid ((splA 32 l).getD (j + 1) [] = a) := by show _ = _; rw [List.getD_eq_getElem?_getD, Nat.add_comm, ha]; rfl
        have hda := txt_is a [45]
        obtain ⟨A, hA⟩ : ∃ A, A = strB a := ⟨_, rfl⟩
        rw [← hA] at ca HRB hda
        have hin : (j : Int) + 1 < (n : Int) := by have := HW.out; omega
        have H26 := H2.out
        clear ha hal2 hA hlt HNs hij
        by_cases hd : a = [45]
        · rw [decide_eq_true hd] at hda
          have HRes : Hid (R = (0, ⟨x, ns, []⟩)) := by
            have := HR.out.trans (readP_full HFS.out (by have := HN.out; have := HW.out; show _ = 1 + j + 1; omega) HNF.out rfl (by rw [HA.out]; exact bytesP_dash hd))
            rw [E0.out] at this
            exact this
          have hdn : (A.toList != [45]) = false := by rw [bne, hda]; rfl
          obtain ⟨d0, d1, d2⟩ := cells_three H8.out
          clear hd
          go_wp2_with (refine wpList_store_row (o := ⟨none, .store 40 (.tmp 2) (.tmp 87), _, _, _, _⟩) rfl 40 (.tmp 2) (.tmp 87) rfl w.heap.size #[.string X, .slice q j c, .slice none 0 0] rfl rfl _ _ H26 info_rcmd rfl (by simp [Value.oneCell']) ?_)
          refine bodyPost_ret (res_ct rfl _ _ _ 40 #[.string X, .slice q j c, .slice none 0 0] (0, 0) _ (.int .i64 0) rfl (hrs H26) rfl Tryd.underlying40 rfl info_rcmd) rfl ?_
          refine ⟨_, _, _, by rw [HRes.out], ?_, below_row HBr.out (Nat.le_refl _)⟩
          rw [HRes.out]
          refine ⟨by rw [HXX.out], ⟨q, j, c, rfl, ?_⟩, none, 0, 0, rfl, Fresh.none _ _ _⟩
          exact owns_mono (owns_setRow HO.out H26 (by decide)) (Nat.le_of_lt HGL.out.1)
        · rw [decide_eq_false hd] at hda
          have hdn : (A.toList != [45]) = true := by rw [bne, hda]; rfl
          have HBP := Lib.hid (bytesP_not hd)
          clear hd H26
          go_wp2_with fail
          refine Calls.mono HRB.out ?_
          rintro e w4 ⟨q2, n2, c2, rfl, hfr, hb⟩
          have HB4 := Lib.hid (bl HBr.out hb HBr.out.size)
          have HO4 := Lib.hid (owns_keep HO.out hb)
          have H84 := Lib.hid ((hb.block _ (lt_of_block H8.out)).trans H8.out)
          have H24 := (hb.block _ (lt_of_block H2.out)).trans H2.out
          have HF4 := Lib.hid (hfr.mono HBr.out.size)
          clear hb hfr ca HRB HO H8 H2 HRr HBr hda hdn
          cases hy : unhexO a with
          | none =>
            have HRes : Hid (R = (14, noCmd)) := HR.out.trans (readP_bad HFS.out (by have := HN.out; have := HW.out; show _ = 1 + j + 1; omega) HNF.out rfl (by rw [HA.out]; exact HBP.out.trans hy))
            clear hy
            go_wp2_with (refine wpList_store_row (o := ⟨none, .store 40 (.tmp 2) (.tmp 84), _, _, _, _⟩) rfl 40 (.tmp 2) (.tmp 84) rfl w.heap.size #[.string (strB []), .slice none 0 0, .slice none 0 0] rfl rfl _ _ H24 info_rcmd rfl (by simp [Value.oneCell']) ?_)
            refine bodyPost_ret (res_ct rfl _ _ _ 40 #[.string (strB []), .slice none 0 0, .slice none 0 0] (0, 0) _ (.int .i64 14) rfl (hrs H24) rfl Tryd.underlying40 rfl info_rcmd) rfl ?_
            exact ⟨_, _, _, by rw [HRes.out], by rw [HRes.out]; exact CmdV.no _ _, below_row HB4.out (Nat.le_refl _)⟩
          | some m =>
            have HRes : Hid (R = (0, ⟨x, ns, m⟩)) := by
              have := HR.out.trans (readP_full HFS.out (by have := HN.out; have := HW.out; show _ = 1 + j + 1; omega) HNF.out rfl (by rw [HA.out]; exact HBP.out.trans hy))
              rw [E0.out] at this
              exact this
            rw [hy] at HF4
            clear hy
            have b0 := cell_of_row _ _ 2 _ _ _ H84.out
            have z2 := frozen_of_row _ _ 2 _ _ H84.out
            have hgs := Lib.hid (show Below g8 w4 (w4.setCell ⟨g8, 2, none⟩ (.slice q2 n2 c2)) from (Below.refl g8 w4).setCell (Nat.le_refl g8) _)
            have H85 : Hid ((w4.setCell ⟨g8, 2, none⟩ (.slice q2 n2 c2)).heap[g8]? = some (.cells #[.string X, .slice q j c, .slice q2 n2 c2] 40 (0, 0))) := hss H84.out
            have H25 := Lib.hid ((hgs.out.block _ HGL.out.1).trans H24)
            have HO5 : Hid ((w4.setCell ⟨g8, 2, none⟩ (.slice q2 n2 c2)).ownsRow g8 48 1 (.slice q j c) j (ns.map encU)) := ownsRow_setCell_other HO4.out (owns_block_ne HO4.out H84.out (by decide)) _
            have HF5 := Lib.hid (HF4.out.cellI (v := .slice q2 n2 c2) (i := 2) H84.out (by decide))
            have HB5 := Lib.hid (HB4.out.trans (hgs.out.mono (by have := HGL.out; omega)))
            clear H24
            go_upto_region 23 with (fail)
            generalize w4.setCell ⟨g8, 2, none⟩ (.slice q2 n2 c2) = w5 at *
            clear b0 z2 HB4 HO4 H84 HF4 hgs
            have H26 := H25.out
            obtain ⟨d0, d1, d2⟩ := cells_three H85.out
            go_wp2_with (refine wpList_store_row (o := ⟨none, .store 40 (.tmp 2) (.tmp 87), _, _, _, _⟩) rfl 40 (.tmp 2) (.tmp 87) rfl w.heap.size #[.string X, .slice q j c, .slice q2 n2 c2] rfl rfl _ _ H26 info_rcmd rfl (by simp [Value.oneCell']) ?_)
            refine bodyPost_ret (res_ct rfl _ _ _ 40 #[.string X, .slice q j c, .slice q2 n2 c2] (0, 0) _ (.int .i64 0) rfl (hrs H26) rfl Tryd.underlying40 rfl info_rcmd) rfl ?_
            refine ⟨_, _, _, by rw [HRes.out], ?_, below_row HB5.out (Nat.le_refl _)⟩
            rw [HRes.out]
            refine ⟨by rw [HXX.out], ⟨q, j, c, rfl, ?_⟩, q2, n2, c2, rfl, HF5.out.row H26 (by decide)⟩
            exact owns_mono (owns_setRow HO5.out H26 (by decide)) (Nat.le_of_lt HGL.out.1)
  · have hne : ((n : Int) != 1 + (k : Int) + 1) = true := bne_iff_ne.2 (by omega)
    have HRes : Hid (R = (14, noCmd)) := HR.out.trans (readP_len HFS.out (by have := HN.out; show _ ≠ 1 + k + 1; omega))
    clear hw
    go_enter Tryd.func19, Tryd.ntmps19
    go_wp2_with fail
    refine Calls.mono (HWd.out _) ?_
    rintro e w1 ⟨gs, cs, rfl, hcs, hgs, hr, hb⟩
    rw [← HN.out] at hcs ⊢
    obtain ⟨hb1, k1, hs1⟩ := one_of hb
    have HB1 := Lib.hid hb1
    have HRW := Lib.hid hr
    have hc0 := hr 0 x HX.out
    rw [← HXX.out] at hc0
    clear hr hb hb1
    go_wp2_with fail
    refine Calls.mono (HSh.out _) ?_
    rintro e w2 ⟨rfl, rfl⟩
    go_wp2_with (refine wpList_store_row (o := ⟨none, .store 40 (.tmp 2) (.tmp 37), _, _, _, _⟩) rfl 40 (.tmp 2) (.tmp 37) rfl w.heap.size #[.string (strB []), .slice none 0 0, .slice none 0 0] rfl rfl _ _ k1 info_rcmd rfl (by simp [Value.oneCell']) ?_)
    refine bodyPost_ret (res_ct rfl _ _ _ 40 #[.string (strB []), .slice none 0 0, .slice none 0 0] (0, 0) _ (.int .i64 14) rfl (hrs k1) rfl Tryd.underlying40 rfl info_rcmd) rfl ?_
    exact ⟨_, _, _, by rw [HRes.out], by rw [HRes.out]; exact CmdV.no _ _, below_row HB1.out (Nat.le_refl _)⟩
set_option maxRecDepth 100000 in
set_option maxHeartbeats 8000000 in
theorem Rread_short (l : List UInt8) (k : Nat) (w : World) (hl : l.length ≤ 1000000) (hfS : formS ((partsP l).getD 0 []) = some (k, false)) :
    Calls Tryd.prog 19 #[.string (strB l)] w (RdR w (readP l)) := by
  obtain ⟨u0, hu, hu0, hu1, hu2⟩ := info_parts info_u64
  have hk3 : k ≤ 3 := (forms_plain _ (formS_mem hfS)).2.1
  have HFS := Lib.hid hfS
  have HWd := Lib.hid (fun W => words_any l W hl)
  obtain ⟨x, hx⟩ : ∃ x, (splA 32 l)[0]? = some x := ⟨_, List.getElem?_eq_getElem (List.length_pos_iff.2 (splA_ne 32 l))⟩
  have e0 : (splA 32 l).getD 0 [] = x := by rw [List.getD_eq_getElem?_getD, hx]; rfl
  have hfx : formS x = some (k, false) := by rw [← e0]; exact hfS
  have HSh : Hid (∀ W, Calls Tryd.prog 13 #[.string (strB x)] W fun e w' => e = .returned (.tuple #[.int .i64 (k : Nat), .bool false, .bool true]) ∧ W = w') := fun W => by
    have := Shape_any x W
    unfold shapeV at this
    rwa [hfx] at this
  have E0 := Lib.hid e0
  have hn1 : 1 ≤ (splA 32 l).length := List.length_pos_iff.2 (splA_ne 32 l)
  have hn2 := splA_len 32 l
  have HX := Lib.hid hx
  obtain ⟨S, hS'⟩ : ∃ S, S = strB l := ⟨_, rfl⟩
  rw [← hS'] at HWd ⊢
  obtain ⟨n, hn⟩ : ∃ n, n = (splA 32 l).length := ⟨_, rfl⟩
  have HN := Lib.hid hn
  rw [← hn] at hn1 hn2
  obtain ⟨X, hX⟩ : ∃ X, X = strB x := ⟨_, rfl⟩
  rw [← hX] at HSh
  have HXX := Lib.hid hX
  clear hS' hx e0 hfS hfx hn hX
  have hn1' : (0 : Int) < (n : Int) := by omega
  obtain ⟨R, hR⟩ : ∃ R, R = readP l := ⟨_, rfl⟩
  rw [← hR]
  have HR := Lib.hid hR
  clear hR
  by_cases hw : n = k + 1
  · have hne : ((n : Int) != 1 + (k : Int)) = false := by rw [bne_eq_false_iff_eq]; omega
    have HW := Lib.hid hw
    clear hw
    go_enter Tryd.func19, Tryd.ntmps19
    go_wp2_with fail
    refine Calls.mono (HWd.out _) ?_
    rintro e w1 ⟨gs, cs, rfl, hcs, hgs, hr, hb⟩
    rw [← HN.out] at hcs ⊢
    obtain ⟨hb1, k1, hs1⟩ := one_of hb
    have HB1 := Lib.hid hb1
    have HRW := Lib.hid hr
    have hc0 := hr 0 x HX.out
    rw [← HXX.out] at hc0
    clear hr hb hb1
    go_wp2_with fail
    refine Calls.mono (HSh.out _) ?_
    rintro e w2 ⟨rfl, rfl⟩
    go_wp2
    have k8 : (w1.alloc (.cells #[.string X, .slice none 0 0, .slice none 0 0] 40 (0, 0))).heap[w1.heap.size]? = some (.cells #[.string X, .slice none 0 0, .slice none 0 0] 40 (0, 0)) := hnew rfl
    have k2' := hal (o := (.cells #[.string X, .slice none 0 0, .slice none 0 0] 40 (0, 0))) k1
    have BW : Hid (Below w.heap.size w (w1.alloc (.cells #[.string X, .slice none 0 0, .slice none 0 0] 40 (0, 0)))) := al HB1.out HB1.out.size
    have RW : Hid (StrRow (w1.alloc (.cells #[.string X, .slice none 0 0, .slice none 0 0] 40 (0, 0))) gs (splA 32 l)) := HRW.out.keep (al (Below.refl _ _) (Nat.le_refl _))
    obtain ⟨g8, hg8⟩ : ∃ g8, g8 = w1.heap.size := ⟨_, rfl⟩
    have hgl : w.heap.size < g8 ∧ gs < g8 := by have h1 := lt_of_block k1; have h3 : gs < w1.heap.size := lt_of_cell (HRW.out 0 x HX.out); omega
    rw [← hg8] at k8 ⊢
    generalize w1.alloc (.cells #[.string X, .slice none 0 0, .slice none 0 0] 40 (0, 0)) = w3 at *
    clear HB1 HRW k1 hg8 HWd HSh hs1 hgs hc0
    have K8 := Lib.hid k8
    have K2 := Lib.hid k2'
    have HGL := Lib.hid hgl
    clear k8 k2' hgl hne
    go_loopw [10, 11, 12] (fun iv _ _ wr => ∃ (i j : Nat) (q : Option Addr) (c : Nat) (ns : List Nat), j ≤ k ∧ iv = .int .i64 (i : Nat) ∧ Hid (i = j + 1) ∧ Hid (numsP (((splA 32 l).drop 1).take j) = some ns) ∧ Hid (wr.ownsRow g8 48 1 (.slice q j c) j (ns.map encU)) ∧ Hid (wr.heap[g8]? = some (.cells #[.string X, .slice q j c, .slice none 0 0] 40 (0, 0))) ∧ Hid (wr.heap[w.heap.size]? = some (.cells #[.string (strB []), .slice none 0 0, .slice none 0 0] 40 (0, 0))) ∧ Hid (StrRow wr gs (splA 32 l)) ∧ Hid (Below w.heap.size w wr)) (fun iv _ _ _ => k + 1 - (intOf iv).toNat)
    case atStart => exact ⟨1, 0, none, 0, [], Nat.zero_le _, rfl, rfl, rfl, World.ownsRow_nil _ _ _ _, K8.out, K2.out, RW.out, BW.out⟩
    case round =>
      obtain ⟨i, j, q, c, ns, hjk, rfl, HIJ, HNs, HO, H8, H2, HRr, HBr⟩ := hrel
      clear K8 K2 RW BW
      have hij := HIJ.out
      by_cases hlt : j < k
      · obtain ⟨a, ha⟩ : ∃ a, (splA 32 l)[i]? = some a := ⟨_, List.getElem?_eq_getElem (by have := HN.out; have := HW.out; omega)⟩
        have ca := HRr.out i a ha
        have hai : (((splA 32 l).drop 1))[j]? = some a := by rw [List.getElem?_drop, Nat.add_comm, ← hij]; exact ha
        have hal2 : a.length ≤ 1000000 := Nat.le_trans (spl_shortC _ _ _ _ (List.mem_of_getElem? ha)) hl
        have HRN := Lib.hid (RNumber26_any a wr hal2)
        obtain ⟨A, hA⟩ : ∃ A, A = strB a := ⟨_, rfl⟩
        rw [← hA] at ca HRN
        have hlt' : (i : Int) ≤ (k : Int) := by omega
        have hin : (i : Int) < (n : Int) := by have := HW.out; omega
        have hi4 : i ≤ 4 := by omega
        have HA := Lib.hid hai
        have HLT := Lib.hid hlt
        clear ha hai hal2 hA hlt hij
        go_wp2_with fail
        refine Calls.mono HRN.out ?_
        rintro e w4 ⟨v, rfl, ⟨y, rfl, hy⟩, hb⟩
        have HB4 := Lib.hid (bl HBr.out hb HBr.out.size)
        have HO4 := Lib.hid (owns_keep HO.out hb)
        have H84 := Lib.hid ((hb.block _ (lt_of_block H8.out)).trans H8.out)
        have H24 := Lib.hid ((hb.block _ (lt_of_block H2.out)).trans H2.out)
        have HR4 := Lib.hid (HRr.out.keep hb)
        clear hb ca HRN HO H8 H2 HRr HBr
        cases hnb : numB 18446744073709551615 a with
        | none =>
          have HRes : Hid (R = (14, noCmd)) := HR.out.trans (readP_nums HFS.out (by have := HN.out; have := HW.out; show _ = 1 + k + 0; omega) (numsP_bad (i := j) (a := a) (X := ns) (by rw [List.take_take, Nat.min_eq_left (by have := HLT.out; omega)]; exact HNs.out) (by rw [List.getElem?_take, if_pos HLT.out]; exact HA.out) hnb))
          have H22 := H24.out
          clear hnb hy HNs HO4 H84 HR4 H24
          go_wp2_with (refine wpList_store_row (o := ⟨none, .store 40 (.tmp 2) (.tmp 57), _, _, _, _⟩) rfl 40 (.tmp 2) (.tmp 57) rfl w.heap.size #[.string (strB []), .slice none 0 0, .slice none 0 0] rfl rfl _ _ H22 info_rcmd rfl (by simp [Value.oneCell']) ?_)
          refine bodyPost_ret (res_ct rfl _ _ _ 40 #[.string (strB []), .slice none 0 0, .slice none 0 0] (0, 0) _ (.int .i64 14) rfl (hrs H22) rfl Tryd.underlying40 rfl info_rcmd) rfl ?_
          exact ⟨_, _, _, by rw [HRes.out], by rw [HRes.out]; exact CmdV.no _ _, below_row HB4.out (Nat.le_refl _)⟩
        | some z =>
          obtain rfl : y = z := hy z hnb
          have HNB := Lib.hid hnb
          obtain ⟨c0, c1, c2⟩ := cells_three H84.out
          have z1 := frozen_of_row _ _ 1 _ _ H84.out
          have hOA : Hid (∀ o, (w4.alloc o).ownsRow g8 48 1 (.slice q j c) j (ns.map encU)) := fun o => owns_keep HO4.out (al (Below.refl _ _) (Nat.le_refl _))
          have hszw := HB4.out.size
          clear hnb hy
          go_wp2_with (at_builtin; refine wpList_append_own _ rfl _ _ 34 rfl g8 48 u0 (.int .u64 0) 1 8 Tryd.underlying34 hu hu0 hu1 hu2 rfl (by omega) _ j (ns.map encU) rfl (hOA.out _) ⟨w4.heap.size, 0, none⟩ 1 1 [encU y] rfl rfl (one_cellI rfl) ?c2 ?c3 ?c4 ?c5 ?_)
          case c2 => first | rfl | (intro y hy; simp at hy; subst hy; rfl)
          case c3 => unfold maxLen; omega
          case c4 => omega
          case c5 => have := lt_of_block H84.out; first | omega | (simp; omega)
          intro v' w' ho' hg' _
          obtain ⟨q', c', rfl⟩ := owns_shape ho'
          have H8' := grown_other (hOA.out _) hg' (hal H84.out) (by decide)
          have BG : Hid (Below g8 w4 w') := (al (Below.refl _ _) (Nat.le_of_lt (lt_of_block H84.out))).grown hg' (by have := lt_of_block H84.out; simp; omega) (fun rr hrr => (HO4.out.lt rr hrr).1)
          have HO5 : Hid (w'.ownsRow g8 48 1 (.slice q' (j + 1) c') (j + 1) ((ns ++ [y]).map encU)) := by
            show World.ownsRow _ _ _ _ _ _ _
            rw [List.map_append]; exact ho'
          have HNs5 := Lib.hid (numsP_step HNs.out HA.out HNB.out)
          obtain ⟨d0, d1, d2⟩ := cells_three H8'
          have z1 := frozen_of_row _ _ 1 _ _ H8'
          have HH8 := Lib.hid H8'
          clear ho' hg' c0 c1 c2 hOA HO4 HNs HA HNB H8'
          go_wp2
          have BF : Hid (Below g8 w4 (w'.setCell ⟨g8, 1, none⟩ (.slice q' (j + 1) c'))) := (BG.out).setCell (Nat.le_refl _) _
          go_roundw
          case rel => exact ⟨i + 1, j + 1, q', c', ns ++ [y], HLT.out, by go_num, by have := HIJ.out; show _ = _; omega, HNs5.out, ownsRow_setCell_other HO5.out (owns_block_ne HO5.out HH8.out (by decide)) _, hss HH8.out, (BF.out.block _ HGL.out.1).trans H24.out, fun jj z hj => (BF.out.cell (p := ⟨gs, jj, none⟩) HGL.out.2).trans (HR4.out jj z hj), HB4.out.trans (BF.out.mono (by have := HGL.out; omega))⟩
          case measure => simp [intOf]; have := HIJ.out; have := HLT.out; omega
      · obtain rfl : j = k := by omega
        have hgt : ¬ (i : Int) ≤ (j : Int) := by omega
        have HRes : Hid (R = (0, ⟨x, ns, []⟩)) := by
          have := HR.out.trans (readP_plain HFS.out (by have := HN.out; have := HW.out; show _ = 1 + j + 0; omega) HNs.out rfl)
          rw [E0.out] at this
          exact this
        have H26 := H2.out
        obtain ⟨d0, d1, d2⟩ := cells_three H8.out
        clear hlt HNs hij
        go_wp2_with (refine wpList_store_row (o := ⟨none, .store 40 (.tmp 2) (.tmp 87), _, _, _, _⟩) rfl 40 (.tmp 2) (.tmp 87) rfl w.heap.size #[.string X, .slice q j c, .slice none 0 0] rfl rfl _ _ H26 info_rcmd rfl (by simp [Value.oneCell']) ?_)
        refine bodyPost_ret (res_ct rfl _ _ _ 40 #[.string X, .slice q j c, .slice none 0 0] (0, 0) _ (.int .i64 0) rfl (hrs H26) rfl Tryd.underlying40 rfl info_rcmd) rfl ?_
        refine ⟨_, _, _, by rw [HRes.out], ?_, below_row HBr.out (Nat.le_refl _)⟩
        rw [HRes.out]
        refine ⟨by rw [HXX.out], ⟨q, j, c, rfl, ?_⟩, none, 0, 0, rfl, Fresh.none _ _ _⟩
        exact owns_mono (owns_setRow HO.out H26 (by decide)) (Nat.le_of_lt HGL.out.1)
  · have hne : ((n : Int) != 1 + (k : Int)) = true := bne_iff_ne.2 (by omega)
    have HRes : Hid (R = (14, noCmd)) := HR.out.trans (readP_len HFS.out (by have := HN.out; show _ ≠ 1 + k + 0; omega))
    clear hw
    go_enter Tryd.func19, Tryd.ntmps19
    go_wp2_with fail
    refine Calls.mono (HWd.out _) ?_
    rintro e w1 ⟨gs, cs, rfl, hcs, hgs, hr, hb⟩
    rw [← HN.out] at hcs ⊢
    obtain ⟨hb1, k1, hs1⟩ := one_of hb
    have HB1 := Lib.hid hb1
    have HRW := Lib.hid hr
    have hc0 := hr 0 x HX.out
    rw [← HXX.out] at hc0
    clear hr hb hb1
    go_wp2_with fail
    refine Calls.mono (HSh.out _) ?_
    rintro e w2 ⟨rfl, rfl⟩
    go_wp2_with (refine wpList_store_row (o := ⟨none, .store 40 (.tmp 2) (.tmp 37), _, _, _, _⟩) rfl 40 (.tmp 2) (.tmp 37) rfl w.heap.size #[.string (strB []), .slice none 0 0, .slice none 0 0] rfl rfl _ _ k1 info_rcmd rfl (by simp [Value.oneCell']) ?_)
    refine bodyPost_ret (res_ct rfl _ _ _ 40 #[.string (strB []), .slice none 0 0, .slice none 0 0] (0, 0) _ (.int .i64 14) rfl (hrs k1) rfl Tryd.underlying40 rfl info_rcmd) rfl ?_
    exact ⟨_, _, _, by rw [HRes.out], by rw [HRes.out]; exact CmdV.no _ _, below_row HB1.out (Nat.le_refl _)⟩
theorem RRead26_any (l : List UInt8) (w : World) (hl : l.length ≤ 1000000) : Calls Tryd.prog 19 #[.string (strB l)] w (RdR w (readP l)) := by
  cases hf : formS ((partsP l).getD 0 []) with
  | none => exact Rread_none l w hl hf
  | some f =>
    obtain ⟨k, b⟩ := f
    cases b with
    | true => exact Rread_long l k w hl hf
    | false => exact Rread_short l k w hl hf
end Go.Proofs.YtccaiiigdfieoaaDoor
namespace Go.Proofs.YtccaiiigdfieoaaDoor
open Go.RowKit Go.By
/-- what a script says, or why not -/
def scriptL (s : List UInt8) : List Cmd × Nat × Int := if 65536 < s.length then ([], 0, 16) else scriptP s
/-- what Parse answers -/
def PrsR (T : TypeId) (w : World) (R : List Cmd × Nat × Int) (e : Ending) (w' : World) : Prop := ∃ q m c, e = .returned (.tuple #[.slice q m c, .int .i64 (R.2.1 : Nat), .int .i64 R.2.2]) ∧ CmdsF T w.heap.size w' (.slice q m c) m R.1 ∧ Below w.heap.size w w'
theorem PrsR.no {T : TypeId} {w w' : World} {R : List Cmd × Nat × Int} {n : Nat} {e : Int} (h : R = ([], n, e)) (hb : Below w.heap.size w w') : PrsR T w R (.returned (.tuple #[.slice none 0 0, .int .i64 (n : Nat), .int .i64 e])) w' := by
  subst h; exact ⟨none, 0, 0, rfl, CmdsF.nil _ _ _, hb⟩
theorem info_cmd3 : (Tryd.prog.info? 37).map (fun i => (i.zero, i.size, i.bytes)) = some (some (.agg #[.string ⟨#[]⟩, .slice none 0 0, .slice none 0 0]), 3, 64) := by kernel_rfl
theorem code_cases (s : List UInt8) : (readP s).1 = 0 ∨ ((readP s).1 == 0) = false ∧ ((readP s).1 != 0) = true := by
  by_cases h : (readP s).1 = 0
  · exact .inl h
  · exact .inr ⟨beq_eq_false_iff_ne.2 h, bne_iff_ne.2 h⟩
theorem cut_short {c : UInt8} {r : List UInt8} : (cutW c r).1.length ≤ r.length := by
  cases h : (cutW c r).2 with
  | none => rw [(cutW_none h).1]; exact Nat.le_refl _
  | some r' => obtain ⟨i, _, e2, _, _⟩ := cutW_some h; rw [← e2, List.length_take]; omega
set_option maxRecDepth 100000 in
set_option maxHeartbeats 8000000 in
theorem Parse_any (l : List UInt8) (w : World) (hl : l.length ≤ 1000000) (hM : MaxI w) (hE : ErrI w) (hS : SynI w) :
    Calls Tryd.prog 7 #[.string (strB l)] w (PrsR 37 w (scriptL l)) := by
  obtain ⟨i0, hi0, hz0, hz1, hz2⟩ := info_parts info_cmd3
  obtain ⟨n, hn⟩ : ∃ n, n = l.length := ⟨_, rfl⟩
  have hsz : (strB l).size = n := by rw [strB_size, hn]
  have HN := Lib.hid hn
  by_cases hbig : 65536 < n
  · have HR : Hid (scriptL l = ([], 0, 16)) := if_pos (by omega)
    rw [HR.out]
    have hb : (65536 : Int) < (n : Int) := by omega
    have hnb : n ≤ 1000000 := by omega
    generalize strB l = S at *
    clear hn hM hE hS hbig HR hl
    go_enter Tryd.func7, Tryd.ntmps7
    go_wp2
    go_ret3
    exact PrsR.no rfl (Below.refl _ _)
  have HR : Hid (scriptL l = scriptP l) := if_neg (by omega)
  rw [HR.out]
  obtain ⟨R, hR⟩ : ∃ R, R = scriptP l := ⟨_, rfl⟩
  rw [← hR]
  have HRD : Hid (∀ s W, s.length ≤ l.length → Below w.heap.size w W → Calls Tryd.prog 18 #[.string (strB s)] W (RdR W (readP s))) := fun s W hs hb => read_any s W (by omega) (hM.keep hb) (hE.keep hb) (hS.keep hb)
  have HCT : Hid (∀ s W, s.length ≤ l.length → Below w.heap.size w W → Calls Tryd.prog 17 #[.string (strB s), .string ⟨#[10]⟩] W _) := fun s W hs hb => Cut_any 10 s W (by omega) (hM.keep hb)
  have H0 : Hid (SrAt l R 1 l []) := by rw [hR]; exact SrAt.zero l
  have hb : ¬ (65536 : Int) < (n : Int) := by omega
  have hnb : n ≤ 65536 := by omega
  clear hn hM hE hS hbig HR hR hl
  go_enter Tryd.func7, Tryd.ntmps7
  go_wp2
  go_loopw [0, 5, 6, 7, 8, 9, 10, 11] (fun rv lv nv _ _ _ _ _ wr => ∃ (r : List UInt8) (acc : List Cmd) (k m c : Nat) (q : Option Addr), rv = .string (strB r) ∧ lv = .slice q m c ∧ nv = .int .i64 (k : Nat) ∧ k ≤ 65537 ∧ m ≤ 65536 ∧ Hid (SrAt l R k r acc) ∧ Hid (CmdsF 37 w.heap.size wr (.slice q m c) m acc) ∧ Hid (Below w.heap.size w wr)) (fun rv _ _ _ _ _ _ _ _ => match rv with | .string s => s.size | _ => 0)
  case atStart => exact ⟨l, [], 1, 0, 0, none, rfl, rfl, rfl, by omega, by omega, H0.out, CmdsF.nil _ _ _, Below.refl _ _⟩
  case round =>
    obtain ⟨r, acc, k, m, c, q, rfl, rfl, rfl, hk, hm, HA, HC, HB⟩ := hrel
    clear H0
    have hemp := txt_emp r
    by_cases hr : r = []
    · rw [decide_eq_true hr] at hemp
      have HRes : Hid (R = (acc, 0, 0)) := by have := HA.out; rw [hr] at this; exact this.done
      clear hr HA
      go_wp2
      go_ret3
      exact ⟨q, m, c, by rw [HRes.out]; rfl, by rw [HRes.out]; exact HC.out, HB.out⟩
    · rw [decide_eq_false hr] at hemp
      have hrl := HA.out.1
      have HCt := Lib.hid (HCT.out r wr hrl HB.out)
      have HLs : Hid (r.length ≤ l.length) := hrl
      have HRN := Lib.hid hr
      have HC0 := Lib.hid (code_cases (cutW 10 r).1)
      have HRd : Hid (∀ W, Below w.heap.size w W → Calls Tryd.prog 18 #[.string (strB (cutW 10 r).1)] W (RdR W (readP (cutW 10 r).1))) := fun W hb => HRD.out _ W (Nat.le_trans cut_short hrl) hb
      clear hr hrl
      go_wp2_with fail
      refine Calls.mono HCt.out ?_
      rintro e w1 ⟨rfl, hb1⟩
      have HB1 := Lib.hid (bl HB.out hb1 HB.out.size)
      have HC1 := Lib.hid (HC.out.keep hb1)
      clear hb1 HCt HB HC
      go_wp2_with fail
      refine Calls.mono (HRd.out w1 HB1.out) ?_
      rintro e w2 ⟨v1, v2, v3, rfl, hcv, hb2⟩
      obtain ⟨e1, ⟨q1, n1, c1, e2, o1⟩, q2, n2, c2, e3, f2⟩ := hcv
      have e1' : v1 = .string (strB (readP (cutW 10 r).1).2.word) := e1
      have e2' : v2 = .slice q1 n1 c1 := e2
      have e3' : v3 = .slice q2 n2 c2 := e3
      subst e1' e2' e3'
      have HB2 := Lib.hid (bl HB1.out hb2 HB1.out.size)
      have HC2 := Lib.hid (HC1.out.keep hb2)
      have HV2 : Hid (CmdV w1.heap.size w2 (.string (strB (readP (cutW 10 r).1).2.word), .slice q1 n1 c1, .slice q2 n2 c2) (readP (cutW 10 r).1).2) := ⟨rfl, ⟨q1, n1, c1, rfl, o1⟩, q2, n2, c2, rfl, f2⟩
      clear hb2 e1 e2 e3 o1 f2 HC1 HRd
      generalize hW : strB (readP (cutW 10 r).1).2.word = W0 at *
      have HW := Lib.hid hW
      clear hW
      rcases HC0.out with hz | ⟨hz1, hz2'⟩
      · have HZ := Lib.hid hz
        rw [hz]
        cases hct : (cutW 10 r).2 with
        | none =>
          have HRes : Hid (R = ([], k, 14)) := by
            have := HA.out.end_ HRN.out hct
            rw [if_pos hz] at this
            exact this
          simp only [Option.isSome_none]
          clear hct hz HA
          go_wp2
          go_ret3
          exact PrsR.no HRes.out (al HB2.out HB2.out.size)
        | some r' =>
          have HA2 := Lib.hid (HA.out.next HRN.out hct hz)
          have hln : r'.length < r.length := by have := cutW_len hct; omega
          have hk2 : Hid (k + 1 ≤ 65537 ∧ m + 1 ≤ 65536) := by
            have h1 := HA2.out.2.1; have h2 := HA2.out.2.2.1; have h3 := HC2.out.len; have h4 := HN.out
            simp at h1
            exact ⟨by omega, by omega⟩
          simp only [Option.isSome_some, Option.getD_some]
          obtain ⟨vs, ho, hvl, hcl, hvr⟩ := HC2.out
          have ba : Below w2.heap.size w2 (w2.alloc (.cells #[.string W0, .slice q1 n1 c1, .slice q2 n2 c2] 37 (0, 0))) := al (Below.refl _ _) (Nat.le_refl _)
          have hOA : Hid (∀ o, ((w2.alloc (.cells #[.string W0, .slice q1 n1 c1, .slice q2 n2 c2] 37 (0, 0))).alloc o).ownsRow w.heap.size 37 3 (.slice q m c) m (fl3 vs)) := fun o => owns_keep ho (al ba (by simp))
          have HVR : Hid (∀ o, ∀ (j : Nat) (u : Value × Value × Value), vs[j]? = some u → ∃ c, acc[j]? = some c ∧ CmdV w.heap.size ((w2.alloc (.cells #[.string W0, .slice q1 n1 c1, .slice q2 n2 c2] 37 (0, 0))).alloc o) u c) := fun o j u hj => by obtain ⟨c', hc', g⟩ := hvr j u hj; exact ⟨c', hc', g.keep (al ba (by simp))⟩
          have HVU : Hid (∀ o, CmdV w.heap.size ((w2.alloc (.cells #[.string W0, .slice q1 n1 c1, .slice q2 n2 c2] 37 (0, 0))).alloc o) (.string W0, .slice q1 n1 c1, .slice q2 n2 c2) (readP (cutW 10 r).1).2) := fun o => (HV2.out.keep (al ba (by simp))).mono HB1.out.size
          have HVL := Lib.hid (And.intro hvl hcl)
          have hszw := HB2.out.size
          have HLN := Lib.hid hln
          clear hct hz HA HC2 ho hvl hcl hvr ba hln HV2
          go_wp2_with (at_builtin; refine wpList_append_own _ rfl _ _ 23 rfl w.heap.size 37 i0 _ 3 64 Tryd.underlying23 hi0 hz0 hz1 hz2 rfl (by omega) _ m (fl3 vs) rfl (hOA.out _) ⟨w2.heap.size + 1, 0, none⟩ 1 1 [.string W0, .slice q1 n1 c1, .slice q2 n2 c2] rfl rfl ?c1 ?c2 ?c3 ?c4 ?c5 ?_)
          case c1 =>
            intro j' y hj'
            rw [Addr.add_lit, Nat.zero_add, cell_of_row _ _ j' _ _ _ (hnew (by simp))]
            match j' with
            | 0 => simpa using hj'
            | 1 => simpa using hj'
            | 2 => simpa using hj'
            | j' + 3 => simp at hj'
          case c2 => intro y hy; simp at hy; rcases hy with rfl | rfl | rfl <;> rfl
          case c3 => unfold maxLen; omega
          case c4 => omega
          case c5 => simp; omega
          intro v' w' ho' hg' _
          obtain ⟨q', c', rfl⟩ := owns_shape ho'
          have HC3 : Hid (CmdsF 37 w.heap.size w' (.slice q' (m + 1) c') (m + 1) (acc ++ [(readP (cutW 10 r).1).2])) := CmdsF.pushG (hOA.out _) hg' ho' HVL.out.1 HVL.out.2 (HVR.out _) (HVU.out _) (by decide) (by decide)
          have HB3 : Hid (Below w.heap.size w w') := (al (al HB2.out hszw) (by simp; omega)).grown hg' (by simp; omega) (fun rr hrr => ((hOA.out (.cells #[] 0 (0, 0))).lt rr hrr).1)
          have hk3 := hk2.out.1
          have hm3 := hk2.out.2
          clear ho' hg' hOA HVR HVU HVL hszw hk2
          go_wp2
          go_roundw
          case rel => exact ⟨r', _, k + 1, m + 1, c', q', rfl, rfl, by go_num, hk3, hm3, HA2.out, HC3.out, HB3.out⟩
          case measure => show (strB r').size < (strB r).size; rw [strB_size, strB_size]; exact HLN.out
      · have hct : (cutW 10 r).2 = none ∨ ∃ r', (cutW 10 r).2 = some r' := by cases (cutW 10 r).2 with
          | none => exact .inl rfl
          | some r' => exact .inr ⟨r', rfl⟩
        have HRes : Hid (R = ([], k, (readP (cutW 10 r).1).1)) := by
          rcases hct with h | ⟨r', h⟩
          · have := HA.out.end_ HRN.out h
            rw [if_neg (bne_iff_ne.1 hz2')] at this
            exact this
          · exact HA.out.bad HRN.out h (bne_iff_ne.1 hz2')
        generalize (readP (cutW 10 r).1).1 = code at *
        clear hct HA
        go_wp2
        go_ret3
        exact PrsR.no HRes.out (al HB2.out HB2.out.size)
end Go.Proofs.YtccaiiigdfieoaaDoor
namespace Go.Proofs.YtccaiiigdfieoaaDoor
open Go.RowKit Go.By
theorem info_rcmd3 : (Tryd.prog.info? 40).map (fun i => (i.zero, i.size, i.bytes)) = some (some (.agg #[.string ⟨#[]⟩, .slice none 0 0, .slice none 0 0]), 3, 64) := by kernel_rfl
theorem ScAt.bounds {s line : List UInt8} {R : List Cmd × Nat × Int} {i n : Nat} {acc : List Cmd} (h : ScAt s R i n line acc) : line.length ≤ i ∧ acc.length ≤ i ∧ n ≤ i + 1 := ⟨h.2.1, h.2.2.2.2.1, h.2.2.2.2.2.1⟩
set_option maxRecDepth 100000 in
set_option maxHeartbeats 8000000 in
theorem RParse26_any (l : List UInt8) (w : World) (hl : l.length ≤ 1000000) :
    Calls Tryd.prog 8 #[.string (strB l)] w (PrsR 40 w (scriptL l)) := by
  obtain ⟨i0, hi0, hz0, hz1, hz2⟩ := info_parts info_rcmd3
  obtain ⟨n, hn⟩ : ∃ n, n = l.length := ⟨_, rfl⟩
  have hsz : (strB l).size = n := by rw [strB_size, hn]
  have HN := Lib.hid hn
  by_cases hbig : 65536 < n
  · have HR : Hid (scriptL l = ([], 0, 16)) := if_pos (by omega)
    rw [HR.out]
    have hb : (65536 : Int) < (n : Int) := by omega
    have hnb : n ≤ 1000000 := by omega
    generalize strB l = S at *
    clear hn hbig HR hl
    go_enter Tryd.func8, Tryd.ntmps8
    go_wp2
    go_ret3
    exact PrsR.no rfl (Below.refl _ _)
  have HR : Hid (scriptL l = scriptP l) := if_neg (by omega)
  rw [HR.out]
  obtain ⟨R, hR⟩ : ∃ R, R = scriptP l := ⟨_, rfl⟩
  rw [← hR]
  have hixk : Hid (∀ (k : Nat) (d : UInt8), l[k]? = some d → ∀ w, (Instr.index 9 (.string (strB l)) (.int .i64 (k : Int))).run Tryd.prog w = .ok (B8 d) w) := fun k d hd w => txt_idx _ Tryd.underlying9 hd _ _ rfl w
  have HEX : Hid (∀ i d, l[i]? = some d → (strB l).extract i (i + 1) = strB [d]) := fun i d h => txt_one h
  have HRD : Hid (∀ s W, s.length ≤ l.length → Calls Tryd.prog 19 #[.string (strB s)] W (RdR W (readP s))) := fun s W hs => RRead26_any s W (by omega)
  have H0 : Hid (ScAt l R 0 1 [] []) := by rw [hR]; exact ScAt.zero l
  have hb : ¬ (65536 : Int) < (n : Int) := by omega
  have hnb : n ≤ 65536 := by omega
  obtain ⟨S, hS⟩ : ∃ S, S = strB l := ⟨_, rfl⟩
  rw [← hS] at hsz hixk HEX ⊢
  clear hn hbig HR hR hl hS
  go_enter Tryd.func8, Tryd.ntmps8
  go_wp2
  clear hb
  go_loopw [5, 6, 7, 8, 9, 10, 11, 12] (fun lv sv nv iv _ _ _ _ wr => ∃ (i k m c : Nat) (line : List UInt8) (acc : List Cmd) (q : Option Addr), i ≤ n ∧ iv = .int .i64 (i : Nat) ∧ sv = .string (strB line) ∧ lv = .slice q m c ∧ nv = .int .i64 (k : Nat) ∧ k ≤ i + 1 ∧ m ≤ i ∧ Hid (ScAt l R i k line acc) ∧ Hid (CmdsF 40 w.heap.size wr (.slice q m c) m acc) ∧ Hid (Below w.heap.size w wr)) (fun _ _ _ iv _ _ _ _ _ => n - (intOf iv).toNat)
  case atStart => exact ⟨0, 1, 0, 0, [], [], none, Nat.zero_le _, rfl, rfl, rfl, rfl, by omega, by omega, H0.out, CmdsF.nil _ _ _, Below.refl _ _⟩
  case round =>
    obtain ⟨i, k, m, c, line, acc, q, hi, rfl, rfl, rfl, rfl, hk, hm, HA, HC, HB⟩ := hrel
    clear H0
    by_cases hlt : i < n
    · obtain ⟨d, hd⟩ : ∃ d, l[i]? = some d := ⟨_, List.getElem?_eq_getElem (by have := HN.out; omega)⟩
      have hix := hixk.out i d hd
      have hlt' : (i : Int) < (n : Int) := by omega
      have HD := Lib.hid hd
      have HLT := Lib.hid hlt
      have hll : line.length ≤ i := HA.out.bounds.1
      by_cases h10 : d = 10
      · have h8 : B8 d = .int .u8 10 := by rw [h10]; rfl
        rw [h8] at hix
        have HD10 : Hid (l[i]? = some 10) := by rw [← h10]; exact hd
        have HRd := Lib.hid (HRD.out line wr (by have := HN.out; omega))
        have HC0 := Lib.hid (code_cases line)
        clear hd hlt h10 h8 hll
        go_wp2_with (first | simp only [hix] | fail)
        refine Calls.mono HRd.out ?_
        rintro e w2 ⟨v1, v2, v3, rfl, hcv, hb2⟩
        obtain ⟨e1, ⟨q1, n1, c1, e2, o1⟩, q2, n2, c2, e3, f2⟩ := hcv
        have e1' : v1 = .string (strB (readP line).2.word) := e1
        have e2' : v2 = .slice q1 n1 c1 := e2
        have e3' : v3 = .slice q2 n2 c2 := e3
        subst e1' e2' e3'
        have HB2 := Lib.hid (bl HB.out hb2 HB.out.size)
        have HC2 := Lib.hid (HC.out.keep hb2)
        have HV2 : Hid (CmdV wr.heap.size w2 (.string (strB (readP line).2.word), .slice q1 n1 c1, .slice q2 n2 c2) (readP line).2) := ⟨rfl, ⟨q1, n1, c1, rfl, o1⟩, q2, n2, c2, rfl, f2⟩
        have HBs := Lib.hid HB.out.size
        clear hb2 e1 e2 e3 o1 f2 HC HRd hix HB
        generalize hW : strB (readP line).2.word = W0 at *
        have HW := Lib.hid hW
        clear hW
        rcases HC0.out with hz | ⟨hz1, hz2'⟩
        · rw [hz]
          have HA2 := Lib.hid (HA.out.next HD10.out hz)
          obtain ⟨vs, ho, hvl, hcl, hvr⟩ := HC2.out
          have ba : Below w2.heap.size w2 (w2.alloc (.cells #[.string W0, .slice q1 n1 c1, .slice q2 n2 c2] 40 (0, 0))) := al (Below.refl _ _) (Nat.le_refl _)
          have hOA : Hid (∀ o, ((w2.alloc (.cells #[.string W0, .slice q1 n1 c1, .slice q2 n2 c2] 40 (0, 0))).alloc o).ownsRow w.heap.size 40 3 (.slice q m c) m (fl3 vs)) := fun o => owns_keep ho (al ba (by simp))
          have HVR : Hid (∀ o, ∀ (j : Nat) (u : Value × Value × Value), vs[j]? = some u → ∃ c, acc[j]? = some c ∧ CmdV w.heap.size ((w2.alloc (.cells #[.string W0, .slice q1 n1 c1, .slice q2 n2 c2] 40 (0, 0))).alloc o) u c) := fun o j u hj => by obtain ⟨c', hc', g⟩ := hvr j u hj; exact ⟨c', hc', g.keep (al ba (by simp))⟩
          have HVU : Hid (∀ o, CmdV w.heap.size ((w2.alloc (.cells #[.string W0, .slice q1 n1 c1, .slice q2 n2 c2] 40 (0, 0))).alloc o) (.string W0, .slice q1 n1 c1, .slice q2 n2 c2) (readP line).2) := fun o => (HV2.out.keep (al ba (by simp))).mono HBs.out
          have HVL := Lib.hid (And.intro hvl hcl)
          have hszw := HB2.out.size
          clear hz HA HC2 ho hvl hcl hvr ba HV2
          go_wp2_with (at_builtin; refine wpList_append_own _ rfl _ _ 27 rfl w.heap.size 40 i0 _ 3 64 Tryd.underlying27 hi0 hz0 hz1 hz2 rfl (by omega) _ m (fl3 vs) rfl (hOA.out _) ⟨w2.heap.size + 1, 0, none⟩ 1 1 [.string W0, .slice q1 n1 c1, .slice q2 n2 c2] rfl rfl ?c1 ?c2 ?c3 ?c4 ?c5 ?_)
          case c1 =>
            intro j' y hj'
            rw [Addr.add_lit, Nat.zero_add, cell_of_row _ _ j' _ _ _ (hnew (by simp))]
            match j' with
            | 0 => simpa using hj'
            | 1 => simpa using hj'
            | 2 => simpa using hj'
            | j' + 3 => simp at hj'
          case c2 => intro y hy; simp at hy; rcases hy with rfl | rfl | rfl <;> rfl
          case c3 => unfold maxLen; omega
          case c4 => omega
          case c5 => simp; omega
          intro v' w' ho' hg' _
          obtain ⟨q', c', rfl⟩ := owns_shape ho'
          have HC3 : Hid (CmdsF 40 w.heap.size w' (.slice q' (m + 1) c') (m + 1) (acc ++ [(readP line).2])) := CmdsF.pushG (hOA.out _) hg' ho' HVL.out.1 HVL.out.2 (HVR.out _) (HVU.out _) (by decide) (by decide)
          have HB3 : Hid (Below w.heap.size w w') := (al (al HB2.out hszw) (by simp; omega)).grown hg' (by simp; omega) (fun rr hrr => ((hOA.out (.cells #[] 0 (0, 0))).lt rr hrr).1)
          clear ho' hg' hOA HVR HVU HVL hszw
          go_wp2
          go_roundw
          case rel => exact ⟨i + 1, k + 1, m + 1, c', [], _, q', HLT.out, by go_num, rfl, rfl, by go_num, by omega, by omega, HA2.out, HC3.out, HB3.out⟩
          case measure => simp [intOf]; have := HLT.out; omega
        · have HRes : Hid (R = ([], k, (readP line).1)) := HA.out.bad HD10.out (bne_iff_ne.1 hz2')
          generalize (readP line).1 = code at *
          clear HA
          go_wp2
          go_ret3
          exact PrsR.no HRes.out (al HB2.out HB2.out.size)
      · have hne : ((d.toNat : Int) != 10) = true := bne_iff_ne.2 (fun e => h10 (UInt8.toNat_inj.1 (by show d.toNat = 10; omega)))
        have hext := HEX.out i d hd
        have hin : (i : Int) + 1 ≤ (n : Int) := by omega
        have HL : Hid (strB line ++ strB [d] = strB (line ++ [d])) := txt_app _ _
        have HRd := Lib.hid (fun W => HRD.out (line ++ [d]) W (by have := HN.out; simp; omega))
        have HC0 := Lib.hid (code_cases (line ++ [d]))
        have s1 : (strB line).size ≤ 65536 := by rw [strB_size]; omega
        have s2 : (strB [d]).size = 1 := strB_size _
        have HAS : Hid (i + 1 ≠ n → ScAt l R (i + 1) k (line ++ [d]) acc) := fun h => HA.out.sign hd h10 (by have := HN.out; omega)
        have HAE : Hid (i + 1 = n → R = ([], k, if (readP (line ++ [d])).1 = 0 then 14 else (readP (line ++ [d])).1)) := fun h => HA.out.end_ hd h10 (by have := HN.out; omega)
        clear hd hlt h10 hll
        by_cases hen : i + 1 = n
        · have hen' : ((i : Int) + 1 == (n : Int)) = true := by rw [beq_iff_eq]; omega
          have HE := Lib.hid (HAE.out hen)
          clear hen HAS HAE
          go_wp2_with (first | simp only [hix] | fail)
          rw [HL.out]
          refine Calls.mono (HRd.out wr) ?_
          rintro e w2 ⟨v1, v2, v3, rfl, hcv, hb2⟩
          obtain ⟨e1, ⟨q1, n1, c1, e2, o1⟩, q2, n2, c2, e3, f2⟩ := hcv
          have e1' : v1 = .string (strB (readP (line ++ [d])).2.word) := e1
          have e2' : v2 = .slice q1 n1 c1 := e2
          have e3' : v3 = .slice q2 n2 c2 := e3
          subst e1' e2' e3'
          have HB2 := Lib.hid (bl HB.out hb2 HB.out.size)
          clear hb2 e1 e2 e3 o1 f2 HC HRd hix HB
          generalize hW : strB (readP (line ++ [d])).2.word = W0 at *
          clear hW
          rcases HC0.out with hz | ⟨hz1, hz2'⟩
          · rw [if_pos hz] at HE
            rw [hz]
            clear hz HC0
            go_wp2
            go_ret3
            exact PrsR.no HE.out (al HB2.out HB2.out.size)
          · rw [if_neg (bne_iff_ne.1 hz2')] at HE
            clear HC0
            generalize (readP (line ++ [d])).1 = code at *
            go_wp2
            go_ret3
            exact PrsR.no HE.out (al HB2.out HB2.out.size)
        · have hen' : ((i : Int) + 1 == (n : Int)) = false := beq_eq_false_iff_ne.2 (by omega)
          have HS1 := Lib.hid (HAS.out hen)
          clear hen HAS HAE
          go_wp2_with (simp only [hix])
          rw [HL.out]
          go_roundw
          case rel => exact ⟨i + 1, k, m, c, line ++ [d], acc, q, HLT.out, by go_num, rfl, rfl, rfl, by omega, by omega, HS1.out, HC.out, HB.out⟩
          case measure => simp [intOf]; have := HLT.out; omega
    · obtain rfl : i = n := by omega
      have HRes : Hid (R = (acc, 0, 0)) := HA.out.done (by have := HN.out; omega)
      clear hlt HA
      go_wp2
      go_ret3
      exact ⟨q, m, c, by rw [HRes.out]; rfl, by rw [HRes.out]; exact HC.out, HB.out⟩
end Go.Proofs.YtccaiiigdfieoaaDoor
namespace Go.Proofs.YtccaiiigdfieoaaDoor
open Go.RowKit Go.By
theorem drI {α : Type} {enc : α → Value} {w : World} {p : Option Addr} {n c : Nat} {xs : List α} (h : Sl enc w p n c xs) (q : Nat) : Sl enc (w.drewN q) p n c xs := h.keep (below_drewN _ _)
set_option maxRecDepth 100000 in
set_option maxHeartbeats 1000000 in
theorem EqU_d (p1 p2 : Option Addr) (n1 n2 c1 c2 : Nat) (xs : List Nat) (w : World) (h1 : Sl encU w p1 n1 c1 xs) (h2 : Sl encU w p2 n2 c2 xs) :
    Calls Tryd.prog 15 #[.slice p1 n1 c1, .slice p2 n2 c2] w fun e w' => e = .returned (.bool true) ∧ ∃ m, w' = w.drewN m := by
  obtain rfl : n1 = n2 := by rw [← h1.len, ← h2.len]
  have H1 := Lib.hid h1; have H2 := Lib.hid h2
  have hnb := h1.bound
  clear h1 h2
  go_enter Tryd.func15, Tryd.ntmps15
  go_wp2
  go_loopw [13] (fun iv wr => ∃ j q : Nat, j ≤ n1 ∧ iv = .int .i64 (j : Nat) ∧ wr = w.drewN q) (fun iv _ => n1 - (intOf iv).toNat)
  case atStart => exact ⟨0, 0, Nat.zero_le _, rfl, rfl⟩
  case round =>
    obtain ⟨j, q, hj, rfl, rfl⟩ := hrel
    by_cases hlt : j < n1
    · obtain ⟨b1, o1, x1, rfl, hc1, hx1⟩ := H1.out.at j hlt
      obtain ⟨b2, o2, x2, rfl, hc2, hx2⟩ := H2.out.at j hlt
      obtain rfl : x1 = x2 := by have := hx1.out; rw [hx2.out] at this; exact (Option.some.inj this).symm
      have hlt' : (j : Int) < (n1 : Int) := by omega
      have HLT := Lib.hid hlt
      unfold encU at hc1 hc2
      clear hlt hx1 hx2
      go_wp2
      go_quiet (fail)
      rw [World.drewN_drewN]
      go_wp2
      go_roundw
      case rel => exact ⟨j + 1, _, by have := HLT.out; omega, by go_num, rfl⟩
      case measure => simp [intOf]; have := HLT.out; omega
    · obtain rfl : j = n1 := by omega
      clear hlt
      go_wp2
      go_ret
      exact ⟨rfl, _, rfl⟩
theorem SameB_q (p1 p2 : Option Addr) (n1 n2 c1 c2 : Nat) (xs : List UInt8) (w : World) (h1 : Sl B8 w p1 n1 c1 xs) (h2 : Sl B8 w p2 n2 c2 xs) :
    Calls Tryd.prog 16 #[.slice p1 n1 c1, .slice p2 n2 c2] w fun e w' => e = .returned (.bool true) ∧ ∃ m, w' = w.drewN m :=
  (Same_d p1 p2 n1 n2 c1 c2 xs xs w h1 h2).mono fun e w' ⟨he, hq⟩ => ⟨by rw [he, decide_eq_true rfl], hq⟩
set_option maxRecDepth 100000 in
set_option maxHeartbeats 4000000 in
theorem Same26_yes (p1 p2 : Option Addr) (n1 n2 c1 c2 : Nat) (cs : List Cmd) (w : World) (h1 : CmdS w p1 n1 c1 cs) (h2 : CmdS w p2 n2 c2 cs) :
    Calls Tryd.prog 9 #[.slice p1 n1 c1, .slice p2 n2 c2] w fun e w' => e = .returned (.bool true) ∧ ∃ m, w' = w.drewN m := by
  obtain rfl : n1 = n2 := by rw [← h1.len, ← h2.len]
  have H1 := Lib.hid h1; have H2 := Lib.hid h2
  have hnb : n1 ≤ 9223372036854775807 := by have g1 := h1.le; have g2 := h1.max; unfold maxLen at g2; omega
  clear h1 h2
  go_enter Tryd.func9, Tryd.ntmps9
  go_wp2
  go_loopw [13] (fun iv wr => ∃ j q : Nat, j ≤ n1 ∧ iv = .int .i64 (j : Nat) ∧ wr = w.drewN q) (fun iv _ => n1 - (intOf iv).toNat)
  case atStart => exact ⟨0, 0, Nat.zero_le _, rfl, rfl⟩
  case round =>
    obtain ⟨j, q, hj, rfl, rfl⟩ := hrel
    by_cases hlt : j < n1
    · obtain ⟨x, hx⟩ : ∃ x, cs[j]? = some x := ⟨_, List.getElem?_eq_getElem (by rw [H1.out.len]; exact hlt)⟩
      obtain ⟨b, o, q1, m1, k1, q2, m2, k2, rfl, d0, d1, d2, s1, s2⟩ := H1.out.row j x hx
      obtain ⟨b', o', q3, m3, k3, q4, m4, k4, rfl, f0, f1, f2, s3, s4⟩ := H2.out.row j x hx
      have CE : Hid (∀ q', Calls Tryd.prog 15 #[.slice q1 m1 k1, .slice q3 m3 k3] (w.drewN (q + q')) fun e w'' => e = .returned (.bool true) ∧ ∃ m, w'' = w.drewN (q + m)) := fun q' => by
        have := EqU_d q1 q3 m1 m3 k1 k3 x.nums ((w.drewN q).drewN q') (drI (drI s1 q) q') (drI (drI s3 q) q')
        rw [World.drewN_drewN] at this
        refine this.mono ?_
        rintro e w'' ⟨he, m, hm⟩
        exact ⟨he, q' + m, by rw [hm, World.drewN_drewN, Nat.add_assoc]⟩
      have CS : Hid (∀ q', Calls Tryd.prog 16 #[.slice q2 m2 k2, .slice q4 m4 k4] (w.drewN (q + q')) fun e w'' => e = .returned (.bool true) ∧ ∃ m, w'' = w.drewN (q + m)) := fun q' => by
        have := SameB_q q2 q4 m2 m4 k2 k4 x.bytes ((w.drewN q).drewN q') (drI (drI s2 q) q') (drI (drI s4 q) q')
        rw [World.drewN_drewN] at this
        refine this.mono ?_
        rintro e w'' ⟨he, m, hm⟩
        exact ⟨he, q' + m, by rw [hm, World.drewN_drewN, Nat.add_assoc]⟩
      have hxx : ((strB x.word).toList != (strB x.word).toList) = false := by simp
      have hlt' : (j : Int) < (n1 : Int) := by omega
      have HLT := Lib.hid hlt
      generalize strB x.word = W0 at *
      clear hlt hx s1 s2 s3 s4
      go_wp2
      go_quiet ((first | (go_at_call 15; exact CE.out _) | (go_at_call 16; exact CS.out _)))
      go_wp2
      go_roundw
      case rel => exact ⟨j + 1, _, by have := HLT.out; omega, by go_num, rfl⟩
      case measure => simp [intOf]; have := HLT.out; omega
    · obtain rfl : j = n1 := by omega
      clear hlt
      go_wp2
      go_ret
      exact ⟨rfl, _, rfl⟩
end Go.Proofs.YtccaiiigdfieoaaDoor
namespace Go.Proofs.YtccaiiigdfieoaaDoor
open Go.RowKit Go.By
def wbRen : Go.Shelf.Ren := ⟨fun | 166 => 21 | 167 => 38 | 240 => 37 | 276 => 50 | n => n, fun | 0 => 0 | 3 => 3 | 4 => 4 | 5 => 5 | 9 => 9 | 20 => 20 | 37 => 35 | 70 => 57 | 72 => 59 | 75 => 61 | 164 => 100 | 80 => 64 | n => n, fun n => n⟩
theorem wbLays166 : Go.Proofs.Lays.n166 Tryd.prog wbRen :=
  { mixed := by kernel_rfl
    f166 := Tryd.func21.trans (congrArg some (by kernel_rfl))
    f240 := Tryd.func37.trans (congrArg some (by kernel_rfl))
    f276 := Tryd.func50.trans (congrArg some (by kernel_rfl))
    t0 := Tryd.underlying0
    a0 := Tryd.isAgg0
    z0 := Tryd.sizeOf0
    v0 := Tryd.zeroValue0
    t3 := Tryd.underlying3
    a3 := Tryd.isAgg3
    z3 := Tryd.sizeOf3
    v3 := Tryd.zeroValue3
    t4 := Tryd.underlying4
    a4 := Tryd.isAgg4
    z4 := Tryd.sizeOf4
    v4 := Tryd.zeroValue4
    t9 := Tryd.underlying9
    a9 := Tryd.isAgg9
    z9 := Tryd.sizeOf9
    v9 := Tryd.zeroValue9
    t20 := Tryd.underlying20
    a20 := Tryd.isAgg20
    z20 := Tryd.sizeOf20
    v20 := Tryd.zeroValue20
    t37 := Tryd.underlying35
    a37 := Tryd.isAgg35
    z37 := Tryd.sizeOf35
    v37 := Tryd.zeroValue35
    t70 := Tryd.underlying57
    a70 := Tryd.isAgg57
    z70 := Tryd.sizeOf57
    v70 := Tryd.zeroValue57
    t72 := Tryd.underlying59
    a72 := Tryd.isAgg59
    z72 := Tryd.sizeOf59
    v72 := Tryd.zeroValue59
    t75 := Tryd.underlying61
    a75 := Tryd.isAgg61
    z75 := Tryd.sizeOf61
    v75 := Tryd.zeroValue61
    t164 := Tryd.underlying100
    a164 := Tryd.isAgg100
    z164 := Tryd.sizeOf100
    v164 := Tryd.zeroValue100 }
theorem wbLays167 : Go.Proofs.Lays.n167 Tryd.prog wbRen :=
  { mixed := by kernel_rfl
    f167 := Tryd.func38.trans (congrArg some (by kernel_rfl))
    f240 := Tryd.func37.trans (congrArg some (by kernel_rfl))
    f276 := Tryd.func50.trans (congrArg some (by kernel_rfl))
    t0 := Tryd.underlying0
    a0 := Tryd.isAgg0
    z0 := Tryd.sizeOf0
    v0 := Tryd.zeroValue0
    t4 := Tryd.underlying4
    a4 := Tryd.isAgg4
    z4 := Tryd.sizeOf4
    v4 := Tryd.zeroValue4
    t5 := Tryd.underlying5
    a5 := Tryd.isAgg5
    z5 := Tryd.sizeOf5
    v5 := Tryd.zeroValue5
    t9 := Tryd.underlying9
    a9 := Tryd.isAgg9
    z9 := Tryd.sizeOf9
    v9 := Tryd.zeroValue9
    t20 := Tryd.underlying20
    a20 := Tryd.isAgg20
    z20 := Tryd.sizeOf20
    v20 := Tryd.zeroValue20
    t37 := Tryd.underlying35
    a37 := Tryd.isAgg35
    z37 := Tryd.sizeOf35
    v37 := Tryd.zeroValue35
    t70 := Tryd.underlying57
    a70 := Tryd.isAgg57
    z70 := Tryd.sizeOf57
    v70 := Tryd.zeroValue57
    t72 := Tryd.underlying59
    a72 := Tryd.isAgg59
    z72 := Tryd.sizeOf59
    v72 := Tryd.zeroValue59
    t75 := Tryd.underlying61
    a75 := Tryd.isAgg61
    z75 := Tryd.sizeOf61
    v75 := Tryd.zeroValue61
    t164 := Tryd.underlying100
    a164 := Tryd.isAgg100
    z164 := Tryd.sizeOf100
    v164 := Tryd.zeroValue100 }
theorem wbExtra : Builder.Extra Tryd.prog wbRen := {
  sizeBuilder := by kernel_rfl
  liesBuilder := by kernel_rfl
  t5 := Tryd.underlying5
  a5 := Tryd.isAgg5
  z5 := Tryd.sizeOf5
  v5 := Tryd.zeroValue5
  infoByte := by kernel_rfl
  cellsByte := by kernel_rfl
  sizeByte := by kernel_rfl
  neB5 := by decide }
theorem WriteS_b (B b : Nat) (t s : List UInt8) (w : World) (h : Lib.IsBuilder 59 5 B b (Lib.byteCells t) w) (hlen : t.length + s.length ≤ 100000000) (hBw : B ≤ w.heap.size) :
    Calls Tryd.prog 21 #[.pointer (some ⟨b, 0, none⟩), .string (strB s)] w fun e w' => e = .returned (.tuple #[.int .i64 s.length, .nilIface]) ∧ Lib.BuilderAt 59 5 B b (.pointer (some ⟨b, 0, none⟩)) (Lib.byteCells (t ++ s)) w' ∧ Below B w w' := by
  have := Any.Builder_WriteString (ρ := wbRen) wbLays166 wbExtra B b (Lib.byteCells t) (strB s) w h (by rw [Lib.byteCells_length, strB_size]; omega) hBw
  refine Calls.mono this ?_
  rintro e w' ⟨rfl, h1, h2⟩
  rw [strB_cells, bytes_append] at h1
  rw [strB_size]
  exact ⟨rfl, h1, h2⟩
theorem WriteB_b (B b : Nat) (t : List UInt8) (x : UInt8) (w : World) (h : Lib.IsBuilder 59 5 B b (Lib.byteCells t) w) (hlen : t.length + 1 ≤ 100000000) (hBw : B ≤ w.heap.size) :
    Calls Tryd.prog 38 #[.pointer (some ⟨b, 0, none⟩), B8 x] w fun e w' => e = .returned .nilIface ∧ Lib.BuilderAt 59 5 B b (.pointer (some ⟨b, 0, none⟩)) (Lib.byteCells (t ++ [x])) w' ∧ Below B w w' := by
  have := Any.Builder_WriteByte (ρ := wbRen) wbLays167 wbExtra B b (Lib.byteCells t) x.toNat w h (by rw [Lib.byteCells_length]; omega) hBw
  refine Calls.mono this ?_
  rintro e w' ⟨rfl, h1, h2⟩
  refine ⟨rfl, ?_, h2⟩
  rw [← bytes_append]
  exact h1
theorem StringB_b (B b : Nat) (t : List UInt8) (w : World) (h : Lib.IsBuilder 59 5 B b (Lib.byteCells t) w) (hBw : B ≤ w.heap.size) :
    Calls Tryd.prog 24 #[.pointer (some ⟨b, 0, none⟩)] w fun e w' => e = .returned (.string (strB t)) ∧ Below B w w' := Tryd.Builder_String_any B b t w h hBw
theorem LenB_b (B b : Nat) (t : List UInt8) (w : World) (h : Lib.IsBuilder 59 5 B b (Lib.byteCells t) w) :
    Calls Tryd.prog 23 #[.pointer (some ⟨b, 0, none⟩)] w fun e w' => e = .returned (.int .i64 (t.length : Nat)) ∧ w = w' := Calls.mono (Tryd.Builder_Len B b (Lib.byteCells t) w h) fun e w' ⟨h1, h2⟩ => ⟨by rw [h1, Lib.byteCells_length], h2.symm⟩
end Go.Proofs.YtccaiiigdfieoaaDoor
namespace Go.Proofs.YtccaiiigdfieoaaDoor
open Go.RowKit Go.By
theorem find_formW (x : List UInt8) (W : World) : Calls Tryd.prog 31 #[.string (strB x)] W fun e w' => e = .returned (match formS x with
    | some f => .tuple #[.agg #[.string (strB x), .int .i64 (f.1 : Nat), .bool f.2], .bool true]
    | none => .tuple #[.agg #[.string (strB []), .int .i64 0, .bool false], .bool false]) ∧ Below W.heap.size W w' := by
  have h := find_any x W
  unfold findV at h
  unfold formS
  rw [show (formsL.find? fun f => decide (f.1 = x)) = formsL.find? (isW x) from rfl]
  cases hf : formsL.find? (isW x) with
  | none => rw [hf] at h; exact h
  | some f =>
    rw [hf] at h
    have h1 : f.1 = x := of_decide_eq_true (show isW x f = true from List.find?_some hf)
    simp only at h
    rw [h1] at h
    exact h
set_option maxRecDepth 100000 in
set_option maxHeartbeats 2000000 in
theorem check_any (c : Cmd) (q1 q2 : Option Addr) (n1 k1 n2 k2 : Nat) (w : World) (h1 : c.nums.length = n1) (h2 : c.bytes.length = n2) (b1 : n1 ≤ 9223372036854775807) (b2 : n2 ≤ 9223372036854775807) :
    Calls Tryd.prog 20 #[.agg #[.string (strB c.word), .slice q1 n1 k1, .slice q2 n2 k2]] w fun e w' => e = .returned (.int .i64 (checkP c)) ∧ Below w.heap.size w w' := by
  have HF := Lib.hid (find_formW c.word)
  obtain ⟨X, hX⟩ : ∃ X, X = strB c.word := ⟨_, rfl⟩
  rw [← hX] at HF ⊢
  obtain ⟨R, hR⟩ : ∃ R, R = checkP c := ⟨_, rfl⟩
  rw [← hR]
  unfold checkP at hR
  clear hX
  cases hf : formS c.word with
  | none =>
    rw [hf] at HF hR
    have HR := Lib.hid hR
    clear hR hf h1 h2
    go_enter Tryd.func20, Tryd.ntmps20
    go_wp2_with fail
    refine Calls.mono (HF.out _) ?_
    rintro e w1 ⟨rfl, hb⟩
    obtain ⟨hb1, kp, hs1⟩ := one_of hb
    have HB1 := Lib.hid hb1
    clear hb hb1
    go_wp2
    go_ret
    exact ⟨by rw [HR.out]; rfl, al HB1.out HB1.out.size⟩
  | some f =>
    obtain ⟨k, b⟩ := f
    rw [hf] at HF hR
    simp only at hR HF
    rw [h1] at hR
    have hkk : k ≤ 3 := (forms_plain _ (formS_mem hf)).2.1
    have hbe : (c.bytes ≠ []) ↔ 0 < n2 := by rw [← h2, List.length_pos_iff]
    have HR := Lib.hid hR
    clear hR hf h1 h2
    have cs : ((n1 : Int) != (k : Int)) = true ∧ R = 14 ∨ ((n1 : Int) != (k : Int)) = false ∧ ((b = false ∧ 0 < n2 ∧ R = 14) ∨ (b = false ∧ ¬ 0 < n2 ∧ R = 0) ∨ (b = true ∧ R = 0)) := by
      have hr := HR.out
      by_cases e : n1 = k
      · right
        refine ⟨by rw [bne_eq_false_iff_eq]; omega, ?_⟩
        cases b with
        | true => right; right; exact ⟨rfl, by rw [hr, if_neg (by simp [e])]⟩
        | false =>
          by_cases g : 0 < n2
          · left; exact ⟨rfl, g, by rw [hr, if_pos (.inr ⟨rfl, hbe.2 g⟩)]⟩
          · right; left; exact ⟨rfl, g, by rw [hr, if_neg (by rintro (h | ⟨_, h⟩); exact h e; exact g (hbe.1 h))]⟩
      · left; exact ⟨bne_iff_ne.2 (by omega), by rw [hr, if_pos (.inl e)]⟩
    clear HR hbe
    go_enter Tryd.func20, Tryd.ntmps20
    go_wp2_with fail
    refine Calls.mono (HF.out _) ?_
    rintro e w1 ⟨rfl, hb⟩
    obtain ⟨hb1, kp, hs1⟩ := one_of hb
    have HB1 := Lib.hid hb1
    obtain ⟨d0, d1, d2⟩ := cells_three kp
    have a1 : ∀ o', (w1.alloc o').cell? ⟨w.heap.size, 1, none⟩ = _ := fun _ => calloc d1
    have a2 : ∀ o', (w1.alloc o').cell? ⟨w.heap.size, 2, none⟩ = _ := fun _ => calloc d2
    clear hb hb1 d0 kp HF
    rcases cs with ⟨e1, rfl⟩ | ⟨e1, ⟨rfl, g, rfl⟩ | ⟨rfl, g, rfl⟩ | ⟨rfl, rfl⟩⟩
    · go_wp2
      go_ret
      exact ⟨rfl, al HB1.out HB1.out.size⟩
    · have g' : (0 : Int) < (n2 : Int) := by omega
      go_wp2
      go_ret
      exact ⟨rfl, al HB1.out HB1.out.size⟩
    · obtain rfl : n2 = 0 := by omega
      go_wp2
      go_ret
      exact ⟨rfl, al HB1.out HB1.out.size⟩
    · go_wp2
      go_ret
      exact ⟨rfl, al HB1.out HB1.out.size⟩
/-- a builder in block b that holds t -/
def BldI (w : World) (b : Nat) (t : List UInt8) : Prop := Lib.IsBuilder 59 5 b b (Lib.byteCells t) w
theorem BldI.keep {w w' : World} {b : Nat} {t : List UInt8} (h : BldI w b t) (hb : Below w.heap.size w w') : BldI w' b t := Or.imp (fun h => BuilderAt.keep h hb) (fun h => BuilderAt.keep h hb) h
theorem BldI.lt {w : World} {b : Nat} {t : List UInt8} (h : BldI w b t) : b < w.heap.size := h.elim (fun h => h.lt) (fun h => h.lt)
theorem BldI.new {w : World} {b : Nat} (h : w.heap[b]? = some (.cells #[.pointer none, .slice none 0 0] 59 (0, 0))) : BldI w b [] := Or.inl ⟨Nat.le_refl _, _, h, World.ownsRow_nil _ _ _ _, by simp [Value.ownBlock]⟩
theorem BldI.str {w : World} {b : Nat} {t : List UInt8} (h : BldI w b t) (s : List UInt8) (hl : t.length + s.length ≤ 100000000) : Calls Tryd.prog 21 #[.pointer (some ⟨b, 0, none⟩), .string (strB s)] w fun e w' => e = .returned (.tuple #[.int .i64 s.length, .nilIface]) ∧ BldI w' b (t ++ s) ∧ Below b w w' :=
  (WriteS_b b b t s w h hl (Nat.le_of_lt h.lt)).mono fun _ _ ⟨h1, h2, h3⟩ => ⟨h1, Or.inr h2, h3⟩
theorem BldI.byte {w : World} {b : Nat} {t : List UInt8} (h : BldI w b t) (x : UInt8) (hl : t.length + 1 ≤ 100000000) : Calls Tryd.prog 38 #[.pointer (some ⟨b, 0, none⟩), B8 x] w fun e w' => e = .returned .nilIface ∧ BldI w' b (t ++ [x]) ∧ Below b w w' :=
  (WriteB_b b b t x w h hl (Nat.le_of_lt h.lt)).mono fun _ _ ⟨h1, h2, h3⟩ => ⟨h1, Or.inr h2, h3⟩
theorem BldI.done {w : World} {b : Nat} {t : List UInt8} (h : BldI w b t) : Calls Tryd.prog 24 #[.pointer (some ⟨b, 0, none⟩)] w fun e w' => e = .returned (.string (strB t)) ∧ Below b w w' := StringB_b b b t w h (Nat.le_of_lt h.lt)
theorem BldI.len {w : World} {b : Nat} {t : List UInt8} (h : BldI w b t) : Calls Tryd.prog 23 #[.pointer (some ⟨b, 0, none⟩)] w fun e w' => e = .returned (.int .i64 (t.length : Nat)) ∧ w = w' := LenB_b b b t w h
theorem digits_at : ∀ y, y < 16 → digitsC.data.toList[y]? = some (dgt y) := by decide
theorem digits_run {y : Nat} (hy : y < 16) (z : Int) (hz : z = (y : Int)) (w : World) : (Instr.index 9 (.string ⟨#[48, 49, 50, 51, 52, 53, 54, 55, 56, 57, 97, 98, 99, 100, 101, 102]⟩) (.int .u8 z)).run Tryd.prog w = .ok (B8 (dgt y)) w :=
  txt_idx (l := digitsC.data.toList) _ Tryd.underlying9 (digits_at y hy) .u8 z hz w
theorem and15 (x : UInt8) : bits BinOp.and IntKind.u8 (x.toNat : Int) 15 = ((x.toNat % 16 : Nat) : Int) := by
  have h : ∀ n : Fin 256, bits BinOp.and IntKind.u8 (n.1 : Int) 15 = ((n.1 % 16 : Nat) : Int) := by decide +kernel
  exact h ⟨x.toNat, x.toNat_lt⟩
theorem hexL_step {l : List UInt8} {i : Nat} {x : UInt8} (h : l[i]? = some x) : hexL (l.take (i + 1)) = hexL (l.take i) ++ [dgt (x.toNat / 16)] ++ [dgt (x.toNat % 16)] := by
  unfold hexL
  rw [List.take_add_one, h, List.flatMap_append]; simp
theorem hexL_len2 (xs : List UInt8) : (hexL xs).length = 2 * xs.length := by
  unfold hexL
  induction xs with
  | nil => rfl
  | cons x l ih => rw [List.flatMap_cons, List.length_append, ih, List.length_cons]; simp; omega
theorem nums_step {W : List UInt8} {l : List Nat} {i x : Nat} (h : l[i]? = some x) : joinW (W :: (l.take (i + 1)).map Lib.decDigits) = joinW (W :: (l.take i).map Lib.decDigits) ++ [32] ++ Lib.decDigits x := by
  rw [List.take_add_one, h, List.map_append, ← List.cons_append, Option.toList_some, List.map_cons, List.map_nil, joinW_snoc _ (by simp)]; simp
theorem nums_len {W : List UInt8} : ∀ {l : List Nat}, (∀ x ∈ l, x < 18446744073709551616) → (joinW (W :: l.map Lib.decDigits)).length ≤ W.length + 21 * l.length := fun {l} h => by
  have key : ∀ n, (joinW (W :: (l.take n).map Lib.decDigits)).length ≤ W.length + 21 * n := fun n => by
    induction n with
    | zero => simp [joinW]
    | succ n ih =>
      cases hx : l[n]? with
      | none =>
        have hl : l.length ≤ n := List.getElem?_eq_none_iff.1 hx
        rw [List.take_of_length_le (by omega)] at ih ⊢
        omega
      | some x =>
        rw [nums_step hx, List.length_append, List.length_append]
        have h2 : (Lib.decDigits x).length ≤ 20 := by rw [Lib.decDigits_length]; exact Lib.nDigits_le20 x (h x (List.mem_of_getElem? hx))
        have h1 : ([32] : List UInt8).length = 1 := rfl
        omega
  have := key l.length
  rwa [List.take_length] at this
end Go.Proofs.YtccaiiigdfieoaaDoor
namespace Go.Proofs.YtccaiiigdfieoaaDoor
open Go.RowKit Go.By
theorem lineP_long {c : Cmd} {k : Nat} (hf : formS c.word = some (k, true)) : lineP c = joinW (c.word :: c.nums.map Lib.decDigits) ++ [32] ++ bytesW c.bytes ++ [10] := by
  unfold lineP bodyP wordsP
  rw [hf]
  simp only
  rw [← List.cons_append, joinW_snoc _ (by simp)]; simp
theorem lineP_short {c : Cmd} {k : Nat} (hf : formS c.word = some (k, false)) : lineP c = joinW (c.word :: c.nums.map Lib.decDigits) ++ [10] := by
  unfold lineP bodyP wordsP
  rw [hf]
  simp
theorem lineP_len {c : Cmd} (h : GoodC c) : (lineP c).length ≤ 200 + 2 * c.bytes.length := by
  have hn : ∀ x ∈ c.nums, x < 18446744073709551616 := fun x hx => Nat.lt_succ_of_le (h.2 x hx)
  have h1 := nums_len (W := c.word) hn
  have hc := h.1
  unfold checkP at hc
  cases hf : formS c.word with
  | none => rw [hf] at hc; cases hc
  | some f =>
    obtain ⟨k, b⟩ := f
    rw [hf] at hc
    obtain ⟨_, hk3, hw, _⟩ := forms_plain _ (formS_mem hf)
    have hk : c.nums.length = k := Classical.byContradiction fun e => by simp only at hc; rw [if_pos (.inl e)] at hc; cases hc
    have hk3' : k ≤ 3 := hk3
    have hw' : c.word.length ≤ 7 := hw
    have h10 : ([10] : List UInt8).length = 1 := rfl
    have h32 : ([32] : List UInt8).length = 1 := rfl
    cases b with
    | true =>
      rw [lineP_long hf]
      simp only [List.length_append]
      have hb : (bytesW c.bytes).length ≤ 2 * c.bytes.length + 1 := by
        unfold bytesW
        split
        · simp
        · rw [hexL_len2]; omega
      omega
    | false =>
      rw [lineP_short hf, List.length_append]
      omega
set_option maxRecDepth 100000 in
set_option maxHeartbeats 8000000 in
theorem line_any (c : Cmd) (q1 q2 : Option Addr) (n1 k1 n2 k2 : Nat) (w : World) (hg : GoodC c) (h1 : Sl encU w q1 n1 k1 c.nums) (h2 : Sl B8 w q2 n2 k2 c.bytes) (hl : n2 ≤ 1000000) (hT : Tab10 w) :
    Calls Tryd.prog 22 #[.agg #[.string (strB c.word), .slice q1 n1 k1, .slice q2 n2 k2]] w fun e w' => e = .returned (.string (strB (lineP c))) ∧ Below w.heap.size w w' := by
  have hn : ∀ x ∈ c.nums, x < 18446744073709551616 := fun x hx => Nat.lt_succ_of_le (hg.2 x hx)
  have hnl := nums_len (W := c.word) hn
  have hc := hg.1
  unfold checkP at hc
  obtain ⟨k, b, hf⟩ : ∃ k b, formS c.word = some (k, b) := by
    cases hf : formS c.word with
    | none => rw [hf] at hc; cases hc
    | some f => exact ⟨f.1, f.2, rfl⟩
  rw [hf] at hc
  obtain ⟨_, hk3, hw, _⟩ := forms_plain _ (formS_mem hf)
  have hk : c.nums.length = k := Classical.byContradiction fun e => by simp only at hc; rw [if_pos (.inl e)] at hc; cases hc
  have hk3' : k ≤ 3 := hk3
  have hw' : c.word.length ≤ 7 := hw
  have hn1 : n1 ≤ 3 := by rw [← h1.len]; omega
  have HFd : Hid (∀ W, Calls Tryd.prog 31 #[.string (strB c.word)] W fun e w' => e = .returned (.tuple #[.agg #[.string (strB c.word), .int .i64 (k : Nat), .bool b], .bool true]) ∧ Below W.heap.size W w') := fun W => by
    have := find_formW c.word W
    rw [hf] at this
    exact this
  have HLong : Hid (b = true → lineP c = joinW (c.word :: c.nums.map Lib.decDigits) ++ [32] ++ bytesW c.bytes ++ [10]) := fun e => by subst e; exact lineP_long hf
  have HShort : Hid (b = false → lineP c = joinW (c.word :: c.nums.map Lib.decDigits) ++ [10]) := fun e => by subst e; exact lineP_short hf
  have HFU : Hid (∀ (x : Nat) W, x < 18446744073709551616 → Below w.heap.size w W → Calls Tryd.prog 39 #[.int .u64 (x : Nat), .int .i64 10] W fun e w' => e = .returned (.string (strB (Lib.decDigits x))) ∧ Below W.heap.size W w') := fun x W hx hb => FormatUint_10 x hx W (hT.keep hb)
  have HN := Lib.hid hn
  have HNL : Hid (∀ i, (joinW (c.word :: (c.nums.take i).map Lib.decDigits)).length ≤ 1000) := fun i => by
    have := nums_len (W := c.word) (l := c.nums.take i) (fun x hx => hn x (List.mem_of_mem_take hx))
    have h3 : (c.nums.take i).length ≤ 3 := by rw [List.length_take]; omega
    omega
  have H1 := Lib.hid h1
  have H2 := Lib.hid h2
  obtain ⟨R, hR⟩ : ∃ R, R = lineP c := ⟨_, rfl⟩
  rw [← hR]
  have HR := Lib.hid hR
  obtain ⟨X, hX⟩ : ∃ X, X = strB c.word := ⟨_, rfl⟩
  have HX := Lib.hid hX
  rw [← hX] at HFd ⊢
  clear hn hnl hc hf hk3 hw hk hk3' hw' h1 h2 hT hg hX hR
  go_enter Tryd.func22, Tryd.ntmps22
  go_wp2_with fail
  have t0 : ((w.alloc (.cells #[.string X, .slice q1 n1 k1, .slice q2 n2 k2] 37 (0, 0))).alloc (.cells #[.pointer none, .slice none 0 0] 59 (0, 0))).heap[w.heap.size]? = some (.cells #[.string X, .slice q1 n1 k1, .slice q2 n2 k2] 37 (0, 0)) := hal (hnew rfl)
  have t1 : BldI ((w.alloc (.cells #[.string X, .slice q1 n1 k1, .slice q2 n2 k2] 37 (0, 0))).alloc (.cells #[.pointer none, .slice none 0 0] 59 (0, 0))) (w.heap.size + 1) [] := BldI.new (hnew (by simp))
  have BW : Hid (Below w.heap.size w ((w.alloc (.cells #[.string X, .slice q1 n1 k1, .slice q2 n2 k2] 37 (0, 0))).alloc (.cells #[.pointer none, .slice none 0 0] 59 (0, 0)))) := al (al (Below.refl _ _) (Nat.le_refl _)) (by simp)
  generalize (w.alloc (.cells #[.string X, .slice q1 n1 k1, .slice q2 n2 k2] 37 (0, 0))).alloc (.cells #[.pointer none, .slice none 0 0] 59 (0, 0)) = w1 at *
  obtain ⟨g, hg⟩ : ∃ g, g = w.heap.size + 1 := ⟨_, rfl⟩
  rw [← hg] at t1 ⊢
  have hgw : w.heap.size < g := by omega
  have HGW := Lib.hid hgw
  have H1g : Hid (∀ W, Below g w1 W → Sl encU W q1 n1 k1 c.nums) := fun W hb => H1.out.keep (BW.out.trans (hb.mono (Nat.le_of_lt hgw)))
  have H2g : Hid (∀ W, Below g w1 W → Sl B8 W q2 n2 k2 c.bytes) := fun W hb => H2.out.keep (BW.out.trans (hb.mono (Nat.le_of_lt hgw)))
  have HFg : Hid (∀ (x : Nat) W, x < 18446744073709551616 → Below g w1 W → Calls Tryd.prog 39 #[.int .u64 (x : Nat), .int .i64 10] W fun e w' => e = .returned (.string (strB (Lib.decDigits x))) ∧ Below W.heap.size W w') := fun x W hx hb => HFU.out x W hx (BW.out.trans (hb.mono (Nat.le_of_lt hgw)))
  have T0 := Lib.hid t0
  have hs := Lib.hid (t1.str c.word (by have := HNL.out 0; simp [joinW] at this ⊢; omega))
  rw [← HX.out] at hs
  clear t0 t1 hg hgw H1 H2 HFU
  refine Calls.mono hs.out ?_
  rintro e w2 ⟨rfl, hb2, hw2⟩
  have HB2 := Lib.hid hb2
  have HW2 := Lib.hid hw2
  have T2 := Lib.hid ((hw2.block _ HGW.out).trans T0.out)
  obtain ⟨d0, d1, d2⟩ := cells_three T2.out
  clear hb2 hw2 T0 hs
  go_wp2
  go_loopw [16, 5] (fun iv _ wr => ∃ i, i ≤ n1 ∧ iv = .int .i64 (i : Nat) ∧ Hid (BldI wr g (joinW (c.word :: (c.nums.take i).map Lib.decDigits))) ∧ Hid (Below g w1 wr)) (fun iv _ _ => n1 - (intOf iv).toNat)
  case atStart => exact ⟨0, Nat.zero_le _, rfl, HB2.out, HW2.out⟩
  case round =>
    obtain ⟨i, hi, rfl, HBd, HWr⟩ := hrel
    clear d0 d1 d2
    by_cases hlt : i < n1
    · obtain ⟨bb, oo, x, rfl, hc1, hx1⟩ := (H1g.out wr HWr.out).at i hlt
      unfold encU at hc1
      have hlt' : (i : Int) < (n1 : Int) := by omega
      have HLT := Lib.hid hlt
      have HXN := Lib.hid (HN.out x (List.mem_of_getElem? hx1.out))
      have HST := Lib.hid (nums_step (W := c.word) hx1.out)
      clear hlt hx1
      go_wp2_with fail
      refine Calls.mono (HBd.out.byte 32 (by have := HNL.out i; omega)) ?_
      rintro e w3 ⟨rfl, hb3, hw3⟩
      have HB3 := Lib.hid hb3
      have HW3 := Lib.hid (HWr.out.trans hw3)
      clear hb3 hw3 HBd HWr hc1
      go_wp2_with fail
      refine Calls.mono (HFg.out x w3 HXN.out HW3.out) ?_
      rintro e w4 ⟨rfl, hb⟩
      have HB4 := Lib.hid (HB3.out.keep hb)
      have HW4 := Lib.hid (HW3.out.trans (hb.mono (Nat.le_of_lt HB3.out.lt)))
      clear hb HB3 HW3
      go_wp2_with fail
      refine Calls.mono (HB4.out.str (Lib.decDigits x) (by have := HNL.out i; have h2 : (Lib.decDigits x).length ≤ 20 := by { rw [Lib.decDigits_length]; exact Lib.nDigits_le20 x HXN.out }; have h1 : ([32] : List UInt8).length = 1 := rfl; rw [List.length_append]; omega)) ?_
      rintro e w5 ⟨rfl, hb5, hw5⟩
      have HB5 : Hid (BldI w5 g (joinW (c.word :: (c.nums.take (i + 1)).map Lib.decDigits))) := by show BldI _ _ _; rw [HST.out]; exact hb5
      have HW5 := Lib.hid (HW4.out.trans hw5)
      clear hb5 hw5 HB4 HW4
      go_wp2
      go_roundw
      case rel => exact ⟨i + 1, HLT.out, by go_num, HB5.out, HW5.out⟩
      case measure => simp [intOf]; have := HLT.out; omega
    · obtain rfl : i = n1 := by omega
      have HBn : Hid (BldI wr g (joinW (c.word :: c.nums.map Lib.decDigits))) := by
        have h9 : c.nums.length = i := (H1g.out wr HWr.out).len
        have := HBd.out
        rw [List.take_of_length_le (by omega)] at this
        exact this
      have Tr := Lib.hid ((HWr.out.block _ HGW.out).trans ((HW2.out.block _ HGW.out).symm.trans T2.out))
      obtain ⟨d0, d1, d2⟩ := cells_three Tr.out
      have HNLn := HNL.out i
      have HNLa : Hid ((joinW (c.word :: c.nums.map Lib.decDigits)).length ≤ 1000) := by
        have h9 : c.nums.length = i := (H1g.out wr HWr.out).len
        have := HNL.out i
        rw [List.take_of_length_le (by omega)] at this
        exact this
      clear hlt HBd HNLn T2 HB2 HW2
      go_wp2_with fail
      refine Calls.mono (HFd.out wr) ?_
      rintro e w3 ⟨rfl, hb⟩
      have HB3 := Lib.hid (HBn.out.keep hb)
      have HW3 := Lib.hid (HWr.out.trans (hb.mono (Nat.le_of_lt HBn.out.lt)))
      have T3 := Lib.hid ((hb.block _ (lt_of_block Tr.out)).trans Tr.out)
      clear hb HBn HWr Tr d0 d1 d2
      have B4 : Below w3.heap.size w3 (w3.alloc (.cells #[.string X, .int .i64 (k : Nat), .bool b] 69 (0, 0))) := al (Below.refl _ _) (Nat.le_refl _)
      have HB4 := Lib.hid (HB3.out.keep B4)
      have HW4 := Lib.hid (HW3.out.trans (B4.mono (Nat.le_of_lt HB3.out.lt)))
      have T4 := Lib.hid ((B4.block _ (lt_of_block T3.out)).trans T3.out)
      clear B4
      cases b with
      | false =>
        have HL := HShort.out rfl
        rw [← HR.out] at HL
        have HLs := Lib.hid HL
        clear HL
        go_wp2_with fail
        refine Calls.mono (HB4.out.byte 10 (by have := HNLa.out; omega)) ?_
        rintro e w5 ⟨rfl, hb5, hw5⟩
        have HB5 := Lib.hid hb5
        have HW5 := Lib.hid (HW4.out.trans hw5)
        clear hb5 hw5 HB4 HW4 HB3 HW3 T3 T4
        go_wp2_with fail
        refine Calls.mono HB5.out.done ?_
        rintro e w6 ⟨rfl, hw6⟩
        have HW6 := Lib.hid (HW5.out.trans hw6)
        clear hw6
        go_wp2
        go_ret
        exact ⟨by rw [HLs.out]; simp, BW.out.trans (HW6.out.mono (Nat.le_of_lt HGW.out))⟩
      | true =>
        have HL := HLong.out rfl
        rw [← HR.out] at HL
        have HLs := Lib.hid HL
        clear HL
        go_wp2_with fail
        refine Calls.mono (HB4.out.byte 32 (by have := HNLa.out; omega)) ?_
        rintro e w5 ⟨rfl, hb5, hw5⟩
        have HB5 := Lib.hid hb5
        have HW5 := Lib.hid (HW4.out.trans hw5)
        have T5 := Lib.hid ((hw5.block _ HGW.out).trans T4.out)
        obtain ⟨d0, d1, d2⟩ := cells_three T5.out
        clear hb5 hw5 HB4 HW4 HB3 HW3 T3 T4
        by_cases h0 : n2 = 0
        · subst h0
          have hbn : c.bytes = [] := List.length_eq_zero_iff.1 (H2g.out w5 HW5.out).len
          have hbw : bytesW c.bytes = [45] := by unfold bytesW; rw [if_pos hbn]
          rw [hbw] at HLs
          clear hbn hbw
          go_wp2_with fail
          refine Calls.mono (HB5.out.byte 45 (by have := HNLa.out; simp; omega)) ?_
          rintro e w6 ⟨rfl, hb6, hw6⟩
          have HB6 := Lib.hid hb6
          have HW6 := Lib.hid (HW5.out.trans hw6)
          have T6 := Lib.hid ((hw6.block _ HGW.out).trans T5.out)
          clear hb6 hw6 HB5 HW5 T5 d0 d1 d2
          obtain ⟨d0, d1, d2⟩ := cells_three T6.out
          go_wp2
          go_loopw [42, 9] (fun iv _ wr => iv = .int .i64 0 ∧ wr = w6) (fun _ _ _ => 0)
          case atStart => exact ⟨rfl, rfl⟩
          case round =>
            obtain ⟨rfl, rfl⟩ := hrel
            clear d0 d1 d2
            go_wp2_with fail
            refine Calls.mono (HB6.out.byte 10 (by have := HNLa.out; simp; omega)) ?_
            rintro e w7 ⟨rfl, hb7, hw7⟩
            have HB7 := Lib.hid hb7
            have HW7 := Lib.hid (HW6.out.trans hw7)
            clear hb7 hw7
            go_wp2_with fail
            refine Calls.mono HB7.out.done ?_
            rintro e w8 ⟨rfl, hw8⟩
            have HW8 := Lib.hid (HW7.out.trans hw8)
            clear hw8
            go_wp2
            go_ret
            exact ⟨by rw [HLs.out]; simp, BW.out.trans (HW8.out.mono (Nat.le_of_lt HGW.out))⟩
        · have hbn : c.bytes ≠ [] := fun e => h0 (by have := (H2g.out w5 HW5.out).len; rw [e] at this; exact this.symm)
          have hbw : bytesW c.bytes = hexL c.bytes := by unfold bytesW; rw [if_neg hbn]
          rw [hbw] at HLs
          have hne : ((n2 : Int) == 0) = false := beq_eq_false_iff_ne.2 (by omega)
          clear hbn hbw h0
          go_wp2
          go_loopw [42, 9] (fun iv _ wr => ∃ i, i ≤ n2 ∧ iv = .int .i64 (i : Nat) ∧ Hid (BldI wr g (joinW (c.word :: c.nums.map Lib.decDigits) ++ [32] ++ hexL (c.bytes.take i))) ∧ Hid (Below g w1 wr)) (fun iv _ _ => n2 - (intOf iv).toNat)
          case atStart => exact ⟨0, Nat.zero_le _, rfl, by show BldI _ _ _; simpa [hexL] using HB5.out, HW5.out⟩
          case round =>
            obtain ⟨i, hi, rfl, HBd, HWr⟩ := hrel
            clear d0 d1 d2 hne
            by_cases hlt : i < n2
            · obtain ⟨bb, oo, x, rfl, hc1, hx1⟩ := (H2g.out wr HWr.out).at i hlt
              have hlt' : (i : Int) < (n2 : Int) := by omega
              have HLT := Lib.hid hlt
              have HST := Lib.hid (hexL_step hx1.out)
              have hx8 := x.toNat_lt
              have hdA := digits_run (y := x.toNat / 16) (by omega) ((x.toNat : Int) / 16) (by omega)
              have hdB := digits_run (y := x.toNat % 16) (by omega) ((x.toNat % 16 : Nat) : Int) rfl
              have hand := and15 x
              have HLn : Hid ((joinW (c.word :: c.nums.map Lib.decDigits) ++ [32] ++ hexL (c.bytes.take i)).length ≤ 3000000) := by
                have h3 := HNLa.out
                have h4 := hexL_len2 (c.bytes.take i)
                have h5 : (c.bytes.take i).length ≤ i := List.length_take_le _ _
                show _ ≤ _
                simp; omega
              clear hlt hx1
              go_wp2_with (first | simp only [hdA] | fail)
              refine Calls.mono (HBd.out.byte _ (by have := HLn.out; omega)) ?_
              rintro e w6 ⟨rfl, hb6, hw6⟩
              have HB6 := Lib.hid hb6
              have HW6 := Lib.hid (HWr.out.trans hw6)
              clear hb6 hw6 HBd HWr hc1 hdA
              go_wp2_with (first | simp only [hand, hdB] | simp only [hdB] | fail)
              refine Calls.mono (HB6.out.byte _ (by have := HLn.out; have h1 : ([dgt (x.toNat / 16)] : List UInt8).length = 1 := rfl; rw [List.length_append]; omega)) ?_
              rintro e w7 ⟨rfl, hb7, hw7⟩
              have ed : ∀ h, (ByteArray.mk #[48, 49, 50, 51, 52, 53, 54, 55, 56, 57, 97, 98, 99, 100, 101, 102])[x.toNat % 16]'h = dgt (x.toNat % 16) := fun h => txt_get (l := digitsC.data.toList) (digits_at _ (by omega)) h
              rw [ed] at hb7
              have HB7 : Hid (BldI w7 g (joinW (c.word :: c.nums.map Lib.decDigits) ++ [32] ++ hexL (c.bytes.take (i + 1)))) := by show BldI _ _ _; rw [HST.out, ← List.append_assoc, ← List.append_assoc]; exact hb7
              have HW7 := Lib.hid (HW6.out.trans hw7)
              clear hb7 hw7 HB6 HW6 hdB hand
              go_wp2
              go_roundw
              case rel => exact ⟨i + 1, HLT.out, by go_num, HB7.out, HW7.out⟩
              case measure => simp [intOf]; have := HLT.out; omega
            · obtain rfl : i = n2 := by omega
              have HBn : Hid (BldI wr g (joinW (c.word :: c.nums.map Lib.decDigits) ++ [32] ++ hexL c.bytes)) := by
                have h9 : c.bytes.length = i := (H2g.out wr HWr.out).len
                have := HBd.out
                rw [List.take_of_length_le (by omega)] at this
                exact this
              have HLn : Hid ((joinW (c.word :: c.nums.map Lib.decDigits) ++ [32] ++ hexL c.bytes).length ≤ 3000000) := by
                have h3 := HNLa.out
                have h4 := hexL_len2 c.bytes
                have h9 : c.bytes.length = i := (H2g.out wr HWr.out).len
                show _ ≤ _
                simp; omega
              clear hlt HBd
              go_wp2_with fail
              refine Calls.mono (HBn.out.byte 10 (by have := HLn.out; omega)) ?_
              rintro e w7 ⟨rfl, hb7, hw7⟩
              have HB7 := Lib.hid hb7
              have HW7 := Lib.hid (HWr.out.trans hw7)
              clear hb7 hw7
              go_wp2_with fail
              refine Calls.mono HB7.out.done ?_
              rintro e w8 ⟨rfl, hw8⟩
              have HW8 := Lib.hid (HW7.out.trans hw8)
              clear hw8
              go_wp2
              go_ret
              exact ⟨by rw [HLs.out]; simp, BW.out.trans (HW8.out.mono (Nat.le_of_lt HGW.out))⟩
end Go.Proofs.YtccaiiigdfieoaaDoor
