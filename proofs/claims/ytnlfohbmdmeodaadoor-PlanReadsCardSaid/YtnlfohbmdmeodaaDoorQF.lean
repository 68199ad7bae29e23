/- The library's SplitN at a blank; strconv.ParseUint; the plan's number. -/
import Derived.Test.YtnlfohbmdmeodaaDoorQC
import Derived.Test.YtnlfohbmdmeodaaDoorQE
import Derived.Lib.Split
import Derived.Lib.SplitLaws
namespace Go.By
open Go.RowKit
/-- texts in a row -/
def StrRow (w : World) (b : Nat) (L : List (List UInt8)) : Prop := ∀ (i : Nat) (x : List UInt8), L[i]? = some x → w.cell? ⟨b, i, none⟩ = some (.string (strB x))
theorem StrRow.keep {w w' : World} {b : Nat} {L : List (List UInt8)} (h : StrRow w b L) (hb : Below w.heap.size w w') : StrRow w' b L := fun i x hx => (hb.cell (p := ⟨b, i, none⟩) (lt_of_cell (h i x hx))).trans (h i x hx)
theorem cellsOf_at {done : List ByteArray} {N i : Nat} {x : ByteArray} (h : done[i]? = some x) : (Lib.cellsOf done N)[i]? = some (.string x) := by
  have hi := (List.getElem?_eq_some_iff.1 h).1
  unfold Lib.cellsOf
  rw [List.getElem?_toArray, List.getElem?_append_left (by simpa using hi), List.getElem?_map, h]; rfl
theorem splitB_spl (l : List UInt8) (k : Nat) : Lib.splitB ⟨#[32]⟩ 0 k (strB l) = (spl 32 k l).map strB := by
  have h := Lib.splitB_data ⟨#[32]⟩ 0 k (strB l)
  rw [strB_data] at h
  have h2 : Lib.splitK [32] 0 k l = spl 32 k l := splitK_spl 32 k l
  have h3 : ((⟨#[32]⟩ : ByteArray).data.toList) = [32] := rfl
  rw [h3, h2] at h
  have h4 := congrArg (List.map strB) h
  rw [List.map_map] at h4
  rw [← h4]
  conv => lhs; rw [← List.map_id (Lib.splitB ⟨#[32]⟩ 0 k (strB l))]
  apply List.map_congr_left
  intro x _
  exact strB_of x
end Go.By
namespace Go.Proofs.YtnlfohbmdmeodaaDoor
open Go.RowKit Go.By
/-- the library's MaxLen holds some number -/
def MaxI (w : World) : Prop := ∃ m, w.cell? ⟨1, 0, none⟩ = some (.int .i64 m)
theorem MaxI.keep {w w' : World} (h : MaxI w) (hb : Below w.heap.size w w') : MaxI w' := by
  obtain ⟨m, hm⟩ := h
  exact ⟨m, (hb.cell (p := ⟨1, 0, none⟩) (lt_of_cell hm)).trans hm⟩
/-- the library's ErrRange is an error -/
def ErrI (w : World) : Prop := ∃ ev, w.cell? ⟨3, 0, none⟩ = some ev ∧ (ev = .nilIface ∨ ∃ te pe, ev = .iface te pe)
theorem ErrI.keep {w w' : World} (h : ErrI w) (hb : Below w.heap.size w w') : ErrI w' := by
  obtain ⟨m, hm, h2⟩ := h
  exact ⟨m, (hb.cell (p := ⟨3, 0, none⟩) (lt_of_cell hm)).trans hm, h2⟩
theorem SplitN_any (l : List UInt8) (w : World) (hl : l.length ≤ 1000000) (hM : MaxI w) :
    Calls Tryd.prog 22 #[.string (strB l), .string ⟨#[32]⟩, .int .i64 6] w fun e w' => ∃ b c, e = .returned (.slice (some ⟨b, 0, none⟩) (spl 32 5 l).length c) ∧ (spl 32 5 l).length ≤ c ∧ StrRow w' b (spl 32 5 l) ∧ Below w.heap.size w w' := by
  obtain ⟨m, hm⟩ := hM
  refine (Tryd.strings_SplitN (strB l) ⟨#[32]⟩ 6 m w (by rw [strB_size]; omega) hm (by decide) (by decide) (by decide)).mono ?_
  rintro e w' ⟨rfl, rfl⟩
  have hk : min 6 ((strB l).size + 1) - 1 = min 5 l.length := by rw [strB_size]; omega
  have hs : Lib.splitB ⟨#[32]⟩ 0 (min 6 ((strB l).size + 1) - 1) (strB l) = (spl 32 5 l).map strB := by
    rw [hk, splitB_spl, ← spl_min]
  have hle : (spl 32 5 l).length ≤ min 6 ((strB l).size + 1) := by
    rw [spl_min]
    have := (spl_len 32 (min 5 l.length) l).2
    rw [strB_size]; omega
  rw [hs]
  refine ⟨_, _, by rw [List.length_map], hle, fun i x hx => ?_, al (Below.refl _ _) (Nat.le_refl _)⟩
  rw [cell_of_row _ _ _ _ _ _ (hnew rfl)]
  exact cellsOf_at (by rw [List.getElem?_map, hx]; rfl)
/-- what strconv.ParseUint answers: a number, and whether there's an error -/
def PuRes (M : Nat) (l : List UInt8) (v : Value) : Prop := (decV 0 l ≤ M ∧ v = .tuple #[.int .u64 (decV 0 l : Nat), .nilIface]) ∨ (¬ decV 0 l ≤ M ∧ ∃ t p, v = .tuple #[.int .u64 (M : Nat), .iface t p])
set_option maxHeartbeats 1000000 in
theorem ParseUint_of (l : List UInt8) (bs : Int) (M : Nat) (w : World) (hl : l.length ≤ 1000000) (hE : ErrI w)
    (hin : Calls Tryd.prog 43 #[.string (strB l), .int .i64 10, .int .i64 bs] w fun e w' => e = .returned (puR 94 M l) ∧ Below w.heap.size w w') :
    Calls Tryd.prog 32 #[.string (strB l), .int .i64 10, .int .i64 bs] w fun e w' => ∃ v, e = .returned v ∧ PuRes M l v ∧ Below w.heap.size w w' := by
  have HF := Lib.hid hin
  have HL : Hid ((strB l).size ≤ 281474976710656) := by show _ ≤ _; rw [strB_size]; omega
  have HE := Lib.hid hE
  clear hin hE hl
  obtain ⟨S, hS⟩ : ∃ S, S = strB l := ⟨_, rfl⟩
  rw [← hS] at HF HL ⊢
  clear hS
  by_cases h : decV 0 l ≤ M
  · have HR : Hid (PuRes M l (.tuple #[.int .u64 (decV 0 l : Nat), .nilIface])) := .inl ⟨h, rfl⟩
    have e : puR 94 M l = .tuple #[.int .u64 (decV 0 l : Nat), .nilIface] := if_pos h
    rw [e] at HF
    clear e h
    go_enter Tryd.func32, Tryd.ntmps32
    go_wp2_with fail
    refine Calls.mono HF.out ?_
    rintro e w' ⟨rfl, hb⟩
    have HB := Lib.hid hb; clear hb
    go_wp2
    go_ret2
    exact ⟨_, rfl, HR.out, HB.out⟩
  · have HR : Hid (∀ t p, PuRes M l (.tuple #[.int .u64 (M : Nat), .iface t p])) := fun t p => .inr ⟨h, t, p, rfl⟩
    have e : puR 94 M l = .tuple #[.int .u64 (M : Nat), .iface 94 (.int .i64 1)] := if_neg h
    rw [e] at HF
    clear e h
    go_enter Tryd.func32, Tryd.ntmps32
    go_wp2_with fail
    refine Calls.mono HF.out ?_
    rintro e w' ⟨rfl, hb⟩
    obtain ⟨ev, hv, hev⟩ := HE.out.keep hb
    have HB := Lib.hid hb; clear hb
    have HV := Lib.hid hv; have HEV := Lib.hid hev; clear hv hev
    go_wp2_with fail
    refine Calls.mono (Tryd.strconv_toError_range _ S 10 bs ev w' HL.out HV.out HEV.out) ?_
    rintro e w2 ⟨N, rfl, h1, h2, h3⟩
    have HB2 : Hid (Below w.heap.size w w2) := bl HB.out h3 HB.out.size
    clear h1 h2 h3
    go_wp2
    go_ret2
    exact ⟨_, rfl, HR.out _ _, HB2.out⟩
end Go.Proofs.YtnlfohbmdmeodaaDoor
