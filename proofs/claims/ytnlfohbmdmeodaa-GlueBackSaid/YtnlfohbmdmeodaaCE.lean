/- The keys of such a map, in order: maps.Keys, slices.Sorted. -/
import Derived.Test.YtnlfohbmdmeodaaCD
namespace Go.Proofs.Ytnlfohbmdmeodaa
open Go.RowKit Go.By Go.Maps Go.Sort Go.Shelf
theorem sortsC (m : Nat) : AnyZI.SortsIn Try.prog Try.sortedI_ren Fence.wide m :=
  ⟨fun blk off cap ss W hH hblk hsz => callsIn_wide.2 (AnyM.slices_Sort_int Try.sortI blk off cap ss W hH hblk hsz),
   fun p cap W => callsIn_wide.2 (AnyM.slices_Sort_int_none Try.sortI p cap W)⟩
theorem KeysC_any (bm : Nat) (W : World) : Calls Try.prog 26 #[.map (some bm)] W fun e w' => e = .returned (.func (.func 34) #[] #[.pointer (some ⟨W.heap.size, 0, none⟩)]) ∧ w' = W.alloc (.cells #[.map (some bm)] 42) :=
  (callsIn_wide (n := 5)).1 (AnyZI.keys_in Try.keysI Fence.wide 5 trivial rfl (some bm) W)
theorem SortedC_any (bm cnt m B : Nat) (S : Nat → Bool) (vs : List Value) (W : World) (h : MapC bm cnt m S vs W) (hB : W.heap[B]? = some (.cells #[.map (some bm)] 42 (0, 0))) (hc : cnt ≤ 100000) :
    Calls Try.prog 25 #[.func (.func 34) #[] #[.pointer (some ⟨B, 0, none⟩)]] W fun e w' => ∃ (q : Option Addr) (n c : Nat) (ks : List Nat), e = .returned (.slice q n c) ∧ Sl encZ w' q n c (ks.map fun k : Nat => (k : Int)) ∧ (∀ k, k ∈ ks ↔ (k < m ∧ S k = true)) ∧ Below W.heap.size W w' := by
  obtain ⟨es, ho, hO⟩ := h
  have hsz : Maps.size (.map es : DataW Unit) ≤ cnt := by
    obtain ⟨e, clock, h1, F, hs, hD⟩ := ho
    have e1 : es = (e.toList.map (Go.WideElems.rg Try.prog 3 slR)).foldr DataW.insert [] := by injection hD
    show es.length ≤ cnt
    rw [e1, length_sorted]; simpa using hs
  have hseq : SeqGives Fence.wide 2 Try.prog 34 #[.pointer (some ⟨B, 0, none⟩)] encZ (fun ss => ss.Perm (intKeys (.map es : DataW Unit))) (Maps.size (.map es : DataW Unit)) W :=
    AnyZI.keys_gives (ρ := Try.keysI_ren) { Try.keysI with } Fence.wide _ trivial rfl (by omega) B bm cnt (.map es) W (blk_ltC hB) (cell_of_row _ _ 0 _ _ _ hB) ho
  have cS := AnyZI.sorted_in Try.sortedI Fence.wide 5 trivial trivial trivial trivial rfl (by omega) (sortsC _) (enters_of Try.func33 (by kernel_rfl) rfl) 34 #[.pointer (some ⟨B, 0, none⟩)] trivial (enters_of Try.func34 (by kernel_rfl) rfl) _ _ (by unfold maxLen; omega) (by omega) _ hseq
  change CallsIn _ _ Try.prog 25 _ _ _ at cS
  refine ((callsIn_wide (n := 5)).1 cS).mono ?_
  rintro e w' ⟨v, ss, rfl, hp, hrow, -, hb⟩
  have hmem : ∀ x, x ∈ ss.mergeSort (fun x y => decide (x ≤ y)) ↔ ∃ i : Nat, i < m ∧ S i = true ∧ x = (i : Int) := fun x => by
    rw [(List.mergeSort_perm _ _).mem_iff, hp.mem_iff]; exact hO.keys x
  have hnn : ∀ x, x ∈ ss.mergeSort (fun x y => decide (x ≤ y)) → ∃ i : Nat, x = (i : Int) := fun x hx => by
    obtain ⟨i, _, _, e⟩ := (hmem x).1 hx; exact ⟨i, e⟩
  have hback : ((ss.mergeSort (fun x y => decide (x ≤ y))).map Int.toNat).map (fun k : Nat => (k : Int)) = ss.mergeSort (fun x y => decide (x ≤ y)) := by
    rw [List.map_map]
    conv => rhs; rw [← List.map_id (ss.mergeSort (fun x y => decide (x ≤ y)))]
    apply List.map_congr_left
    intro x hx
    obtain ⟨i, rfl⟩ := hnn x hx
    rfl
  obtain ⟨q, c, rfl⟩ := owns_shape hrow
  refine ⟨q, ss.length, c, (ss.mergeSort (fun x y => decide (x ≤ y))).map Int.toNat, rfl, ?_, fun k => ?_, hb⟩
  · rw [hback]; exact Sl.of_owns hrow
  · rw [List.mem_map]
    constructor
    · rintro ⟨x, hx, rfl⟩
      obtain ⟨i, h1, h2, rfl⟩ := (hmem x).1 hx
      exact ⟨h1, h2⟩
    · rintro ⟨h1, h2⟩
      exact ⟨(k : Int), (hmem _).2 ⟨k, h1, h2, rfl⟩, rfl⟩
end Go.Proofs.Ytnlfohbmdmeodaa
