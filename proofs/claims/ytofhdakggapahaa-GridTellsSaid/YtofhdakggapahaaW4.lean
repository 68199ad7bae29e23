/- The contracts of the kernel's functions: put. -/
import Derived.Test.YtofhdakggapahaaProg
import Derived.Test.YtofhdakggapahaaW3
import Derived.Test.YtofhdakggapahaaB2
import Derived.BigRegion
namespace Go.Proofs.Ytofhdakggapahaa
open Go.RowKit Go.By
def axpy (c : UInt8) (xs ss : List UInt8) : List UInt8 := List.zipWith (fun x s => s ^^^ Gf.gmul c x) xs ss
theorem axpy_length (c : UInt8) (xs ss : List UInt8) (h : xs.length = ss.length) : (axpy c xs ss).length = ss.length := by simp [axpy, h]
theorem split_byte (b : UInt8) : b = UInt8.ofNat (b.toNat % 16) ^^^ (UInt8.ofNat (b.toNat / 16) <<< 4) := by
  revert b; refine Gf.all8 ?_; decide +kernel
theorem low_high (c b : UInt8) : lowF c (UInt8.ofNat (b.toNat % 16)) ^^^ highF c (UInt8.ofNat (b.toNat / 16)) = Gf.gmul c b := by
  unfold lowF highF
  rw [← Gf.gmul_xor_right, ← split_byte]
theorem half_cell {w : World} {g T : Nat} {f : UInt8 → UInt8} (h : w.heap[g]? = some (.cells (half f 16) T (0, 0))) (j : Nat) (hj : j < 16) : w.cell? ⟨g, j, none⟩ = some (B8 (f (UInt8.ofNat j))) := by
  rw [cell_of_row _ _ _ _ _ _ h, half_at _ _ _ hj, if_pos hj]
set_option maxRecDepth 100000 in
set_option maxHeartbeats 400000 in
theorem put_any (base n : Nat) (q p : Option Addr) (c1 c2 : Nat) (c : UInt8) (xs ss : List UInt8) (w : World) (hx : xs.length = n) (hs : ss.length = n) (hn : n ≤ 9223372036854775807)
    (hown : w.ownsRow base 5 1 (.slice q n c1) n (ss.map B8)) (hrow : Rs B8 w p xs) (hne : 0 < n → ∀ a, p = some a → ∀ a', q = some a' → a.block ≠ a'.block) :
    Calls Try.prog 81 #[.slice q n c1, B8 c, .slice p n c2] w fun e w' =>
      e = .returned (.tuple #[]) ∧ w'.ownsRow base 5 1 (.slice q n c1) n ((axpy c xs ss).map B8) ∧ w.grownBy w' (q.map (·.block)) := by
  have HX := Lib.hid hx; have HS := Lib.hid hs; clear hx hs
  have hi : (Try.prog.info? 132).map (·.size) = some 16 := by kernel_rfl
  have hL : (half (lowF c) 16).all (·.oneCell') = true := by simp [half, Value.oneCell']
  have hH : (half (highF c) 16).all (·.oneCell') = true := by simp [half, Value.oneCell']
  have sL := half_size (lowF c) 16
  have sH := half_size (highF c) 16
  go_enter Try.func81, Try.ntmps81
  go_wp2_with fail
  refine (halves_any _ _).mono ?_; rintro e w1 ⟨rfl, hb1⟩
  generalize hLO : half (lowF c) 16 = LO at *
  generalize hHI : half (highF c) 16 = HI at *
  have HLO := Lib.hid hLO; have HHI := Lib.hid hHI; clear hLO hHI
  have e1 : ∀ o1 o2, (((w1.alloc o1).alloc o2)).heap[w1.heap.size]? = some o1 := fun o1 o2 => hal (hnew rfl)
  have e2 : ∀ o1 o2 cs, (((w1.alloc o1).alloc o2).setRow w1.heap.size cs).heap[w1.heap.size + 1]? = some o2 := fun o1 o2 cs => hro (hnew (by simp)) (by simp)
  have E1 := Lib.hid e1; have E2 := Lib.hid e2; clear e1 e2
  go_wp2_with (first
    | (refine wpList_store_row (o := ⟨none, .store 132 (.tmp 6) (.tmp 13), _, _, _, _⟩) rfl 132 (.tmp 6) (.tmp 13) rfl w1.heap.size LO rfl rfl _ _ (E1.out _ _) (hi.trans (by rw [sL])) sL.symm hL ?_)
    | (refine wpList_store_row (o := ⟨none, .store 132 (.tmp 7) (.tmp 14), _, _, _, _⟩) rfl 132 (.tmp 7) (.tmp 14) rfl (w1.heap.size + 1) HI rfl rfl _ _ (E2.out _ _ _) (hi.trans (by rw [sH])) sH.symm hH ?_))
  generalize hW : (((w1.alloc _).alloc _).setRow w1.heap.size LO).setRow (w1.heap.size + 1) HI = W0
  have f1 : W0.heap[w1.heap.size]? = some (.cells LO 132 (0, 0)) := by rw [← hW]; exact hro (hrs (hal (hnew rfl))) (by omega)
  have f2 : W0.heap[w1.heap.size + 1]? = some (.cells HI 132 (0, 0)) := by rw [← hW]; exact hrs (hro (hnew (by simp)) (by omega))
  have fb : Below w.heap.size w W0 := by
    have := hb1.size
    rw [← hW]
    exact below_setRow (below_setRow ((hb1.alloc this _).alloc (by simp; omega) _) this _) (by omega) _
  have fg : w.heap.size ≤ w1.heap.size := hb1.size
  have fz : w1.heap.size + 1 < W0.heap.size := lt_of_block f2
  clear hW hb1 E1 E2
  generalize w1.heap.size = BL at *
  go_loopw [17] (fun i wr => ∃ k : Nat, k ≤ n ∧ i = .int .i64 k ∧ wr.ownsRow base 5 1 (.slice q n c1) n ((prog (axpy c xs ss) ss k).map B8) ∧ w.grownBy wr (q.map (·.block)) ∧
      wr.heap[BL]? = some (.cells LO 132 (0, 0)) ∧ wr.heap[BL + 1]? = some (.cells HI 132 (0, 0))) (fun i _ => n - (intOf i).toNat)
  case atStart =>
    refine ⟨0, Nat.zero_le _, rfl, ?_, ?_, f1, f2⟩
    · rw [prog_zero]
      exact hown.kept (row := none) ⟨fb.os, fb.tape, fb.output, fb.size, fun i hi _ => fb.block i hi⟩ (by rcases hq : Value.ownBlock _ with _ | g <;> simp)
    · exact ⟨fb.os, fb.tape, fb.output, fb.size, fun i hi _ => fb.block i hi⟩
  case round =>
    obtain ⟨k, hk, rfl, ho, hg, h1, h2⟩ := hrel
    by_cases hlt : k < n
    · obtain ⟨b, o, x, rfl, hc0, hx⟩ := hrow.at k (by have := HX.out; omega)
      obtain ⟨g, rfl, hbg, hgs⟩ := owns_at hown (by omega)
      have hbg' : b ≠ g := hne (by omega) _ rfl _ rfl
      have hc : wr.cell? ⟨b, o + k, none⟩ = some (B8 x) := (World.cell?_of_block (a := ⟨b, o + k, none⟩) (hg.block b (lt_of_cell hc0) (by simp; exact hbg'))).trans hc0
      obtain ⟨s, hs⟩ : ∃ s, ss[k]? = some s := ⟨_, List.getElem?_eq_getElem (by have := HS.out; omega)⟩
      have hcs : wr.cell? ⟨g, k, none⟩ = some (B8 s) := by
        rw [ho.cellAt k (by omega)]
        simp [prog_at (axpy c xs ss) ss k n (by rw [axpy_length _ _ _ (HX.out.trans HS.out.symm), HS.out]) HS.out hlt, hs]
      have hfs : wr.frozen? ⟨g, k, none⟩ = false := ho.frozenAt k
      have hsH := Lib.hid hs; clear hs
      have hx16 := x.toNat_lt
      obtain ⟨lv, hv, elh⟩ : ∃ lv hv, lv = lowF c (UInt8.ofNat (x.toNat % 16)) ∧ hv = highF c (UInt8.ofNat (x.toNat / 16)) := ⟨_, _, rfl, rfl⟩
      have elH := Lib.hid elh; clear elh
      have hlo : wr.cell? ⟨BL, x.toNat % 16, none⟩ = some (B8 lv) := by rw [elH.out.1]; exact half_cell (by rw [HLO.out]; exact h1) _ (by omega)
      have hhi : wr.cell? ⟨BL + 1, x.toNat / 16, none⟩ = some (B8 hv) := by rw [elH.out.2]; exact half_cell (by rw [HHI.out]; exact h2) _ (by omega)
      clear hc0
      go_wp2
      go_region
      all_goals go_wp2
      go_roundw
      case rel =>
        have st := ho.stored k (B8 (s ^^^ Gf.gmul c x))
        have eb : bits BinOp.xor IntKind.u8 (↑s.toNat) (bits BinOp.xor IntKind.u8 (↑lv.toNat) (↑hv.toNat)) = ((s ^^^ Gf.gmul c x).toNat : Int) := by
          rw [bits_xor, elH.out.1, elH.out.2, low_high, bits_xor]
        have ez : (axpy c xs ss)[k]? = some (s ^^^ Gf.gmul c x) := by
          have hk' : k < xs.length := by have := HX.out; omega
          simp [axpy, List.getElem?_zipWith, hsH.out, List.getElem?_eq_getElem hk', ← hx.out]
        rw [← List.map_set, prog_succ _ _ k n (by rw [axpy_length _ _ _ (HX.out.trans HS.out.symm), HS.out]) HS.out hlt _ ez] at st
        refine ⟨k + 1, by omega, by go_num, ?_, ?_, ?_, ?_⟩
        · rw [eb]; exact st.1
        · rw [eb]; exact grown_trans hg ⟨st.2.os, st.2.tape, st.2.output, st.2.size, st.2.block⟩
        · rw [eb]; exact hsc h1 (by simp; omega)
        · rw [eb]; exact hsc h2 (by simp; omega)
      case measure => simp [intOf]; omega
    · go_wp2
      go_end0
      refine ⟨rfl, ?_, hg⟩
      obtain rfl : k = n := by omega
      rwa [prog_full _ _ k (by rw [axpy_length _ _ _ (HX.out.trans HS.out.symm), HS.out]) HS.out] at ho
end Go.Proofs.Ytofhdakggapahaa
