/- Numbers: Text. -/
import Derived.Test.YtbfmdfbnhakolaaDoorNO
import Derived.Test.YtbfmdfbnhakolaaDoorNL
namespace Go.By
open Go.RowKit
/-- bytes as a text -/
def strB (l : List UInt8) : ByteArray := ⟨l.toArray⟩
theorem strB_size (l : List UInt8) : (strB l).size = l.length := by simp [strB, ByteArray.size]
theorem strB_data (l : List UInt8) : (strB l).data.toList = l := by simp [strB]
theorem strB_cells (l : List UInt8) : Lib.strCells (strB l) = Lib.byteCells l := by rw [Lib.strCells_eq, strB_data]
theorem strB_inj {a b : List UInt8} (h : strB a = strB b) : a = b := by rw [← strB_data a, h, strB_data]
theorem strB_of (s : ByteArray) : s = strB s.data.toList := by cases s; simp [strB]
theorem BuilderAt.keep {T e : TypeId} {B b : Nat} {p : Value} {bs : List Value} {w w' : World} (h : Lib.BuilderAt T e B b p bs w) (hb : Below w.heap.size w w') : Lib.BuilderAt T e B b p bs w' := by
  obtain ⟨h1, v, h2, h3, h4⟩ := h
  obtain ⟨q, c, rfl⟩ := owns_shape h3
  exact ⟨h1, _, (hb.block _ (lt_of_block h2)).trans h2, owns_keep h3 hb, h4⟩
theorem repeat48 : ∀ c, Lib.repeatL [48] c = List.replicate c 48
  | 0 => rfl
  | c + 1 => by rw [List.replicate_succ, ← repeat48 c]; rfl
theorem bytes_append (a b : List UInt8) : Lib.byteCells a ++ Lib.byteCells b = Lib.byteCells (a ++ b) := by simp [Lib.byteCells]
theorem tLen {n k : Nat} (h : n < 16 ^ k) : (hexText n).length ≤ k + 1 := by
  rcases Nat.eq_zero_or_pos k with h0 | h0
  · subst h0
    have : n = 0 := by simpa using h
    subst this; simp [hexText]
  · have := hexText_len h0 h; omega
theorem wordsText {ws : List UInt64} : (hexText (valW ws)).length ≤ 16 * ws.length + 1 := by
  refine tLen ?_
  have := valW_lt ws
  rw [show (18446744073709551616 : Nat) = 16 ^ 16 from rfl, ← Nat.pow_mul] at this
  exact this
end Go.By
namespace Go.Proofs.YtbfmdfbnhakolaaDoor
open Go.RowKit Go.By
theorem FormatUint_s (n : UInt64) (w : World) (hT : Tab w) : Calls Tryd.prog 58 #[W64 n, .int .i64 16] w fun e w' => e = .returned (.string (strB (hexText n.toNat))) ∧ Below w.heap.size w w' := FormatUint_16 n w hT
theorem Write_s (B b : Nat) (t s : List UInt8) (w : World) (h : Lib.IsBuilder 95 5 B b (Lib.byteCells t) w) (hlen : t.length + s.length ≤ 100000000) (hBw : B ≤ w.heap.size) :
    Calls Tryd.prog 57 #[.pointer (some ⟨b, 0, none⟩), .string (strB s)] w fun e w' => e = .returned (.tuple #[.int .i64 s.length, .nilIface]) ∧ Lib.BuilderAt 95 5 B b (.pointer (some ⟨b, 0, none⟩)) (Lib.byteCells (t ++ s)) w' ∧ Below B w w' := by
  have := Any.Builder_WriteString (ρ := Tryd.lays105_ren) { Tryd.lays105 with } Tryd.Builder_Extra_105 B b (Lib.byteCells t) (strB s) w h (by rw [Lib.byteCells_length, strB_size]; omega) hBw
  refine Calls.mono this ?_
  rintro e w' ⟨rfl, h1, h2⟩
  rw [strB_cells, bytes_append] at h1
  rw [strB_size]
  exact ⟨rfl, h1, h2⟩
theorem String_s (B b : Nat) (t : List UInt8) (w : World) (h : Lib.IsBuilder 95 5 B b (Lib.byteCells t) w) (hBw : B ≤ w.heap.size) :
    Calls Tryd.prog 60 #[.pointer (some ⟨b, 0, none⟩)] w fun e w' => e = .returned (.string (strB t)) ∧ Below B w w' := Tryd.Builder_String_any B b t w h hBw
theorem Repeat_s (c : Nat) (w : World) (hc : c ≤ 1000) : Calls Tryd.prog 59 #[.string ⟨#[48]⟩, .int .i64 c] w fun e w' => e = .returned (.string (strB (List.replicate c 48))) ∧ Below w.heap.size w w' := by
  have := Tryd.strings_Repeat ⟨#[48]⟩ c w (by omega) (by show 1 * c ≤ _; omega)
  refine this.mono ?_
  rintro e w' ⟨rfl, h⟩
  exact ⟨by rw [show (⟨#[48]⟩ : ByteArray).data.toList = [48] from rfl, repeat48]; rfl, h⟩
set_option maxRecDepth 100000 in
set_option maxHeartbeats 2000000 in
theorem Text_nat (p : Option Addr) (n c N : Nat) (w : World) (h : Ws 34 w p n c N) (hT : Tab w) :
    Calls Tryd.prog 30 #[.agg #[.slice p n c]] w fun e w' => e = .returned (.string (strB (hexText N))) ∧ Below w.heap.size w w' := by
  obtain ⟨ws, hs, hnorm, rfl⟩ := h.ex
  have hle := h.le
  have hnc := hs.le
  have HB : Hid (∀ o, Below w.heap.size w (w.alloc o)) := fun o => al (Below.refl _ _) (Nat.le_refl _)
  rcases Nat.eq_zero_or_pos n with h0 | h0
  · subst h0
    have : ws = [] := List.eq_nil_of_length_eq_zero hs.len
    subst this
    clear h hs hnorm
    go_enter Tryd.func30, Tryd.ntmps30
    go_wp2
    go_ret
    exact ⟨by rw [show hexText (valW []) = [48] from rfl]; rfl, HB.out _⟩
  · obtain ⟨k, rfl⟩ : ∃ k, n = k + 1 := ⟨n - 1, by omega⟩
    obtain ⟨b, o, x, rfl, hc, hx⟩ := hs.at k (by omega)
    have hc2 : ∀ o1 o2, ((w.alloc o1).alloc o2).cell? ⟨b, o + k, none⟩ = some (W64 x) := fun o1 o2 => ((al (al (Below.refl _ _) (Nat.le_refl _)) (by simp) : Below w.heap.size w ((w.alloc o1).alloc o2)).cell (p := ⟨b, o + k, none⟩) (lt_of_cell hc)).trans hc
    obtain ⟨W, hW⟩ : ∃ W, W = (w.alloc (.cells #[.slice (some ⟨b, o, none⟩) (k + 1) c] 29)).alloc (.cells #[.pointer none, .slice none 0 0] 95) := ⟨_, rfl⟩
    have hbW : Below w.heap.size w W := by rw [hW]; exact al (al (Below.refl _ _) (Nat.le_refl _)) (by simp)
    have hszW : W.heap.size = w.heap.size + 2 := by rw [hW]; simp
    have t0 : W.heap[w.heap.size]? = some (.cells #[.slice (some ⟨b, o, none⟩) (k + 1) c] 29 (0, 0)) := by rw [hW]; exact hal (hnew rfl)
    have t1 : W.heap[w.heap.size + 1]? = some (.cells #[.pointer none, .slice none 0 0] 95 (0, 0)) := by rw [hW]; exact hnew (by simp)
    have hcW := (hbW.cell (p := ⟨b, o + k, none⟩) (lt_of_cell hc)).trans hc
    obtain ⟨_, a1, a2, a3, a4⟩ := One.of t0
    have HBd : Hid (Lib.IsBuilder 95 5 (w.heap.size + 1) (w.heap.size + 1) (Lib.byteCells []) W) := Or.inl ⟨Nat.le_refl _, _, t1, World.ownsRow_nil _ _ _ _, by simp [Value.ownBlock]⟩
    have HBW := Lib.hid hbW
    have HT : Hid (Tab W) := hT.keep hbW
    have HT0 := Lib.hid hT
    have HS := Lib.hid hs; have HN := Lib.hid hnorm
    have T0 := Lib.hid t0
    have HX := Lib.hid hx
    have hx16 : (hexText x.toNat).length ≤ 16 := (hex_pad (k := 16) (by decide) (by have := x.toNat_lt; simpa using this)).2
    have HX16 := Lib.hid hx16
    clear h hs hnorm hc hbW t0 t1 hT hx hx16
    go_enter Tryd.func30, Tryd.ntmps30
    go_wp2_with fail
    rw [← hW]
    clear hW
    refine Calls.mono (FormatUint_s x W HT.out) ?_
    rintro e w1 ⟨rfl, hb1⟩
    have hsz1 := hb1.size
    have HB1 := Lib.hid hb1
    clear hb1
    go_wp2_with fail
    refine Calls.mono (Write_s (w.heap.size + 1) (w.heap.size + 1) [] (hexText x.toNat) w1 (HBd.out.imp (fun h => BuilderAt.keep h HB1.out) (fun h => BuilderAt.keep h HB1.out)) (by have := HX16.out; simp; omega) (by omega)) ?_
    rintro e w2 ⟨rfl, hbd2, hb2⟩
    have HW2 : Hid (Lib.BuilderAt 95 5 (w.heap.size + 1) (w.heap.size + 1) (.pointer (some ⟨w.heap.size + 1, 0, none⟩)) (Lib.byteCells (hexText (valW (ws.drop k)))) w2) := by
      have e : valW (ws.drop k) = x.toNat := by
        rw [drop_cons HX.out, List.drop_of_length_le (by have := HS.out.len; omega), valW_one]
      show Lib.BuilderAt _ _ _ _ _ _ _
      rw [e]; exact hbd2
    have k0 : w2.heap[w.heap.size]? = some (.cells #[.slice (some ⟨b, o, none⟩) (k + 1) c] 29 (0, 0)) := (hb2.block _ (by omega)).trans ((HB1.out.block _ (blk_lt T0.out)).trans T0.out)
    have HB2 : Hid (Below w.heap.size w w2) := (HBW.out.trans (HB1.out.mono (by omega))).trans (hb2.mono (by omega))
    have hsz2 := hb2.size
    have K0 := Lib.hid k0
    clear hbd2 hb2 k0
    go_wp2
    go_loopw [22] (fun i wr => ∃ j : Nat, j ≤ k ∧ i = .int .i64 j ∧ Hid (Lib.BuilderAt 95 5 (w.heap.size + 1) (w.heap.size + 1) (.pointer (some ⟨w.heap.size + 1, 0, none⟩)) (Lib.byteCells (hexText (valW (ws.drop (k - j))))) wr) ∧ Hid (wr.heap[w.heap.size]? = some (.cells #[.slice (some ⟨b, o, none⟩) (k + 1) c] 29 (0, 0))) ∧ w.heap.size + 2 ≤ wr.heap.size ∧ Hid (Below w.heap.size w wr)) (fun i _ => k - (intOf i).toNat)
    case atStart => exact ⟨0, Nat.zero_le _, rfl, HW2.out, K0.out, by omega, HB2.out⟩
    case round =>
      clear HW2 K0 HB2
      obtain ⟨i, hik, rfl, hbd, h0, hszr, hB⟩ := hrel
      obtain ⟨_, a1, a2, a3, a4⟩ := One.of h0.out
      by_cases hlt : i < k
      · obtain ⟨j, hj⟩ : ∃ j, k = i + j + 1 := ⟨k - i - 1, by omega⟩
        obtain ⟨b', o', y, hp, hc, hy⟩ := HS.out.at j (by omega)
        cases hp
        have hcy := (hB.out.cell (p := ⟨b, o + j, none⟩) (lt_of_cell hc)).trans hc
        have hidx : (k : Int) + 1 - 2 - (i : Int) = (j : Int) := by omega
        have hik' : (i : Int) < (k : Int) := by omega
        have HJ := Lib.hid hj
        have hy16 : (hexText y.toNat).length ≤ 16 := (hex_pad (k := 16) (by decide) (by have := y.toNat_lt; simpa using this)).2
        obtain ⟨m, hm⟩ : ∃ m, (hexText y.toNat).length = m := ⟨_, rfl⟩
        have hsm : (strB (hexText y.toNat)).size = m := by rw [strB_size, hm]
        rw [hm] at hy16
        obtain ⟨r, hr⟩ : ∃ r, 16 - m = r := ⟨_, rfl⟩
        have hr16 : (16 : Int) - (m : Int) = (r : Int) := by omega
        have HR : Hid (r + m = 16) := by show _ = _; omega
        have HM := Lib.hid hm
        have HY := Lib.hid hy
        have hstep : Hid (hexText (valW (ws.drop j)) = hexText (valW (ws.drop (k - i))) ++ List.replicate r 48 ++ hexText y.toNat ∧ (hexText (valW (ws.drop (k - i)))).length ≤ 16 * 513) := by
          have e1 : k - i = j + 1 := by omega
          rw [e1]
          refine ⟨?_, ?_⟩
          · rw [valW_drop hy.out]
            have := (text_step (w := y.toNat) (n := valW (ws.drop (j + 1))) y.toNat_lt (HN.out.drop_pos (by have := HS.out.len; omega))).1
            rw [this, hm, hr, List.append_assoc]
          · have := wordsText (ws := ws.drop (j + 1))
            have h2 := HS.out.len
            rw [List.length_drop] at this
            omega
        have HTr : Hid (Tab wr) := HT0.out.keep hB.out
        obtain ⟨Z, hZ⟩ : ∃ Z, Z = hexText (valW (ws.drop (k - i))) := ⟨_, rfl⟩
        rw [← hZ] at hbd hstep
        obtain ⟨Y, hY⟩ : ∃ Y, Y = hexText y.toNat := ⟨_, rfl⟩
        rw [← hY] at hsm hstep HM
        have HF : Hid (Calls Tryd.prog 58 #[W64 y, .int .i64 16] wr fun e w' => e = .returned (.string (strB Y)) ∧ Below wr.heap.size wr w') := by rw [hY]; exact FormatUint_s y wr HTr.out
        have H0 := Lib.hid h0.out
        clear hc hlt hm hj hy hY hZ h0 hr
        go_wp2_with fail
        refine Calls.mono HF.out ?_
        rintro e w3 ⟨rfl, hb3⟩
        have B3 := Lib.hid hb3
        have hsz3 := hb3.size
        clear hb3
        go_wp2_with fail
        refine Calls.mono (Repeat_s r w3 (by have := HR.out; omega)) ?_
        rintro e w4 ⟨rfl, hb4⟩
        have B4 : Hid (Below wr.heap.size wr w4) := B3.out.trans (hb4.mono hsz3)
        have hsz4 := hb4.size
        clear hb4
        go_wp2_with fail
        refine Calls.mono (Write_s (w.heap.size + 1) (w.heap.size + 1) Z (List.replicate r 48) w4 (Or.inr (BuilderAt.keep hbd.out B4.out)) (by have := hstep.out.2; have := HR.out; rw [List.length_replicate]; omega) (by omega)) ?_
        rintro e w5 ⟨rfl, hbd5, hb5⟩
        have H5 := Lib.hid hbd5
        have B5 := Lib.hid hb5
        have hsz5 := hb5.size
        clear hbd5 hb5
        go_wp2_with fail
        refine Calls.mono (Write_s (w.heap.size + 1) (w.heap.size + 1) (Z ++ List.replicate r 48) Y w5 (Or.inr H5.out) (by have := hstep.out.2; have := HM.out; have := HR.out; rw [List.length_append, List.length_replicate]; omega) (by omega)) ?_
        rintro e w6 ⟨rfl, hbd6, hb6⟩
        have hsz6 := hb6.size
        have F : Hid (Lib.BuilderAt 95 5 (w.heap.size + 1) (w.heap.size + 1) (.pointer (some ⟨w.heap.size + 1, 0, none⟩)) (Lib.byteCells (hexText (valW (ws.drop (k - (i + 1)))))) w6 ∧ w6.heap[w.heap.size]? = some (.cells #[.slice (some ⟨b, o, none⟩) (k + 1) c] 29 (0, 0)) ∧ Below w.heap.size w w6) := by
          refine ⟨?_, ?_, ?_⟩
          · rw [show k - (i + 1) = j by have := HJ.out; omega, hstep.out.1]; exact hbd6
          · exact (hb6.block _ (by omega)).trans ((B5.out.block _ (by omega)).trans ((B4.out.block _ (by omega)).trans H0.out))
          · exact (((hB.out.trans (B4.out.mono (by omega))).trans (B5.out.mono (by omega))).trans (hb6.mono (by omega)))
        clear hbd6 hb6
        go_wp2
        go_roundw
        case rel => exact ⟨i + 1, by have := HJ.out; omega, by go_num, F.out.1, F.out.2.1, by omega, F.out.2.2⟩
        case measure => simp [intOf]; have := HJ.out; omega
      · obtain rfl : i = k := by omega
        have F : Hid (Lib.BuilderAt 95 5 (w.heap.size + 1) (w.heap.size + 1) (.pointer (some ⟨w.heap.size + 1, 0, none⟩)) (Lib.byteCells (hexText (valW ws))) wr) := by
          have := hbd.out
          rw [Nat.sub_self, List.drop_zero] at this
          exact this
        clear hlt hbd
        go_wp2_with fail
        refine Calls.mono (String_s (w.heap.size + 1) (w.heap.size + 1) (hexText (valW ws)) wr (Or.inr F.out) (by omega)) ?_
        rintro e w6 ⟨rfl, hb6⟩
        have F2 : Hid (Below w.heap.size w w6) := hB.out.trans (hb6.mono (by omega))
        clear hb6
        go_wp2
        go_ret
        exact ⟨rfl, F2.out⟩
end Go.Proofs.YtbfmdfbnhakolaaDoor
