/- Chapter 26: Print. Chapter 26, the law: awake. Chapter 26: ScriptParses. Arguments that came in, as bytes and slices of bytes. Arguments that came in: slices of byte slices. The library's table of powers of ten, out of the row's condition. What the library's variables hold: out of the row's condition, and of the world's shape. What the library's variables hold, for scripts: out of the row's condition. -/
import Derived.Test.YtccaiiigdfieoaaDoorZp3
import Derived.OpenShut
import Derived.Deep.Matrix
import Derived.Test.YtccaiiigdfieoaaDoorRows
import Derived.Lib.LaidTab
import Derived.Stop.LaidErr
import Derived.Shelf.Vars
import Derived.SizedLaws
namespace Go.Proofs.YtccaiiigdfieoaaDoor
open Go.RowKit Go.By
/-- lines, as long as they aren't too long -/
def longP : List Cmd → List UInt8 → List UInt8 × Int
  | [], t => (t, 0)
  | c :: cs, t => if 65536 < c.bytes.length then ([], 16) else if 65536 < (t ++ lineP c).length then ([], 16) else longP cs (t ++ lineP c)
def printR (cs : List Cmd) : List UInt8 × Int := if codeP cs ≠ 0 then ([], codeP cs) else longP cs []
theorem codeP_at : ∀ {cs : List Cmd} {i : Nat} {c : Cmd}, cs[i]? = some c → (∀ j d, j < i → cs[j]? = some d → checkP d = 0) → checkP c ≠ 0 → codeP cs = checkP c
  | [], i, c, h, _, _ => by simp at h
  | d :: cs, 0, c, h, _, hz => by
    have e : d = c := by simpa using h
    subst e
    unfold codeP; rw [if_pos hz]
  | d :: cs, i + 1, c, h, hb, hz => by
    have h0 := hb 0 d (by omega) rfl
    unfold codeP
    rw [if_neg (by rw [h0]; simp)]
    exact codeP_at (by simpa using h) (fun j e hj he => hb (j + 1) e (by omega) (by simpa using he)) hz
theorem codeP_zero {cs : List Cmd} {n : Nat} (hn : cs.length ≤ n) (h : ∀ j d, j < n → cs[j]? = some d → checkP d = 0) : codeP cs = 0 := codeP_of_good fun c hc => by
  obtain ⟨j, hj, e⟩ := List.getElem_of_mem hc
  exact h j c (by omega) (by rw [List.getElem?_eq_getElem hj, e])
theorem longP_at {cs : List Cmd} {i : Nat} {c : Cmd} {t : List UInt8} (h : cs[i]? = some c) : longP (cs.drop i) t = if 65536 < c.bytes.length then ([], 16) else if 65536 < (t ++ lineP c).length then ([], 16) else longP (cs.drop (i + 1)) (t ++ lineP c) := by
  obtain ⟨h1, e1⟩ := List.getElem?_eq_some_iff.1 h
  rw [List.drop_eq_getElem_cons h1, e1]; rfl
theorem longP_print : ∀ {cs : List Cmd} {t : List UInt8}, (∀ c ∈ cs, c.bytes.length ≤ 65536) → (t ++ printP cs).length ≤ 65536 → longP cs t = (t ++ printP cs, 0)
  | [], t, _, _ => by unfold longP; simp [printP]
  | c :: cs, t, hb, hl => by
    rw [printP_cons, ← List.append_assoc] at hl ⊢
    unfold longP
    rw [if_neg (by have := hb c (by simp); omega), if_neg (by rw [List.length_append] at hl; omega)]
    exact longP_print (fun d hd => hb d (by simp [hd])) hl
theorem app_len {a b : List UInt8} : (a ++ b).length = a.length + b.length := List.length_append
def PrtR (w : World) (r : List UInt8 × Int) (e : Ending) (w' : World) : Prop := e = .returned (.tuple #[.string (strB r.1), .int .i64 r.2]) ∧ Below w.heap.size w w'
set_option maxRecDepth 100000 in
set_option maxHeartbeats 8000000 in
theorem Print_any (q : Option Addr) (n c : Nat) (cs : List Cmd) (w : World) (h : CmdS w q n c cs) (hU : ∀ x ∈ cs, ∀ y ∈ x.nums, y ≤ 18446744073709551615) (hT : Tab10 w) :
    Calls Tryd.prog 10 #[.slice q n c] w (PrtR w (printR cs)) := by
  have hnb : n ≤ 9223372036854775807 := by have g1 := h.le; have g2 := h.max; unfold maxLen at g2; omega
  have H := Lib.hid h
  have HU := Lib.hid hU
  have HT := Lib.hid hT
  obtain ⟨R, hR⟩ : ∃ R, R = printR cs := ⟨_, rfl⟩
  rw [← hR]
  have HR := Lib.hid hR
  clear h hU hT hR
  go_enter Tryd.func10, Tryd.ntmps10
  go_wp2
  go_loopw [5, 6, 12] (fun _ _ iv wr => ∃ i, i ≤ n ∧ iv = .int .i64 (i : Nat) ∧ Hid (∀ j d, j < i → cs[j]? = some d → checkP d = 0) ∧ Hid (Below w.heap.size w wr)) (fun _ _ iv _ => n - (intOf iv).toNat)
  case atStart => exact ⟨0, Nat.zero_le _, rfl, fun j d hj => by omega, Below.refl _ _⟩
  case round =>
    obtain ⟨i, hi, rfl, HZ, HB⟩ := hrel
    by_cases hlt : i < n
    · obtain ⟨x, hx⟩ : ∃ x, cs[i]? = some x := ⟨_, List.getElem?_eq_getElem (by rw [H.out.len]; exact hlt)⟩
      obtain ⟨bb, oo, q1, n1, k1, q2, n2, k2, rfl, d0, d1, d2, s1, s2⟩ := (H.out.keep HB.out).row i x hx
      have hlt' : (i : Int) < (n : Int) := by omega
      have HX := Lib.hid hx
      have HLT := Lib.hid hlt
      have HCk := Lib.hid (fun W => check_any x q1 q2 n1 k1 n2 k2 W s1.len s2.len s1.bound s2.bound)
      obtain ⟨C, hC⟩ : ∃ C, C = checkP x := ⟨_, rfl⟩
      rw [← hC] at HCk
      have HC := Lib.hid hC
      generalize strB x.word = W0 at *
      clear hx s1 s2 hlt hC
      go_wp2_with fail
      refine Calls.mono (HCk.out _) ?_
      rintro e w1 ⟨rfl, hb⟩
      obtain ⟨hb1, kp, hs1⟩ := one_of hb
      have HB1 := Lib.hid (bl HB.out hb1 HB.out.size)
      clear hb hb1 d0 d1 d2 HB kp hs1
      by_cases hz : C = 0
      · have HZ2 : Hid (∀ j d, j < i + 1 → cs[j]? = some d → checkP d = 0) := fun j d hj hd => by
          by_cases e : j = i
          · subst e; have := HX.out; rw [hd] at this; cases this; rw [← HC.out]; exact hz
          · exact HZ.out j d (by omega) hd
        subst hz
        clear HZ
        go_wp2
        go_roundw
        case rel => exact ⟨i + 1, HLT.out, by go_num, HZ2.out, HB1.out⟩
        case measure => simp [intOf]; have := HLT.out; omega
      · have HRes : Hid (R = ([], C)) := by
          have h1 := codeP_at HX.out HZ.out (by rw [← HC.out]; exact hz)
          rw [← HC.out] at h1
          have h2 := HR.out
          unfold printR at h2
          rw [h1, if_pos hz] at h2
          exact h2
        have hz' : (C != 0) = true := bne_iff_ne.2 hz
        clear hz HZ
        go_wp2
        go_ret2
        exact ⟨by rw [HRes.out]; rfl, HB1.out⟩
    · obtain rfl : i = n := by omega
      have HG : Hid (∀ x ∈ cs, GoodC x) := fun x hx => ⟨by
        obtain ⟨j, hj, e⟩ := List.getElem_of_mem hx
        exact HZ.out j x (by have := H.out.len; omega) (by rw [List.getElem?_eq_getElem hj, e]), HU.out x hx⟩
      have HL0 : Hid (longP (cs.drop 0) [] = R) := by
        have h1 : codeP cs = 0 := codeP_zero (by have := H.out.len; omega) HZ.out
        have h2 := HR.out
        unfold printR at h2
        rw [h1, if_neg (by simp)] at h2
        exact h2.symm
      clear hlt HZ
      go_wp2
      have t1 : BldI (wr.alloc (.cells #[.pointer none, .slice none 0 0] 59 (0, 0))) wr.heap.size [] := BldI.new (hnew rfl)
      have HB1 : Hid (Below w.heap.size w (wr.alloc (.cells #[.pointer none, .slice none 0 0] 59 (0, 0)))) := al HB.out HB.out.size
      obtain ⟨g, hg⟩ : ∃ g, g = wr.heap.size := ⟨_, rfl⟩
      have HGW : Hid (w.heap.size ≤ g) := by have := HB.out.size; show _ ≤ _; omega
      rw [← hg] at t1 ⊢
      have T1 := Lib.hid t1
      generalize wr.alloc (.cells #[.pointer none, .slice none 0 0] 59 (0, 0)) = w1 at *
      clear HB t1 hg
      go_loopw [9, 24] (fun _ iv wz => ∃ (j : Nat) (t : List UInt8), j ≤ i ∧ iv = .int .i64 (j : Nat) ∧ Hid (t.length ≤ 65536) ∧ Hid (BldI wz g t) ∧ Hid (longP (cs.drop j) t = R) ∧ Hid (Below w.heap.size w wz)) (fun _ iv _ => i - (intOf iv).toNat)
      case atStart => exact ⟨0, [], Nat.zero_le _, rfl, Nat.zero_le _, T1.out, HL0.out, HB1.out⟩
      case round =>
        rename World => wz
        clear T1 HL0 HB1
        obtain ⟨j, t, hj, rfl, HTl, HBd, HLp, HWz⟩ := hrel
        by_cases hlt : j < i
        · obtain ⟨x, hx⟩ : ∃ x, cs[j]? = some x := ⟨_, List.getElem?_eq_getElem (by rw [H.out.len]; exact hlt)⟩
          obtain ⟨bb, oo, q1, n1, k1, q2, n2, k2, rfl, d0, d1, d2, s1, s2⟩ := (H.out.keep HWz.out).row j x hx
          have hlt' : (j : Int) < (i : Int) := by omega
          have HLT := Lib.hid hlt
          have HLx := HLp.out
          rw [longP_at hx] at HLx
          have hn2 : x.bytes.length = n2 := s2.len
          rw [hn2] at HLx
          have HGx := Lib.hid (HG.out x (List.mem_of_getElem? hx))
          have HLin : Hid (n2 ≤ 1000000 → ∀ W, Below wz.heap.size wz W → Calls Tryd.prog 22 #[.agg #[.string (strB x.word), .slice q1 n1 k1, .slice q2 n2 k2]] W fun e w' => e = .returned (.string (strB (lineP x))) ∧ Below W.heap.size W w') := fun hb W hw => line_any x q1 q2 n1 k1 n2 k2 W HGx.out (s1.keep hw) (s2.keep hw) hb (HT.out.keep (bl HWz.out hw HWz.out.size))
          have HLl : Hid (n2 ≤ 65536 → (lineP x).length ≤ 200000) := fun h => by have := lineP_len HGx.out; omega
          have hn2b := s2.bound
          generalize strB x.word = W0 at *
          have HLX := Lib.hid HLx
          clear hx s1 s2 hlt HLp HLx hn2
          by_cases hbig : 65536 < n2
          · have hbig' : (65536 : Int) < (n2 : Int) := by omega
            have HRes : Hid (R = ([], 16)) := by have := HLX.out; rw [if_pos hbig] at this; exact this.symm
            clear hbig HLX
            go_wp2
            go_ret2
            exact ⟨by rw [HRes.out]; rfl, al HWz.out HWz.out.size⟩
          · have hsm : ¬ (65536 : Int) < (n2 : Int) := by omega
            have HLY : Hid ((if 65536 < (t ++ lineP x).length then ([], 16) else longP (cs.drop (j + 1)) (t ++ lineP x)) = R) := by have := HLX.out; rw [if_neg hbig] at this; exact this
            have hlin := Lib.hid (HLin.out (by omega))
            have hll := Lib.hid (HLl.out (by omega))
            have ba : Below wz.heap.size wz (wz.alloc (.cells #[.string W0, .slice q1 n1 k1, .slice q2 n2 k2] 37 (0, 0))) := al (Below.refl _ _) (Nat.le_refl _)
            have HBa := Lib.hid (HBd.out.keep ba)
            have HWa := Lib.hid (bl HWz.out ba HWz.out.size)
            have BA := Lib.hid ba
            clear hbig HLX HLin HLl ba
            go_wp2_with fail
            refine Calls.mono (hlin.out _ BA.out) ?_
            rintro e w2 ⟨rfl, hb⟩
            have HB2 := Lib.hid (HBa.out.keep hb)
            have HW2 := Lib.hid (bl HWa.out hb HWa.out.size)
            clear hb HBa HWa d0 d1 d2 hlin BA HBd HWz
            go_wp2_with fail
            refine Calls.mono (HB2.out.str (lineP x) (by have := hll.out; have := HTl.out; omega)) ?_
            rintro e w3 ⟨rfl, hb3, hw3⟩
            have HB3 := Lib.hid hb3
            have HW3 := Lib.hid (HW2.out.trans (hw3.mono HGW.out))
            clear hb3 hw3 HB2 HW2
            go_wp2_with fail
            refine Calls.mono HB3.out.len ?_
            rintro e w4 ⟨rfl, rfl⟩
            obtain ⟨m, hm⟩ : ∃ m, m = (t ++ lineP x).length := ⟨_, rfl⟩
            have hmb : m ≤ 300000 := by have := hll.out; have := HTl.out; rw [hm, app_len]; omega
            rw [← hm]
            have HM := Lib.hid hm
            clear hm
            by_cases hbig : 65536 < m
            · have hbig' : (65536 : Int) < (m : Int) := by omega
              have HRes : Hid (R = ([], 16)) := by have := HLY.out; rw [if_pos (by rw [← HM.out]; exact hbig)] at this; exact this.symm
              clear hbig HLY
              go_wp2
              go_ret2
              exact ⟨by rw [HRes.out]; rfl, HW3.out⟩
            · have hsm2 : ¬ (65536 : Int) < (m : Int) := by omega
              have HLZ : Hid (longP (cs.drop (j + 1)) (t ++ lineP x) = R) := by have := HLY.out; rw [if_neg (by rw [← HM.out]; exact hbig)] at this; exact this
              have HTl2 : Hid ((t ++ lineP x).length ≤ 65536) := by have := HM.out; show _ ≤ _; omega
              clear hbig HLY
              go_wp2
              go_roundw
              case rel => exact ⟨j + 1, t ++ lineP x, HLT.out, by go_num, HTl2.out, HB3.out, HLZ.out, HW3.out⟩
              case measure => simp [intOf]; have := HLT.out; omega
        · obtain rfl : j = i := by omega
          have HRes : Hid (R = (t, 0)) := by
            have := HLp.out
            rw [List.drop_eq_nil_of_le (by have := H.out.len; omega)] at this
            exact this.symm
          clear hlt HLp
          go_wp2_with fail
          refine Calls.mono HBd.out.done ?_
          rintro e w2 ⟨rfl, hb⟩
          have HW2 := Lib.hid (HWz.out.trans (hb.mono HGW.out))
          clear hb
          go_wp2
          go_ret2
          exact ⟨by rw [HRes.out]; rfl, HW2.out⟩
end Go.Proofs.YtccaiiigdfieoaaDoor
namespace Go.Proofs.YtccaiiigdfieoaaDoor
open Go.RowKit Go.By
theorem awake_parse : scriptL [98, 101, 103, 105, 110, 32, 55, 32, 50, 32, 48, 49, 48, 50, 102, 102, 10] = ([⟨[98, 101, 103, 105, 110], [7, 2], [1, 2, 255]⟩], 0, 0) := by kernel_rfl
theorem sl_u64 {W : World} {g n : Nat} {fr : Nat × Nat} (xs : List Nat) (h : W.heap[g]? = some (.cells (xs.map encU).toArray 48 fr)) (hn : xs.length = n) (hm : n ≤ maxLen) : Sl encU W (some ⟨g, 0, none⟩) n n xs := sl_block xs n h rfl hn hm
set_option maxRecDepth 100000 in
set_option maxHeartbeats 2000000 in
theorem awake26 (w : World) (hM : MaxI w) (hE : ErrI w) (hS : SynI w) : Calls Tryd.prog 6 #[] w fun e w' => e = .returned (.bool true) ∧ Below w.heap.size w w' := by
  have HP := Parse_any [98, 101, 103, 105, 110, 32, 55, 32, 50, 32, 48, 49, 48, 50, 102, 102, 10] w (by decide) hM hE hS
  rw [awake_parse] at HP
  have HPh := Lib.hid HP
  clear HP hM hE hS
  go_enter Tryd.func6, Tryd.ntmps6
  go_wp2_with fail
  refine Calls.mono HPh.out ?_
  rintro e w1 ⟨q, m, c, rfl, hc, hb⟩
  obtain rfl : 1 = m := hc.len
  obtain ⟨b, o, q1, n1, k1, q2, n2, k2, rfl, d0, d1, d2, s1, s2⟩ := hc.cmdS.row 0 _ rfl
  have HB := Lib.hid hb
  have S1 := Lib.hid s1
  have S2 := Lib.hid s2
  rw [Nat.zero_mul, Nat.add_zero] at d0 d1 d2
  have hw : ((strB [98, 101, 103, 105, 110]).toList == [98, 101, 103, 105, 110]) = true := by rw [strB_toList]; rfl
  generalize strB [98, 101, 103, 105, 110] = X at *
  clear hc hb s1 s2
  go_wp2_with fail
  have b2 : Below w1.heap.size w1 (w1.alloc (.cells #[.int .u64 7, .int .u64 2] 48 (0, 0))) := al (Below.refl _ _) (Nat.le_refl _)
  refine Calls.mono (EqU_d q1 _ n1 2 k1 2 [7, 2] _ (S1.out.keep b2) (sl_u64 [7, 2] (hnew rfl) rfl (by simp [maxLen]))) ?_
  rintro e w2 ⟨rfl, u, rfl⟩
  have HB2 : Hid (Below w1.heap.size w1 ((w1.alloc (.cells #[.int .u64 7, .int .u64 2] 48 (0, 0))).drewN u)) := bdn b2
  have d2' := (HB2.out.cell (p := ⟨b, o + 2, none⟩) (lt_of_cell d2)).trans d2
  generalize (w1.alloc (.cells #[.int .u64 7, .int .u64 2] 48 (0, 0))).drewN u = w3 at *
  clear b2 d0 d1 d2
  go_wp2_with fail
  have b2 : Below w3.heap.size w3 (w3.alloc (.cells #[.int .u8 1, .int .u8 2, .int .u8 255] 5 (0, 0))) := al (Below.refl _ _) (Nat.le_refl _)
  refine Calls.mono (SameB_q q2 _ n2 3 k2 3 [1, 2, 255] _ ((S2.out.keep HB2.out).keep b2) (sl_block [1, 2, 255] 3 (hnew rfl) rfl rfl (by simp [maxLen]))) ?_
  rintro e w4 ⟨rfl, u, rfl⟩
  have HB4 : Hid (Below w.heap.size w ((w3.alloc (.cells #[.int .u8 1, .int .u8 2, .int .u8 255] 5 (0, 0))).drewN u)) := bl HB.out (HB2.out.trans ((bdn b2).mono HB2.out.size)) HB.out.size
  clear b2
  go_wp2
  go_ret
  exact ⟨rfl, HB4.out⟩
end Go.Proofs.YtccaiiigdfieoaaDoor
namespace Go.Proofs.YtccaiiigdfieoaaDoor
open Go.RowKit Go.By
theorem bytes_short {c : Cmd} (h : checkP c = 0) : c.bytes.length ≤ (lineP c).length := by
  by_cases h0 : c.bytes = []
  · rw [h0]; exact Nat.zero_le _
  · unfold checkP at h
    cases hf : formS c.word with
    | none => rw [hf] at h; cases h
    | some f =>
      obtain ⟨k, b⟩ := f
      cases b with
      | false =>
        rw [hf] at h
        simp only at h
        rw [if_pos (.inr ⟨trivial, h0⟩)] at h
        cases h
      | true =>
        rw [lineP_long hf]
        have e : bytesW c.bytes = hexL c.bytes := by unfold bytesW; rw [if_neg h0]
        rw [e]
        have := hexL_len2 c.bytes
        simp only [List.length_append]
        omega
theorem line_short : ∀ {cs : List Cmd} {c : Cmd}, c ∈ cs → (lineP c).length ≤ (printP cs).length
  | d :: cs, c, h => by
    rw [printP_cons, List.length_append]
    rcases List.mem_cons.1 h with rfl | h
    · omega
    · have := line_short h; omega
theorem printR_good {cs : List Cmd} (h : ∀ c ∈ cs, GoodC c) (hl : (printP cs).length ≤ 65536) : printR cs = (printP cs, 0) := by
  unfold printR
  rw [codeP_of_good (fun c hc => (h c hc).1), if_neg (by simp), longP_print (fun c hc => by
    have h1 := bytes_short (h c hc).1
    have h2 := line_short hc
    omega) (by simpa using hl)]
  simp
set_option maxRecDepth 100000 in
set_option maxHeartbeats 4000000 in
theorem ScriptParses_any (s : ByteArray) (w : World) (ws : s.size ≤ maxLen) (hTE : Tab10 w ∧ ErrI w ∧ SynI w) (hM : MaxI w) :
    Calls Tryd.prog 3 #[.string s] w fun e w' => e = .returned (.bool true) ∧ Below w.heap.size w w' := by
  obtain ⟨hT, hE, hS⟩ := hTE
  obtain ⟨l, hl⟩ : ∃ l, s = strB l := ⟨_, strB_of s⟩
  obtain ⟨n, hn⟩ : ∃ n, n = s.size := ⟨_, rfl⟩
  have hsz : s.size = n := hn.symm
  have hnl : n = l.length := by rw [hn, hl, strB_size]
  have hmx : (n : Int) ≤ 9223372036854775807 := by have : maxLen = 9223372036854775807 := rfl; omega
  have HAw := Lib.hid (awake26 w hM hE hS)
  clear ws hn
  by_cases h3 : (3000 : Int) < (n : Int)
  · clear hl hnl hE hM hT hS
    go_enter Tryd.func3, Tryd.ntmps3
    go_wp2_with fail
    refine Calls.mono HAw.out ?_
    rintro e w1 ⟨rfl, hb⟩
    have HB := Lib.hid hb
    clear hb
    go_wp2
    go_ret
    exact ⟨rfl, HB.out⟩
  · have hl3 : l.length ≤ 3000 := by omega
    have HP : Hid (∀ W, Below w.heap.size w W → Calls Tryd.prog 7 #[.string s] W (PrsR 37 W (scriptL l))) := fun W hb => by rw [hl]; exact Parse_any l W (by omega) (hM.keep hb) (hE.keep hb) (hS.keep hb)
    have HR : Hid (∀ W, Calls Tryd.prog 8 #[.string s] W (PrsR 40 W (scriptL l))) := fun W => by rw [hl]; exact RParse26_any l W (by omega)
    have HG : Hid ((scriptL l).2.2 = 0 → printR (scriptL l).1 = (l, 0) ∧ ∀ c ∈ (scriptL l).1, GoodC c) := fun h => by
      have e : scriptL l = scriptP l := if_neg (by omega)
      rw [e] at h ⊢
      obtain ⟨h1, h2, h3⟩ := script_good (s := l) (cs := (scriptP l).1) (m := (scriptP l).2.1) (by rw [← h])
      refine ⟨?_, h3⟩
      rw [printR_good h3 (by rw [h1]; omega), h1]
    have HT := Lib.hid hT
    have heq : (s.toList == s.toList) = true := by simp
    have HLS : Hid (strB l = s) := hl.symm
    generalize hRR : scriptL l = R at *
    clear hRR hl3 hnl hl hE hM hS hT
    go_enter Tryd.func3, Tryd.ntmps3
    go_wp2_with fail
    refine Calls.mono HAw.out ?_
    rintro e w1 ⟨rfl, hb⟩
    have HB1 := Lib.hid hb
    clear hb
    go_wp2_with fail
    refine Calls.mono (HP.out w1 HB1.out) ?_
    rintro e w2 ⟨q, m, c, rfl, hc, hb⟩
    have HB2 := Lib.hid (bl HB1.out hb HB1.out.size)
    have HC2 := Lib.hid hc.cmdS
    clear hb hc HB1
    go_wp2_with fail
    refine Calls.mono (HR.out w2) ?_
    rintro e w3 ⟨q', m', c', rfl, hc, hb⟩
    have HB3 := Lib.hid (bl HB2.out hb HB2.out.size)
    have HC3 := Lib.hid (HC2.out.keep hb)
    have HD3 := Lib.hid hc.cmdS
    have hi1 : ((R.2.1 : Int) != (R.2.1 : Int)) = false := by simp
    have hi2 : (R.2.2 != R.2.2) = false := by simp
    clear hb hc HB2 HC2
    obtain ⟨cs, at_, code⟩ := R
    simp only at *
    go_wp2_with fail
    refine Calls.mono (Same26_yes q q' m m' c c' cs w3 HC3.out HD3.out) ?_
    rintro e w4 ⟨rfl, u, rfl⟩
    have HB4 : Hid (Below w.heap.size w (w3.drewN u)) := bdn HB3.out
    have HC4 : Hid (CmdS (w3.drewN u) q m c cs) := HC3.out.keep (below_drewN _ _)
    generalize w3.drewN u = w4 at *
    clear HB3 HC3 HD3
    by_cases hz : code = 0
    · subst hz
      obtain ⟨hp, hg⟩ := HG.out rfl
      have HPr := Lib.hid (Print_any q m c cs w4 HC4.out (fun x hx => (hg x hx).2) (HT.out.keep HB4.out))
      rw [hp] at HPr
      clear hp hg HG
      go_wp2_with fail
      refine Calls.mono HPr.out ?_
      rintro e w5 ⟨rfl, hb⟩
      have HB5 := Lib.hid (bl HB4.out hb HB4.out.size)
      clear hb
      simp only
      rw [HLS.out]
      go_wp2
      go_ret
      exact ⟨rfl, HB5.out⟩
    · have hz' : (code != 0) = true := bne_iff_ne.2 hz
      clear hz HG
      go_wp2
      go_ret
      exact ⟨rfl, HB4.out⟩
end Go.Proofs.YtccaiiigdfieoaaDoor
namespace Go.By
open Go.RowKit
end Go.By
namespace Go.By
open Go.RowKit
end Go.By
namespace Go.Proofs.YtccaiiigdfieoaaDoor
open Go.RowKit Go.By
theorem tab10_of {d32 d64 : DataW Unit} {rest : List (String × DataW Unit)} {W : World} (h : laidMet Tryd.prog (("math/bits.deBruijn32tab", d32) :: ("math/bits.deBruijn64tab", d64) :: ("internal/strconv.uint64pow10", Rows.laid_internal_strconv_uint64pow10) :: rest) W) : Tab10 W := by
  have hz : (Rows.laid_internal_strconv_uint64pow10 : DataW Unit) = Lib.tabData .u64 Lib.pow10Tab := rfl
  have h2 := laidMet.tail (laidMet.tail h)
  rw [hz] at h2
  exact Lib.tabIs_of_head (g := 1) (t := 120) (e := 48) (n := 20) (by kernel_rfl) (by kernel_rfl) (by kernel_rfl) (by kernel_rfl) (by kernel_rfl) (by kernel_rfl) h2
end Go.Proofs.YtccaiiigdfieoaaDoor
namespace Go.By
open Go.RowKit
/-- the wrap of a row with a condition of its own, that hands on the world's shape too -/
theorem handed_shaped_and {H : Type} {enc : TypeId × Value → H} {a : Assume} {C : Checked} {os : Os} {f : FuncId} {fn : Func} {s : ChangeSpec} {conds : List PathCond} {apart fresh handsOn again : Bool} {X : World → Array Value → Prop}
    (hX : ∀ (w w' : World) (args : Array Value), w.heap = w'.heap → X w args → X w' args)
    (own : ownKnob C.prog.godebug = none) (started : os.Started) (noInit : C.prog.inits.idxOf? f = none) (hfn : C.prog.funcs[f]? = some fn)
    (witness : ∃ (w : World) (tape : Tape) (i : Input), w.os = os ∧ (w.forCall tape i).Shaped C.prog ∧ i.vars = [] ∧ Input.okWide C.prog (w.forCall tape i) .any w.heap.size f i ∧
      ((s.pre enc C.prog fn conds apart (w.forCall tape i).memory i.args ∧ X (w.forCall tape i).memory i.args) ∧ sizedMet enc C.prog fn (OpenSpec.ofChange s) apart (w.forCall tape i).memory i.args) ∧ a.holds C.prog (lone (Frame.enter C.prog f i.args .normal) [] (w.forCall tape i)))
    (contract : ∀ (W : World) (base : Nat) (args : Array Value) (ds gs : List (DataW H)) (before : List MemPlace),
      (∀ (j : Nat) t v, fn.params[j]? = some t → args[j]? = some v → Value.okWide C.prog W .any base t v) →
      DataW.Whole enc C.prog fn.params.toList s.vars apart W args.toList ds gs before →
      conds.all (PathCond.test C.prog ⟨fn.params.toList, ds, s.plain.varTypes C.prog, gs⟩) = true →
      (DataW.weightsEach C.prog (fn.params.toList ++ s.plain.varTypes C.prog) (ds ++ gs)).all (· ≤ reachBytes) = true → X W args → W.ShapedOpen C.prog →
      a.holds C.prog (lone (Frame.enter C.prog f args .normal) [] W) →
      Calls C.prog f args W fun e W' => ∃ v, e = .returned v ∧ s.post enc C.prog fn apart fresh handsOn again W args v W') :
    ReturnsInHanded a C os f .any (fun w args => (s.pre enc C.prog fn conds apart w args ∧ X w args) ∧ sizedMet enc C.prog fn (OpenSpec.ofChange s) apart w args) (s.post enc C.prog fn apart fresh handsOn again) :=
  returnsInHanded_of_calls own started noInit witness (fun w tape i _ shape _ ok before holds => by
    have value := ok.2.2.2
    obtain ⟨fn2, h2, _, _, _, _, value⟩ := value
    cases hfn.symm.trans h2
    obtain ⟨⟨⟨ds, gs, places, whole, conds⟩, x⟩, sized⟩ := before
    exact (contract _ w.heap.size i.args ds gs places value (DataW.Whole.of_heap (w := (w.forCall tape i).memory) (w' := w.forCall tape i) rfl whole) conds (sized.weights whole) (hX (w.forCall tape i).memory (w.forCall tape i) _ rfl x) shape holds).mono (fun e W' h => by
      obtain ⟨v, e1, post⟩ := h
      cases e1
      exact ChangeSpec.post_blind post))
end Go.By
namespace Go.Proofs.YtccaiiigdfieoaaDoor
open Go.RowKit Go.By
theorem maxI_of {W : World} (h : W.ShapedOpen Tryd.prog) : MaxI W :=
  Go.Proofs.cell_of_shapedOpen_int (zero := #[.int .i64 0]) (t := 3) h (of_decide_eq_true (by kernel_rfl)) (by kernel_rfl) rfl (by kernel_rfl) (by kernel_rfl) Tryd.underlying3
theorem row_errS (u : TypeId) (h : Tryd.prog.typeName? 3 u = some "*errors.errorString") : u = 133 :=
  typeName_ptr_named (nm := "errors.errorString") (by rw [show "*" ++ "errors.errorString" = "*errors.errorString" by decide]; kernel_rfl) (by kernel_rfl) (by decide) u (by rw [show "*" ++ "errors.errorString" = "*errors.errorString" by decide]; exact h)
theorem errI_of {a b c d : String × DataW Unit} {rest : List (String × DataW Unit)} {W : World} (h : laidMet Tryd.prog (a :: b :: c :: d :: ("strconv.ErrRange", Rows.laid_strconv_ErrRange) :: rest) W) : ErrI W := by
  have h2 := laidMet.tail (laidMet.tail (laidMet.tail (laidMet.tail h)))
  obtain ⟨p, s, hv, _⟩ := laid_sentinel (g := 3) (ti := 61) (tp := 133) (te := 135) (ts := 9) h2 (by kernel_rfl) (by kernel_rfl) Tryd.underlying61 row_errS Tryd.underlying133 Tryd.underlying135 rfl rfl Tryd.underlying9 (by kernel_rfl) (by kernel_rfl)
  exact ⟨_, World.var?_cell (by kernel_rfl) hv 0, .inr ⟨_, _, rfl⟩⟩
end Go.Proofs.YtccaiiigdfieoaaDoor
namespace Go.Proofs.YtccaiiigdfieoaaDoor
open Go.RowKit Go.By
theorem synI_of {a b c d f : String × DataW Unit} {rest : List (String × DataW Unit)} {W : World} (h : laidMet Tryd.prog (a :: b :: c :: d :: f :: ("strconv.ErrSyntax", Rows.laid_strconv_ErrSyntax) :: rest) W) : SynI W := by
  have h2 := laidMet.tail (laidMet.tail (laidMet.tail (laidMet.tail (laidMet.tail h))))
  obtain ⟨p, s, hv, _⟩ := laid_sentinel (g := 2) (ti := 61) (tp := 133) (te := 135) (ts := 9) h2 (by kernel_rfl) (by kernel_rfl) Tryd.underlying61 row_errS Tryd.underlying133 Tryd.underlying135 rfl rfl Tryd.underlying9 (by kernel_rfl) (by kernel_rfl)
  exact ⟨_, World.var?_cell (by kernel_rfl) hv 0, .inr ⟨_, _, rfl⟩⟩
theorem scr_of {d32 d64 : DataW Unit} {d : String × DataW Unit} {rest : List (String × DataW Unit)} {W : World} (h : laidMet Tryd.prog (("math/bits.deBruijn32tab", d32) :: ("math/bits.deBruijn64tab", d64) :: ("internal/strconv.uint64pow10", Rows.laid_internal_strconv_uint64pow10) :: d :: ("strconv.ErrRange", Rows.laid_strconv_ErrRange) :: ("strconv.ErrSyntax", Rows.laid_strconv_ErrSyntax) :: rest) W) : Tab10 W ∧ ErrI W ∧ SynI W := ⟨tab10_of h, errI_of h, synI_of h⟩
end Go.Proofs.YtccaiiigdfieoaaDoor
