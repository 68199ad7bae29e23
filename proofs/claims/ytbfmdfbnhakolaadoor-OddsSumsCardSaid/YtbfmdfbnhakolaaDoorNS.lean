/- The reference's numbers: Trim, Text. -/
import Derived.Test.YtbfmdfbnhakolaaDoorNR
import Derived.Laws.Concat
namespace Go.By
open Go.RowKit
theorem strB_append (a b : List UInt8) : strB a ++ strB b = strB (a ++ b) := by
  rw [strB_of (strB a ++ strB b)]
  congr 1
/-- bytes that read as a list, where they were, or a part of them -/
def RetTr (w : World) (xs : List UInt8) (e : Ending) (w' : World) : Prop := ∃ q n c, e = .returned (.slice q n c) ∧ Sl B8 w q n c xs ∧ w = w'
theorem nibs_snoc : ∀ (ys : List Nat) (y : Nat), nibs (ys ++ [y]) = nibs ys ++ [y % 16, y / 16]
  | [], y => rfl
  | z :: zs, y => by show z % 16 :: z / 16 :: nibs (zs ++ [y]) = _; rw [nibs_snoc zs y]; rfl
/-- the letters of bytes, the highest first -/
def nibT (xs : List UInt8) : List UInt8 := (nibs (xs.map UInt8.toNat)).reverse.map hexc
theorem nibT_take {xs : List UInt8} {k : Nat} {x : UInt8} (h : xs[k]? = some x) : nibT (xs.take (k + 1)) = hexc (x.toNat / 16) :: hexc (x.toNat % 16) :: nibT (xs.take k) := by
  unfold nibT
  rw [List.take_add_one, h, List.map_append, show List.map UInt8.toNat (some x).toList = [x.toNat] from rfl, nibs_snoc, List.reverse_append, List.map_append]; rfl
theorem nibs_len : ∀ (ys : List Nat), (nibs ys).length = 2 * ys.length
  | [] => rfl
  | z :: zs => by show (nibs zs).length + 1 + 1 = 2 * (zs.length + 1); rw [nibs_len zs]; omega
theorem nibT_len (xs : List UInt8) : (nibT xs).length = 2 * xs.length := by unfold nibT; rw [List.length_map, List.length_reverse, nibs_len, List.length_map]
theorem nibT_text (xs : List UInt8) : (if strip0 (nibT xs) = [] then [48] else strip0 (nibT xs)) = hexText (valB xs) := by
  have := strip_hex (xs := nibs (xs.map UInt8.toNat)) (nibs_lt (bytes_lt xs))
  rw [valD_nibs] at this
  exact this
theorem hexc_lo {d : Nat} (h : d < 10) : (hexc d).toNat = 48 + d := by
  have : ∀ d : Fin 10, (hexc d.val).toNat = 48 + d.val := by decide
  exact this ⟨d, h⟩
theorem hexc_hi {d : Nat} (h : 10 ≤ d) (h2 : d < 16) : (hexc d).toNat = 87 + d := by
  have : ∀ d : Fin 16, 10 ≤ d.val → (hexc d.val).toNat = 87 + d.val := by decide
  exact this ⟨d, h2⟩ h
theorem strip0_step {c : UInt8} {r : List UInt8} (h : r ≠ []) (hc : c = 48) : strip0 (c :: r) = strip0 r := by
  cases r with
  | nil => exact absurd rfl h
  | cons y l => show (if c = 48 then strip0 (y :: l) else _) = _; rw [if_pos hc]
theorem strip0_stop {l : List UInt8} (h : l = [] ∨ (∃ c, l = [c]) ∨ ∃ c r, l = c :: r ∧ c ≠ 48) : strip0 l = l := by
  rcases h with rfl | ⟨c, rfl⟩ | ⟨c, r, rfl, h⟩
  · rfl
  · rfl
  · exact strip0_head h
end Go.By
namespace Go.Proofs.YtbfmdfbnhakolaaDoor
open Go.RowKit Go.By
set_option maxRecDepth 100000 in
set_option maxHeartbeats 1000000 in
theorem Trim_ref (q : Option Addr) (n c : Nat) (xs : List UInt8) (w : World) (h : Sl B8 w q n c xs) :
    Calls Tryd.prog 49 #[.slice q n c] w (RetTr w (bytesN (valB xs))) := by
  have hn := h.bound
  have hnc := h.le
  have H := Lib.hid h; clear h
  go_enter Tryd.func49, Tryd.ntmps49
  go_wp2
  go_loop [0] (fun v => ∃ k : Nat, k ≤ n ∧ v = .slice q k c ∧ Hid (valB (xs.take k) = valB xs)) (fun v => match v with | .slice _ k _ => k | _ => 0)
  case atStart => exact ⟨n, Nat.le_refl _, rfl, by show valB (xs.take n) = valB xs; rw [← H.out.len, List.take_length]⟩
  case round =>
    obtain ⟨k, hk, rfl, hr⟩ := hrel
    by_cases hk0 : k = 0
    · subst hk0
      have HE : Hid (Sl B8 w q 0 c (bytesN (valB xs))) := by
        have h1 := H.out.front (k := 0) (Nat.zero_le _)
        have h2 := hr.out
        rw [List.take_zero] at h1 h2
        rw [← h2, show valB [] = 0 from rfl, bytesN_zero]; exact h1
      go_wp2
      go_ret
      exact ⟨_, _, _, rfl, HE.out, rfl⟩
    · obtain ⟨j, rfl⟩ : ∃ j, k = j + 1 := ⟨k - 1, by omega⟩
      obtain ⟨b, o, x, rfl, hc, hx⟩ := H.out.at j (by omega)
      by_cases hx0 : x.toNat = 0
      · have HV : Hid (valB (xs.take j) = valB xs) := (valB_take_zero hx.out hx0).symm.trans hr.out
        rw [show B8 x = .int .u8 0 by show Value.int .u8 (x.toNat : Int) = _; rw [hx0]; rfl] at hc
        have hjc : j ≤ c := by omega
        clear hx0 hk0
        go_wp2
        go_round
        case rel => exact ⟨j, by omega, rfl, HV⟩
        case measure => simp
      · have HE : Hid (Sl B8 w (some ⟨b, o, none⟩) (j + 1) c (bytesN (valB xs))) := by
          have h1 := H.out.front hk
          rw [← hr.out, bytesN_take hx.out hx0]; exact h1
        have hx1 : ((x.toNat : Int) == 0) = false := by simpa using hx0
        clear hx0 hk0
        go_wp2
        go_ret
        exact ⟨_, _, _, rfl, HE.out, rfl⟩
set_option maxRecDepth 100000 in
set_option maxHeartbeats 4000000 in
theorem Text_ref (q : Option Addr) (n c : Nat) (xs : List UInt8) (w : World) (h : Sl B8 w q n c xs) (hn : n ≤ 1000000) :
    Calls Tryd.prog 48 #[.slice q n c] w fun e w' => e = .returned (.string (strB (hexText (valB xs)))) ∧ Below w.heap.size w w' := by
  have H := Lib.hid h; clear h
  have hcv : ∀ (W : World) (z : UInt8), (convert 24 9 (.slice (some ⟨W.heap.size, 0, none⟩) 1 1)).run Tryd.prog (W.alloc (.cells #[B8 z] 5)) = .ok (.string (strB [z])) (W.alloc (.cells #[B8 z] 5)) := fun W z =>
    run_convert_bytes_back _ 24 9 5 ⟨W.heap.size, 0, none⟩ 1 [z] Tryd.underlying24 Tryd.underlying5 Tryd.underlying9 (fun t ht => by
      have : t = 0 := by simp at ht; exact ht
      subst this
      rw [Addr.add_lit, cell_of_row _ _ _ _ _ _ (hnew rfl)]; rfl)
  go_enter Tryd.func48, Tryd.ntmps48
  go_wp2
  go_loopw [3, 4] (fun sv iv wr => ∃ (k : Nat) (L : List UInt8), k ≤ n ∧ iv = .int .i64 k ∧ sv = .string (strB L) ∧ Hid (L = nibT (xs.take k)) ∧ Hid (Below w.heap.size w wr)) (fun _ iv _ => n - (intOf iv).toNat)
  case atStart => exact ⟨0, [], Nat.zero_le _, rfl, rfl, rfl, Below.refl _ _⟩
  case round =>
    obtain ⟨k, L, hk, rfl, rfl, hL, hB⟩ := hrel
    by_cases hlt : k < n
    · obtain ⟨b, o, x, rfl, hc, hx⟩ := H.out.at k hlt
      have HC := Lib.hid hc
      have hLl : Hid (L.length ≤ 2000000) := by show _ ≤ _; rw [hL.out, nibT_len, List.length_take]; omega
      have hx256 := x.toNat_lt
      have hlt' : (k : Int) < (n : Int) := by omega
      obtain ⟨wo, hwo⟩ : ∃ wo : World, wo = wr := ⟨_, rfl⟩
      have HBo : Hid (Below w.heap.size w wr) := hB.out
      clear hc hlt hB
      go_wp2
      go_loopw [3, 5] (fun sv jv wr => ∃ (j : Nat) (M : List UInt8), j ≤ 2 ∧ jv = .int .i64 j ∧ sv = .string (strB M) ∧ Hid (M = ([hexc (x.toNat / 16), hexc (x.toNat % 16)].drop (2 - j)) ++ L) ∧ Hid (Below w.heap.size w wr)) (fun _ jv _ => 2 - (intOf jv).toNat)
      case atStart => exact ⟨0, L, by omega, rfl, rfl, rfl, HBo.out⟩
      case round =>
        obtain ⟨j, M, hj, rfl, rfl, hM, hB⟩ := hrel
        have cX := (hB.out.cell (p := ⟨b, o + k, none⟩) (lt_of_cell HC.out)).trans HC.out
        have hMl : M.length ≤ 3000000 := by
          rw [hM.out, List.length_append, List.length_drop]
          have := hLl.out
          simp; omega
        have hadd : ∀ (z : UInt8) (W : World), (Op.stringOp .add (strB [z]) (strB M)).run Tryd.prog W = .ok (.string (strB (z :: M))) W := fun z W => by
          rw [run_string_add_sum W _ _ (by rw [strB_size, strB_size]; simp; omega), strB_append]; rfl
        have hBA : Hid (∀ o, Below w.heap.size w (wr.alloc o)) := fun o => al hB.out hB.out.size
        obtain rfl | rfl | rfl : j = 0 ∨ j = 1 ∨ j = 2 := by omega
        · obtain ⟨d, hd⟩ : ∃ d, d = x.toNat % 16 := ⟨_, rfl⟩
          have hdi : (x.toNat : Int) % 16 = (d : Int) := by omega
          have HM : Hid (hexc d :: M = ([hexc (x.toNat / 16), hexc (x.toNat % 16)].drop (2 - 1)) ++ L) := by show _ = _; rw [hM.out, hd]; rfl
          have hd16 : d < 16 := by omega
          clear hM hB hMl hd
          by_cases h10 : d < 10
          · have hv : (48 : Int) + (d : Int) = ((hexc d).toNat : Int) := by rw [hexc_lo h10]; omega
            have h10' : (d : Int) < 10 := by omega
            clear h10
            go_wp2_with (first | simp only [hv, hcv] | simp only [hadd])
            go_roundw
            case rel => exact ⟨1, hexc d :: M, by omega, rfl, rfl, HM.out, hBA.out _⟩
            case measure => simp [intOf]
          · have hv : (97 : Int) + (d : Int) - 10 = ((hexc d).toNat : Int) := by rw [hexc_hi (by omega) hd16]; omega
            have h10' : ¬ (d : Int) < 10 := by omega
            clear h10
            go_wp2_with (first | simp only [hv, hcv] | simp only [hadd])
            go_roundw
            case rel => exact ⟨1, hexc d :: M, by omega, rfl, rfl, HM.out, hBA.out _⟩
            case measure => simp [intOf]
        · obtain ⟨d, hd⟩ : ∃ d, d = x.toNat / 16 := ⟨_, rfl⟩
          have hdi : (x.toNat : Int) / 16 = (d : Int) := by omega
          have HM : Hid (hexc d :: M = ([hexc (x.toNat / 16), hexc (x.toNat % 16)].drop (2 - 2)) ++ L) := by show _ = _; rw [hM.out, hd]; rfl
          have hd16 : d < 16 := by omega
          clear hM hB hMl hd
          by_cases h10 : d < 10
          · have hv : (48 : Int) + (d : Int) = ((hexc d).toNat : Int) := by rw [hexc_lo h10]; omega
            have h10' : (d : Int) < 10 := by omega
            clear h10
            go_wp2_with (first | simp only [hv, hcv] | simp only [hadd])
            go_roundw
            case rel => exact ⟨2, hexc d :: M, by omega, rfl, rfl, HM.out, hBA.out _⟩
            case measure => simp [intOf]
          · have hv : (97 : Int) + (d : Int) - 10 = ((hexc d).toNat : Int) := by rw [hexc_hi (by omega) hd16]; omega
            have h10' : ¬ (d : Int) < 10 := by omega
            clear h10
            go_wp2_with (first | simp only [hv, hcv] | simp only [hadd])
            go_roundw
            case rel => exact ⟨2, hexc d :: M, by omega, rfl, rfl, HM.out, hBA.out _⟩
            case measure => simp [intOf]
        · have HM : Hid (M = nibT (xs.take (k + 1))) := by
            show _ = _
            rw [hM.out, nibT_take hx.out, hL.out]; rfl
          have HB2 := Lib.hid hB.out
          clear hM hB hMl hadd
          go_wp2
          go_roundw
          case rel => exact ⟨k + 1, M, by omega, by go_num, rfl, HM.out, HB2.out⟩
          case measure => simp [intOf]; omega
    · obtain rfl : k = n := by omega
      have HL : Hid (L = nibT xs) := by
        have := hL.out
        rw [List.take_of_length_le (by have := H.out.len; omega)] at this
        exact this
      have HLl : Hid (L.length ≤ 2000000) := by show _ ≤ _; rw [hL.out, nibT_len, List.length_take]; omega
      have HB2 := Lib.hid hB.out
      clear hlt hL hB hcv
      obtain ⟨wo, hwo⟩ : ∃ wo : World, wo = wr := ⟨_, rfl⟩
      go_wp2
      go_loop [3] (fun v => ∃ M : List UInt8, v = .string (strB M) ∧ Hid (strip0 M = strip0 (nibT xs) ∧ M.length ≤ 2000000)) (fun v => match v with | .string s => s.size | _ => 0)
      case atStart => exact ⟨L, rfl, by rw [HL.out], HLl.out⟩
      case round =>
        obtain ⟨M, rfl, hM⟩ := hrel
        have hne := empty_strB (l := M)
        have hsz := strB_size M
        match M, hM with
        | [], hM =>
          have hE : Hid (hexText (valB xs) = [48]) := by
            show _ = _
            rw [← nibT_text, ← hM.out.1]; rfl
          have hsz' : (strB []).size = 0 := hsz
          have hne' : (strB []).toList.isEmpty = true := hne
          obtain ⟨S, hS⟩ : ∃ S, S = strB [] := ⟨_, rfl⟩
          rw [← hS] at hsz' hne' ⊢
          clear hne hsz hS
          go_wp2
          go_ret
          exact ⟨by rw [hE.out]; rfl, HB2.out⟩
        | [z], hM =>
          have hE : Hid (strB (hexText (valB xs)) = strB [z]) := by
            show _ = _
            rw [← nibT_text, ← hM.out.1]; rfl
          have hsz' : (strB [z]).size = 1 := hsz
          have hne' : (strB [z]).toList.isEmpty = false := hne
          obtain ⟨S, hS⟩ : ∃ S, S = strB [z] := ⟨_, rfl⟩
          rw [← hS] at hsz' hne' hE ⊢
          clear hne hsz hS
          go_wp2
          go_ret
          exact ⟨by rw [hE.out]; rfl, HB2.out⟩
        | z :: y :: r, hM =>
          have hix : ∀ w, (Instr.index 9 (.string (strB (z :: y :: r))) (.int .i64 0)).run Tryd.prog w = .ok (B8 z) w := fun w => idx_strB _ Tryd.underlying9 (k := 0) rfl _ _ rfl w
          have hlen : (1 : Int) < ((z :: y :: r).length : Nat) := by simp; omega
          have hne' : (strB (z :: y :: r)).toList.isEmpty = false := hne
          have hex : (strB (z :: y :: r)).extract 1 (strB (z :: y :: r)).size = strB (y :: r) := by
            rw [extract_strB, strB_size, List.take_length]; rfl
          obtain ⟨m, hm⟩ : ∃ m, (z :: y :: r).length = m := ⟨_, rfl⟩
          have hmm : Hid (m = (y :: r).length + 1 ∧ m ≤ 2000000) := ⟨by rw [← hm]; rfl, by rw [← hm]; exact hM.out.2⟩
          rw [hm] at hsz hlen
          by_cases hz : z = 48
          · have HM : Hid (strip0 (y :: r) = strip0 (nibT xs) ∧ (y :: r).length ≤ 2000000) := ⟨by rw [← hM.out.1, strip0_step (by simp) hz], by have := hmm.out; omega⟩
            rw [show B8 z = .int .u8 48 by rw [hz]; rfl] at hix
            have hsz2 := strB_size (y :: r)
            have HS2 := Lib.hid hsz2
            have HSZ := Lib.hid hsz
            clear hM hz hm hne
            obtain ⟨S, hS⟩ : ∃ S, S = strB (z :: y :: r) := ⟨_, rfl⟩
            rw [← hS] at hix hsz hne' hex HSZ ⊢
            obtain ⟨S2, hS2⟩ : ∃ S2, S2 = strB (y :: r) := ⟨_, rfl⟩
            rw [← hS2] at hex hsz2 HS2
            have HS := Lib.hid hS2
            clear hS hS2 hsz2
            have hexm : S.extract 1 m = S2 := by rw [← HSZ.out]; exact hex
            have HEX := Lib.hid hexm
            clear hexm hex
            go_wp2_with (simp only [hix])
            exact ⟨⟨y :: r, by rw [HEX.out, HS.out], HM.out⟩, by show (S.extract 1 m).size < S.size; rw [HEX.out, HS2.out, HSZ.out]; have := hmm.out; omega⟩
          · have hE : Hid (strB (hexText (valB xs)) = strB (z :: y :: r)) := by
              show _ = _
              rw [← nibT_text, ← hM.out.1, strip0_head hz, if_neg (by simp)]
            have hz1 : ((z.toNat : Int) == 48) = false := by
              have : z.toNat ≠ 48 := fun e => hz (UInt8.toNat_inj.1 (by simpa using e))
              rw [beq_eq_false_iff_ne]; omega
            obtain ⟨S, hS⟩ : ∃ S, S = strB (z :: y :: r) := ⟨_, rfl⟩
            rw [← hS] at hix hsz hne' hE ⊢
            clear hM hz hm hne hex hS
            go_wp2_with (simp only [hix])
            go_ret
            exact ⟨by rw [hE.out]; rfl, HB2.out⟩
end Go.Proofs.YtbfmdfbnhakolaaDoor
