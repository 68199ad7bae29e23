/- The reference's numbers: Of, Cmp. -/
import Derived.Test.YtmcehghbcjhkdaaDoorNT
namespace Go.By
open Go.RowKit
theorem bytesN_step {u : Nat} (h : 0 < u) : bytesN u = UInt8.ofNat (u % 256) :: bytesN (u / 256) := by
  unfold bytesN
  rw [digs_pos (by decide) h]; rfl
theorem valB_shorter {xs ys : List UInt8} (h : ys.getLast? ≠ some 0) (hl : xs.length < ys.length) : valB xs < valB ys :=
  val_len (by decide) (bytes_lt xs) (by
    rw [List.getLast?_map]
    cases e : ys.getLast? with
    | none => simp
    | some x =>
      intro hx
      have : x.toNat = 0 := by simpa using hx
      have : x = 0 := UInt8.toNat_inj.1 (by simpa using this)
      exact h (by rw [e, this])) (by simpa using hl)
theorem valB_top {xs ys : List UInt8} {j : Nat} {x y : UInt8} (hl : xs.length = ys.length) (hx : xs[j]? = some x) (hy : ys[j]? = some y) (hs : xs.drop (j + 1) = ys.drop (j + 1)) (h : x.toNat < y.toNat) : valB xs < valB ys := by
  have hj := (List.getElem?_eq_some_iff.1 hx).1
  have hj' := (List.getElem?_eq_some_iff.1 hy).1
  have e1 : xs = xs.take j ++ x :: xs.drop (j + 1) := by rw [← drop_cons hx, List.take_append_drop]
  have e2 : ys = ys.take j ++ y :: xs.drop (j + 1) := by rw [hs, ← drop_cons hy, List.take_append_drop]
  rw [e1, e2]
  unfold valB
  rw [List.map_append, List.map_append, List.map_cons, List.map_cons]
  refine val_top (by decide) (fun a ha => ?_) (by simp; omega) h
  exact bytes_lt (xs.take j) a ha
/-- bytes in new memory -/
def RetBs (T : TypeId) (w : World) (xs : List UInt8) (e : Ending) (w' : World) : Prop := ∃ q n c, e = .returned (.slice q n c) ∧ w'.ownsRow w.heap.size T 1 (.slice q n c) n (xs.map B8) ∧ Below w.heap.size w w'
end Go.By
namespace Go.Proofs.YtmcehghbcjhkdaaDoor
open Go.RowKit Go.By
theorem info_u8 : (Tryd.prog.info? 5).map (fun i => (i.zero, i.size, i.bytes)) = some (some (.int .u8 0), 1, 1) := by kernel_rfl
set_option maxRecDepth 100000 in
set_option maxHeartbeats 1000000 in
theorem Of_ref (x : UInt64) (w : World) : Calls Tryd.prog 19 #[W64 x] w (RetBs 5 w (bytesN x.toNat)) := by
  obtain ⟨i0, hi, hz0, hz1, hz2⟩ := info_parts info_u8
  go_enter Tryd.func19, Tryd.ntmps19
  go_wp2
  go_loopw [0, 3] (fun uv ov wr => ∃ (u k : Nat) (q : Option Addr) (c : Nat) (O : List UInt8), uv = .int .u64 u ∧ u < 18446744073709551616 ∧ ov = .slice q k c ∧ k ≤ 1000 ∧ Hid (u < 256 ^ (8 - k) ∧ k ≤ 8) ∧ Hid (wr.ownsRow w.heap.size 5 1 (.slice q k c) k (O.map B8)) ∧ Hid (bytesN x.toNat = O ++ bytesN u) ∧ Hid (Below w.heap.size w wr)) (fun uv _ _ => (intOf uv).toNat)
  case atStart => exact ⟨x.toNat, 0, none, 0, [], rfl, x.toNat_lt, rfl, by omega, ⟨by have := x.toNat_lt; simpa using this, by omega⟩, World.ownsRow_nil _ _ _ _, rfl, Below.refl _ _⟩
  case round =>
    obtain ⟨u, k, q, c, O, rfl, hu, rfl, hk, hk8, hO, hV, hB⟩ := hrel
    by_cases hu0 : u = 0
    · subst hu0
      have hV2 := hV.out
      rw [bytesN_zero, List.append_nil] at hV2
      rw [← hV2] at hO
      have HO := Lib.hid hO.out; have HB := Lib.hid hB.out
      clear hO hV hB hV2
      go_wp2
      go_ret
      exact ⟨_, _, _, rfl, HO.out, HB.out⟩
    · have hup : (0 : Int) < (u : Int) := by omega
      have hk7 : Hid (u / 256 < 256 ^ (8 - (k + 1)) ∧ k + 1 ≤ 8) := by
        have h1 := hk8.out.1; have h2 := hk8.out.2
        rcases Nat.lt_or_ge k 8 with h | h
        · refine ⟨?_, by omega⟩
          rw [show 8 - k = (8 - (k + 1)) + 1 by omega, Nat.pow_succ] at h1
          exact Nat.div_lt_of_lt_mul (by rw [Nat.mul_comm]; exact h1)
        · rw [show 8 - k = 0 by omega] at h1; simp at h1; omega
      obtain ⟨d, hd⟩ : ∃ d, d = UInt8.ofNat (u % 256) := ⟨_, rfl⟩
      have hdn : (u : Int) % 256 = (d.toNat : Int) := by rw [hd]; simp
      have HV : Hid (bytesN x.toNat = (O ++ [d]) ++ bytesN (u / 256)) := by show _ = _; rw [hV.out, bytesN_step (by omega), hd, List.append_assoc]; rfl
      have hOA : Hid (∀ o, (wr.alloc o).ownsRow w.heap.size 5 1 (.slice q k c) k (O.map B8)) := fun o => owns_keep hO.out (al (Below.refl _ _) (Nat.le_refl _))
      have hsz := hB.out.size
      have hd256 := d.toNat_lt
      clear hd hV hu0
      go_wp2_with (at_builtin; refine wpList_append_own _ rfl _ _ 34 rfl w.heap.size 5 i0 (.int .u8 0) 1 1 Tryd.underlying34 hi hz0 hz1 hz2 rfl (by omega) _ k (O.map B8) rfl (hOA.out _) ⟨wr.heap.size, 0, none⟩ 1 1 [B8 d] rfl rfl (one_cell rfl) ?c2 ?c3 ?c4 ?c5 ?_)
      case c2 => intro y hy; simp at hy; subst hy; rfl
      case c3 => unfold maxLen; omega
      case c4 => omega
      case c5 => simp; omega
      intro v' w' ho' hg' _
      obtain ⟨q', c', rfl⟩ := owns_shape ho'
      have FIN : Hid (w'.ownsRow w.heap.size 5 1 (.slice q' (k + 1) c') (k + 1) ((O ++ [d]).map B8) ∧ Below w.heap.size w w') := by
        refine ⟨?_, ?_⟩
        · rw [List.map_append]; exact ho'
        · exact (al hB.out hsz).grown hg' (by simp; omega) (fun rr hrr => (hO.out.lt rr hrr).1)
      clear ho' hg' hO hB hOA
      go_wp2
      go_roundw
      case rel => exact ⟨u / 256, k + 1, q', c', O ++ [d], by go_num, by omega, rfl, by have := hk7.out.2; omega, hk7.out, FIN.out.1, HV.out, FIN.out.2⟩
      case measure => simp [intOf]; omega
set_option maxRecDepth 100000 in
set_option maxHeartbeats 1000000 in
theorem Cmp_ref (p q : Option Addr) (n c m d : Nat) (xs ys : List UInt8) (w : World) (h1 : Sl B8 w p n c xs) (h2 : Sl B8 w q m d ys) (g1 : xs.getLast? ≠ some 0) (g2 : ys.getLast? ≠ some 0) :
    Calls Tryd.prog 22 #[.slice p n c, .slice q m d] w fun e w' => e = .returned (.int .i64 (cmpN (valB xs) (valB ys))) ∧ ∃ u, w' = w.drewN u := by
  have b1 := h1.bound; have b2 := h2.bound
  have hl1 := h1.len; have hl2 := h2.len
  rcases Nat.lt_trichotomy n m with hlt | heq | hgt
  · have HC : Hid (cmpN (valB xs) (valB ys) = -1) := cmpN_lt (valB_shorter g2 (by omega))
    have hne : ((n : Int) != (m : Int)) = true := by simp; omega
    have hnm : (n : Int) < (m : Int) := by omega
    clear h1 h2 hl1 hl2 g1 g2 hlt
    go_enter Tryd.func22, Tryd.ntmps22
    go_wp2
    go_ret
    exact ⟨by rw [HC.out]; rfl, 0, rfl⟩
  · subst heq
    have H1 := Lib.hid h1; have H2 := Lib.hid h2
    have HLL : Hid (xs.length = n ∧ ys.length = n) := ⟨hl1, hl2⟩
    clear h1 h2 hl1 hl2 g1 g2
    go_enter Tryd.func22, Tryd.ntmps22
    go_wp2
    go_loopw [5] (fun iv wr => ∃ (i : Int) (u : Nat), -1 ≤ i ∧ i < n ∧ iv = .int .i64 i ∧ wr = w.drewN u ∧ Hid (xs.drop (i + 1).toNat = ys.drop (i + 1).toNat)) (fun iv _ => (intOf iv + 1).toNat)
    case atStart => exact ⟨(n : Int) - 1, 0, by omega, by omega, by go_num, rfl, by show xs.drop _ = ys.drop _; rw [List.drop_of_length_le (by have := HLL.out.1; omega), List.drop_of_length_le (by have := HLL.out.2; omega)]⟩
    case round =>
      obtain ⟨i, u, hi1, hi2, rfl, rfl, hj⟩ := hrel
      by_cases hpos : 0 ≤ i
      · obtain ⟨j, rfl⟩ : ∃ j : Nat, i = j := ⟨i.toNat, by omega⟩
        have hjn : j < n := by omega
        obtain ⟨b, o, x, rfl, hc, hx⟩ := H1.out.at j hjn
        obtain ⟨b', o', y, rfl, hc', hy⟩ := H2.out.at j hjn
        have hj' : Hid (xs.drop (j + 1) = ys.drop (j + 1)) := hj.out
        rcases Nat.lt_trichotomy x.toNat y.toNat with h | h | h
        · have HC : Hid (cmpN (valB xs) (valB ys) = -1) := cmpN_lt (valB_top (HLL.out.1.trans HLL.out.2.symm) hx.out hy.out hj'.out h)
          have h' : (x.toNat : Int) < (y.toNat : Int) := by omega
          clear h hj hjn
          go_wp2
          go_quiet (fail)
          go_wp2
          go_ret
          exact ⟨by rw [HC.out]; rfl, _, by rw [World.drewN_drewN]⟩
        · have HN : Hid (xs.drop j = ys.drop j) := by
            have : x = y := UInt8.toNat_inj.1 h
            show xs.drop j = ys.drop j
            rw [drop_cons hx.out, drop_cons hy.out, hj'.out, this]
          have g1 : ¬ (x.toNat : Int) < (y.toNat : Int) := by omega
          have g2 : ¬ (y.toNat : Int) < (x.toNat : Int) := by omega
          clear h hj hjn
          go_wp2
          go_quiet (fail)
          go_wp2
          go_quiet (fail)
          go_wp2
          go_roundw
          case rel => exact ⟨(j : Int) - 1, _, by omega, by omega, by go_num, rfl, by have := HN.out; rwa [show j = ((j : Int) - 1 + 1).toNat by omega] at this⟩
          case measure => simp [intOf]
        · have HC : Hid (cmpN (valB xs) (valB ys) = 1) := cmpN_gt (valB_top (HLL.out.2.trans HLL.out.1.symm) hy.out hx.out hj'.out.symm h)
          have g1 : ¬ (x.toNat : Int) < (y.toNat : Int) := by omega
          have g2 : (y.toNat : Int) < (x.toNat : Int) := by omega
          clear h hj hjn
          go_wp2
          go_quiet (fail)
          go_wp2
          go_quiet (fail)
          go_wp2
          go_ret
          exact ⟨by rw [HC.out]; rfl, _, by rw [World.drewN_drewN, World.drewN_drewN]⟩
      · have HC : Hid (cmpN (valB xs) (valB ys) = 0) := cmpN_eq (by
          have := hj.out
          rw [show (i + 1).toNat = 0 by omega, List.drop_zero, List.drop_zero] at this
          rw [this])
        clear hj
        go_wp2
        go_ret
        exact ⟨by rw [HC.out]; rfl, _, rfl⟩
  · have HC : Hid (cmpN (valB xs) (valB ys) = 1) := cmpN_gt (valB_shorter g1 (by omega))
    have hne : ((n : Int) != (m : Int)) = true := by simp; omega
    have hnm : ¬ (n : Int) < (m : Int) := by omega
    clear h1 h2 hl1 hl2 g1 g2 hgt
    go_enter Tryd.func22, Tryd.ntmps22
    go_wp2
    go_ret
    exact ⟨by rw [HC.out]; rfl, 0, rfl⟩
end Go.Proofs.YtmcehghbcjhkdaaDoor
