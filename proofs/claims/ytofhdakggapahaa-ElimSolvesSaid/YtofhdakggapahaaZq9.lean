/- The walk of the grid's Inverse. Plain laws of GridReckons: rows and their vectors, products, columns, the inverse. The contract of the reference's Mul. GridTells: the walk, no grid, a unit. GridTells: the walk, a grid, a unit. GridTells: the walk, whole. -/
import Derived.Test.YtofhdakggapahaaZq8
import Derived.OpenShut
namespace Go.Proofs.Ytofhdakggapahaa
open Go.RowKit Go.By
set_option maxRecDepth 100000 in
set_option maxHeartbeats 4000000 in
theorem Inverse_size (h wd : Nat) (p : Option Addr) (N c : Nat) (w : World) (hne : h ≠ wd) :
    Calls Try.prog 24 #[.agg #[.int .i64 h, .int .i64 wd, .slice p N c]] w (RetG2 5 w 0 0 [] 4) := by
  have hinfo := info_grid
  have hd : ((wd : Int) != (h : Int)) = true := by simp; omega
  have HB : Hid (∀ o1 o2, Below w.heap.size w ((w.alloc o1).alloc o2)) := fun o1 o2 => al (al (Below.refl _ _) (Nat.le_refl _)) (by simp)
  have HX : Hid (∀ o1, ((w.alloc o1).alloc (.cells #[.int .i64 0, .int .i64 0, .slice none 0 0] 27)).heap[w.heap.size + 1]? = some (.cells #[.int .i64 0, .int .i64 0, .slice none 0 0] 27 (0, 0))) := fun o1 => hnew (by simp)
  clear hne
  go_enter Try.func24, Try.ntmps24
  go_wp2
  refine bodyPost_ret (results_cell_tmp rfl _ _ _ 27 #[.int .i64 0, .int .i64 0, .slice none 0 0] (0, 0) _ (.int .i64 4) rfl (HX.out _) rfl Try.underlying27 rfl hinfo) rfl (RetG2.zero (HB.out _ _))
/-- the rows and their data, ahead of the columns: so many -/
def fillF (n : Nat) (cells : List UInt8) (k : Nat) : Nat → Rw := fun i => if i < k then (rowF n cells i, rowF n (unitC n n) i) else ([], [])
theorem fillF_step (n : Nat) (cells : List UInt8) (k : Nat) : updF (fillF n cells k) k (rowF n cells k, rowF n (unitC n n) k) = fillF n cells (k + 1) := by
  funext i
  unfold updF fillF
  by_cases h : i = k
  · rw [if_pos h, if_pos (by omega), h]
  · rw [if_neg h]
    by_cases h2 : i < k
    · rw [if_pos h2, if_pos (by omega)]
    · rw [if_neg h2, if_neg (by omega)]
def sqR (n : Nat) (cells : List UInt8) : List Gf.V := (List.range n).map fun i => vf (rowF n cells i)
def flatF (n : Nat) (F : Nat → Rw) : List UInt8 := ((List.range n).map fun i => (F i).2).flatten
/-- what Inverse gives of a square -/
def RetI (w : World) (n : Nat) (cells : List UInt8) (e : Ending) (w' : World) : Prop :=
  ∃ F : Nat → Rw, (GJ n (sqR n cells) F n ∧ RetG2 5 w n n (flatF n F) 0 e w') ∨ ∃ c, c < n ∧ GJ n (sqR n cells) F c ∧ (∀ i, c ≤ i → i < n → vf (F i).1 c = 0) ∧ RetG2 5 w 0 0 [] 19 e w'
theorem unit_row {n i : Nat} (hi : i < n) : vf (rowF n (unitC n n) i) = Gf.unit i := by
  funext j
  show vf (rowF n (unitC n n) i) j = Gf.unit i j
  unfold vf
  rw [List.getD_eq_getElem?_getD]
  by_cases hj : j < n
  · unfold rowF
    rw [List.getElem?_take, if_pos hj, List.getElem?_drop, unitC_at n n (Nat.le_refl _) i j hi hj]
    show (if i = j ∧ i < n then (1 : UInt8) else 0) = if i = j then 1 else 0
    by_cases hij : i = j
    · rw [if_pos ⟨hij, hi⟩, if_pos hij]
    · rw [if_neg (fun h => hij h.1), if_neg hij]
  · rw [List.getElem?_eq_none (by rw [rowF_len2 (unitC_len n n) hi]; omega)]
    show (0 : UInt8) = if i = j then 1 else 0
    rw [if_neg (by omega)]
theorem fill_init (n : Nat) (cells : List UInt8) (hl : cells.length = n * n) : GJ n (sqR n cells) (fillF n cells n) 0 := by
  refine GJ.init (by simp [sqR]) (fun i hi => ?_) (fun i hi => ?_) (fun i hi => ?_)
  · unfold fillF; rw [if_pos hi]
    exact ⟨rowF_len2 hl hi, rowF_len2 (unitC_len n n) hi⟩
  · unfold fillF sqR; rw [if_pos hi, List.getElem?_map, List.getElem?_range hi]; rfl
  · unfold fillF; rw [if_pos hi]; exact unit_row hi
theorem heap_of_owns2 {w : World} {base E g n : Nat} {L : List Value} (h : w.ownsRow base E 2 (.slice (some ⟨g, 0, none⟩) n n) n L) : w.heap[g]? = some (.cells L.toArray E (0, 0)) := by
  rcases h.2 with ⟨h1, _⟩ | ⟨g', cap, cur, hv, _, hh, _, _, hs, ht⟩
  · cases h1
  · cases hv
    rw [hh]
    have : cur = L.toArray := by
      rw [← ht, List.take_of_length_le (by simp [hs])]
    rw [this]
theorem RMem.make {w : World} {g n : Nat} {cells : List UInt8} (h : w.heap[g]? = some (.cells (madeCells #[.slice none 0 0, .slice none 0 0] (n * 2)) 61 (0, 0))) : RMem w g 61 n (fillF n cells 0) := by
  refine ⟨_, h, by simp [madeCells], fun i hi => ⟨.slice none 0 0, .slice none 0 0, ?_, ?_, none, 0, 0, none, 0, 0, rfl, rfl, ?_, ?_, (fun a ha => by cases ha), (fun a ha => by cases ha)⟩⟩
  · have h1 : i * 2 < n * 2 := by omega
    simp [madeCells, h1, Nat.mul_mod_left]
  · have h1 : i * 2 + 1 < n * 2 := by omega
    simp [madeCells, h1, Nat.mul_add_mod]
  · exact Sl.nil0 _ _
  · exact Sl.nil0 _ _
/-- so many rows of the result are put -/
def putC (k : Nat) (F : Nat → List UInt8) (j : Nat) : List UInt8 := ((List.range j).map F).flatten ++ List.replicate ((k - j) * k) 0
theorem put_flat {k : Nat} {F : Nat → List UInt8} (h : ∀ i, i < k → (F i).length = k) : ∀ j, j ≤ k → (((List.range j).map F).flatten).length = j * k
  | 0, _ => by simp
  | j + 1, hj => by
    rw [List.range_succ, List.map_append, List.flatten_append, List.length_append, put_flat h j (by omega), Nat.add_mul]
    simp [h j (by omega)]
theorem putC_step {k j : Nat} {F : Nat → List UInt8} (h : ∀ i, i < k → (F i).length = k) (hj : j < k) : (putC k F j).take (j * k) ++ (F j ++ (putC k F j).drop (j * k + k)) = putC k F (j + 1) := by
  have hl := put_flat h j (by omega)
  unfold putC
  rw [← hl, List.take_left, ← List.drop_drop, List.drop_left, List.drop_replicate]
  rw [List.range_succ, List.map_append, List.flatten_append]
  simp only [List.map_cons, List.map_nil, List.flatten_cons, List.flatten_nil, List.append_nil, List.append_assoc]
  congr 3
  have : (k - j) * k = (k - (j + 1)) * k + k := by rw [← Nat.succ_mul]; congr 1; omega
  omega
theorem putC_zero (k : Nat) (F : Nat → List UInt8) : putC k F 0 = List.replicate (k * k) 0 := by simp [putC]
theorem putC_full (k : Nat) (F : Nat → List UInt8) : putC k F k = ((List.range k).map F).flatten := by simp [putC]
theorem wp_copy_row {P : Program} {w : World} {o : Oper} {a : Act} {K : Act → World → Prop} {Q : Exit → Act → World → Prop} (d s : Operand) (dT sT : TypeId)
    (ho : o.op = .call { callee := .builtin .copy, args := #[d, s], argTypes := #[dT, sT] }) (elem : TypeId) (hu : P.underlying dT = some (.slice elem)) (hsz : (P.info? elem).map (·.size) = some 1)
    (g off dLen dCap : Nat) (ad : Addr) (sLen sCap : Nat) (hd : a.eval d = .slice (some ⟨g, off, none⟩) dLen dCap) (hs : a.eval s = .slice (some ad) sLen sCap)
    (cur : Array Value) (t : TypeId) (hg : w.heap[g]? = some (.cells cur t (0, 0))) (cs : List Value) (hn : cs.length = Nat.min sLen dLen)
    (hsrc : ∀ j v, cs[j]? = some v → w.cell? (ad.add j) = some v) (hfit : off + cs.length ≤ cur.size) (h1 : ∀ v ∈ cs, v.oneCell' = true)
    (h : K (a.put o.dst (goInt cs.length)) (w.setRow g (cur.toList.take off ++ (cs ++ cur.toList.drop (off + cs.length))).toArray)) : o.wp P a w K Q := by
  have hrun := run_copy_row (P := P) w dT sT o.type elem g off dLen dCap ad sLen sCap cur t cs hu hsz hg hn hsrc hfit h1
  unfold Oper.wp
  simp [execOp, ho, resolve, invoke, builtin, hd, hs, hrun, Result.andThen]
  exact h
/-- a row of a grid: where it lies -/
def shpAt (g o m : Nat) : Shp := ⟨fun v _ => ∃ c, v = .slice (some ⟨g, o, none⟩) m c, fun _ _ _ h _ => h⟩
theorem enters_leads : Enters Try.prog 67 := enters_of Try.func67 (by kernel_rfl) rfl
/-- the rows from c on -/
def tailF (F : Nat → Rw) (c n : Nat) : List Rw := (List.range (n - c)).map fun j => F (c + j)
theorem tailF_at (F : Nat → Rw) {c n j : Nat} (h : j < n - c) : (tailF F c n)[j]? = some (F (c + j)) := by
  unfold tailF; rw [List.getElem?_map, List.getElem?_range h]; rfl
theorem RMem.tail {w : World} {g T n c : Nat} {F : Nat → Rw} (h : RMem w g T n F) (hn : n ≤ maxLen) : RwS w (some ⟨g, c * 2, none⟩) (n - c) (n - c) (tailF F c n) := by
  obtain ⟨cs, h1, h2, h3⟩ := h
  refine ⟨by simp [tailF], Nat.le_refl _, by omega, (fun e => by cases e), fun j k hj => ?_⟩
  have hjl := (List.getElem?_eq_some_iff.1 hj).1
  simp [tailF] at hjl
  rw [tailF_at F hjl] at hj
  cases hj
  obtain ⟨u, v, e1, e2, q1, m1, c1, q2, m2, c2, rfl, rfl, a, b, -, -⟩ := h3 (c + j) (by omega)
  refine ⟨g, c * 2, q1, m1, c1, q2, m2, c2, rfl, ?_, ?_, a, b⟩
  · rw [cell_of_row _ _ _ _ _ _ h1, ← e1]; congr 1; omega
  · rw [cell_of_row _ _ _ _ _ _ h1, ← e2]; congr 1; omega
theorem idx_cases (F : Nat → Rw) (c n : Nat) (hc : c ≤ n) (f : Rw → Bool) : (idxf f (tailF F c n) = -1 ∧ ∀ i, c ≤ i → i < n → f (F i) = false) ∨ ∃ j : Nat, idxf f (tailF F c n) = j ∧ c + j < n ∧ f (F (c + j)) = true := by
  unfold idxf
  cases h : (tailF F c n).findIdx? f with
  | none =>
    refine .inl ⟨rfl, fun i h1 h2 => ?_⟩
    have := List.findIdx?_eq_none_iff.1 h (F i) (List.mem_of_getElem? (i := i - c) (by rw [tailF_at F (by omega)]; congr 2; omega))
    exact this
  | some j =>
    refine .inr ⟨j, rfl, ?_⟩
    obtain ⟨h1, h2, -⟩ := List.findIdx?_eq_some_iff_getElem.1 h
    have h3 : j < n - c := by simpa [tailF] using h1
    refine ⟨by omega, ?_⟩
    have h4 := List.getElem?_eq_getElem h1
    rw [tailF_at F h3] at h4
    injection h4 with h4
    rw [h4]; exact h2
set_option maxRecDepth 100000 in
set_option maxHeartbeats 4000000 in
theorem Inverse_any (n : Nat) (p : Option Addr) (N c : Nat) (cells : List UInt8) (w : World) (hs : Sl B8 w p N c cells) (hN : N = n * n) (hn : n ≤ 256) :
    Calls Try.prog 24 #[.agg #[.int .i64 n, .int .i64 n, .slice p N c]] w (RetI w n cells) := by
  have hinfo := info_grid
  obtain ⟨r0, hr0, hrz, hr1, hr2⟩ := info_parts info_vrow
  have hnn : n * n ≤ 256 * 256 := Nat.mul_le_mul hn hn
  have HUN := Lib.hid (fun W => Unit_good n W hn)
  have HBL := Lib.hid (fun W => blank_any n n W (show Room (n * n) by unfold Room; omega) (by omega) (by omega))
  have HS := Lib.hid hs; have HNE := Lib.hid hN
  have HCL : Hid (cells.length = n * n) := by show _ = _; rw [hs.len, hN]
  have HRL : Hid (∀ i, i < n → (rowF n cells i).length = n) := fun i hi => rowF_len2 (by rw [hs.len, hN]) hi
  have HUL : Hid (∀ i, i < n → (rowF n (unitC n n) i).length = n) := fun i hi => rowF_len2 (unitC_len n n) hi
  have HB0 : Hid (∀ o1 o2, Below w.heap.size w ((w.alloc o1).alloc o2)) := fun o1 o2 => al (al (Below.refl _ _) (Nat.le_refl _)) (by simp)
  have HM1 : Hid (n ≤ maxLen) := by show n ≤ maxLen; unfold maxLen; omega
  have HM2 : Hid (48 * n ≤ 281474976710656) := by show 48 * n ≤ _; omega
  clear hs hN hnn
  go_enter Try.func24, Try.ntmps24
  go_wp2_with fail
  refine use_w1 (fun W => Below w.heap.size w W ∧ W.heap[w.heap.size]? = some (.cells #[.int .i64 n, .int .i64 n, .slice p N c] 27 (0, 0)) ∧ W.heap[w.heap.size + 1]? = some (.cells #[.int .i64 0, .int .i64 0, .slice none 0 0] 27 (0, 0)) ∧ w.heap.size + 2 ≤ W.heap.size) ⟨HB0.out _ _, hal (hnew rfl), hnew (by simp), by simp⟩ ?_
  rintro w0 ⟨b0, x0, z0, s0⟩
  refine Calls.mono (HUN.out _) ?_; rintro e wU ⟨qU, nU, cU, hnU, rfl, ho, hb⟩
  have XU : Hid (wU.heap[w.heap.size]? = some (.cells #[.int .i64 n, .int .i64 n, .slice p N c] 27 (0, 0))) := (hb.block _ (blk_lt x0)).trans x0
  have ZU : Hid (wU.heap[w.heap.size + 1]? = some (.cells #[.int .i64 0, .int .i64 0, .slice none 0 0] 27 (0, 0))) := (hb.block _ (blk_lt z0)).trans z0
  have KU : Hid (Below w.heap.size w wU) := bl b0 hb b0.size
  have SU : Hid (Sl B8 wU qU nU cU (unitC n n)) := Sl.of_owns ho
  have QU : Hid (∀ a, qU = some a → a.block < wU.heap.size + 1) := fun a ha => Nat.lt_succ_of_lt (owns_new ho a ha).2
  have HNU := Lib.hid hnU
  have hsU : Hid (w.heap.size + 2 ≤ wU.heap.size) := Nat.le_trans s0 hb.size
  clear b0 x0 z0 s0 ho hb hnU HB0 HUN
  go_wp2_with (at_make; refine wpList_make_full _ rfl _ _ 79 rfl (wU.heap.size + 1) 61 r0 (.agg #[.slice none 0 0, .slice none 0 0]) 2 Try.underlying79 hr0 hrz hr1 .i64 .i64 _ _ n rfl rfl rfl rfl (by rw [hr2]; exact HM2.out) HM1.out (by simp) ?_)
  intro w1 ho hg
  have hg' : Below wU.heap.size wU w1 := (al (Below.refl _ _) (Nat.le_refl _)).grown hg (by simp) (by simp)
  have UB : Hid (w1.heap[wU.heap.size]? = some (.cells #[.int .i64 n, .int .i64 n, .slice qU nU cU] 27 (0, 0))) := (hg.block _ (by simp) (by simp)).trans (hnew rfl)
  have RM := heap_of_owns2 ho
  have RM1 : Hid (RMem w1 (wU.heap.size + 1) 61 n (fillF n cells 0)) := RMem.make (by simpa using RM)
  have X1 : Hid (w1.heap[w.heap.size]? = some (.cells #[.int .i64 n, .int .i64 n, .slice p N c] 27 (0, 0))) := (hg'.block _ (blk_lt XU.out)).trans XU.out
  have Z1 : Hid (w1.heap[w.heap.size + 1]? = some (.cells #[.int .i64 0, .int .i64 0, .slice none 0 0] 27 (0, 0))) := (hg'.block _ (blk_lt ZU.out)).trans ZU.out
  have K1 : Hid (Below w.heap.size w w1) := bl KU.out hg' KU.out.size
  have S1 : Hid (Sl B8 w1 qU nU cU (unitC n n)) := SU.out.keep hg'
  obtain ⟨g5, h5⟩ : ∃ g5, g5 = wU.heap.size := ⟨_, rfl⟩
  obtain ⟨g7, h7⟩ : ∃ g7, g7 = wU.heap.size + 1 := ⟨_, rfl⟩
  have hlt57 : w.heap.size + 2 ≤ g5 ∧ g5 < g7 := by rw [h5, h7]; exact ⟨hsU.out, Nat.lt_succ_self _⟩
  rw [← h7] at RM1 QU ⊢; rw [← h5] at UB ⊢
  clear RM ho hg hg' XU ZU KU SU hsU h5 h7 HM1 HM2 hr0 hrz hr1 hr2
  go_wp2
  go_loopw [35] (fun i wr => ∃ k : Nat, k ≤ n ∧ i = .int .i64 k ∧ Hid (Below w.heap.size w wr) ∧ Hid (wr.heap[w.heap.size]? = some (.cells #[.int .i64 n, .int .i64 n, .slice p N c] 27 (0, 0))) ∧ Hid (wr.heap[w.heap.size + 1]? = some (.cells #[.int .i64 0, .int .i64 0, .slice none 0 0] 27 (0, 0))) ∧
    Hid (wr.heap[g5]? = some (.cells #[.int .i64 n, .int .i64 n, .slice qU nU cU] 27 (0, 0))) ∧ Hid (Sl B8 wr qU nU cU (unitC n n)) ∧ Hid (∀ a, qU = some a → a.block < g7) ∧ Hid (RMem wr g7 61 n (fillF n cells k))) (fun i _ => n - (intOf i).toNat)
  case atStart => exact ⟨0, Nat.zero_le _, rfl, K1.out, X1.out, Z1.out, UB.out, S1.out, QU.out, RM1.out⟩
  case round =>
    clear K1 X1 Z1 UB S1 RM1
    obtain ⟨k, hk, rfl, hB, hX, hZ, hU, hS, hQ, hR⟩ := hrel
    by_cases hlt : k < n
    · have kn : (k : Int) < (n : Int) := by omega
      have hRR := hR.out
      obtain ⟨csR, hcsR, hszR, hrow⟩ := hRR
      obtain ⟨u0, u1, hu0, hu1, -⟩ := hrow k hlt
      have HC := Lib.hid hcsR; have HSZ := Lib.hid hszR; have D0 := Lib.hid hu0; have D1 := Lib.hid hu1
      clear hcsR hszR hrow hu0 hu1
      go_wp2
      refine wp_region_last (fun ix => ([.val (.slice (some ⟨g7, 0, none⟩) n n), .val (.int .i64 k), .val (.agg #[.int .i64 n, .int .i64 n, .slice p N c]), .val (.int .i64 k), .bytes (rowF n cells k), .val (.agg #[.int .i64 n, .int .i64 n, .slice qU nU cU]), .val (.int .i64 k), .bytes (rowF n (unitC n n) k), .rowN (wr.heap.size) ((rowF n cells k, rowF n (unitC n n) k)), .val (.pointer (some ⟨g7, k * 2, none⟩)), .any][ix]?).getD (.any)) 137 10 rfl (by kernel_rfl) (by decide) (by decide) (by decide) (by decide) ?_ ?_
      · refine ⟨?_, ?_, ?_, ?_, ?_, ?_, ?_, ?_, ?_, ?_, trivial⟩
        · intro a W hb0 hs hp hi; have hb := undrew hb0; clear hb0
          have t7 : sl a 7 = .slice (some ⟨g7, 0, none⟩) n n := hi 7 (by decide)
          exact ite_y rfl (wp_val (sl a 7) rfl ⟨_, rfl, Below.refl _ _, t7⟩)
        · intro a W hb0 hs hp hi; have hb := undrew hb0; clear hb0
          have t8 : sl a 8 = .int .i64 k := hi 8 (by decide)
          exact ite_y rfl (wp_val (sl a 8) rfl ⟨_, rfl, Below.refl _ _, t8⟩)
        · intro a W hb0 hs hp hi; have hb := undrew hb0; clear hb0
          have t1 : sl a 1 = .pointer (some ⟨w.heap.size, 0, none⟩) := hi 1 (by decide)
          obtain ⟨d0, d1, d2⟩ := cells3 ((hb.block _ (blk_lt hX.out)).trans hX.out)
          refine ite_y rfl (wp_val (.agg #[.int .i64 n, .int .i64 n, .slice p N c]) ?_ ?_)
          · simp only [execOp, eval_tmp, t1]; simp [go_sem, d0, d1, d2]
          · exact ⟨_, rfl, Below.refl _ _, rfl⟩
        · intro a W hb0 hs hp hi; have hb := undrew hb0; clear hb0
          have t8 : sl a 8 = .int .i64 k := hi 8 (by decide)
          exact ite_y rfl (wp_val (sl a 8) rfl ⟨_, rfl, Below.refl _ _, t8⟩)
        · intro a W hb0 hs hp hi; have hb := undrew hb0; clear hb0
          have t40 : sl a 40 = .agg #[.int .i64 n, .int .i64 n, .slice p N c] := hp 2 (by decide)
          have t41 : sl a 41 = .int .i64 k := hp 3 (by decide)
          refine ite_y rfl (wp_enter 57 #[.agg #[.int .i64 n, .int .i64 n, .slice p N c], .int .i64 k] ?_ (row_any n n k p N c cells W (HS.out.keep (bl hB.out hb hB.out.size)) HNE.out hlt (by omega)) ?_)
          · simp only [execOp, resolve, List.map_toArray, List.map, eval_tmp, eval_func, eval_const, t40, t41]; simp [go_sem]
          · rintro e W' ⟨q', c', rfl, hs', -, hw⟩; exact ⟨_, rfl, _, rfl, hw, q', n, c', rfl, hs'⟩
        · intro a W hb0 hs hp hi; have hb := undrew hb0; clear hb0
          have t5 : sl a 5 = .pointer (some ⟨g5, 0, none⟩) := hi 5 (by decide)
          obtain ⟨d0, d1, d2⟩ := cells3 ((hb.block _ (blk_lt hU.out)).trans hU.out)
          refine ite_y rfl (wp_val (.agg #[.int .i64 n, .int .i64 n, .slice qU nU cU]) ?_ ?_)
          · simp only [execOp, eval_tmp, t5]; simp [go_sem, d0, d1, d2]
          · exact ⟨_, rfl, Below.refl _ _, rfl⟩
        · intro a W hb0 hs hp hi; have hb := undrew hb0; clear hb0
          have t8 : sl a 8 = .int .i64 k := hi 8 (by decide)
          exact ite_y rfl (wp_val (sl a 8) rfl ⟨_, rfl, Below.refl _ _, t8⟩)
        · intro a W hb0 hs hp hi; have hb := undrew hb0; clear hb0
          have t43 : sl a 43 = .agg #[.int .i64 n, .int .i64 n, .slice qU nU cU] := hp 5 (by decide)
          have t44 : sl a 44 = .int .i64 k := hp 6 (by decide)
          refine ite_y rfl (wp_enter 57 #[.agg #[.int .i64 n, .int .i64 n, .slice qU nU cU], .int .i64 k] ?_ (row_any n n k qU nU cU (unitC n n) W (hS.out.keep hb) HNU.out hlt (by omega)) ?_)
          · simp only [execOp, resolve, List.map_toArray, List.map, eval_tmp, eval_func, eval_const, t43, t44]; simp [go_sem]
          · rintro e W' ⟨q', c', rfl, hs', -, hw⟩; exact ⟨_, rfl, _, rfl, hw, q', n, c', rfl, hs'⟩
        · intro a W hb0 hs hp hi; have hb := undrew hb0; clear hb0
          have t42 : BytesIs (rowF n cells k) (sl a 42) W := hp 4 (by decide)
          obtain ⟨y42a, y42b, y42c, t42, z42a⟩ := t42
          have t45 : BytesIs (rowF n (unitC n n) k) (sl a 45) W := hp 7 (by decide)
          obtain ⟨y45a, y45b, y45c, t45, z45a⟩ := t45
          refine ite_y rfl (wp_enter 51 #[.slice y42a y42b y42c, .slice y45a y45b y45c] ?_ (Of_any y42a y45a y42b y42c y45b y45c (rowF n cells k) (rowF n (unitC n n) k) W z42a z45a (by rw [← z42a.len, HRL.out k hlt]; unfold Room; omega) (by rw [← z45a.len, HUL.out k hlt]; unfold Room; omega)) ?_)
          · simp only [execOp, resolve, List.map_toArray, List.map, eval_tmp, eval_func, eval_const, t42, t45]; simp [go_sem]
          · rintro e W' ⟨q5, m5, g5', q6, m6, g6, e5, e6, rfl, o5, o6, hw⟩; have hbs := hb.size; exact ⟨_, rfl, _, rfl, hw, q5, m5, g5', q6, m6, g6, rfl, Sl.of_owns o5, Sl.of_owns o6, fun a ha => Nat.le_trans hbs (owns_new o5 a ha).1, fun a ha => Nat.le_trans hbs (owns_new o6 a ha).1⟩
        · intro a W hb0 hs hp hi; have hb := undrew hb0; clear hb0
          have t38 : sl a 38 = .slice (some ⟨g7, 0, none⟩) n n := hp 0 (by decide)
          have t39 : sl a 39 = .int .i64 k := hp 1 (by decide)
          refine ite_y rfl (wp_val (.pointer (some ⟨g7, k * 2, none⟩)) ?_ ?_)
          · simp only [execOp, eval_tmp, eval_const, t38, t39]; simp [go_sem, kn, hlt]
          · exact ⟨_, rfl, Below.refl _ _, rfl⟩
      · intro a w9 o ho hb hs hd hI ht
        have ha := act_is [38, 39, 40, 41, 42, 43, 44, 45, 46, 47] hs hd ht (by decide)
        simp at ho; subst ho
        have t46 := hI 8 (by decide)
        have t47 : sl a 47 = .pointer (some ⟨g7, k * 2, none⟩) := hI 9 (by decide)
        have C9 := (hb.block _ (blk_lt HC.out)).trans HC.out
        have R9 := hR.out.keep hb
        obtain ⟨q5, m5, c5, q6, m6, c6, t46, s5, s6, s7, s8⟩ := t46
        have hlt7 := blk_lt HC.out
        have d0 : w9.cell? ⟨g7, k * 2, none⟩ = some (u0) := (cell_of_row _ _ _ _ _ _ C9).trans D0.out
        have d1 : w9.cell? ⟨g7, k * 2 + 1, none⟩ = some (u1) := (cell_of_row _ _ _ _ _ _ C9).trans D1.out
        have z0 : w9.frozen? ⟨g7, k * 2, none⟩ = false := frozen_of_row _ _ _ _ _ C9
        have z1 : w9.frozen? ⟨g7, k * 2 + 1, none⟩ = false := frozen_of_row _ _ _ _ _ C9
        refine wp_skip_none rfl (w' := ((w9.setCell ⟨g7, k * 2, none⟩ (.slice q5 m5 c5)).setCell ⟨g7, k * 2 + 1, none⟩ (.slice q6 m6 c6))) ?_ ?_
        · simp only [execOp, eval_tmp, t46, t47]; simp [go_sem, d0, d1, z0, z1]
        simp only [List.foldl, t46, t47] at ha
        generalize sl a 38 = u38 at ha
        generalize sl a 39 = u39 at ha
        generalize sl a 40 = u40 at ha
        generalize sl a 41 = u41 at ha
        generalize sl a 42 = u42 at ha
        generalize sl a 43 = u43 at ha
        generalize sl a 44 = u44 at ha
        generalize sl a 45 = u45 at ha
        simp only [Act.put, List.setIfInBounds_toArray, List.set_cons_zero, List.set_cons_succ] at ha
        rw [ha]; clear ha
        have RN := R9.set hlt (u := .slice q5 m5 c5) (v := .slice q6 m6 c6) ⟨q5, m5, c5, q6, m6, c6, rfl, rfl, s5, s6, (fun a ha => by have := s7 a ha; omega), (fun a ha => by have := s8 a ha; omega)⟩
        rw [fillF_step] at RN
        have bw9 := bl hB.out hb hB.out.size
        have NX : Below w.heap.size w ((w9.setCell ⟨g7, k * 2, none⟩ (.slice q5 m5 c5)).setCell ⟨g7, k * 2 + 1, none⟩ (.slice q6 m6 c6)) ∧ ((w9.setCell ⟨g7, k * 2, none⟩ (.slice q5 m5 c5)).setCell ⟨g7, k * 2 + 1, none⟩ (.slice q6 m6 c6)).heap[w.heap.size]? = some (.cells #[.int .i64 n, .int .i64 n, .slice p N c] 27 (0, 0)) ∧ ((w9.setCell ⟨g7, k * 2, none⟩ (.slice q5 m5 c5)).setCell ⟨g7, k * 2 + 1, none⟩ (.slice q6 m6 c6)).heap[w.heap.size + 1]? = some (.cells #[.int .i64 0, .int .i64 0, .slice none 0 0] 27 (0, 0)) ∧
            ((w9.setCell ⟨g7, k * 2, none⟩ (.slice q5 m5 c5)).setCell ⟨g7, k * 2 + 1, none⟩ (.slice q6 m6 c6)).heap[g5]? = some (.cells #[.int .i64 n, .int .i64 n, .slice qU nU cU] 27 (0, 0)) ∧ Sl B8 ((w9.setCell ⟨g7, k * 2, none⟩ (.slice q5 m5 c5)).setCell ⟨g7, k * 2 + 1, none⟩ (.slice q6 m6 c6)) qU nU cU (unitC n n) :=
          ⟨(bw9.setCell (by show w.heap.size ≤ g7; omega) _).setCell (by show w.heap.size ≤ g7; omega) _, hsc (hsc ((hb.block _ (blk_lt hX.out)).trans hX.out) (by show w.heap.size ≠ g7; omega)) (by show w.heap.size ≠ g7; omega), hsc (hsc ((hb.block _ (blk_lt hZ.out)).trans hZ.out) (by show w.heap.size + 1 ≠ g7; omega)) (by show w.heap.size + 1 ≠ g7; omega),
            hsc (hsc ((hb.block _ (blk_lt hU.out)).trans hU.out) (by show g5 ≠ g7; omega)) (by show g5 ≠ g7; omega), ((hS.out.keep hb).set (fun a ha => Nat.ne_of_lt (hQ.out a ha))).set (fun a ha => Nat.ne_of_lt (hQ.out a ha))⟩
        generalize ((w9.setCell ⟨g7, k * 2, none⟩ (.slice q5 m5 c5)).setCell ⟨g7, k * 2 + 1, none⟩ (.slice q6 m6 c6)) = wn at NX RN ⊢
        have NXH := Lib.hid NX; have RNH := Lib.hid RN
        clear NX RN R9 C9 d0 d1 z0 z1 s5 s6 s7 s8 hI ht hb hlt7 bw9
        go_wp2
        go_roundw
        case rel => exact ⟨k + 1, by omega, by go_num, NXH.out.1, NXH.out.2.1, NXH.out.2.2.1, NXH.out.2.2.2.1, NXH.out.2.2.2.2, hQ.out, RNH.out⟩
        case measure => simp [intOf]; omega
    · have hkn : k = n := by omega
      have hge : (n : Int) ≤ (k : Int) := by omega
      subst hkn
      obtain ⟨wo, rfl⟩ : ∃ wo, wo = wr := ⟨_, rfl⟩
      have HF0 : Hid (GJ k (sqR k cells) (fillF k cells k) 0) := fill_init k cells HCL.out
      obtain ⟨F0, hF0⟩ : ∃ F0, F0 = fillF k cells k := ⟨_, rfl⟩
      rw [← hF0] at HF0 hR
      clear hU hS hQ hX hF0 HRL HUL HNU HS hk hlt HCL
      go_wp2
      go_loopw [50] (fun i wr => ∃ (cc : Nat) (F : Nat → Rw), cc ≤ k ∧ i = .int .i64 cc ∧ Hid (GJ k (sqR k cells) F cc) ∧ Hid (RMem wr g7 61 k F) ∧ Hid (Below w.heap.size w wr) ∧ Hid (wr.heap[w.heap.size + 1]? = some (.cells #[.int .i64 0, .int .i64 0, .slice none 0 0] 27 (0, 0)))) (fun i _ => k - (intOf i).toNat)
      case atStart => exact ⟨0, F0, Nat.zero_le _, rfl, HF0.out, hR.out, hB.out, hZ.out⟩
      case round =>
        clear hR hB hZ HF0
        obtain ⟨cc, F, hcc, rfl, hGJ, hR, hB, hZ⟩ := hrel
        by_cases hcl : cc < k
        · have kn : (cc : Int) < (k : Int) := by omega
          have HMK : Hid (k ≤ maxLen) := by show k ≤ maxLen; unfold maxLen; omega
          go_wp2_with fail
          obtain ⟨gc, hgc⟩ : ∃ gc, gc = wr.heap.size := ⟨_, rfl⟩
          have hgw : w.heap.size ≤ gc := by rw [hgc]; exact hB.out.size
          have hg7c : g7 < gc := by rw [hgc]; obtain ⟨cs, h1, -⟩ := hR.out; exact blk_lt h1
          rw [← hgc]
          refine use_w1 (fun W => Below w.heap.size w W ∧ W.heap[gc]? = some (.cells #[.int .i64 cc] 3 (0, 0)) ∧ W.heap[w.heap.size + 1]? = some (.cells #[.int .i64 0, .int .i64 0, .slice none 0 0] 27 (0, 0)) ∧ RMem W g7 61 k F) ⟨al hB.out hB.out.size, hnew hgc, hal hZ.out, hR.out.keep (al (Below.refl _ _) (Nat.le_refl _))⟩ ?_
          rintro w2 ⟨b2, c2, z2, r2⟩
          refine Calls.mono (IndexRow_any (fun r => decide (atS r.1 (cc : Int) ≠ 0)) 67 #[.pointer (some ⟨gc, 0, none⟩)] enters_leads _ _ _ _ w2 (r2.tail HMK.out) (fun W q1 q2 m1 c1 m2 c2' x hb hx => leads_any q1 q2 m1 c1 m2 c2' x.1 gc cc W hx ((hb.cell (p := ⟨gc, 0, none⟩) (lt_of_cell (cell_of_row _ _ 0 _ _ _ c2))).trans (cell_of_row _ _ 0 _ _ _ c2)))) ?_
          rintro e w3 ⟨rfl, hb3⟩
          have B3 : Hid (Below w.heap.size w w3) := bl b2 hb3 b2.size
          have C3 : Hid (w3.heap[gc]? = some (.cells #[.int .i64 cc] 3 (0, 0))) := (hb3.block _ (blk_lt c2)).trans c2
          have Z3 : Hid (w3.heap[w.heap.size + 1]? = some (.cells #[.int .i64 0, .int .i64 0, .slice none 0 0] 27 (0, 0))) := (hb3.block _ (blk_lt z2)).trans z2
          have R3 : Hid (RMem w3 g7 61 k F) := r2.keep hb3
          clear b2 c2 z2 r2 hb3 hB hZ hR hgc
          rcases idx_cases F cc k hcc (fun r => decide (atS r.1 (cc : Int) ≠ 0)) with ⟨hi, hno⟩ | ⟨j, hi, hj, hyes⟩
          · rw [hi]
            have hz : Hid (∀ i, cc ≤ i → i < k → vf (F i).1 cc = 0) := fun i h1 h2 => by
              have := hno i h1 h2
              rw [← at_vf]
              simpa using this
            clear hi hno
            obtain ⟨f0, f1, f2⟩ := cells3 Z3.out
            have z0 := frozen_of_row _ _ 0 _ _ Z3.out
            have z1 := frozen_of_row _ _ 1 _ _ Z3.out
            have z2 := frozen_of_row _ _ 2 _ _ Z3.out
            go_wp2
            refine bodyPost_ret (results_cell_tmp rfl _ _ _ 27 #[.int .i64 0, .int .i64 0, .slice none 0 0] (0, 0) _ (.int .i64 19) rfl (hss (hss (hss Z3.out))) rfl Try.underlying27 rfl hinfo) rfl ⟨F, .inr ⟨cc, hcl, hGJ.out, hz.out, RetG2.zero (((B3.out.setCell (by simp) _).setCell (by simp) _).setCell (by simp) _)⟩⟩
          · rw [hi]
            have hat : Hid (vf (F (cc + j)).1 cc ≠ 0) := by
              show _ ≠ _
              rw [← at_vf]
              simpa using hyes
            have jn : ¬ ((j : Int) < 0) := by omega
            clear hi hyes
            obtain ⟨P, hP⟩ : ∃ P, P = cc + j := ⟨_, rfl⟩
            have hw : IntKind.i64.wrap ((cc : Int) + (j : Int)) = ((P : Nat) : Int) := by rw [hP, ← Int.natCast_add]; exact Go.IntWalk.i64_in _ (by omega)
            have hPk : P < k := by rw [hP]; exact hj
            have hcP : cc ≤ P := by omega
            have Pn : (P : Int) < (k : Int) := by omega
            rw [← hP] at hat
            go_wp2_with fail
            have bd := drew_below w3
            have BD : Hid (Below w.heap.size w w3.drew) := bl B3.out bd B3.out.size
            have CD : Hid (w3.drew.heap[gc]? = some (.cells #[.int .i64 cc] 3 (0, 0))) := C3.out
            have ZD : Hid (w3.drew.heap[w.heap.size + 1]? = some (.cells #[.int .i64 0, .int .i64 0, .slice none 0 0] 27 (0, 0))) := Z3.out
            have RD : Hid (RMem w3.drew g7 61 k F) := R3.out.keep bd
            obtain ⟨wd, hwd⟩ : ∃ wd, wd = w3.drew := ⟨_, rfl⟩
            rw [← hwd] at BD CD ZD RD
            obtain ⟨cs, hcs, hsz, hrow⟩ := RD.out
            obtain ⟨u0, u1, hu0, hu1, hRc⟩ := hrow cc hcl
            obtain ⟨v0, v1, hv0, hv1, hRp⟩ := hrow P hPk
            have HRc := Lib.hid hRc; have HRp := Lib.hid hRp
            obtain ⟨a1, b1, d1, a2, b2, d2, rfl, rfl, -⟩ := hRc
            obtain ⟨a3, b3, d3, a4, b4, d4, rfl, rfl, -⟩ := hRp
            have cC : wd.cell? ⟨gc, 0, none⟩ = some (.int .i64 cc) := cell_of_row _ _ 0 _ _ _ CD.out
            have cu0 : wd.cell? ⟨g7, cc * 2, none⟩ = some (.slice a1 b1 d1) := (cell_of_row _ _ _ _ _ _ hcs).trans hu0
            have cu1 : wd.cell? ⟨g7, cc * 2 + 1, none⟩ = some (.slice a2 b2 d2) := (cell_of_row _ _ _ _ _ _ hcs).trans hu1
            have cv0 : wd.cell? ⟨g7, P * 2, none⟩ = some (.slice a3 b3 d3) := (cell_of_row _ _ _ _ _ _ hcs).trans hv0
            have cv1 : wd.cell? ⟨g7, P * 2 + 1, none⟩ = some (.slice a4 b4 d4) := (cell_of_row _ _ _ _ _ _ hcs).trans hv1
            have fz0 : wd.frozen? ⟨g7, cc * 2, none⟩ = false := frozen_of_row _ _ _ _ _ hcs
            have fz1 : wd.frozen? ⟨g7, cc * 2 + 1, none⟩ = false := frozen_of_row _ _ _ _ _ hcs
            have ne1 : w.heap.size + 1 ≠ g7 := by omega
            have ne2 : gc ≠ g7 := by omega
            have ne3 : w.heap.size ≤ g7 := by omega
            obtain ⟨w4, hw4⟩ : ∃ w4, w4 = (wd.setCell ⟨g7, cc * 2, none⟩ (.slice a3 b3 d3)).setCell ⟨g7, cc * 2 + 1, none⟩ (.slice a4 b4 d4) := ⟨_, rfl⟩
            have B4 : Hid (Below w.heap.size w w4) := by rw [hw4]; exact (BD.out.setCell ne3 _).setCell ne3 _
            have C4 : Hid (w4.heap[gc]? = some (.cells #[.int .i64 cc] 3 (0, 0))) := by rw [hw4]; exact hsc (hsc CD.out ne2) ne2
            have Z4 : Hid (w4.heap[w.heap.size + 1]? = some (.cells #[.int .i64 0, .int .i64 0, .slice none 0 0] 27 (0, 0))) := by rw [hw4]; exact hsc (hsc ZD.out ne1) ne1
            have R4 : Hid (RMem w4 g7 61 k (updF F cc (F P))) := by rw [hw4]; exact RD.out.set hcl HRp.out
            have O4 : Hid (RowOff w4 g7 (.slice a1 b1 d1) (.slice a2 b2 d2) (F cc)) := by rw [hw4]; exact HRc.out.set.set
            obtain ⟨cs4, hcs4, hsz4, hrow4⟩ := R4.out
            obtain ⟨x0, x1, hx0, hx1, -⟩ := hrow4 P hPk
            have cD : w4.cell? ⟨gc, 0, none⟩ = some (.int .i64 cc) := cell_of_row _ _ 0 _ _ _ C4.out
            have cx0 : w4.cell? ⟨g7, P * 2, none⟩ = some x0 := (cell_of_row _ _ _ _ _ _ hcs4).trans hx0
            have cx1 : w4.cell? ⟨g7, P * 2 + 1, none⟩ = some x1 := (cell_of_row _ _ _ _ _ _ hcs4).trans hx1
            have fx0 : w4.frozen? ⟨g7, P * 2, none⟩ = false := frozen_of_row _ _ _ _ _ hcs4
            have fx1 : w4.frozen? ⟨g7, P * 2 + 1, none⟩ = false := frozen_of_row _ _ _ _ _ hcs4
            have HGS : Hid (GJ k (sqR k cells) (swF F cc P) cc) := hGJ.out.swap hcl hPk hcP
            have hxx : Hid (vf (swF F cc P cc).1 cc ≠ 0) := by show _ ≠ _; rw [swF_at]; exact hat.out
            have HSW : Hid (updF (updF F cc (F P)) P (F cc) = swF F cc P) := rfl
            clear hcs hsz hrow hu0 hu1 hv0 hv1 hcs4 hsz4 hrow4 hx0 hx1 B3 C3 Z3 R3 bd hGJ hat HRp HRc BD CD ZD RD hP hj
            rw [hwd] at hw4 cC cu0 cu1 cv0 cv1 fz0 fz1; clear hwd
            refine wp_region_two (fun ix => ([.slice (some ⟨g7, 0, none⟩) k k, .int .i64 cc, .slice (some ⟨g7, 0, none⟩) k k, .int .i64 cc, .int .i64 j, .int .i64 P, .slice (some ⟨g7, 0, none⟩) k k, .int .i64 cc, .int .i64 j, .int .i64 P, .pointer (some ⟨g7, P * 2, none⟩), .agg #[.slice a3 b3 d3, .slice a4 b4 d4], .slice (some ⟨g7, 0, none⟩) k k, .int .i64 cc, .pointer (some ⟨g7, cc * 2, none⟩), .agg #[.slice a1 b1 d1, .slice a2 b2 d2], .pointer (some ⟨g7, cc * 2, none⟩), undef, .pointer (some ⟨g7, P * 2, none⟩)][ix]?).getD undef) 137 19 17 w4 rfl (by kernel_rfl) (by decide) (by decide) (by decide) _ rfl ?_ ?_ ?_
            · refine ⟨?_, ?_, ?_, ?_, ?_, ?_, ?_, ?_, ?_, ?_, ?_, ?_, ?_, ?_, ?_, ?_, ?_, ?_, ?_, trivial⟩
              · refine .inr (fun a hs hp hi => ?_)
                have t7 : sl a 7 = .slice (some ⟨g7, 0, none⟩) k k := hi 7 (by decide)
                exact ⟨fun _ => run_mv rfl t7, fun _ => run_mv rfl t7⟩
              · refine .inr (fun a hs hp hi => ?_)
                have t9 : sl a 9 = .pointer (some ⟨gc, 0, none⟩) := hi 9 (by decide)
                refine ⟨fun hx => ?_, fun hx => ?_⟩
                · simp only [execOp, eval_tmp, eval_const, t9]; simp [go_sem, cC]
                · simp only [execOp, eval_tmp, eval_const, t9]; simp [go_sem, cD]
              · refine .inr (fun a hs hp hi => ?_)
                have t7 : sl a 7 = .slice (some ⟨g7, 0, none⟩) k k := hi 7 (by decide)
                exact ⟨fun _ => run_mv rfl t7, fun _ => run_mv rfl t7⟩
              · refine .inr (fun a hs hp hi => ?_)
                have t9 : sl a 9 = .pointer (some ⟨gc, 0, none⟩) := hi 9 (by decide)
                refine ⟨fun hx => ?_, fun hx => ?_⟩
                · simp only [execOp, eval_tmp, eval_const, t9]; simp [go_sem, cC]
                · simp only [execOp, eval_tmp, eval_const, t9]; simp [go_sem, cD]
              · refine .inr (fun a hs hp hi => ?_)
                have t11 : sl a 11 = .int .i64 j := hi 11 (by decide)
                exact ⟨fun _ => run_mv rfl t11, fun _ => run_mv rfl t11⟩
              · refine .inr (fun a hs hp hi => ?_)
                have t65 : sl a 65 = .int .i64 cc := hp 3 (by decide)
                have t66 : sl a 66 = .int .i64 j := hp 4 (by decide)
                refine ⟨fun hx => ?_, fun hx => ?_⟩
                · simp only [execOp, eval_tmp, eval_const, t65, t66]; simp [go_sem, hw]
                · simp only [execOp, eval_tmp, eval_const, t65, t66]; simp [go_sem, hw]
              · refine .inr (fun a hs hp hi => ?_)
                have t7 : sl a 7 = .slice (some ⟨g7, 0, none⟩) k k := hi 7 (by decide)
                exact ⟨fun _ => run_mv rfl t7, fun _ => run_mv rfl t7⟩
              · refine .inr (fun a hs hp hi => ?_)
                have t9 : sl a 9 = .pointer (some ⟨gc, 0, none⟩) := hi 9 (by decide)
                refine ⟨fun hx => ?_, fun hx => ?_⟩
                · simp only [execOp, eval_tmp, eval_const, t9]; simp [go_sem, cC]
                · exact absurd hx (by decide)
              · refine .inr (fun a hs hp hi => ?_)
                have t11 : sl a 11 = .int .i64 j := hi 11 (by decide)
                exact ⟨fun _ => run_mv rfl t11, fun _ => run_mv rfl t11⟩
              · refine .inr (fun a hs hp hi => ?_)
                have t69 : sl a 69 = .int .i64 cc := hp 7 (by decide)
                have t70 : sl a 70 = .int .i64 j := hp 8 (by decide)
                refine ⟨fun hx => ?_, fun hx => ?_⟩
                · simp only [execOp, eval_tmp, eval_const, t69, t70]; simp [go_sem, hw]
                · exact absurd hx (by decide)
              · refine .inr (fun a hs hp hi => ?_)
                have t68 : sl a 68 = .slice (some ⟨g7, 0, none⟩) k k := hp 6 (by decide)
                have t71 : sl a 71 = .int .i64 P := hp 9 (by decide)
                refine ⟨fun hx => ?_, fun hx => ?_⟩
                · simp only [execOp, eval_tmp, eval_const, t68, t71]; simp [go_sem, Pn, hPk]
                · exact absurd hx (by decide)
              · refine .inr (fun a hs hp hi => ?_)
                have t72 : sl a 72 = .pointer (some ⟨g7, P * 2, none⟩) := hp 10 (by decide)
                refine ⟨fun hx => ?_, fun hx => ?_⟩
                · simp only [execOp, eval_tmp, eval_const, t72]; simp [go_sem, cv0, cv1]
                · exact absurd hx (by decide)
              · refine .inr (fun a hs hp hi => ?_)
                have t7 : sl a 7 = .slice (some ⟨g7, 0, none⟩) k k := hi 7 (by decide)
                exact ⟨fun _ => run_mv rfl t7, fun _ => run_mv rfl t7⟩
              · refine .inr (fun a hs hp hi => ?_)
                have t9 : sl a 9 = .pointer (some ⟨gc, 0, none⟩) := hi 9 (by decide)
                refine ⟨fun hx => ?_, fun hx => ?_⟩
                · simp only [execOp, eval_tmp, eval_const, t9]; simp [go_sem, cC]
                · simp only [execOp, eval_tmp, eval_const, t9]; simp [go_sem, cD]
              · refine .inr (fun a hs hp hi => ?_)
                have t74 : sl a 74 = .slice (some ⟨g7, 0, none⟩) k k := hp 12 (by decide)
                have t75 : sl a 75 = .int .i64 cc := hp 13 (by decide)
                refine ⟨fun hx => ?_, fun hx => ?_⟩
                · simp only [execOp, eval_tmp, eval_const, t74, t75]; simp [go_sem, kn, hcl]
                · simp only [execOp, eval_tmp, eval_const, t74, t75]; simp [go_sem, kn, hcl]
              · refine .inr (fun a hs hp hi => ?_)
                have t76 : sl a 76 = .pointer (some ⟨g7, cc * 2, none⟩) := hp 14 (by decide)
                refine ⟨fun hx => ?_, fun hx => ?_⟩
                · simp only [execOp, eval_tmp, eval_const, t76]; simp [go_sem, cu0, cu1]
                · exact absurd hx (by decide)
              · refine .inr (fun a hs hp hi => ?_)
                have t62 : sl a 62 = .slice (some ⟨g7, 0, none⟩) k k := hp 0 (by decide)
                have t63 : sl a 63 = .int .i64 cc := hp 1 (by decide)
                refine ⟨fun hx => ?_, fun hx => ?_⟩
                · simp only [execOp, eval_tmp, eval_const, t62, t63]; simp [go_sem, kn, hcl]
                · exact absurd hx (by decide)
              · exact .inl rfl
              · refine .inr (fun a hs hp hi => ?_)
                have t64 : sl a 64 = .slice (some ⟨g7, 0, none⟩) k k := hp 2 (by decide)
                have t67 : sl a 67 = .int .i64 P := hp 5 (by decide)
                refine ⟨fun hx => ?_, fun hx => ?_⟩
                · exact absurd hx (by decide)
                · simp only [execOp, eval_tmp, eval_const, t64, t67]; simp [go_sem, Pn, hPk]
            · intro a hs hp
              have t78 : sl a 78 = .pointer (some ⟨g7, cc * 2, none⟩) := hp 16 (by decide)
              have t73 : sl a 73 = .agg #[.slice a3 b3 d3, .slice a4 b4 d4] := hp 11 (by decide)
              have v78 : a.tmps[78]?.getD undef = .pointer (some ⟨g7, cc * 2, none⟩) := by simpa [sl] using t78
              have v73 : a.tmps[73]?.getD undef = .agg #[.slice a3 b3 d3, .slice a4 b4 d4] := by simpa [sl] using t73
              rw [hw4]
              have cu0' : w3.cell? ⟨g7, cc * 2, none⟩ = some (.slice a1 b1 d1) := cu0
              have cu1' : w3.cell? ⟨g7, cc * 2 + 1, none⟩ = some (.slice a2 b2 d2) := cu1
              have fz0' : w3.frozen? ⟨g7, cc * 2, none⟩ = false := fz0
              have fz1' : w3.frozen? ⟨g7, cc * 2 + 1, none⟩ = false := fz1
              simp only [execOp, eval_tmp, t78, t73]; simp [go_sem, v78, v73, cu0', cu1', fz0', fz1', cu0, cu1, fz0, fz1]
            · intro a o ho hs hd hI ht
              have ha := act_is [62, 63, 64, 65, 66, 67, 68, 69, 70, 71, 72, 73, 74, 75, 76, 77, 78, 79] hs hd ht (by decide)
              simp at ho; subst ho
              have t79 : sl a 79 = .pointer (some ⟨g7, P * 2, none⟩) := hI 18 (by decide)
              have t77 : sl a 77 = .agg #[.slice a1 b1 d1, .slice a2 b2 d2] := hI 15 (by decide)
              refine wp_skip_none rfl (w' := ((w4.setCell ⟨g7, P * 2, none⟩ (.slice a1 b1 d1)).setCell ⟨g7, P * 2 + 1, none⟩ (.slice a2 b2 d2))) ?_ ?_
              · simp only [execOp, eval_tmp, t79, t77]; simp [go_sem, cx0, cx1, fx0, fx1]
              simp only [List.foldl, t79, t77] at ha
              generalize sl a 62 = u62 at ha
              generalize sl a 63 = u63 at ha
              generalize sl a 64 = u64 at ha
              generalize sl a 65 = u65 at ha
              generalize sl a 66 = u66 at ha
              generalize sl a 67 = u67 at ha
              generalize sl a 68 = u68 at ha
              generalize sl a 69 = u69 at ha
              generalize sl a 70 = u70 at ha
              generalize sl a 71 = u71 at ha
              generalize sl a 72 = u72 at ha
              generalize sl a 73 = u73 at ha
              generalize sl a 74 = u74 at ha
              generalize sl a 75 = u75 at ha
              generalize sl a 76 = u76 at ha
              generalize sl a 78 = u78 at ha
              simp only [Act.put, List.setIfInBounds_toArray, List.set_cons_zero, List.set_cons_succ] at ha
              rw [ha]; clear ha
              have NX : Below w.heap.size w ((w4.setCell ⟨g7, P * 2, none⟩ (.slice a1 b1 d1)).setCell ⟨g7, P * 2 + 1, none⟩ (.slice a2 b2 d2)) ∧ ((w4.setCell ⟨g7, P * 2, none⟩ (.slice a1 b1 d1)).setCell ⟨g7, P * 2 + 1, none⟩ (.slice a2 b2 d2)).heap[gc]? = some (.cells #[.int .i64 cc] 3 (0, 0)) ∧ ((w4.setCell ⟨g7, P * 2, none⟩ (.slice a1 b1 d1)).setCell ⟨g7, P * 2 + 1, none⟩ (.slice a2 b2 d2)).heap[w.heap.size + 1]? = some (.cells #[.int .i64 0, .int .i64 0, .slice none 0 0] 27 (0, 0)) ∧ RMem ((w4.setCell ⟨g7, P * 2, none⟩ (.slice a1 b1 d1)).setCell ⟨g7, P * 2 + 1, none⟩ (.slice a2 b2 d2)) g7 61 k (swF F cc P) :=
                ⟨(B4.out.setCell ne3 _).setCell ne3 _, hsc (hsc C4.out ne2) ne2, hsc (hsc Z4.out ne1) ne1, by rw [← HSW.out]; exact R4.out.set hPk O4.out⟩
              generalize ((w4.setCell ⟨g7, P * 2, none⟩ (.slice a1 b1 d1)).setCell ⟨g7, P * 2 + 1, none⟩ (.slice a2 b2 d2)) = w5 at NX ⊢
              have NXH := Lib.hid NX
              clear NX hI ht cC cu0 cu1 cv0 cv1 fz0 fz1 cD cx0 cx1 fx0 fx1 hw4 B4 C4 Z4 R4 O4 HSW
              generalize swF F cc P = F1 at NXH HGS hxx
              obtain ⟨N1, N2, N3, N4⟩ := NXH.out
              have hB := Lib.hid N1; have hC := Lib.hid N2; have hZ := Lib.hid N3; have hR := Lib.hid N4
              obtain ⟨csR, hcsR, hszR, hrow⟩ := N4
              obtain ⟨u0, u1, hu0, hu1, hRc⟩ := hrow cc hcl
              obtain ⟨a1, b1, d1, a2, b2, d2, rfl, rfl, hs1, hs2, -⟩ := hRc
              have HC := Lib.hid hcsR; have D0 := Lib.hid hu0; have D1 := Lib.hid hu1
              have cC : w5.cell? ⟨gc, 0, none⟩ = some (.int .i64 cc) := cell_of_row _ _ 0 _ _ _ hC.out
              have cu0 : w5.cell? ⟨g7, cc * 2, none⟩ = some (.slice a1 b1 d1) := (cell_of_row _ _ _ _ _ _ hcsR).trans hu0
              have cu1 : w5.cell? ⟨g7, cc * 2 + 1, none⟩ = some (.slice a2 b2 d2) := (cell_of_row _ _ _ _ _ _ hcsR).trans hu1
              have HS1 := Lib.hid hs1; have HS2 := Lib.hid hs2
              have hr1 : b1 = k := by rw [← hs1.len]; exact (HGS.out.good cc hcl).1.1
              have hr2 : b2 = k := by rw [← hs2.len]; exact (HGS.out.good cc hcl).1.2
              have HNM : Hid (GJm k (sqR k cells) (updF F1 cc (normS (F1 cc))) cc 0) := HGS.out.norm hcl hxx.out
              have HNO : Hid (∀ W, Sl B8 W a1 b1 d1 (F1 cc).1 → Sl B8 W a2 b2 d2 (F1 cc).2 → Calls Try.prog 64 #[.agg #[.slice a1 b1 d1, .slice a2 b2 d2]] W (RetR 5 W (normS (F1 cc)))) := fun W h1 h2 => Norm_any a1 a2 b1 d1 b2 d2 (F1 cc).1 (F1 cc).2 W h1 h2 (by unfold Room; omega) (by unfold Room; omega)
              clear hcsR hszR hrow hu0 hu1 hs1 hs2 hr1 hr2 N1 N2 N3 HGS hxx NXH
              go_wp2_with fail
              refine wp_region_last (fun ix => ([.val (.slice (some ⟨g7, 0, none⟩) k k), .val (.int .i64 cc), .val (.slice (some ⟨g7, 0, none⟩) k k), .val (.int .i64 cc), .val (.pointer (some ⟨g7, cc * 2, none⟩)), .val (.agg #[.slice a1 b1 d1, .slice a2 b2 d2]), .rowN (w5.heap.size) (normS (F1 cc)), .val (.pointer (some ⟨g7, cc * 2, none⟩)), .any][ix]?).getD (.any)) 137 8 rfl (by kernel_rfl) (by decide) (by decide) (by decide) (by decide) ?_ ?_
              · refine ⟨?_, ?_, ?_, ?_, ?_, ?_, ?_, ?_, trivial⟩
                · intro a W hb0 hs hp hi; have hb := undrew hb0; clear hb0
                  have t7 : sl a 7 = .slice (some ⟨g7, 0, none⟩) k k := hi 7 (by decide)
                  exact ite_y rfl (wp_val (sl a 7) rfl ⟨_, rfl, Below.refl _ _, t7⟩)
                · intro a W hb0 hs hp hi; have hb := undrew hb0; clear hb0
                  have tt : sl a 9 = .pointer (some ⟨gc, 0, none⟩) := hi 9 (by decide)
                  have dd0 := (hb.cell (p := ⟨gc, 0, none⟩) (lt_of_cell cC)).trans cC
                  refine ite_y rfl (wp_val (.int .i64 cc) ?_ ?_)
                  · simp only [execOp, eval_tmp, tt]; simp [go_sem, dd0]
                  · exact ⟨_, rfl, Below.refl _ _, rfl⟩
                · intro a W hb0 hs hp hi; have hb := undrew hb0; clear hb0
                  have t7 : sl a 7 = .slice (some ⟨g7, 0, none⟩) k k := hi 7 (by decide)
                  exact ite_y rfl (wp_val (sl a 7) rfl ⟨_, rfl, Below.refl _ _, t7⟩)
                · intro a W hb0 hs hp hi; have hb := undrew hb0; clear hb0
                  have tt : sl a 9 = .pointer (some ⟨gc, 0, none⟩) := hi 9 (by decide)
                  have dd0 := (hb.cell (p := ⟨gc, 0, none⟩) (lt_of_cell cC)).trans cC
                  refine ite_y rfl (wp_val (.int .i64 cc) ?_ ?_)
                  · simp only [execOp, eval_tmp, tt]; simp [go_sem, dd0]
                  · exact ⟨_, rfl, Below.refl _ _, rfl⟩
                · intro a W hb0 hs hp hi; have hb := undrew hb0; clear hb0
                  have t82 : sl a 82 = .slice (some ⟨g7, 0, none⟩) k k := hp 2 (by decide)
                  have t83 : sl a 83 = .int .i64 cc := hp 3 (by decide)
                  refine ite_y rfl (wp_val (.pointer (some ⟨g7, cc * 2, none⟩)) ?_ ?_)
                  · simp only [execOp, eval_tmp, eval_const, t82, t83]; simp [go_sem, kn, hcl]
                  · exact ⟨_, rfl, Below.refl _ _, rfl⟩
                · intro a W hb0 hs hp hi; have hb := undrew hb0; clear hb0
                  have tt : sl a 84 = .pointer (some ⟨g7, cc * 2, none⟩) := hp 4 (by decide)
                  have dd0 := (hb.cell (p := ⟨g7, cc * 2, none⟩) (lt_of_cell cu0)).trans cu0
                  have dd1 := (hb.cell (p := ⟨g7, cc * 2 + 1, none⟩) (lt_of_cell cu1)).trans cu1
                  refine ite_y rfl (wp_val (.agg #[.slice a1 b1 d1, .slice a2 b2 d2]) ?_ ?_)
                  · simp only [execOp, eval_tmp, tt]; simp [go_sem, dd0, dd1]
                  · exact ⟨_, rfl, Below.refl _ _, rfl⟩
                · intro a W hb0 hs hp hi; have hb := undrew hb0; clear hb0
                  have t85 : sl a 85 = .agg #[.slice a1 b1 d1, .slice a2 b2 d2] := hp 5 (by decide)
                  refine ite_y rfl (wp_enter 64 #[.agg #[.slice a1 b1 d1, .slice a2 b2 d2]] ?_ (HNO.out W (HS1.out.keep hb) (HS2.out.keep hb)) ?_)
                  · simp only [execOp, resolve, List.map_toArray, List.map, eval_tmp, eval_func, eval_const, t85]; simp [go_sem]
                  · rintro e W' ⟨q5, m5, g5', q6, m6, g6, e5, e6, rfl, o5, o6, hw⟩; have hbs := hb.size; exact ⟨_, rfl, _, rfl, hw, q5, m5, g5', q6, m6, g6, rfl, Sl.of_owns o5, Sl.of_owns o6, fun a ha => Nat.le_trans hbs (owns_new o5 a ha).1, fun a ha => Nat.le_trans hbs (owns_new o6 a ha).1⟩
                · intro a W hb0 hs hp hi; have hb := undrew hb0; clear hb0
                  have t80 : sl a 80 = .slice (some ⟨g7, 0, none⟩) k k := hp 0 (by decide)
                  have t81 : sl a 81 = .int .i64 cc := hp 1 (by decide)
                  refine ite_y rfl (wp_val (.pointer (some ⟨g7, cc * 2, none⟩)) ?_ ?_)
                  · simp only [execOp, eval_tmp, eval_const, t80, t81]; simp [go_sem, kn, hcl]
                  · exact ⟨_, rfl, Below.refl _ _, rfl⟩
              · intro a w9 o ho hb hs hd hI ht
                have ha := act_is [80, 81, 82, 83, 84, 85, 86, 87] hs hd ht (by decide)
                simp at ho; subst ho
                have t86 := hI 6 (by decide)
                have t87 : sl a 87 = .pointer (some ⟨g7, cc * 2, none⟩) := hI 7 (by decide)
                have C9 := (hb.block _ (blk_lt HC.out)).trans HC.out
                have R9 := hR.out.keep hb
                obtain ⟨q5, m5, c5, q6, m6, c6, t86, s5, s6, s7, s8⟩ := t86
                have hlt7 := blk_lt HC.out
                have d0 : w9.cell? ⟨g7, cc * 2, none⟩ = some (.slice a1 b1 d1) := (cell_of_row _ _ _ _ _ _ C9).trans D0.out
                have d1 : w9.cell? ⟨g7, cc * 2 + 1, none⟩ = some (.slice a2 b2 d2) := (cell_of_row _ _ _ _ _ _ C9).trans D1.out
                have z0 : w9.frozen? ⟨g7, cc * 2, none⟩ = false := frozen_of_row _ _ _ _ _ C9
                have z1 : w9.frozen? ⟨g7, cc * 2 + 1, none⟩ = false := frozen_of_row _ _ _ _ _ C9
                refine wp_skip_none rfl (w' := ((w9.setCell ⟨g7, cc * 2, none⟩ (.slice q5 m5 c5)).setCell ⟨g7, cc * 2 + 1, none⟩ (.slice q6 m6 c6))) ?_ ?_
                · simp only [execOp, eval_tmp, t86, t87]; simp [go_sem, d0, d1, z0, z1]
                simp only [List.foldl, t86, t87] at ha
                generalize sl a 80 = u80 at ha
                generalize sl a 81 = u81 at ha
                generalize sl a 82 = u82 at ha
                generalize sl a 83 = u83 at ha
                generalize sl a 84 = u84 at ha
                generalize sl a 85 = u85 at ha
                simp only [Act.put, List.setIfInBounds_toArray, List.set_cons_zero, List.set_cons_succ] at ha
                rw [ha]; clear ha
                have RN := R9.set hcl (u := .slice q5 m5 c5) (v := .slice q6 m6 c6) ⟨q5, m5, c5, q6, m6, c6, rfl, rfl, s5, s6, (fun a ha => by have := s7 a ha; omega), (fun a ha => by have := s8 a ha; omega)⟩
                have bw9 := bl hB.out hb hB.out.size
                have NX : Below w.heap.size w ((w9.setCell ⟨g7, cc * 2, none⟩ (.slice q5 m5 c5)).setCell ⟨g7, cc * 2 + 1, none⟩ (.slice q6 m6 c6)) ∧ ((w9.setCell ⟨g7, cc * 2, none⟩ (.slice q5 m5 c5)).setCell ⟨g7, cc * 2 + 1, none⟩ (.slice q6 m6 c6)).heap[gc]? = some (.cells #[.int .i64 cc] 3 (0, 0)) ∧ ((w9.setCell ⟨g7, cc * 2, none⟩ (.slice q5 m5 c5)).setCell ⟨g7, cc * 2 + 1, none⟩ (.slice q6 m6 c6)).heap[w.heap.size + 1]? = some (.cells #[.int .i64 0, .int .i64 0, .slice none 0 0] 27 (0, 0)) :=
                  ⟨(bw9.setCell ne3 _).setCell ne3 _, hsc (hsc ((hb.block _ (blk_lt hC.out)).trans hC.out) ne2) ne2, hsc (hsc ((hb.block _ (blk_lt hZ.out)).trans hZ.out) ne1) ne1⟩
                generalize ((w9.setCell ⟨g7, cc * 2, none⟩ (.slice q5 m5 c5)).setCell ⟨g7, cc * 2 + 1, none⟩ (.slice q6 m6 c6)) = w6 at NX RN ⊢
                have NXH := Lib.hid NX; have RNH := Lib.hid RN
                clear NX RN R9 C9 d0 d1 z0 z1 s5 s6 s7 s8 hI ht hb hlt7 bw9 cC cu0 cu1 HC D0 D1 HS1 HS2 HNO hB hC hZ hR
                generalize updF F1 cc (normS (F1 cc)) = F2 at RNH HNM
                obtain ⟨wp, rfl⟩ : ∃ wp, wp = wr := ⟨_, rfl⟩
                go_wp2
                go_loopw [89] (fun i wr => ∃ (kk : Nat) (F : Nat → Rw), kk ≤ k ∧ i = .int .i64 kk ∧ Hid (GJm k (sqR k cells) F cc kk) ∧ Hid (RMem wr g7 61 k F) ∧ Hid (Below w.heap.size w wr) ∧ Hid (wr.heap[gc]? = some (.cells #[.int .i64 cc] 3 (0, 0))) ∧ Hid (wr.heap[w.heap.size + 1]? = some (.cells #[.int .i64 0, .int .i64 0, .slice none 0 0] 27 (0, 0)))) (fun i _ => k - (intOf i).toNat)
                case atStart => exact ⟨0, F2, Nat.zero_le _, rfl, HNM.out, RNH.out, NXH.out.1, NXH.out.2.1, NXH.out.2.2⟩
                case round =>
                  clear NXH RNH HNM
                  obtain ⟨kk, F3, hkk, rfl, hGM, hR, hB, hC, hZ⟩ := hrel
                  have cC : wr.cell? ⟨gc, 0, none⟩ = some (.int .i64 cc) := cell_of_row _ _ 0 _ _ _ hC.out
                  by_cases hkl : kk < k
                  · have kkn : (kk : Int) < (k : Int) := by omega
                    by_cases hkc : kk = cc
                    · have hnd : ((kk : Int) != (cc : Int)) = false := by simp [hkc]
                      have HGK : Hid (GJm k (sqR k cells) F3 cc (kk + 1)) := by have h := hGM.out; rw [hkc] at h ⊢; exact h.skip
                      clear hkc
                      go_wp2
                      go_roundw
                      case rel => exact ⟨kk + 1, F3, by omega, by go_num, HGK.out, hR.out, hB.out, hC.out, hZ.out⟩
                      case measure => simp [intOf]; omega
                    · have hnd : ((kk : Int) != (cc : Int)) = true := by simp; omega
                      have HGK : Hid (GJm k (sqR k cells) (updF F3 kk (lessF (F3 kk) (atS (F3 kk).1 (cc : Int)) (F3 cc))) cc (kk + 1)) := hGM.out.step hcl hkl hkc
                      obtain ⟨csR, hcsR, hszR, hrow⟩ := hR.out
                      obtain ⟨u0, u1, hu0, hu1, hRk⟩ := hrow kk hkl
                      obtain ⟨v0, v1, hv0, hv1, hRc⟩ := hrow cc hcl
                      obtain ⟨a1, b1, d1, a2, b2, d2, rfl, rfl, hs1, hs2, -⟩ := hRk
                      obtain ⟨a3, b3, d3, a4, b4, d4, rfl, rfl, hs3, hs4, -⟩ := hRc
                      have HC := Lib.hid hcsR; have D0 := Lib.hid hu0; have D1 := Lib.hid hu1
                      have cu0 : wr.cell? ⟨g7, kk * 2, none⟩ = some (.slice a1 b1 d1) := (cell_of_row _ _ _ _ _ _ hcsR).trans hu0
                      have cu1 : wr.cell? ⟨g7, kk * 2 + 1, none⟩ = some (.slice a2 b2 d2) := (cell_of_row _ _ _ _ _ _ hcsR).trans hu1
                      have cv0 : wr.cell? ⟨g7, cc * 2, none⟩ = some (.slice a3 b3 d3) := (cell_of_row _ _ _ _ _ _ hcsR).trans hv0
                      have cv1 : wr.cell? ⟨g7, cc * 2 + 1, none⟩ = some (.slice a4 b4 d4) := (cell_of_row _ _ _ _ _ _ hcsR).trans hv1
                      have HS1 := Lib.hid hs1; have HS2 := Lib.hid hs2; have HS3 := Lib.hid hs3; have HS4 := Lib.hid hs4
                      obtain ⟨CJ, hCJ⟩ : ∃ CJ, CJ = atS (F3 kk).1 (cc : Int) := ⟨_, rfl⟩
                      obtain ⟨YJ, hYJ⟩ : ∃ YJ, YJ = lessF (F3 kk) CJ (F3 cc) := ⟨_, rfl⟩
                      have fk := (hGM.out.good kk hkl).1
                      have fc := (hGM.out.good cc hcl).1
                      have hr1 : b1 = k := by rw [← hs1.len]; exact fk.1
                      have hr2 : b2 = k := by rw [← hs2.len]; exact fk.2
                      have HAT : Hid (∀ W, Sl B8 W a1 b1 d1 (F3 kk).1 → Calls Try.prog 61 #[.slice a1 b1 d1, .int .i64 cc] W fun e w' => e = .returned (B8 CJ) ∧ W = w') := fun W h => by rw [hCJ]; exact At_any _ _ _ _ cc W h
                      have HLS : Hid (∀ W, Sl B8 W a1 b1 d1 (F3 kk).1 → Sl B8 W a2 b2 d2 (F3 kk).2 → Sl B8 W a3 b3 d3 (F3 cc).1 → Sl B8 W a4 b4 d4 (F3 cc).2 → Calls Try.prog 60 #[.agg #[.slice a1 b1 d1, .slice a2 b2 d2], B8 CJ, .agg #[.slice a3 b3 d3, .slice a4 b4 d4]] W (RetR2 5 W YJ 0)) := fun W h1 h2 h3 h4 => by
                        have := Less_any a1 a2 a3 a4 b1 d1 b2 d2 b3 d3 b4 d4 (F3 kk).1 (F3 kk).2 (F3 cc).1 (F3 cc).2 CJ W h1 h2 h3 h4 (by unfold Room; omega) (by unfold Room; omega)
                        rw [lessS_fit (n := k) (t := k) (x := F3 kk) (k := F3 cc) fk fc, ← hYJ] at this
                        exact this
                      rw [← hCJ, ← hYJ] at HGK
                      clear hcsR hszR hrow hu0 hu1 hv0 hv1 hs1 hs2 hs3 hs4 hCJ hYJ fk fc hr1 hr2 hGM hkc
                      go_wp2
                      refine wp_region_late (fun ix => ([.val (.slice (some ⟨g7, 0, none⟩) k k), .val (.int .i64 kk), .val (.slice (some ⟨g7, 0, none⟩) k k), .val (.int .i64 kk), .val (.pointer (some ⟨g7, kk * 2, none⟩)), .val (.agg #[.slice a1 b1 d1, .slice a2 b2 d2]), .val (.slice (some ⟨g7, 0, none⟩) k k), .val (.int .i64 kk), .val (.pointer (some ⟨g7, kk * 2, none⟩)), .val (.pointer (some ⟨g7, kk * 2, none⟩)), .val (.slice a1 b1 d1), .val (.int .i64 cc), .val (B8 CJ), .val (.slice (some ⟨g7, 0, none⟩) k k), .val (.int .i64 cc), .val (.pointer (some ⟨g7, cc * 2, none⟩)), .val (.agg #[.slice a3 b3 d3, .slice a4 b4 d4]), .rowTN (wr.heap.size) (YJ) (0), .rowTN (wr.heap.size) (YJ) (0), .rowN (wr.heap.size) (YJ), .val (.int .i64 0), .val (.pointer (some ⟨g7, kk * 2, none⟩)), .any][ix]?).getD (.any)) 137 22 20 95 115 rfl (by kernel_rfl) (by decide) (by decide) (by decide) _ rfl rfl rfl (by decide) (fun a u x w h => run_extract1 _ rfl h) (by decide) ?_ ?_
                      · refine ⟨?_, ?_, ?_, ?_, ?_, ?_, ?_, ?_, ?_, ?_, ?_, ?_, ?_, ?_, ?_, ?_, ?_, ?_, ?_, ?_, ?_, ?_, trivial⟩
                        · intro a W hb0 hs hp hi; have hb := undrew hb0; clear hb0
                          have t7 : sl a 7 = .slice (some ⟨g7, 0, none⟩) k k := hi 7 (by decide)
                          exact ite_y rfl (wp_val (sl a 7) rfl ⟨_, rfl, Below.refl _ _, t7⟩)
                        · intro a W hb0 hs hp hi; have hb := undrew hb0; clear hb0
                          have t12 : sl a 12 = .int .i64 kk := hi 12 (by decide)
                          exact ite_y rfl (wp_val (sl a 12) rfl ⟨_, rfl, Below.refl _ _, t12⟩)
                        · intro a W hb0 hs hp hi; have hb := undrew hb0; clear hb0
                          have t7 : sl a 7 = .slice (some ⟨g7, 0, none⟩) k k := hi 7 (by decide)
                          exact ite_y rfl (wp_val (sl a 7) rfl ⟨_, rfl, Below.refl _ _, t7⟩)
                        · intro a W hb0 hs hp hi; have hb := undrew hb0; clear hb0
                          have t12 : sl a 12 = .int .i64 kk := hi 12 (by decide)
                          exact ite_y rfl (wp_val (sl a 12) rfl ⟨_, rfl, Below.refl _ _, t12⟩)
                        · intro a W hb0 hs hp hi; have hb := undrew hb0; clear hb0
                          have t98 : sl a 98 = .slice (some ⟨g7, 0, none⟩) k k := hp 2 (by decide)
                          have t99 : sl a 99 = .int .i64 kk := hp 3 (by decide)
                          refine ite_y rfl (wp_val (.pointer (some ⟨g7, kk * 2, none⟩)) ?_ ?_)
                          · simp only [execOp, eval_tmp, eval_const, t98, t99]; simp [go_sem, kkn, hkl]
                          · exact ⟨_, rfl, Below.refl _ _, rfl⟩
                        · intro a W hb0 hs hp hi; have hb := undrew hb0; clear hb0
                          have tt : sl a 100 = .pointer (some ⟨g7, kk * 2, none⟩) := hp 4 (by decide)
                          have dd0 := (hb.cell (p := ⟨g7, kk * 2, none⟩) (lt_of_cell cu0)).trans cu0
                          have dd1 := (hb.cell (p := ⟨g7, kk * 2 + 1, none⟩) (lt_of_cell cu1)).trans cu1
                          refine ite_y rfl (wp_val (.agg #[.slice a1 b1 d1, .slice a2 b2 d2]) ?_ ?_)
                          · simp only [execOp, eval_tmp, tt]; simp [go_sem, dd0, dd1]
                          · exact ⟨_, rfl, Below.refl _ _, rfl⟩
                        · intro a W hb0 hs hp hi; have hb := undrew hb0; clear hb0
                          have t7 : sl a 7 = .slice (some ⟨g7, 0, none⟩) k k := hi 7 (by decide)
                          exact ite_y rfl (wp_val (sl a 7) rfl ⟨_, rfl, Below.refl _ _, t7⟩)
                        · intro a W hb0 hs hp hi; have hb := undrew hb0; clear hb0
                          have t12 : sl a 12 = .int .i64 kk := hi 12 (by decide)
                          exact ite_y rfl (wp_val (sl a 12) rfl ⟨_, rfl, Below.refl _ _, t12⟩)
                        · intro a W hb0 hs hp hi; have hb := undrew hb0; clear hb0
                          have t102 : sl a 102 = .slice (some ⟨g7, 0, none⟩) k k := hp 6 (by decide)
                          have t103 : sl a 103 = .int .i64 kk := hp 7 (by decide)
                          refine ite_y rfl (wp_val (.pointer (some ⟨g7, kk * 2, none⟩)) ?_ ?_)
                          · simp only [execOp, eval_tmp, eval_const, t102, t103]; simp [go_sem, kkn, hkl]
                          · exact ⟨_, rfl, Below.refl _ _, rfl⟩
                        · intro a W hb0 hs hp hi; have hb := undrew hb0; clear hb0
                          have t104 : sl a 104 = .pointer (some ⟨g7, kk * 2, none⟩) := hp 8 (by decide)
                          refine ite_y rfl (wp_val (.pointer (some ⟨g7, kk * 2, none⟩)) ?_ ?_)
                          · simp only [execOp, eval_tmp, eval_const, t104]; simp [go_sem]
                          · exact ⟨_, rfl, Below.refl _ _, rfl⟩
                        · intro a W hb0 hs hp hi; have hb := undrew hb0; clear hb0
                          have tt : sl a 105 = .pointer (some ⟨g7, kk * 2, none⟩) := hp 9 (by decide)
                          have dd0 := (hb.cell (p := ⟨g7, kk * 2, none⟩) (lt_of_cell cu0)).trans cu0
                          refine ite_y rfl (wp_val (.slice a1 b1 d1) ?_ ?_)
                          · simp only [execOp, eval_tmp, tt]; simp [go_sem, dd0]
                          · exact ⟨_, rfl, Below.refl _ _, rfl⟩
                        · intro a W hb0 hs hp hi; have hb := undrew hb0; clear hb0
                          have tt : sl a 9 = .pointer (some ⟨gc, 0, none⟩) := hi 9 (by decide)
                          have dd0 := (hb.cell (p := ⟨gc, 0, none⟩) (lt_of_cell cC)).trans cC
                          refine ite_y rfl (wp_val (.int .i64 cc) ?_ ?_)
                          · simp only [execOp, eval_tmp, tt]; simp [go_sem, dd0]
                          · exact ⟨_, rfl, Below.refl _ _, rfl⟩
                        · intro a W hb0 hs hp hi; have hb := undrew hb0; clear hb0
                          have t106 : sl a 106 = .slice a1 b1 d1 := hp 10 (by decide)
                          have t107 : sl a 107 = .int .i64 cc := hp 11 (by decide)
                          refine ite_y rfl (wp_enter 61 #[.slice a1 b1 d1, .int .i64 cc] ?_ (HAT.out W (HS1.out.keep hb)) ?_)
                          · simp only [execOp, resolve, List.map_toArray, List.map, eval_tmp, eval_func, eval_const, t106, t107]; simp [go_sem]
                          · rintro e W' ⟨rfl, rfl⟩; exact ⟨_, rfl, _, rfl, Below.refl _ _, rfl⟩
                        · intro a W hb0 hs hp hi; have hb := undrew hb0; clear hb0
                          have t7 : sl a 7 = .slice (some ⟨g7, 0, none⟩) k k := hi 7 (by decide)
                          exact ite_y rfl (wp_val (sl a 7) rfl ⟨_, rfl, Below.refl _ _, t7⟩)
                        · intro a W hb0 hs hp hi; have hb := undrew hb0; clear hb0
                          have tt : sl a 9 = .pointer (some ⟨gc, 0, none⟩) := hi 9 (by decide)
                          have dd0 := (hb.cell (p := ⟨gc, 0, none⟩) (lt_of_cell cC)).trans cC
                          refine ite_y rfl (wp_val (.int .i64 cc) ?_ ?_)
                          · simp only [execOp, eval_tmp, tt]; simp [go_sem, dd0]
                          · exact ⟨_, rfl, Below.refl _ _, rfl⟩
                        · intro a W hb0 hs hp hi; have hb := undrew hb0; clear hb0
                          have t109 : sl a 109 = .slice (some ⟨g7, 0, none⟩) k k := hp 13 (by decide)
                          have t110 : sl a 110 = .int .i64 cc := hp 14 (by decide)
                          refine ite_y rfl (wp_val (.pointer (some ⟨g7, cc * 2, none⟩)) ?_ ?_)
                          · simp only [execOp, eval_tmp, eval_const, t109, t110]; simp [go_sem, kn, hcl]
                          · exact ⟨_, rfl, Below.refl _ _, rfl⟩
                        · intro a W hb0 hs hp hi; have hb := undrew hb0; clear hb0
                          have tt : sl a 111 = .pointer (some ⟨g7, cc * 2, none⟩) := hp 15 (by decide)
                          have dd0 := (hb.cell (p := ⟨g7, cc * 2, none⟩) (lt_of_cell cv0)).trans cv0
                          have dd1 := (hb.cell (p := ⟨g7, cc * 2 + 1, none⟩) (lt_of_cell cv1)).trans cv1
                          refine ite_y rfl (wp_val (.agg #[.slice a3 b3 d3, .slice a4 b4 d4]) ?_ ?_)
                          · simp only [execOp, eval_tmp, tt]; simp [go_sem, dd0, dd1]
                          · exact ⟨_, rfl, Below.refl _ _, rfl⟩
                        · intro a W hb0 hs hp hi; have hb := undrew hb0; clear hb0
                          have t101 : sl a 101 = .agg #[.slice a1 b1 d1, .slice a2 b2 d2] := hp 5 (by decide)
                          have t108 : sl a 108 = B8 CJ := hp 12 (by decide)
                          have t112 : sl a 112 = .agg #[.slice a3 b3 d3, .slice a4 b4 d4] := hp 16 (by decide)
                          refine ite_y rfl (wp_enter 60 #[.agg #[.slice a1 b1 d1, .slice a2 b2 d2], B8 CJ, .agg #[.slice a3 b3 d3, .slice a4 b4 d4]] ?_ (HLS.out W (HS1.out.keep hb) (HS2.out.keep hb) (HS3.out.keep hb) (HS4.out.keep hb)) ?_)
                          · simp only [execOp, resolve, List.map_toArray, List.map, eval_tmp, eval_func, eval_const, t101, t108, t112]; simp [go_sem]
                          · rintro e W' ⟨q5, m5, g5', q6, m6, g6, e5, e6, rfl, o5, o6, hw⟩; have hbs := hb.size; exact ⟨_, rfl, _, rfl, hw, _, rfl, q5, m5, g5', q6, m6, g6, rfl, Sl.of_owns o5, Sl.of_owns o6, fun a ha => Nat.le_trans hbs (owns_new o5 a ha).1, fun a ha => Nat.le_trans hbs (owns_new o6 a ha).1⟩
                        · intro a W hb0 hs hp hi; have hb := undrew hb0; clear hb0
                          have tt : RowTN (wr.heap.size) (YJ) (0) (sl a 113) W := hp 17 (by decide)
                          exact ite_y rfl (wp_val (sl a 113) rfl ⟨_, rfl, Below.refl _ _, tt⟩)
                        · intro a W hb0 hs hp hi; have hb := undrew hb0; clear hb0
                          have tt : RowTN (wr.heap.size) (YJ) (0) (sl a 95) W := hp 18 (by decide)
                          obtain ⟨u, tt, hr⟩ := tt
                          exact ite_y rfl (wp_val u (by simp only [execOp, eval_tmp, tt]; rfl) ⟨_, rfl, Below.refl _ _, hr⟩)
                        · intro a W hb0 hs hp hi; have hb := undrew hb0; clear hb0
                          have tt : RowTN (wr.heap.size) (YJ) (0) (sl a 95) W := hp 18 (by decide)
                          obtain ⟨u, tt, hr⟩ := tt
                          exact ite_y rfl (wp_val (.int .i64 0) (by simp only [execOp, eval_tmp, tt]; rfl) ⟨_, rfl, Below.refl _ _, rfl⟩)
                        · intro a W hb0 hs hp hi; have hb := undrew hb0; clear hb0
                          have t96 : sl a 96 = .slice (some ⟨g7, 0, none⟩) k k := hp 0 (by decide)
                          have t97 : sl a 97 = .int .i64 kk := hp 1 (by decide)
                          refine ite_y rfl (wp_val (.pointer (some ⟨g7, kk * 2, none⟩)) ?_ ?_)
                          · simp only [execOp, eval_tmp, eval_const, t96, t97]; simp [go_sem, kkn, hkl]
                          · exact ⟨_, rfl, Below.refl _ _, rfl⟩
                      · intro a w9 o ho hb hs hd hI ht
                        simp at ho; subst ho
                        have t95 : RowTN (wr.heap.size) (YJ) (0) (sl a 95) w9 := hI 18 (by decide) (by decide)
                        have t114 : RowN (wr.heap.size) (YJ) (sl a 114) w9 := hI 19 (by decide) (by decide)
                        have t116 : sl a 116 = .pointer (some ⟨g7, kk * 2, none⟩) := hI 21 (by decide) (by decide)
                        obtain ⟨uu, t95, -⟩ := t95
                        have C9 := (hb.block _ (blk_lt HC.out)).trans HC.out
                        have R9 := hR.out.keep hb
                        obtain ⟨q5, m5, c5, q6, m6, c6, t114, s5, s6, s7, s8⟩ := t114
                        have hlt7 := blk_lt HC.out
                        have d0 : w9.cell? ⟨g7, kk * 2, none⟩ = some (.slice a1 b1 d1) := (cell_of_row _ _ _ _ _ _ C9).trans D0.out
                        have d1 : w9.cell? ⟨g7, kk * 2 + 1, none⟩ = some (.slice a2 b2 d2) := (cell_of_row _ _ _ _ _ _ C9).trans D1.out
                        have z0 : w9.frozen? ⟨g7, kk * 2, none⟩ = false := frozen_of_row _ _ _ _ _ C9
                        have z1 : w9.frozen? ⟨g7, kk * 2 + 1, none⟩ = false := frozen_of_row _ _ _ _ _ C9
                        refine ⟨⟨_, _, t95⟩, wp_skipX (w' := ((w9.setCell ⟨g7, kk * 2, none⟩ (.slice q5 m5 c5)).setCell ⟨g7, kk * 2 + 1, none⟩ (.slice q6 m6 c6))) ?_ ⟨rfl, fun b hbs hbd hbt => ?_⟩⟩
                        · simp only [execOp, eval_tmp, t114, t116]; simp [go_sem, d0, d1, z0, z1]
                        have ha := act_is [96, 97, 98, 99, 100, 101, 102, 103, 104, 105, 106, 107, 108, 109, 110, 111, 112, 113, 95, 114, 115, 116] hbs hbd (fun t h => (hbt t (fun e => by subst e; revert h; decide)).trans (ht t h)) (by decide)
                        simp only [List.foldl] at ha
                        generalize sl b 96 = u96 at ha
                        generalize sl b 97 = u97 at ha
                        generalize sl b 98 = u98 at ha
                        generalize sl b 99 = u99 at ha
                        generalize sl b 100 = u100 at ha
                        generalize sl b 101 = u101 at ha
                        generalize sl b 102 = u102 at ha
                        generalize sl b 103 = u103 at ha
                        generalize sl b 104 = u104 at ha
                        generalize sl b 105 = u105 at ha
                        generalize sl b 106 = u106 at ha
                        generalize sl b 107 = u107 at ha
                        generalize sl b 108 = u108 at ha
                        generalize sl b 109 = u109 at ha
                        generalize sl b 110 = u110 at ha
                        generalize sl b 111 = u111 at ha
                        generalize sl b 112 = u112 at ha
                        generalize sl b 113 = u113 at ha
                        generalize sl b 95 = u95 at ha
                        generalize sl b 114 = u114 at ha
                        generalize sl b 115 = u115 at ha
                        generalize sl b 116 = u116 at ha
                        simp only [Act.put, List.setIfInBounds_toArray, List.set_cons_zero, List.set_cons_succ] at ha
                        rw [ha]; clear ha
                        have RN := R9.set hkl (u := .slice q5 m5 c5) (v := .slice q6 m6 c6) ⟨q5, m5, c5, q6, m6, c6, rfl, rfl, s5, s6, (fun a ha => by have := s7 a ha; omega), (fun a ha => by have := s8 a ha; omega)⟩
                        have bw9 := bl hB.out hb hB.out.size
                        have NX : Below w.heap.size w ((w9.setCell ⟨g7, kk * 2, none⟩ (.slice q5 m5 c5)).setCell ⟨g7, kk * 2 + 1, none⟩ (.slice q6 m6 c6)) ∧ ((w9.setCell ⟨g7, kk * 2, none⟩ (.slice q5 m5 c5)).setCell ⟨g7, kk * 2 + 1, none⟩ (.slice q6 m6 c6)).heap[gc]? = some (.cells #[.int .i64 cc] 3 (0, 0)) ∧ ((w9.setCell ⟨g7, kk * 2, none⟩ (.slice q5 m5 c5)).setCell ⟨g7, kk * 2 + 1, none⟩ (.slice q6 m6 c6)).heap[w.heap.size + 1]? = some (.cells #[.int .i64 0, .int .i64 0, .slice none 0 0] 27 (0, 0)) :=
                          ⟨(bw9.setCell ne3 _).setCell ne3 _, hsc (hsc ((hb.block _ (blk_lt hC.out)).trans hC.out) ne2) ne2, hsc (hsc ((hb.block _ (blk_lt hZ.out)).trans hZ.out) ne1) ne1⟩
                        generalize ((w9.setCell ⟨g7, kk * 2, none⟩ (.slice q5 m5 c5)).setCell ⟨g7, kk * 2 + 1, none⟩ (.slice q6 m6 c6)) = w6 at NX RN ⊢
                        have NXH := Lib.hid NX; have RNH := Lib.hid RN
                        clear NX RN R9 C9 d0 d1 z0 z1 s5 s6 s7 s8 hI ht hb hlt7 bw9 cC cu0 cu1 cv0 cv1 HC D0 D1 HS1 HS2 HS3 HS4 HAT HLS hB hC hZ hR hbt
                        go_wp2
                        go_roundw
                        case rel => exact ⟨kk + 1, _, by omega, by go_num, HGK.out, RNH.out, NXH.out.1, NXH.out.2.1, NXH.out.2.2⟩
                        case measure => simp [intOf]; omega
                  · have hkn : kk = k := by omega
                    have hge : (k : Int) ≤ (kk : Int) := by omega
                    have HGN : Hid (GJ k (sqR k cells) F3 (cc + 1)) := by have h := hGM.out; rw [hkn] at h; exact h.done
                    clear hkn
                    go_wp2
                    go_roundw
                    case rel => exact ⟨cc + 1, F3, by omega, by go_num, HGN.out, hR.out, hB.out, hZ.out⟩
                    case measure => simp [intOf]; omega
        · have hck : cc = k := by omega
          have hge : (k : Int) ≤ (cc : Int) := by omega
          rw [hck] at hGJ
          clear hck
          obtain ⟨wq, rfl⟩ : ∃ wq, wq = wr := ⟨_, rfl⟩
          go_wp2_with fail
          refine Calls.mono (HBL.out _) ?_; rintro e wA ⟨q, NP, cP, hNP, rfl, ho, hb⟩
          have OA : Hid (wA.ownsRow wq.heap.size 5 1 (.slice q NP cP) NP ((putC k (fun i => (F i).2) 0).map B8)) := by
            show World.ownsRow _ _ _ _ _ _ _
            rw [putC_zero]; exact ho
          have BA : Hid (Below wq.heap.size wq wA) := hb
          have HNP := Lib.hid hNP
          have HFL : Hid (∀ i, i < k → (F i).2.length = k) := fun i hi => (hGJ.out.good i hi).1.2
          have HQA : Hid (∀ a, q = some a → a.block < wA.heap.size) := fun a ha => (owns_new ho a ha).2
          obtain ⟨gb, hgb⟩ : ∃ gb, gb = wA.heap.size := ⟨_, rfl⟩
          have hgb2 : wq.heap.size ≤ gb := by rw [hgb]; exact hb.size
          have BB : Hid (Below wq.heap.size wq (wA.alloc (.cells #[.int .i64 k, .int .i64 k, .slice q NP cP] 27))) := al hb hb.size
          have OB : Hid ((wA.alloc (.cells #[.int .i64 k, .int .i64 k, .slice q NP cP] 27)).ownsRow wq.heap.size 5 1 (.slice q NP cP) NP ((putC k (fun i => (F i).2) 0).map B8)) := owns_keep OA.out (al (Below.refl _ _) (Nat.le_refl _))
          have PB : Hid ((wA.alloc (.cells #[.int .i64 k, .int .i64 k, .slice q NP cP] 27)).heap[gb]? = some (.cells #[.int .i64 k, .int .i64 k, .slice q NP cP] 27 (0, 0))) := hnew hgb
          clear ho hb hNP OA BA
          go_wp2
          rw [← hgb] at HQA ⊢
          go_loopw [123] (fun i wr => ∃ j : Nat, j ≤ k ∧ i = .int .i64 j ∧ Hid (Below wq.heap.size wq wr) ∧ Hid (wr.ownsRow wq.heap.size 5 1 (.slice q NP cP) NP ((putC k (fun i => (F i).2) j).map B8)) ∧ Hid (wr.heap[gb]? = some (.cells #[.int .i64 k, .int .i64 k, .slice q NP cP] 27 (0, 0)))) (fun i _ => k - (intOf i).toNat)
          case atStart => exact ⟨0, Nat.zero_le _, rfl, BB.out, OB.out, PB.out⟩
          case round =>
            clear BB OB PB hgb
            obtain ⟨j, hj, rfl, hQ, hO, hP⟩ := hrel
            by_cases hjl : j < k
            · have jn : (j : Int) < (k : Int) := by omega
              obtain ⟨csR, hcsR, hszR, hrow⟩ := hR.out.keep hQ.out
              obtain ⟨u0, u1, hu0, hu1, hRk⟩ := hrow j hjl
              obtain ⟨a1, b1, d1, a2, b2, d2, rfl, rfl, hs1, hs2, -⟩ := hRk
              have cu1 : wr.cell? ⟨g7, j * 2 + 1, none⟩ = some (.slice a2 b2 d2) := (cell_of_row _ _ _ _ _ _ hcsR).trans hu1
              have HS2 := Lib.hid hs2
              have hr2 : b2 = k := by rw [← hs2.len]; exact HFL.out j hjl
              have hpos : 0 < NP := by rw [HNP.out]; exact Nat.mul_pos (by omega) (by omega)
              obtain ⟨gq, rfl, hq1, hq2⟩ := owns_at hO.out hpos
              have hqb := HQA.out _ rfl
              clear hcsR hszR hrow hu0 hu1 hs1 hs2 hpos
              subst hr2
              obtain ⟨bs, os, hqs, hc0⟩ := HS2.out.rs 0 (by rw [HS2.out.len]; omega)
              subst hqs
              clear hc0
              go_wp2
              refine wp_region_last (fun ix => ([.val (.agg #[.int .i64 b2, .int .i64 b2, .slice (some ⟨gq, 0, none⟩) NP cP]), .val (.int .i64 j), (shpAt gq (j * b2) b2), .val (.slice (some ⟨g7, 0, none⟩) b2 b2), .val (.int .i64 j), .val (.pointer (some ⟨g7, j * 2, none⟩)), .val (.pointer (some ⟨g7, j * 2 + 1, none⟩)), .val (.slice (some ⟨bs, os, none⟩) b2 d2), .any][ix]?).getD (.any)) 137 8 rfl (by kernel_rfl) (by decide) (by decide) (by decide) (by decide) ?_ ?_
              · refine ⟨?_, ?_, ?_, ?_, ?_, ?_, ?_, ?_, trivial⟩
                · intro a W hb0 hs hp hi; have hb := undrew hb0; clear hb0
                  have t13 : sl a 13 = .pointer (some ⟨gb, 0, none⟩) := hi 13 (by decide)
                  obtain ⟨d0, d1, d2⟩ := cells3 ((hb.block _ (blk_lt hP.out)).trans hP.out)
                  refine ite_y rfl (wp_val (.agg #[.int .i64 b2, .int .i64 b2, .slice (some ⟨gq, 0, none⟩) NP cP]) ?_ ?_)
                  · simp only [execOp, eval_tmp, t13]; simp [go_sem, d0, d1, d2]
                  · exact ⟨_, rfl, Below.refl _ _, rfl⟩
                · intro a W hb0 hs hp hi; have hb := undrew hb0; clear hb0
                  have t14 : sl a 14 = .int .i64 j := hi 14 (by decide)
                  exact ite_y rfl (wp_val (sl a 14) rfl ⟨_, rfl, Below.refl _ _, t14⟩)
                · intro a W hb0 hs hp hi; have hb := undrew hb0; clear hb0
                  have t126 : sl a 126 = .agg #[.int .i64 b2, .int .i64 b2, .slice (some ⟨gq, 0, none⟩) NP cP] := hp 0 (by decide)
                  have t127 : sl a 127 = .int .i64 j := hp 1 (by decide)
                  refine ite_y rfl (wp_enter 57 #[.agg #[.int .i64 b2, .int .i64 b2, .slice (some ⟨gq, 0, none⟩) NP cP], .int .i64 j] ?_ (row_any b2 b2 j (some ⟨gq, 0, none⟩) NP cP _ W (Sl.of_owns (owns_keep hO.out hb)) HNP.out hjl (by omega)) ?_)
                  · simp only [execOp, resolve, List.map_toArray, List.map, eval_tmp, eval_func, eval_const, t126, t127]; simp [go_sem]
                  · rintro e W' ⟨q', c', rfl, hs', hq', hw⟩; have hq := hq' (by omega) gq 0 rfl; rw [Nat.zero_add] at hq; subst hq; exact ⟨_, rfl, _, rfl, hw, c', rfl⟩
                · intro a W hb0 hs hp hi; have hb := undrew hb0; clear hb0
                  have t7 : sl a 7 = .slice (some ⟨g7, 0, none⟩) b2 b2 := hi 7 (by decide)
                  exact ite_y rfl (wp_val (sl a 7) rfl ⟨_, rfl, Below.refl _ _, t7⟩)
                · intro a W hb0 hs hp hi; have hb := undrew hb0; clear hb0
                  have t14 : sl a 14 = .int .i64 j := hi 14 (by decide)
                  exact ite_y rfl (wp_val (sl a 14) rfl ⟨_, rfl, Below.refl _ _, t14⟩)
                · intro a W hb0 hs hp hi; have hb := undrew hb0; clear hb0
                  have t129 : sl a 129 = .slice (some ⟨g7, 0, none⟩) b2 b2 := hp 3 (by decide)
                  have t130 : sl a 130 = .int .i64 j := hp 4 (by decide)
                  refine ite_y rfl (wp_val (.pointer (some ⟨g7, j * 2, none⟩)) ?_ ?_)
                  · simp only [execOp, eval_tmp, eval_const, t129, t130]; simp [go_sem, jn, hjl]
                  · exact ⟨_, rfl, Below.refl _ _, rfl⟩
                · intro a W hb0 hs hp hi; have hb := undrew hb0; clear hb0
                  have t131 : sl a 131 = .pointer (some ⟨g7, j * 2, none⟩) := hp 5 (by decide)
                  refine ite_y rfl (wp_val (.pointer (some ⟨g7, j * 2 + 1, none⟩)) ?_ ?_)
                  · simp only [execOp, eval_tmp, eval_const, t131]; simp [go_sem]
                  · exact ⟨_, rfl, Below.refl _ _, rfl⟩
                · intro a W hb0 hs hp hi; have hb := undrew hb0; clear hb0
                  have tt : sl a 132 = .pointer (some ⟨g7, j * 2 + 1, none⟩) := hp 6 (by decide)
                  have dd0 := (hb.cell (p := ⟨g7, j * 2 + 1, none⟩) (lt_of_cell cu1)).trans cu1
                  refine ite_y rfl (wp_val (.slice (some ⟨bs, os, none⟩) b2 d2) ?_ ?_)
                  · simp only [execOp, eval_tmp, tt]; simp [go_sem, dd0]
                  · exact ⟨_, rfl, Below.refl _ _, rfl⟩
              · intro a w9 o ho hb hs hd hI ht
                have ha := act_is [126, 127, 128, 129, 130, 131, 132, 133, 134] hs hd ht (by decide)
                simp at ho; subst ho
                have t128 := hI 2 (by decide)
                have t133 : sl a 133 = .slice (some ⟨bs, os, none⟩) b2 d2 := hI 7 (by decide)
                obtain ⟨cq, t128⟩ : ∃ cq, sl a 128 = .slice (some ⟨gq, j * b2, none⟩) b2 cq := t128
                have O9 := owns_keep hO.out hb
                have S9 := HS2.out.keep hb
                have hlen : ((F j).2.map B8).length = b2 := by rw [List.length_map]; exact HFL.out j hjl
                have hfit : j * b2 + ((F j).2.map B8).length ≤ NP := by
                  rw [hlen, HNP.out]
                  have : (j + 1) * b2 ≤ b2 * b2 := Nat.mul_le_mul_right _ hjl
                  rw [Nat.add_mul, Nat.one_mul] at this; exact this
                obtain ⟨cur, hcur, hcs, hown⟩ := owns_splice (off := j * b2) (cs := (F j).2.map B8) O9 hfit
                refine wp_copy_row (.tmp 128) (.tmp 133) 25 25 rfl 5 Try.underlying25 (by kernel_rfl) gq (j * b2) b2 cq ⟨bs, os, none⟩ b2 d2 t128 t133 cur 5 hcur ((F j).2.map B8) (hlen.trans (Nat.min_self _).symm) ?_ hcs ?_ ?_
                · intro jj v hjj
                  have hjl2 := (List.getElem?_eq_some_iff.1 hjj).1
                  rw [List.length_map] at hjl2
                  obtain ⟨b3, o3, hp3, hc3⟩ := S9.rs jj hjl2
                  cases hp3
                  rw [Addr.add_lit, hc3]
                  rw [List.getElem?_map, List.getElem?_eq_getElem hjl2] at hjj
                  exact hjj
                · intro v hv
                  obtain ⟨y, _, rfl⟩ := List.mem_map.1 hv
                  rfl
                have hO4 : Hid ((w9.setRow gq (cur.toList.take (j * b2) ++ ((F j).2.map B8 ++ cur.toList.drop (j * b2 + ((F j).2.map B8).length))).toArray).ownsRow wq.heap.size 5 1 (.slice (some ⟨gq, 0, none⟩) NP cP) NP ((putC b2 (fun i => (F i).2) (j + 1)).map B8)) := by
                  show World.ownsRow _ _ _ _ _ _ _
                  rw [← putC_step HFL.out hjl, List.map_append, List.map_append, List.map_take, List.map_drop]
                  rw [hlen] at hown ⊢
                  exact hown
                have B4 : Hid (Below wq.heap.size wq (w9.setRow gq (cur.toList.take (j * b2) ++ ((F j).2.map B8 ++ cur.toList.drop (j * b2 + ((F j).2.map B8).length))).toArray)) := (bl hQ.out hb hQ.out.size).grown (grownBy_setRow _ _ _) (bl hQ.out hb hQ.out.size).size (fun kk hk => by injection hk with hk; omega)
                have P4 : Hid ((w9.setRow gq (cur.toList.take (j * b2) ++ ((F j).2.map B8 ++ cur.toList.drop (j * b2 + ((F j).2.map B8).length))).toArray).heap[gb]? = some (.cells #[.int .i64 b2, .int .i64 b2, .slice (some ⟨gq, 0, none⟩) NP cP] 27 (0, 0))) := hro ((hb.block _ (blk_lt hP.out)).trans hP.out) (by have : gq < gb := hqb; omega)
                generalize w9.setRow gq (cur.toList.take (j * b2) ++ ((F j).2.map B8 ++ cur.toList.drop (j * b2 + ((F j).2.map B8).length))).toArray = wn at hO4 B4 P4 ⊢
                generalize goInt ((F j).2.map B8).length = ug
                simp only [List.foldl, t128, t133] at ha
                generalize sl a 126 = u126 at ha
                generalize sl a 127 = u127 at ha
                generalize sl a 129 = u129 at ha
                generalize sl a 130 = u130 at ha
                generalize sl a 131 = u131 at ha
                generalize sl a 132 = u132 at ha
                generalize sl a 134 = u134 at ha
                simp only [Act.put, List.setIfInBounds_toArray, List.set_cons_zero, List.set_cons_succ] at ha
                rw [ha]; clear ha
                simp only [Act.put, List.setIfInBounds_toArray, List.set_cons_zero, List.set_cons_succ]
                clear hown hcs hcur hfit hlen S9 O9 hI ht hb hQ hO hP cu1
                go_wp2
                go_roundw
                case rel => exact ⟨j + 1, by omega, by go_num, B4.out, hO4.out, P4.out⟩
                case measure => simp [intOf]; omega
            · have hjk : j = k := by omega
              have hge : (k : Int) ≤ (j : Int) := by omega
              have OF : Hid (wr.ownsRow wq.heap.size 5 1 (.slice q NP cP) NP ((flatF k F).map B8)) := by
                have h := hO.out
                rw [hjk, putC_full] at h; exact h
              have ZF : Hid (wr.heap[w.heap.size + 1]? = some (.cells #[.int .i64 0, .int .i64 0, .slice none 0 0] 27 (0, 0))) := (hQ.out.block _ (blk_lt hZ.out)).trans hZ.out
              have KF : Hid (Below w.heap.size w wr) := bl hB.out hQ.out hB.out.size
              have hzl := blk_lt hZ.out
              obtain ⟨y0, y1, y2⟩ := cells3 hP.out
              obtain ⟨f0, f1, f2⟩ := cells3 ZF.out
              have z0 := frozen_of_row _ _ 0 _ _ ZF.out
              have z1 := frozen_of_row _ _ 1 _ _ ZF.out
              have z2 := frozen_of_row _ _ 2 _ _ ZF.out
              clear hjk hO hR hZ hB hQ
              go_wp2
              refine bodyPost_ret (results_cell_tmp rfl _ _ _ 27 #[.int .i64 k, .int .i64 k, .slice q NP cP] (0, 0) _ (.int .i64 0) rfl (hss (hss (hss ZF.out))) rfl Try.underlying27 rfl hinfo) rfl ⟨F, .inl ⟨hGJ.out, q, NP, cP, HNP.out, rfl, ?_, ((KF.out.setCell (by simp) _).setCell (by simp) _).setCell (by simp) _⟩⟩
              exact owns_mono (owns_set (owns_set (owns_set OF.out hzl) hzl) hzl) (by omega)

end Go.Proofs.Ytofhdakggapahaa
namespace Go.Proofs.Ytofhdakggapahaa
open Go.RowKit Go.By Gf
theorem vf_comb : ∀ (r : List UInt8) (R : List (List UInt8)) (m : Nat) (z : List UInt8), (∀ x, x ∈ R → x.length = m) → z.length = m → ∀ j, vf (combF z r R) j = vf z j ^^^ comb r (R.map vf) j
  | [], R, m, z, _, _, j => by simp [combF, comb_nil']
  | c :: cs, [], m, z, _, _, j => by simp [combF, comb_nil]
  | c :: cs, x :: l, m, z, h, hz, j => by
    have e : combF z (c :: cs) (x :: l) = combF (axpy c x z) cs l := rfl
    have hx : x.length = z.length := by rw [h x (by simp), hz]
    have hl : (axpy c x z).length = m := by
      have := combF_len [c] [x] m (fun y hy => by simp at hy; rw [hy]; exact h x (by simp)) z hz
      exact this
    rw [e, vf_comb cs l m _ (fun y hy => h y (by simp [hy])) hl j, vf_axpy hx, List.map_cons, comb_cons, UInt8.xor_assoc]
theorem range_vf (r : List UInt8) : (List.range r.length).map (vf r) = r := by
  apply List.ext_getElem?
  intro i
  by_cases hi : i < r.length
  · rw [List.getElem?_map, List.getElem?_range hi, List.getElem?_eq_getElem hi]
    simp [vf, hi]
  · rw [List.getElem?_eq_none (by simpa using hi), List.getElem?_eq_none (by simpa using hi)]
theorem vf_zeros (m j : Nat) : vf (List.replicate m 0) j = 0 := vf_zero (fun x hx => (List.mem_replicate.1 hx).2) j
theorem vf_mul {w2 : Nat} {R : List (List UInt8)} {r : List UInt8} (h : ∀ x, x ∈ R → x.length = w2) (hl : r.length = R.length) : vf (mulR w2 R r) = mulV R.length (R.map vf) (vf r) := by
  funext j
  unfold mulR mulV
  rw [vf_comb r R w2 _ h (by simp) j, vf_zeros, ← hl, range_vf, UInt8.zero_xor]
theorem flat_len {wd : Nat} : ∀ {L : List (List UInt8)}, (∀ x, x ∈ L → x.length = wd) → L.flatten.length = L.length * wd
  | [], _ => by simp
  | x :: l, h => by
    rw [List.flatten_cons, List.length_append, h x (by simp), flat_len (fun y hy => h y (by simp [hy])), List.length_cons, Nat.add_mul]; omega
theorem rows_at {wd m : Nat} {L : List (List UInt8)} (h : ∀ x, x ∈ L → x.length = wd) (hm : L.length = m) : (List.range m).map (rowF wd L.flatten) = L := by rw [← hm]; exact rows_flat h
theorem kF_rank {wd m : Nat} {L : List (List UInt8)} (h : ∀ x, x ∈ L → x.length = wd) (hm : L.length = m) : (kF wd L.flatten m).length = (iK L).length := by
  unfold kF iK; rw [rows_at h hm]; exact rank_same L h
theorem sq_rows {n : Nat} {L : List (List UInt8)} (h : ∀ x, x ∈ L → x.length = n) (hm : L.length = n) : sqR n L.flatten = L.map vf := by
  unfold sqR
  rw [show (fun i => vf (rowF n L.flatten i)) = vf ∘ rowF n L.flatten from rfl, ← List.map_map, rows_at h hm]
theorem getD_row {wd a b : Nat} (C : List UInt8) (hb : b < wd) : (rowF wd C a).getD b 0 = C.getD (a * wd + b) 0 := by
  unfold rowF
  rw [List.getD_eq_getElem?_getD, List.getD_eq_getElem?_getD, List.getElem?_take, if_pos hb, List.getElem?_drop]
theorem turn_eq {wd m : Nat} {L : List (List UInt8)} (h : ∀ x, x ∈ L → x.length = wd) (hm : L.length = m) : turnR m wd L.flatten = turnX wd L := by
  unfold turnR turnX
  apply List.map_congr_left
  intro b hb
  have hbw := List.mem_range.1 hb
  conv => rhs; rw [← rows_at h hm]
  rw [List.map_map]
  apply List.map_congr_left
  intro a _
  exact (getD_row _ hbw).symm
theorem turnX_cols {wd m : Nat} {L : List (List UInt8)} (hm : L.length = m) : (turnX wd L).map vf = cols wd (L.map vf) := by
  unfold turnX cols
  rw [List.map_map]
  apply List.map_congr_left
  intro b _
  funext i
  show (L.map fun row => row.getD b 0).getD i 0 = ((L.map vf).getD i fun _ => 0) b
  rw [List.getD_eq_getElem?_getD, List.getD_eq_getElem?_getD, List.getElem?_map, List.getElem?_map]
  cases L[i]? with
  | none => rfl
  | some r => rfl
/-- what Inverse gives, as rows -/
theorem inv_rank_full {n : Nat} {L : List (List UInt8)} {F : Nat → Rw} (h : ∀ x, x ∈ L → x.length = n) (hm : L.length = n) (g : GJ n (sqR n L.flatten) F n) : (iK L).length = n := by
  rw [sq_rows h hm] at g
  exact g.full (by simp [hm]) (ins_rank L h)
theorem inv_rank_less {n c : Nat} {L : List (List UInt8)} {F : Nat → Rw} (h : ∀ x, x ∈ L → x.length = n) (hm : L.length = n) (hc : c < n) (g : GJ n (sqR n L.flatten) F c) (hz : ∀ i, c ≤ i → i < n → vf (F i).1 c = 0) : (iK L).length < n := by
  rw [sq_rows h hm] at g
  exact g.fail hc hz (ins_rank L h)
def rowsD (n : Nat) (F : Nat → Rw) : List (List UInt8) := (List.range n).map fun i => (F i).2
theorem rowsD_len (n : Nat) (F : Nat → Rw) : (rowsD n F).length = n := by simp [rowsD]
theorem rowsD_wide {n c : Nat} {G : List V} {F : Nat → Rw} (g : GJ n G F c) : ∀ x, x ∈ rowsD n F → x.length = n := fun x hx => by
  obtain ⟨i, hi, rfl⟩ := List.mem_map.1 hx
  exact (g.good i (List.mem_range.1 hi)).1.2
theorem flatF_rows (n : Nat) (F : Nat → Rw) : flatF n F = (rowsD n F).flatten := rfl
theorem units_flat {n : Nat} {P : List (List UInt8)} (h : ∀ x, x ∈ P → x.length = n) (hu : P.map vf = units n) : P.flatten = unitC n n := by
  have hl : P.length = n := by have := congrArg List.length hu; simpa [units] using this
  have e : P = (List.range n).map (rowF n (unitC n n)) := by
    apply List.ext_getElem?
    intro i
    by_cases hi : i < n
    · have hip : i < P.length := by rw [hl]; exact hi
      rw [List.getElem?_map, List.getElem?_range hi, List.getElem?_eq_getElem hip]
      congr 1
      have h1 := congrArg (fun l => l[i]?) hu
      simp only [List.getElem?_map, List.getElem?_eq_getElem hip, units, List.getElem?_range hi, Option.map_some] at h1
      injection h1 with h1
      have hr := rowF_len2 (unitC_len n n) hi
      exact vf_inj (by rw [h _ (List.getElem_mem hip), hr]) (fun j _ => by rw [h1, unit_row hi])
    · rw [List.getElem?_eq_none (by rw [hl]; omega), List.getElem?_eq_none (by simpa using hi)]
  rw [e]; exact flat_rows n (unitC_len n n)
theorem mul_vf {n w2 : Nat} {L D : List (List UInt8)} (hL : ∀ x, x ∈ L → x.length = n) (hD : ∀ x, x ∈ D → x.length = w2) (hd : D.length = n) : (L.map (mulR w2 D)).map vf = (L.map vf).map (mulV n (D.map vf)) := by
  rw [List.map_map, List.map_map]
  apply List.map_congr_left
  intro r hr
  show vf (mulR w2 D r) = mulV n (D.map vf) (vf r)
  rw [vf_mul hD (by rw [hL r hr, hd]), hd]
theorem mul_wide {w2 : Nat} {L D : List (List UInt8)} (hD : ∀ x, x ∈ D → x.length = w2) : ∀ x, x ∈ L.map (mulR w2 D) → x.length = w2 := fun x hx => by
  obtain ⟨r, _, rfl⟩ := List.mem_map.1 hx
  exact mulR_len hD r
theorem vrow_units {n : Nat} {L : List (List UInt8)} {F : Nat → Rw} (h : ∀ x, x ∈ L → x.length = n) (hm : L.length = n) (g : GJ n (sqR n L.flatten) F n) : ((rowsD n F).map vf).map (mulV n (L.map vf)) = units n := by
  have hw := g.whole
  rw [sq_rows h hm] at hw
  have e : (rowsD n F).map vf = (List.range n).map fun i => vf (F i).2 := by unfold rowsD; rw [List.map_map]; rfl
  rw [e]; exact hw
/-- the product with the inverse, from the right -/
theorem inv_right {n : Nat} {L : List (List UInt8)} {F : Nat → Rw} (h : ∀ x, x ∈ L → x.length = n) (hm : L.length = n) (g : GJ n (sqR n L.flatten) F n) : (L.map (mulR n (rowsD n F))).flatten = unitC n n := by
  have hD := rowsD_wide g
  refine units_flat (mul_wide hD) ?_
  rw [mul_vf h hD (rowsD_len n F)]
  exact inv_both (by simp [hm]) (by simp [rowsD]) (fun d hd => by
    obtain ⟨x, hx, rfl⟩ := List.mem_map.1 hd
    have := vf_wide x
    rw [hD x hx] at this; exact this) (vrow_units h hm g)
/-- .. and from the left -/
theorem inv_left {n : Nat} {L : List (List UInt8)} {F : Nat → Rw} (h : ∀ x, x ∈ L → x.length = n) (hm : L.length = n) (g : GJ n (sqR n L.flatten) F n) : ((rowsD n F).map (mulR n L)).flatten = unitC n n := by
  refine units_flat (mul_wide h) ?_
  rw [mul_vf (rowsD_wide g) h hm]
  exact vrow_units h hm g
end Go.Proofs.Ytofhdakggapahaa
namespace Go.Proofs.Ytofhdakggapahaa
open Go.RowKit Go.By
theorem prog_set {Z S : List UInt8} {i n : Nat} {y : UInt8} (hz : Z.length = n) (hs : S.length = n) (hi : i < n) : ((prog Z S i).set i y).length = n := by rw [List.length_set, prog_length Z S i n hz hs (by omega)]
set_option maxRecDepth 100000 in
set_option maxHeartbeats 4000000 in
theorem RMul_any (h1 h2 w2 : Nat) (p1 p2 : Option Addr) (c1 c2 : Nat) (R1 R2 : List (List UInt8)) (w : World) (s1 : Sl2 w p1 h1 c1 R1) (s2 : Sl2 w p2 h2 c2 R2) (e1 : ∀ x, x ∈ R1 → x.length = h2) (e2 : ∀ x, x ∈ R2 → x.length = w2) (b1 : h1 ≤ 4096) (b2 : h2 ≤ 4096) (b3 : w2 ≤ 4096) :
    Calls Try.prog 27 #[.slice p1 h1 c1, .slice p2 h2 c2, .int .i64 w2] w fun e w' => ∃ q c', e = .returned (.slice q h1 c') ∧ Own2 25 5 w' w.heap.size (.slice q h1 c') h1 (R1.map (mulR w2 R2)) ∧ Below w.heap.size w w' := by
  obtain ⟨r0, hr0, hrz, hr1, hr2⟩ := info_parts info_rows
  obtain ⟨i0, hi0, hz0, hz1, hz2⟩ := info_parts info_u8
  have H1 := Lib.hid s1; have H2 := Lib.hid s2; have E1 := Lib.hid e1; have E2 := Lib.hid e2
  have HL1 := Lib.hid s1.len; have HL2 := Lib.hid s2.len
  have HM1 : Hid (w2 ≤ maxLen) := by show w2 ≤ maxLen; unfold maxLen; omega
  have HM2 : Hid (1 * w2 ≤ 281474976710656) := by show 1 * w2 ≤ _; omega
  clear s1 s2 e1 e2
  go_enter Try.func27, Try.ntmps27
  go_wp2
  go_loopw [7, 15] (fun o i wr => ∃ (j : Nat) (qo : Option Addr) (co : Nat), j ≤ h1 ∧ i = .int .i64 j ∧ o = .slice qo j co ∧ Hid (Own2 25 5 wr w.heap.size (.slice qo j co) j ((R1.take j).map (mulR w2 R2))) ∧ Hid (Below w.heap.size w wr)) (fun _ i _ => h1 - (intOf i).toNat)
  case atStart => exact ⟨0, none, 0, Nat.zero_le _, rfl, rfl, Own2.nil _ _ _ _, Below.refl _ _⟩
  case round =>
    obtain ⟨j, qo, co, hj, rfl, rfl, hO, hB⟩ := hrel
    by_cases hlt : j < h1
    · obtain ⟨b, o, qr, mr, cr, row, rfl, hc, hs, hx⟩ := H1.out.at j hlt
      obtain rfl : mr = h2 := by have a1 := hs.len; have a2 := E1.out row (List.mem_of_getElem? hx.out); omega
      have hcw := (hB.out.cell (p := ⟨b, o + j, none⟩) (lt_of_cell hc)).trans hc
      have HROW := Lib.hid hs
      have jn : (j : Int) < (h1 : Int) := by omega
      have hstep : Hid ((R1.take (j + 1)).map (mulR w2 R2) = (R1.take j).map (mulR w2 R2) ++ [mulR w2 R2 row]) := take_map_succ' _ hx.out
      obtain ⟨Z, hZ⟩ : ∃ Z, Z = mulR w2 R2 row := ⟨_, rfl⟩
      have HZL : Hid (Z.length = w2) := by show _ = _; rw [hZ]; exact mulR_len E2.out row
      have HZI : Hid (∀ i, i < w2 → Z[i]? = some (col row R2 i 0)) := fun i hi => by
        rw [hZ]; unfold mulR
        rw [combF_get i w2 hi R2 E2.out row _ (by simp)]
        rw [List.getD_eq_getElem?_getD, List.getElem?_replicate_of_lt hi]; rfl
      rw [← hZ] at hstep
      have hszw := hB.out.size
      clear hc hs hx hZ
      go_wp2_with (at_make; refine wpList_make_full _ rfl _ _ 25 rfl wr.heap.size 5 i0 (.int .u8 0) 1 Try.underlying25 hi0 hz0 hz1 .i64 .i64 _ _ w2 rfl rfl rfl rfl (by rw [hz2]; exact HM2.out) HM1.out (Nat.le_refl _) ?_)
      intro w3 ho hg
      have HV : Hid (w3.ownsRow wr.heap.size 5 1 (.slice (some ⟨wr.heap.size, 0, none⟩) w2 w2) w2 ((prog Z (List.replicate w2 0) 0).map B8)) := by
        have e : (madeCells #[Value.int .u8 0] w2).toList = (List.replicate w2 (0 : UInt8)).map B8 := by rw [List.map_replicate]; exact toList_madeCells_one _ _
        rw [e] at ho
        show World.ownsRow _ _ _ _ _ _ _
        rw [prog_zero]; exact ho
      have B3 : Hid (Below wr.heap.size wr w3) := (Below.refl _ _).grown hg (Nat.le_refl _) (by simp)
      clear ho hg hcw
      obtain ⟨wo, rfl⟩ : ∃ wo : World, wo = wr := ⟨_, rfl⟩
      go_wp2
      go_loopw [11] (fun i wq => ∃ i' : Nat, i' ≤ w2 ∧ i = .int .i64 i' ∧ Hid (wq.ownsRow wo.heap.size 5 1 (.slice (some ⟨wo.heap.size, 0, none⟩) w2 w2) w2 ((prog Z (List.replicate w2 0) i').map B8)) ∧ Hid (Below wo.heap.size wo wq)) (fun i _ => w2 - (intOf i).toNat)
      case atStart => exact ⟨0, Nat.zero_le _, rfl, HV.out, B3.out⟩
      case round =>
        clear HV B3
        obtain ⟨i, hi, rfl, hV, hQ⟩ := hrel
        by_cases hil : i < w2
        · have iw : (i : Int) < (w2 : Int) := by omega
          obtain ⟨wi, rfl⟩ : ∃ wi : World, wi = wr := ⟨_, rfl⟩
          have V0 : Hid (wi.ownsRow wo.heap.size 5 1 (.slice (some ⟨wo.heap.size, 0, none⟩) w2 w2) w2 (((prog Z (List.replicate w2 0) i).set i (col (row.take 0) (R2.take 0) i 0)).map B8)) := by
            have e0 : (prog Z (List.replicate w2 0) i).set i (col (row.take 0) (R2.take 0) i 0) = prog Z (List.replicate w2 0) i := by
              have hat := prog_at Z (List.replicate w2 0) i w2 HZL.out (by simp) hil
              rw [List.getElem?_replicate_of_lt hil] at hat
              apply List.ext_getElem?
              intro a
              rw [List.getElem?_set]
              by_cases ha : i = a
              · subst ha; rw [if_pos rfl, hat, if_pos (by rw [prog_length Z _ i w2 HZL.out (by simp) (by omega)]; exact hil)]; rfl
              · rw [if_neg ha]
            show World.ownsRow _ _ _ _ _ _ _
            rw [e0]; exact hV.out
          have Q0 := Lib.hid hQ.out
          clear hV hQ
          go_wp2
          go_loopw [12] (fun kk wq => ∃ k : Nat, k ≤ mr ∧ kk = .int .i64 k ∧ Hid (wq.ownsRow wo.heap.size 5 1 (.slice (some ⟨wo.heap.size, 0, none⟩) w2 w2) w2 (((prog Z (List.replicate w2 0) i).set i (col (row.take k) (R2.take k) i 0)).map B8)) ∧ Hid (Below wo.heap.size wo wq)) (fun kk _ => mr - (intOf kk).toNat)
          case atStart => exact ⟨0, Nat.zero_le _, rfl, V0.out, Q0.out⟩
          case round =>
            clear V0 Q0
            obtain ⟨k, hk, rfl, hV, hQ⟩ := hrel
            by_cases hkl : k < mr
            · have km : (k : Int) < (mr : Int) := by omega
              have kB : Below w.heap.size w wr := bl hB.out hQ.out hB.out.size
              obtain ⟨br, orr, c, rfl, hcc, hcx⟩ := HROW.out.at k hkl
              obtain ⟨bb, ob, qx, mx, cx, xs, rfl, hcb, hsx, hxx⟩ := H2.out.at k hkl
              obtain rfl : mx = w2 := by have a1 := hsx.len; have a2 := E2.out xs (List.mem_of_getElem? hxx.out); omega
              obtain ⟨bx, ox, z, rfl, hcz, hzx⟩ := hsx.at i hil
              have cc := (kB.cell (p := ⟨br, orr + k, none⟩) (lt_of_cell hcc)).trans hcc
              have cb := (kB.cell (p := ⟨bb, ob + k, none⟩) (lt_of_cell hcb)).trans hcb
              have cz := (kB.cell (p := ⟨bx, ox + i, none⟩) (lt_of_cell hcz)).trans hcz
              obtain ⟨y, hy⟩ : ∃ y, y = col (row.take k) (R2.take k) i 0 := ⟨_, rfl⟩
              rw [← hy] at hV
              have hyn : Hid (col (row.take (k + 1)) (R2.take (k + 1)) i 0 = y ^^^ Gf.gmul c z) := by show _ = _; rw [col_step hcx.out hxx.out hzx.out, hy]
              have hpl : (prog Z (List.replicate mx 0) i).length = mx := prog_length Z _ i mx HZL.out (by simp) (by omega)
              have cy : wr.cell? ⟨wo.heap.size, i, none⟩ = some (B8 y) := by
                rw [hV.out.cellAt _ (by omega), List.getElem?_map, List.getElem?_set, if_pos rfl, if_pos (by rw [hpl]; exact hil)]; rfl
              have zy : wr.frozen? ⟨wo.heap.size, i, none⟩ = false := hV.out.frozenAt _
              obtain ⟨Y, hY⟩ : ∃ Y, Y = y ^^^ Gf.gmul c z := ⟨_, rfl⟩
              have bx0 := bits_xor y (Gf.gmul c z)
              rw [← hY] at bx0 hyn
              have hNX : Hid (∀ w9, Below wr.heap.size wr w9 → (w9.setCell ⟨wo.heap.size, i, none⟩ (B8 Y)).ownsRow wo.heap.size 5 1 (.slice (some ⟨wo.heap.size, 0, none⟩) mx mx) mx (((prog Z (List.replicate mx 0) i).set i (col (row.take (k + 1)) (R2.take (k + 1)) i 0)).map B8) ∧ Below wo.heap.size wo (w9.setCell ⟨wo.heap.size, i, none⟩ (B8 Y))) := fun w9 b9 => by
                have h9 := (owns_keep hV.out b9).stored i (B8 Y)
                refine ⟨?_, (bl hQ.out b9 hQ.out.size).setCell (Nat.le_refl _) _⟩
                have h10 := h9.1
                rw [← List.map_set, List.set_set] at h10
                rw [hyn.out]; exact h10
              clear hcc hcb hsx hcz hcx hxx hzx hy kB hpl hV hQ hyn hY
              go_wp2
              refine wp_region_last (fun ix => ([.val (.slice (some ⟨wo.heap.size, 0, none⟩) mx mx), .val (.int .i64 (i : Nat)), .val (.slice (some ⟨wo.heap.size, 0, none⟩) mx mx), .val (.int .i64 (i : Nat)), .val (.pointer (some ⟨wo.heap.size, i, none⟩)), .val (B8 y), .val (.slice (some ⟨br, orr, none⟩) mr cr), .val (.int .i64 (k : Nat)), .val (.pointer (some ⟨br, orr + k, none⟩)), .val (B8 c), .val (.slice (some ⟨bb, ob, none⟩) mr c2), .val (.int .i64 (k : Nat)), .val (.pointer (some ⟨bb, ob + k, none⟩)), .val (.slice (some ⟨bx, ox, none⟩) mx cx), .val (.int .i64 (i : Nat)), .val (.pointer (some ⟨bx, ox + i, none⟩)), .val (B8 z), .val (B8 (Gf.gmul c z)), .val (B8 Y), .val (.pointer (some ⟨wo.heap.size, i, none⟩)), .any][ix]?).getD (.any)) 58 20 rfl (by kernel_rfl) (by decide) (by decide) (by decide) (by decide) ?_ ?_
              · refine ⟨?_, ?_, ?_, ?_, ?_, ?_, ?_, ?_, ?_, ?_, ?_, ?_, ?_, ?_, ?_, ?_, ?_, ?_, ?_, ?_, trivial⟩
                · intro a W hb0 hs hp hi; have hb := undrew hb0; clear hb0
                  have t10 : sl a 10 = .slice (some ⟨wo.heap.size, 0, none⟩) mx mx := hi 10 (by decide)
                  exact ite_y rfl (wp_val (sl a 10) rfl ⟨_, rfl, Below.refl _ _, t10⟩)
                · intro a W hb0 hs hp hi; have hb := undrew hb0; clear hb0
                  have t11 : sl a 11 = .int .i64 (i : Nat) := hi 11 (by decide)
                  exact ite_y rfl (wp_val (sl a 11) rfl ⟨_, rfl, Below.refl _ _, t11⟩)
                · intro a W hb0 hs hp hi; have hb := undrew hb0; clear hb0
                  have t10 : sl a 10 = .slice (some ⟨wo.heap.size, 0, none⟩) mx mx := hi 10 (by decide)
                  exact ite_y rfl (wp_val (sl a 10) rfl ⟨_, rfl, Below.refl _ _, t10⟩)
                · intro a W hb0 hs hp hi; have hb := undrew hb0; clear hb0
                  have t11 : sl a 11 = .int .i64 (i : Nat) := hi 11 (by decide)
                  exact ite_y rfl (wp_val (sl a 11) rfl ⟨_, rfl, Below.refl _ _, t11⟩)
                · intro a W hb0 hs hp hi; have hb := undrew hb0; clear hb0
                  have ti0 : sl a 34 = .slice (some ⟨wo.heap.size, 0, none⟩) mx mx := hp 2 (by decide)
                  have ti1 : sl a 35 = .int .i64 (i : Nat) := hp 3 (by decide)
                  refine ite_y rfl (wp_val (.pointer (some ⟨wo.heap.size, i, none⟩)) ?_ ?_)
                  · simp only [execOp, eval_tmp, eval_const, ti0, ti1]; simp [go_sem, iw, hil]
                  · exact ⟨_, rfl, Below.refl _ _, rfl⟩
                · intro a W hb0 hs hp hi; have hb := undrew hb0; clear hb0
                  have tt : sl a 36 = .pointer (some ⟨wo.heap.size, i, none⟩) := hp 4 (by decide)
                  have dd := (hb.cell (p := ⟨wo.heap.size, i, none⟩) (lt_of_cell cy)).trans cy
                  refine ite_y rfl (wp_val (B8 y) ?_ ?_)
                  · simp only [execOp, eval_tmp, tt]; simp [go_sem, dd]
                  · exact ⟨_, rfl, Below.refl _ _, rfl⟩
                · intro a W hb0 hs hp hi; have hb := undrew hb0; clear hb0
                  have t9 : sl a 9 = .slice (some ⟨br, orr, none⟩) mr cr := hi 9 (by decide)
                  exact ite_y rfl (wp_val (sl a 9) rfl ⟨_, rfl, Below.refl _ _, t9⟩)
                · intro a W hb0 hs hp hi; have hb := undrew hb0; clear hb0
                  have t12 : sl a 12 = .int .i64 (k : Nat) := hi 12 (by decide)
                  exact ite_y rfl (wp_val (sl a 12) rfl ⟨_, rfl, Below.refl _ _, t12⟩)
                · intro a W hb0 hs hp hi; have hb := undrew hb0; clear hb0
                  have ti0 : sl a 38 = .slice (some ⟨br, orr, none⟩) mr cr := hp 6 (by decide)
                  have ti1 : sl a 39 = .int .i64 (k : Nat) := hp 7 (by decide)
                  refine ite_y rfl (wp_val (.pointer (some ⟨br, orr + k, none⟩)) ?_ ?_)
                  · simp only [execOp, eval_tmp, eval_const, ti0, ti1]; simp [go_sem, km, hkl]
                  · exact ⟨_, rfl, Below.refl _ _, rfl⟩
                · intro a W hb0 hs hp hi; have hb := undrew hb0; clear hb0
                  have tt : sl a 40 = .pointer (some ⟨br, orr + k, none⟩) := hp 8 (by decide)
                  have dd := (hb.cell (p := ⟨br, orr + k, none⟩) (lt_of_cell cc)).trans cc
                  refine ite_y rfl (wp_val (B8 c) ?_ ?_)
                  · simp only [execOp, eval_tmp, tt]; simp [go_sem, dd]
                  · exact ⟨_, rfl, Below.refl _ _, rfl⟩
                · intro a W hb0 hs hp hi; have hb := undrew hb0; clear hb0
                  have t1 : sl a 1 = .slice (some ⟨bb, ob, none⟩) mr c2 := hi 1 (by decide)
                  exact ite_y rfl (wp_val (sl a 1) rfl ⟨_, rfl, Below.refl _ _, t1⟩)
                · intro a W hb0 hs hp hi; have hb := undrew hb0; clear hb0
                  have t12 : sl a 12 = .int .i64 (k : Nat) := hi 12 (by decide)
                  exact ite_y rfl (wp_val (sl a 12) rfl ⟨_, rfl, Below.refl _ _, t12⟩)
                · intro a W hb0 hs hp hi; have hb := undrew hb0; clear hb0
                  have ti0 : sl a 42 = .slice (some ⟨bb, ob, none⟩) mr c2 := hp 10 (by decide)
                  have ti1 : sl a 43 = .int .i64 (k : Nat) := hp 11 (by decide)
                  refine ite_y rfl (wp_val (.pointer (some ⟨bb, ob + k, none⟩)) ?_ ?_)
                  · simp only [execOp, eval_tmp, eval_const, ti0, ti1]; simp [go_sem, km, hkl]
                  · exact ⟨_, rfl, Below.refl _ _, rfl⟩
                · intro a W hb0 hs hp hi; have hb := undrew hb0; clear hb0
                  have tt : sl a 44 = .pointer (some ⟨bb, ob + k, none⟩) := hp 12 (by decide)
                  have dd := (hb.cell (p := ⟨bb, ob + k, none⟩) (lt_of_cell cb)).trans cb
                  refine ite_y rfl (wp_val (.slice (some ⟨bx, ox, none⟩) mx cx) ?_ ?_)
                  · simp only [execOp, eval_tmp, tt]; simp [go_sem, dd]
                  · exact ⟨_, rfl, Below.refl _ _, rfl⟩
                · intro a W hb0 hs hp hi; have hb := undrew hb0; clear hb0
                  have t11 : sl a 11 = .int .i64 (i : Nat) := hi 11 (by decide)
                  exact ite_y rfl (wp_val (sl a 11) rfl ⟨_, rfl, Below.refl _ _, t11⟩)
                · intro a W hb0 hs hp hi; have hb := undrew hb0; clear hb0
                  have ti0 : sl a 45 = .slice (some ⟨bx, ox, none⟩) mx cx := hp 13 (by decide)
                  have ti1 : sl a 46 = .int .i64 (i : Nat) := hp 14 (by decide)
                  refine ite_y rfl (wp_val (.pointer (some ⟨bx, ox + i, none⟩)) ?_ ?_)
                  · simp only [execOp, eval_tmp, eval_const, ti0, ti1]; simp [go_sem, iw, hil]
                  · exact ⟨_, rfl, Below.refl _ _, rfl⟩
                · intro a W hb0 hs hp hi; have hb := undrew hb0; clear hb0
                  have tt : sl a 47 = .pointer (some ⟨bx, ox + i, none⟩) := hp 15 (by decide)
                  have dd := (hb.cell (p := ⟨bx, ox + i, none⟩) (lt_of_cell cz)).trans cz
                  refine ite_y rfl (wp_val (B8 z) ?_ ?_)
                  · simp only [execOp, eval_tmp, tt]; simp [go_sem, dd]
                  · exact ⟨_, rfl, Below.refl _ _, rfl⟩
                · intro a W hb0 hs hp hi; have hb := undrew hb0; clear hb0
                  have t41 : sl a 41 = B8 c := hp 9 (by decide)
                  have t48 : sl a 48 = B8 z := hp 16 (by decide)
                  refine ite_y rfl (wp_enter 65 #[B8 c, B8 z] ?_ (RefMul_any c z _) ?_)
                  · simp only [execOp, resolve, List.map_toArray, List.map, eval_tmp, eval_func, eval_const, t41, t48]; simp [go_sem]
                  · rintro e W' ⟨rfl, rfl⟩; exact ⟨_, rfl, _, rfl, Below.refl _ _, rfl⟩
                · intro a W hb0 hs hp hi; have hb := undrew hb0; clear hb0
                  have t37 : sl a 37 = B8 y := hp 5 (by decide)
                  have t49 : sl a 49 = B8 (Gf.gmul c z) := hp 17 (by decide)
                  refine ite_y rfl (wp_val (B8 Y) ?_ ?_)
                  · simp only [execOp, eval_tmp, eval_const, t37, t49]; simp [go_sem, bx0]
                  · exact ⟨_, rfl, Below.refl _ _, rfl⟩
                · intro a W hb0 hs hp hi; have hb := undrew hb0; clear hb0
                  have ti0 : sl a 32 = .slice (some ⟨wo.heap.size, 0, none⟩) mx mx := hp 0 (by decide)
                  have ti1 : sl a 33 = .int .i64 (i : Nat) := hp 1 (by decide)
                  refine ite_y rfl (wp_val (.pointer (some ⟨wo.heap.size, i, none⟩)) ?_ ?_)
                  · simp only [execOp, eval_tmp, eval_const, ti0, ti1]; simp [go_sem, iw, hil]
                  · exact ⟨_, rfl, Below.refl _ _, rfl⟩
              · intro a w9 o ho hb hs hd hI ht
                have ha := act_is [32, 33, 34, 35, 36, 37, 38, 39, 40, 41, 42, 43, 44, 45, 46, 47, 48, 49, 50, 51] hs hd ht (by decide)
                simp at ho; subst ho
                have t50 : sl a 50 = B8 Y := hI 18 (by decide)
                have t51 : sl a 51 = .pointer (some ⟨wo.heap.size, i, none⟩) := hI 19 (by decide)
                have cy9 := (hb.cell (p := ⟨wo.heap.size, i, none⟩) (lt_of_cell cy)).trans cy
                have zy9 := (hb.frozen (p := ⟨wo.heap.size, i, none⟩) (lt_of_cell cy)).trans zy
                refine wp_skip_none rfl (w' := w9.setCell ⟨wo.heap.size, i, none⟩ (B8 Y)) ?_ ?_
                · simp only [execOp, eval_tmp, t50, t51]; simp [go_sem, cy9, zy9]
                simp only [List.foldl, t50, t51] at ha
                generalize sl a 32 = u32 at ha
                generalize sl a 33 = u33 at ha
                generalize sl a 34 = u34 at ha
                generalize sl a 35 = u35 at ha
                generalize sl a 36 = u36 at ha
                generalize sl a 37 = u37 at ha
                generalize sl a 38 = u38 at ha
                generalize sl a 39 = u39 at ha
                generalize sl a 40 = u40 at ha
                generalize sl a 41 = u41 at ha
                generalize sl a 42 = u42 at ha
                generalize sl a 43 = u43 at ha
                generalize sl a 44 = u44 at ha
                generalize sl a 45 = u45 at ha
                generalize sl a 46 = u46 at ha
                generalize sl a 47 = u47 at ha
                generalize sl a 48 = u48 at ha
                generalize sl a 49 = u49 at ha
                simp only [Act.put, List.setIfInBounds_toArray, List.set_cons_zero, List.set_cons_succ] at ha
                rw [ha]; clear ha
                have NX := hNX.out w9 hb
                generalize w9.setCell ⟨wo.heap.size, i, none⟩ (B8 Y) = wn at NX ⊢
                have NXH := Lib.hid NX
                clear NX hI ht hb cy9 zy9 cc cb cz cy zy bx0 hNX
                go_wp2
                go_roundw
                case rel => exact ⟨k + 1, by omega, by go_num, NXH.out.1, NXH.out.2⟩
                case measure => simp [intOf]; omega
            · have hkm : k = mr := by omega
              have hge : (mr : Int) ≤ (k : Int) := by omega
              have V1 : Hid (wr.ownsRow wo.heap.size 5 1 (.slice (some ⟨wo.heap.size, 0, none⟩) w2 w2) w2 ((prog Z (List.replicate w2 0) (i + 1)).map B8)) := by
                have h2 := hV.out
                have hrl : row.length = mr := HROW.out.len
                rw [hkm, List.take_of_length_le (by omega), List.take_of_length_le (by rw [HL2.out]; exact Nat.le_refl _), prog_succ Z (List.replicate w2 0) i w2 HZL.out (by simp) hil _ (HZI.out i hil)] at h2
                exact h2
              have Q1 := Lib.hid hQ.out
              clear hkm hV hQ
              go_wp2
              go_roundw
              case rel => exact ⟨i + 1, by omega, by go_num, V1.out, Q1.out⟩
              case measure => simp [intOf]; omega
        · have hiw : i = w2 := by omega
          have hge : (w2 : Int) ≤ (i : Int) := by omega
          have VF : Hid (wr.ownsRow w.heap.size 5 1 (.slice (some ⟨wo.heap.size, 0, none⟩) w2 w2) w2 (Z.map B8)) := by
            have h2 := hV.out
            rw [hiw, prog_full Z _ w2 HZL.out (by simp)] at h2
            exact owns_mono h2 hB.out.size
          have BQ : Hid (Below w.heap.size w wr) := bl hB.out hQ.out hB.out.size
          have bal : ∀ (W : World) (o : Obj), Below W.heap.size W (W.alloc o) := fun W o => al (Below.refl _ _) (Nat.le_refl _)
          obtain ⟨vs, oA, lA, rA⟩ := hO.out.keep hQ.out
          have OA := Lib.hid oA; have LA := Lib.hid lA; have RA := Lib.hid rA
          have hO2 : Hid (∀ o, (wr.alloc o).ownsRow w.heap.size 25 1 (.slice qo j co) j vs) := fun o => owns_keep OA.out (bal _ _)
          have HBAL := Lib.hid bal
          have hsz := BQ.out.size
          clear hiw hV hQ hO hB oA lA rA bal
          go_wp2_with (at_builtin; refine wpList_append_own _ rfl _ _ 22 rfl w.heap.size 25 r0 (.slice none 0 0) 1 24 Try.underlying22 hr0 hrz hr1 hr2 rfl (by omega) _ j _ rfl (hO2.out _) ⟨wr.heap.size, 0, none⟩ 1 1 [.slice (some ⟨wo.heap.size, 0, none⟩) w2 w2] rfl rfl (one_cell' rfl) ?d2 ?d3 ?d4 ?d5 ?_)
          case d2 => intro y hy; simp at hy; subst hy; rfl
          case d3 => unfold maxLen; omega
          case d4 => omega
          case d5 => simp; omega
          intro v6 w6 ho6 hg6 _
          obtain ⟨q6, c6, rfl⟩ := owns_shape ho6
          have P6 : Hid (Own2 25 5 w6 w.heap.size (.slice q6 (j + 1) c6) (j + 1) ((R1.take (j + 1)).map (mulR w2 R2)) ∧ Below w.heap.size w w6) := by
            refine ⟨?_, (al BQ.out hsz).grown hg6 (by simp; omega) (fun kk hk => (OA.out.lt kk hk).1)⟩
            rw [hstep.out]
            exact Own2.push (by decide) LA.out (fun jj val hjj => by
              obtain ⟨xs, q, c', a, b, d⟩ := RA.out jj val hjj
              exact ⟨xs, q, c', a, b, owns_keep d (HBAL.out _ _)⟩) (hO2.out _) (owns_keep VF.out (HBAL.out _ _)) ho6 hg6
          clear ho6 hg6 hO2 OA LA RA VF BQ hsz
          go_wp2
          go_roundw
          case rel => exact ⟨j + 1, q6, c6, by omega, by go_num, rfl, P6.out.1, P6.out.2⟩
          case measure => simp [intOf]; omega
    · have hjh : j = h1 := by omega
      have hge : (h1 : Int) ≤ (j : Int) := by omega
      have OF : Hid (Own2 25 5 wr w.heap.size (.slice qo h1 co) h1 (R1.map (mulR w2 R2))) := by have := hO.out; rw [hjh, List.take_of_length_le (by rw [HL1.out]; exact Nat.le_refl _)] at this; exact this
      have BF := Lib.hid hB.out
      subst hjh
      clear hO hB
      go_wp2
      go_ret
      exact ⟨qo, co, rfl, OF.out, BF.out⟩
end Go.Proofs.Ytofhdakggapahaa
namespace Go.Proofs.Ytofhdakggapahaa
open Go.RowKit Go.By
set_option maxRecDepth 100000 in
set_option maxHeartbeats 4000000 in
theorem GT_bg (width code : Int) (N : Nat) (p : Option Addr) (m c : Nat) (xss : List (List UInt8)) (w : World) (h : Sl2 w p m c xss) (hf : xss.all (fun y => decide (y.length ≤ 30)) = true) (hm : m ≤ 30)
    (hO : ∀ W, Sl2 W p m c xss → Calls Try.prog 11 #[.int .i64 width, .slice p m c] W (RetG2 5 W 0 0 [] code)) (hR : ∀ W, Sl2 W p m c xss → Calls Try.prog 13 #[.int .i64 width, .slice p m c] W fun e w' => e = .returned (.int .i64 code) ∧ W = w') (hcode : code ≠ 0)
    (hN : N ≤ 40) :
    Calls Try.prog 3 #[.int .i64 width, .slice p m c, .int .i64 (N : Nat)] w fun e w' => e = .returned (.bool true) ∧ Below w.heap.size w w' := by
  have HO := Lib.hid hO; have HR := Lib.hid hR
  have hc1 : (code == 0) = false := by simpa using hcode
  have hc2 : (code != 0) = true := by simpa using hcode
  clear hO hR hcode
  have HU : Hid (∀ W, Calls Try.prog 12 #[.int .i64 N] W (RetG2 5 W N N (unitC N N) 0)) := fun W => Unit_good N W (by omega)
  have HUR : Hid (∀ W q n1 c1, n1 = N * N → Sl B8 W q n1 c1 (unitC N N) → Calls Try.prog 17 #[.agg #[.int .i64 N, .int .i64 N, .slice q n1 c1]] W fun e w' => ∃ q c', e = .returned (.slice q N c') ∧ Own2 25 5 w' W.heap.size (.slice q N c') N ((List.range N).map (rowF N (unitC N N))) ∧ Below W.heap.size W w') := fun W q n1 c1 hn hs =>
    GRows_any N N q n1 c1 (unitC N N) W hs hn (by unfold Room; omega) (by unfold Room; omega)
  have HLEN := Lib.hid h.len
  have HEL : Hid (∀ (k j : Nat) (row : List UInt8) (x : UInt8), k < N → ((List.range N).map (rowF N (unitC N N)))[k]? = some row → row[j]? = some x → j < N → x = if k = j then 1 else 0) := fun k j row x hk hrow hx hj => unit_elem hk hrow hx hj
  have hn0 : ¬ (256 < (N : Int)) := by omega
  have hn40 : ¬ (40 < (N : Int)) := by omega
  have HF : Hid (∀ W, Sl2 W p m c xss → Calls Try.prog 10 #[.slice p m c] W fun e w' => e = .returned (.bool true) ∧ W = w') := fun W h => by
    have := Few7_any p m c xss W h
    rw [hf, decide_eq_true hm] at this; exact this
  have H := Lib.hid h
  have HF1 := Lib.hid hf
  clear h hf
  go_enter Try.func3, Try.ntmps3
  go_wp2_with fail
  refine (awake07 _).mono ?_; rintro e w1 ⟨rfl, k1⟩
  have H1 := Lib.hid (H.out.keep k1); have B1 := Lib.hid k1
  clear k1 H
  go_wp2_with fail
  refine Calls.mono (HF.out _ H1.out) ?_; rintro e w' ⟨rfl, rfl⟩
  go_wp2_with fail
  refine Calls.mono (HO.out _ H1.out) ?_; rintro e w2 ⟨q1, n1, c1, hn1, rfl, o1, hb1⟩
  have S1 := Lib.hid (Sl.of_owns o1); have H2 := Lib.hid (H1.out.keep hb1); have B2 := Lib.hid (bl B1.out hb1 B1.out.size); have HN1 := Lib.hid hn1
  clear o1 hb1 H1 B1 hn1
  go_wp2_with fail
  refine use_w (fun W => Below w2.heap.size w2 W ∧ W.heap[w2.heap.size]? = some (.cells #[.int .i64 0, .int .i64 0, .slice q1 n1 c1] 27 (0, 0))) ⟨al (Below.refl _ _) (Nat.le_refl _), hnew rfl⟩ ?_
  rintro w3 ⟨b3, x3⟩
  refine Calls.mono (HU.out _) ?_; rintro e w4 ⟨q2, n2, c2, hn2, rfl, o2, hb4⟩
  have b24 := bl b3 hb4 b3.size
  have S2 := Lib.hid (Sl.of_owns o2); have S1' := Lib.hid (S1.out.keep b24); have H4 := Lib.hid (H2.out.keep b24); have B4 := Lib.hid (bl B2.out b24 B2.out.size); have HN2 := Lib.hid hn2
  have X4 : Hid (w4.heap[w2.heap.size]? = some (.cells #[.int .i64 0, .int .i64 0, .slice q1 n1 c1] 27 (0, 0))) := (hb4.block _ (blk_lt x3)).trans x3
  clear b3 x3 o2 hb4 b24 S1 H2 B2 hn2
  go_wp2_with fail
  refine use_w (fun W => Below w4.heap.size w4 W ∧ W.heap[w4.heap.size]? = some (.cells #[.int .i64 N, .int .i64 N, .slice q2 n2 c2] 27 (0, 0))) ⟨al (Below.refl _ _) (Nat.le_refl _), hnew rfl⟩ ?_
  rintro w5 ⟨b5, x5⟩
  have S15 := Lib.hid (S1'.out.keep b5); have S25 := Lib.hid (S2.out.keep b5); have H5 := Lib.hid (H4.out.keep b5); have B5 := Lib.hid (bl B4.out b5 B4.out.size)
  have X7 : Hid (w5.heap[w2.heap.size]? = some (.cells #[.int .i64 0, .int .i64 0, .slice q1 n1 c1] 27 (0, 0))) := (b5.block _ (blk_lt X4.out)).trans X4.out
  have X9 := Lib.hid x5
  clear b5 x5 S1' S2 H4 B4 X4
  refine Calls.mono (HR.out _ H5.out) ?_; rintro e w' ⟨rfl, rfl⟩
  obtain ⟨f0, f1, f2⟩ := cells3 X7.out
  obtain ⟨g0, g1, g2⟩ := cells3 X9.out
  go_wp2_with fail
  refine Calls.mono (Width_any 0 0 _ _) ?_
  rintro e w6 ⟨rfl, hb⟩
  have S1_6 := Lib.hid (S15.out.keep hb); have S2_6 := Lib.hid (S25.out.keep hb); have H_6 := Lib.hid (H5.out.keep hb); have B_6 := Lib.hid (bl B5.out hb B5.out.size)
  have X7_6 := Lib.hid ((hb.block _ (blk_lt X7.out)).trans X7.out); have X9_6 := Lib.hid ((hb.block _ (blk_lt X9.out)).trans X9.out)
  clear hb S15 S25 H5 B5 X7 X9 f0 f1 f2 g0 g1 g2
  obtain ⟨f0, f1, f2⟩ := cells3 X7_6.out
  obtain ⟨g0, g1, g2⟩ := cells3 X9_6.out
  go_wp2_with fail
  refine Calls.mono (Height_any 0 0 _ _) ?_
  rintro e w7 ⟨rfl, hb⟩
  have S1_7 := Lib.hid (S1_6.out.keep hb); have S2_7 := Lib.hid (S2_6.out.keep hb); have H_7 := Lib.hid (H_6.out.keep hb); have B_7 := Lib.hid (bl B_6.out hb B_6.out.size)
  have X7_7 := Lib.hid ((hb.block _ (blk_lt X7_6.out)).trans X7_6.out); have X9_7 := Lib.hid ((hb.block _ (blk_lt X9_6.out)).trans X9_6.out)
  clear hb S1_6 S2_6 H_6 B_6 X7_6 X9_6 f0 f1 f2 g0 g1 g2
  obtain ⟨f0, f1, f2⟩ := cells3 X7_7.out
  obtain ⟨g0, g1, g2⟩ := cells3 X9_7.out
  go_wp2_with fail
  refine Calls.mono (HUR.out _ _ _ _ HN2.out S2_7.out) ?_
  rintro e w8 ⟨q4, c4, rfl, ho4, hb⟩
  have R4 := Lib.hid ho4.sl2
  clear ho4
  have S1_8 := Lib.hid (S1_7.out.keep hb); have S2_8 := Lib.hid (S2_7.out.keep hb); have H_8 := Lib.hid (H_7.out.keep hb); have B_8 := Lib.hid (bl B_7.out hb B_7.out.size)
  have X7_8 := Lib.hid ((hb.block _ (blk_lt X7_7.out)).trans X7_7.out); have X9_8 := Lib.hid ((hb.block _ (blk_lt X9_7.out)).trans X9_7.out)
  clear hb S1_7 S2_7 H_7 B_7 X7_7 X9_7 f0 f1 f2 g0 g1 g2
  obtain ⟨f0, f1, f2⟩ := cells3 X7_8.out
  clear f0 f1 f2
  go_wp2
  go_loop [96] (fun i => ∃ k : Nat, k ≤ N ∧ i = .int .i64 k) (fun i => N - (intOf i).toNat)
  case atStart => exact ⟨0, Nat.zero_le _, rfl⟩
  case round =>
    obtain ⟨k, hk, rfl⟩ := hrel
    by_cases hlt : k < N
    · obtain ⟨b, o, q, mx, cx, row, rfl, hc, hs, hx⟩ := R4.out.at k hlt
      obtain rfl : mx = N := by
        have h1 := hs.len
        have h2 := hx.out
        rw [List.getElem?_map, List.getElem?_range hlt] at h2
        have h3 : rowF N (unitC N N) k = row := by simpa using h2
        rw [← h3, rowF_len (unitC_len N N) hlt] at h1
        exact h1.symm
      have HS := Lib.hid hs
      have kn : (k : Int) < (mx : Int) := by omega
      clear hs
      go_wp2
      clear hc
      go_loop [103] (fun i => ∃ j : Nat, j ≤ mx ∧ i = .int .i64 j) (fun i => mx - (intOf i).toNat)
      case atStart => exact ⟨0, Nat.zero_le _, rfl⟩
      case round =>
        obtain ⟨j, hj, rfl⟩ := hrel
        by_cases hjl : j < mx
        · obtain ⟨b', o', x, rfl, hcx, hxx⟩ := HS.out.at j hjl
          have e := HEL.out k j row x hlt hx.out hxx.out hjl
          have jn : (j : Int) < (mx : Int) := by omega
          by_cases hkj : k = j
          · rw [if_pos hkj] at e
            subst e
            have hcx' : _ = some (Value.int .u8 1) := hcx
            have dkj : ((k : Int) == (j : Int)) = true := by simp [hkj]
            clear hcx hkj
            go_wp2
            go_round
            case rel => exact ⟨j + 1, by omega, by go_num⟩
            case measure => simp [intOf]; omega
          · rw [if_neg hkj] at e
            subst e
            have hcx' : _ = some (Value.int .u8 0) := hcx
            have dkj : ((k : Int) == (j : Int)) = false := by simp; omega
            clear hcx hkj
            go_wp2
            go_round
            case rel => exact ⟨j + 1, by omega, by go_num⟩
            case measure => simp [intOf]; omega
        · have hge : (mx : Int) ≤ (j : Int) := by omega
          go_wp2
          go_round
          case rel => exact ⟨k + 1, by omega, by go_num⟩
          case measure => simp [intOf]; omega
    · have hge : (N : Int) ≤ (k : Int) := by omega
      clear hk hlt
      obtain ⟨f0, f1, f2⟩ := cells3 X7_8.out
      obtain ⟨g0, g1, g2⟩ := cells3 X9_8.out
      go_wp2_with fail
      refine Calls.mono (Height_any N N _ _) ?_
      rintro e w9 ⟨rfl, hb⟩
      have S1_9 := Lib.hid (S1_8.out.keep hb); have S2_9 := Lib.hid (S2_8.out.keep hb); have H_9 := Lib.hid (H_8.out.keep hb); have B_9 := Lib.hid (bl B_8.out hb B_8.out.size)
      have X7_9 := Lib.hid ((hb.block _ (blk_lt X7_8.out)).trans X7_8.out); have X9_9 := Lib.hid ((hb.block _ (blk_lt X9_8.out)).trans X9_8.out)
      clear hb S1_8 S2_8 H_8 B_8 X7_8 X9_8 f0 f1 f2 g0 g1 g2
      obtain ⟨f0, f1, f2⟩ := cells3 X7_9.out
      obtain ⟨g0, g1, g2⟩ := cells3 X9_9.out
      go_wp2_with fail
      refine Calls.mono (Width_any N N _ _) ?_
      rintro e w10 ⟨rfl, hb⟩
      have S1_10 := Lib.hid (S1_9.out.keep hb); have S2_10 := Lib.hid (S2_9.out.keep hb); have H_10 := Lib.hid (H_9.out.keep hb); have B_10 := Lib.hid (bl B_9.out hb B_9.out.size)
      have X7_10 := Lib.hid ((hb.block _ (blk_lt X7_9.out)).trans X7_9.out); have X9_10 := Lib.hid ((hb.block _ (blk_lt X9_9.out)).trans X9_9.out)
      clear hb S1_9 S2_9 H_9 B_9 X7_9 X9_9 f0 f1 f2 g0 g1 g2
      obtain ⟨f0, f1, f2⟩ := cells3 X7_10.out
      obtain ⟨g0, g1, g2⟩ := cells3 X9_10.out
      go_wp2_with fail
      refine Calls.mono (GSame_any N N N N _ _ _ _ _ _ (unitC N N) (unitC N N) _ S2_10.out S2_10.out) ?_
      rintro e w11 ⟨rfl, hb⟩
      have S1_11 := Lib.hid (S1_10.out.keep hb); have S2_11 := Lib.hid (S2_10.out.keep hb); have H_11 := Lib.hid (H_10.out.keep hb); have B_11 := Lib.hid (bl B_10.out hb B_10.out.size)
      have X7_11 := Lib.hid ((hb.block _ (blk_lt X7_10.out)).trans X7_10.out); have X9_11 := Lib.hid ((hb.block _ (blk_lt X9_10.out)).trans X9_10.out)
      clear hb S1_10 S2_10 H_10 B_10 X7_10 X9_10 f0 f1 f2 g0 g1 g2
      rw [decide_eq_true ⟨rfl, rfl, rfl⟩]
      go_wp2
      go_ret
      exact ⟨rfl, B_11.out⟩
end Go.Proofs.Ytofhdakggapahaa
namespace Go.Proofs.Ytofhdakggapahaa
open Go.RowKit Go.By
set_option maxRecDepth 100000 in
set_option maxHeartbeats 4000000 in
theorem GT_gg (wd : Nat) (N : Nat) (p : Option Addr) (m c : Nat) (xss : List (List UInt8)) (w : World) (h : Sl2 w p m c xss) (hf : xss.all (fun y => decide (y.length ≤ 30)) = true) (hm : m ≤ 30)
    (hw : wd ≤ 65536) (hmw : m * wd ≤ 65536) (hall : xss.all (fun y => decide (y.length = wd)) = true)
    (hN : N ≤ 40) :
    Calls Try.prog 3 #[.int .i64 (wd : Nat), .slice p m c, .int .i64 (N : Nat)] w fun e w' => e = .returned (.bool true) ∧ Below w.heap.size w w' := by
  have HO : Hid (∀ W, Sl2 W p m c xss → Calls Try.prog 11 #[.int .i64 wd, .slice p m c] W (RetG2 5 W m wd xss.flatten 0)) := fun W h => GOf_good wd p m c xss W h hw (by omega) hmw hall
  have HR : Hid (∀ W, Sl2 W p m c xss → Calls Try.prog 13 #[.int .i64 wd, .slice p m c] W fun e w' => e = .returned (.int .i64 0) ∧ W = w') := fun W h => by
    have := RGOf_good wd p m c xss W h hw (by omega) hmw
    rw [if_pos hall] at this; exact this
  have HROWS : Hid ((List.range m).map (rowF wd xss.flatten) = xss) := by show _ = _; rw [← h.len]; exact rows_flat (fun x hx => by simpa using List.all_eq_true.1 hall x hx)
  have HGR : Hid (∀ W q n1 c1, n1 = m * wd → Sl B8 W q n1 c1 xss.flatten → Calls Try.prog 17 #[.agg #[.int .i64 m, .int .i64 wd, .slice q n1 c1]] W fun e w' => ∃ q c', e = .returned (.slice q m c') ∧ Own2 25 5 w' W.heap.size (.slice q m c') m xss ∧ Below W.heap.size W w') := fun W q n1 c1 hn hs => by
    have := GRows_any m wd q n1 c1 xss.flatten W hs hn (by unfold Room; omega) (by unfold Room; omega)
    rwa [HROWS.out] at this
  have HU : Hid (∀ W, Calls Try.prog 12 #[.int .i64 N] W (RetG2 5 W N N (unitC N N) 0)) := fun W => Unit_good N W (by omega)
  have HUR : Hid (∀ W q n1 c1, n1 = N * N → Sl B8 W q n1 c1 (unitC N N) → Calls Try.prog 17 #[.agg #[.int .i64 N, .int .i64 N, .slice q n1 c1]] W fun e w' => ∃ q c', e = .returned (.slice q N c') ∧ Own2 25 5 w' W.heap.size (.slice q N c') N ((List.range N).map (rowF N (unitC N N))) ∧ Below W.heap.size W w') := fun W q n1 c1 hn hs =>
    GRows_any N N q n1 c1 (unitC N N) W hs hn (by unfold Room; omega) (by unfold Room; omega)
  have HLEN := Lib.hid h.len
  have HLN : Hid (∀ x, x ∈ xss → x.length = wd) := fun x hx => by simpa using List.all_eq_true.1 hall x hx
  have HEL : Hid (∀ (k j : Nat) (row : List UInt8) (x : UInt8), k < N → ((List.range N).map (rowF N (unitC N N)))[k]? = some row → row[j]? = some x → j < N → x = if k = j then 1 else 0) := fun k j row x hk hrow hx hj => unit_elem hk hrow hx hj
  have hn0 : ¬ (256 < (N : Int)) := by omega
  have hn40 : ¬ (40 < (N : Int)) := by omega
  have HF : Hid (∀ W, Sl2 W p m c xss → Calls Try.prog 10 #[.slice p m c] W fun e w' => e = .returned (.bool true) ∧ W = w') := fun W h => by
    have := Few7_any p m c xss W h
    rw [hf, decide_eq_true hm] at this; exact this
  have H := Lib.hid h
  have HF1 := Lib.hid hf
  have HALL := Lib.hid hall; have HMW := Lib.hid hmw
  clear hall hmw
  clear h hf
  go_enter Try.func3, Try.ntmps3
  go_wp2_with fail
  refine (awake07 _).mono ?_; rintro e w1 ⟨rfl, k1⟩
  have H1 := Lib.hid (H.out.keep k1); have B1 := Lib.hid k1
  clear k1 H
  go_wp2_with fail
  refine Calls.mono (HF.out _ H1.out) ?_; rintro e w' ⟨rfl, rfl⟩
  go_wp2_with fail
  refine Calls.mono (HO.out _ H1.out) ?_; rintro e w2 ⟨q1, n1, c1, hn1, rfl, o1, hb1⟩
  have S1 := Lib.hid (Sl.of_owns o1); have H2 := Lib.hid (H1.out.keep hb1); have B2 := Lib.hid (bl B1.out hb1 B1.out.size); have HN1 := Lib.hid hn1
  clear o1 hb1 H1 B1 hn1
  go_wp2_with fail
  refine use_w (fun W => Below w2.heap.size w2 W ∧ W.heap[w2.heap.size]? = some (.cells #[.int .i64 m, .int .i64 wd, .slice q1 n1 c1] 27 (0, 0))) ⟨al (Below.refl _ _) (Nat.le_refl _), hnew rfl⟩ ?_
  rintro w3 ⟨b3, x3⟩
  refine Calls.mono (HU.out _) ?_; rintro e w4 ⟨q2, n2, c2, hn2, rfl, o2, hb4⟩
  have b24 := bl b3 hb4 b3.size
  have S2 := Lib.hid (Sl.of_owns o2); have S1' := Lib.hid (S1.out.keep b24); have H4 := Lib.hid (H2.out.keep b24); have B4 := Lib.hid (bl B2.out b24 B2.out.size); have HN2 := Lib.hid hn2
  have X4 : Hid (w4.heap[w2.heap.size]? = some (.cells #[.int .i64 m, .int .i64 wd, .slice q1 n1 c1] 27 (0, 0))) := (hb4.block _ (blk_lt x3)).trans x3
  clear b3 x3 o2 hb4 b24 S1 H2 B2 hn2
  go_wp2_with fail
  refine use_w (fun W => Below w4.heap.size w4 W ∧ W.heap[w4.heap.size]? = some (.cells #[.int .i64 N, .int .i64 N, .slice q2 n2 c2] 27 (0, 0))) ⟨al (Below.refl _ _) (Nat.le_refl _), hnew rfl⟩ ?_
  rintro w5 ⟨b5, x5⟩
  have S15 := Lib.hid (S1'.out.keep b5); have S25 := Lib.hid (S2.out.keep b5); have H5 := Lib.hid (H4.out.keep b5); have B5 := Lib.hid (bl B4.out b5 B4.out.size)
  have X7 : Hid (w5.heap[w2.heap.size]? = some (.cells #[.int .i64 m, .int .i64 wd, .slice q1 n1 c1] 27 (0, 0))) := (b5.block _ (blk_lt X4.out)).trans X4.out
  have X9 := Lib.hid x5
  clear b5 x5 S1' S2 H4 B4 X4
  refine Calls.mono (HR.out _ H5.out) ?_; rintro e w' ⟨rfl, rfl⟩
  obtain ⟨f0, f1, f2⟩ := cells3 X7.out
  obtain ⟨g0, g1, g2⟩ := cells3 X9.out
  go_wp2_with fail
  refine Calls.mono (Width_any m wd _ _) ?_
  rintro e w6 ⟨rfl, hb⟩
  have S1_6 := Lib.hid (S15.out.keep hb); have S2_6 := Lib.hid (S25.out.keep hb); have H_6 := Lib.hid (H5.out.keep hb); have B_6 := Lib.hid (bl B5.out hb B5.out.size)
  have X7_6 := Lib.hid ((hb.block _ (blk_lt X7.out)).trans X7.out); have X9_6 := Lib.hid ((hb.block _ (blk_lt X9.out)).trans X9.out)
  clear hb S15 S25 H5 B5 X7 X9 f0 f1 f2 g0 g1 g2
  obtain ⟨f0, f1, f2⟩ := cells3 X7_6.out
  obtain ⟨g0, g1, g2⟩ := cells3 X9_6.out
  go_wp2_with fail
  refine Calls.mono (Height_any m wd _ _) ?_
  rintro e w7 ⟨rfl, hb⟩
  have S1_7 := Lib.hid (S1_6.out.keep hb); have S2_7 := Lib.hid (S2_6.out.keep hb); have H_7 := Lib.hid (H_6.out.keep hb); have B_7 := Lib.hid (bl B_6.out hb B_6.out.size)
  have X7_7 := Lib.hid ((hb.block _ (blk_lt X7_6.out)).trans X7_6.out); have X9_7 := Lib.hid ((hb.block _ (blk_lt X9_6.out)).trans X9_6.out)
  clear hb S1_6 S2_6 H_6 B_6 X7_6 X9_6 f0 f1 f2 g0 g1 g2
  obtain ⟨f0, f1, f2⟩ := cells3 X7_7.out
  obtain ⟨g0, g1, g2⟩ := cells3 X9_7.out
  go_wp2_with fail
  refine Calls.mono (HGR.out _ _ _ _ HN1.out S1_7.out) ?_
  rintro e w8 ⟨q3, c3, rfl, ho3, hb⟩
  have R3 := Lib.hid ho3.sl2
  clear ho3
  have S1_8 := Lib.hid (S1_7.out.keep hb); have S2_8 := Lib.hid (S2_7.out.keep hb); have H_8 := Lib.hid (H_7.out.keep hb); have B_8 := Lib.hid (bl B_7.out hb B_7.out.size)
  have X7_8 := Lib.hid ((hb.block _ (blk_lt X7_7.out)).trans X7_7.out); have X9_8 := Lib.hid ((hb.block _ (blk_lt X9_7.out)).trans X9_7.out)
  clear hb S1_7 S2_7 H_7 B_7 X7_7 X9_7 f0 f1 f2 g0 g1 g2
  obtain ⟨f0, f1, f2⟩ := cells3 X7_8.out
  obtain ⟨g0, g1, g2⟩ := cells3 X9_8.out
  go_wp2_with fail
  refine Calls.mono (Same7_any _ _ _ _ _ _ xss xss _ R3.out H_8.out) ?_
  rintro e w9 ⟨rfl, hb⟩
  have S1_9 := Lib.hid (S1_8.out.keep hb); have S2_9 := Lib.hid (S2_8.out.keep hb); have H_9 := Lib.hid (H_8.out.keep hb); have B_9 := Lib.hid (bl B_8.out hb B_8.out.size)
  have X7_9 := Lib.hid ((hb.block _ (blk_lt X7_8.out)).trans X7_8.out); have X9_9 := Lib.hid ((hb.block _ (blk_lt X9_8.out)).trans X9_8.out)
  clear hb S1_8 S2_8 H_8 B_8 X7_8 X9_8 f0 f1 f2 g0 g1 g2
  rw [decide_eq_true rfl]
  obtain ⟨f0, f1, f2⟩ := cells3 X7_9.out
  obtain ⟨g0, g1, g2⟩ := cells3 X9_9.out
  go_wp2_with fail
  refine Calls.mono (HUR.out _ _ _ _ HN2.out S2_9.out) ?_
  rintro e w10 ⟨q4, c4, rfl, ho4, hb⟩
  have R4 := Lib.hid ho4.sl2
  clear ho4
  have S1_10 := Lib.hid (S1_9.out.keep hb); have S2_10 := Lib.hid (S2_9.out.keep hb); have H_10 := Lib.hid (H_9.out.keep hb); have B_10 := Lib.hid (bl B_9.out hb B_9.out.size)
  have X7_10 := Lib.hid ((hb.block _ (blk_lt X7_9.out)).trans X7_9.out); have X9_10 := Lib.hid ((hb.block _ (blk_lt X9_9.out)).trans X9_9.out)
  clear hb S1_9 S2_9 H_9 B_9 X7_9 X9_9 f0 f1 f2 g0 g1 g2
  obtain ⟨f0, f1, f2⟩ := cells3 X7_10.out
  clear f0 f1 f2
  go_wp2
  go_loop [96] (fun i => ∃ k : Nat, k ≤ N ∧ i = .int .i64 k) (fun i => N - (intOf i).toNat)
  case atStart => exact ⟨0, Nat.zero_le _, rfl⟩
  case round =>
    obtain ⟨k, hk, rfl⟩ := hrel
    by_cases hlt : k < N
    · obtain ⟨b, o, q, mx, cx, row, rfl, hc, hs, hx⟩ := R4.out.at k hlt
      obtain rfl : mx = N := by
        have h1 := hs.len
        have h2 := hx.out
        rw [List.getElem?_map, List.getElem?_range hlt] at h2
        have h3 : rowF N (unitC N N) k = row := by simpa using h2
        rw [← h3, rowF_len (unitC_len N N) hlt] at h1
        exact h1.symm
      have HS := Lib.hid hs
      have kn : (k : Int) < (mx : Int) := by omega
      clear hs
      go_wp2
      clear hc
      go_loop [103] (fun i => ∃ j : Nat, j ≤ mx ∧ i = .int .i64 j) (fun i => mx - (intOf i).toNat)
      case atStart => exact ⟨0, Nat.zero_le _, rfl⟩
      case round =>
        obtain ⟨j, hj, rfl⟩ := hrel
        by_cases hjl : j < mx
        · obtain ⟨b', o', x, rfl, hcx, hxx⟩ := HS.out.at j hjl
          have e := HEL.out k j row x hlt hx.out hxx.out hjl
          have jn : (j : Int) < (mx : Int) := by omega
          by_cases hkj : k = j
          · rw [if_pos hkj] at e
            subst e
            have hcx' : _ = some (Value.int .u8 1) := hcx
            have dkj : ((k : Int) == (j : Int)) = true := by simp [hkj]
            clear hcx hkj
            go_wp2
            go_round
            case rel => exact ⟨j + 1, by omega, by go_num⟩
            case measure => simp [intOf]; omega
          · rw [if_neg hkj] at e
            subst e
            have hcx' : _ = some (Value.int .u8 0) := hcx
            have dkj : ((k : Int) == (j : Int)) = false := by simp; omega
            clear hcx hkj
            go_wp2
            go_round
            case rel => exact ⟨j + 1, by omega, by go_num⟩
            case measure => simp [intOf]; omega
        · have hge : (mx : Int) ≤ (j : Int) := by omega
          go_wp2
          go_round
          case rel => exact ⟨k + 1, by omega, by go_num⟩
          case measure => simp [intOf]; omega
    · have hge : (N : Int) ≤ (k : Int) := by omega
      clear hk hlt
      obtain ⟨f0, f1, f2⟩ := cells3 X7_10.out
      obtain ⟨g0, g1, g2⟩ := cells3 X9_10.out
      go_wp2_with fail
      refine Calls.mono (Height_any N N _ _) ?_
      rintro e w11 ⟨rfl, hb⟩
      have S1_11 := Lib.hid (S1_10.out.keep hb); have S2_11 := Lib.hid (S2_10.out.keep hb); have H_11 := Lib.hid (H_10.out.keep hb); have B_11 := Lib.hid (bl B_10.out hb B_10.out.size)
      have X7_11 := Lib.hid ((hb.block _ (blk_lt X7_10.out)).trans X7_10.out); have X9_11 := Lib.hid ((hb.block _ (blk_lt X9_10.out)).trans X9_10.out)
      clear hb S1_10 S2_10 H_10 B_10 X7_10 X9_10 f0 f1 f2 g0 g1 g2
      obtain ⟨f0, f1, f2⟩ := cells3 X7_11.out
      obtain ⟨g0, g1, g2⟩ := cells3 X9_11.out
      go_wp2_with fail
      refine Calls.mono (Width_any N N _ _) ?_
      rintro e w12 ⟨rfl, hb⟩
      have S1_12 := Lib.hid (S1_11.out.keep hb); have S2_12 := Lib.hid (S2_11.out.keep hb); have H_12 := Lib.hid (H_11.out.keep hb); have B_12 := Lib.hid (bl B_11.out hb B_11.out.size)
      have X7_12 := Lib.hid ((hb.block _ (blk_lt X7_11.out)).trans X7_11.out); have X9_12 := Lib.hid ((hb.block _ (blk_lt X9_11.out)).trans X9_11.out)
      clear hb S1_11 S2_11 H_11 B_11 X7_11 X9_11 f0 f1 f2 g0 g1 g2
      obtain ⟨f0, f1, f2⟩ := cells3 X7_12.out
      obtain ⟨g0, g1, g2⟩ := cells3 X9_12.out
      go_wp2_with fail
      refine Calls.mono (GSame_any N N N N _ _ _ _ _ _ (unitC N N) (unitC N N) _ S2_12.out S2_12.out) ?_
      rintro e w13 ⟨rfl, hb⟩
      have S1_13 := Lib.hid (S1_12.out.keep hb); have S2_13 := Lib.hid (S2_12.out.keep hb); have H_13 := Lib.hid (H_12.out.keep hb); have B_13 := Lib.hid (bl B_12.out hb B_12.out.size)
      have X7_13 := Lib.hid ((hb.block _ (blk_lt X7_12.out)).trans X7_12.out); have X9_13 := Lib.hid ((hb.block _ (blk_lt X9_12.out)).trans X9_12.out)
      clear hb S1_12 S2_12 H_12 B_12 X7_12 X9_12 f0 f1 f2 g0 g1 g2
      rw [decide_eq_true ⟨rfl, rfl, rfl⟩]
      by_cases hwn : wd = N
      · have HSM : Hid (decide (wd = N ∧ m = N ∧ xss.flatten = unitC N N) = decide (xss = (List.range N).map (rowF N (unitC N N)))) := by
          show _ = _
          rw [unit_same HLEN.out HLN.out, decide_eq_true hwn, Bool.true_and]
        have dwn : ((wd : Int) == (N : Int)) = true := by simp [hwn]
        clear hwn
        obtain ⟨f0, f1, f2⟩ := cells3 X7_13.out
        obtain ⟨g0, g1, g2⟩ := cells3 X9_13.out
        go_wp2_with fail
        refine Calls.mono (GSame_any m wd N N _ _ _ _ _ _ xss.flatten (unitC N N) _ S1_13.out S2_13.out) ?_
        rintro e w14 ⟨rfl, hb⟩
        have S1_14 := Lib.hid (S1_13.out.keep hb); have S2_14 := Lib.hid (S2_13.out.keep hb); have H_14 := Lib.hid (H_13.out.keep hb); have B_14 := Lib.hid (bl B_13.out hb B_13.out.size)
        have X7_14 := Lib.hid ((hb.block _ (blk_lt X7_13.out)).trans X7_13.out); have X9_14 := Lib.hid ((hb.block _ (blk_lt X9_13.out)).trans X9_13.out)
        clear hb S1_13 S2_13 H_13 B_13 X7_13 X9_13 f0 f1 f2 g0 g1 g2
        rw [HSM.out]
        obtain ⟨f0, f1, f2⟩ := cells3 X7_14.out
        obtain ⟨g0, g1, g2⟩ := cells3 X9_14.out
        go_wp2_with fail
        refine Calls.mono (HUR.out _ _ _ _ HN2.out S2_14.out) ?_
        rintro e w15 ⟨q5, c5, rfl, ho5, hb⟩
        have R5 := Lib.hid ho5.sl2
        clear ho5
        have S1_15 := Lib.hid (S1_14.out.keep hb); have S2_15 := Lib.hid (S2_14.out.keep hb); have H_15 := Lib.hid (H_14.out.keep hb); have B_15 := Lib.hid (bl B_14.out hb B_14.out.size)
        have X7_15 := Lib.hid ((hb.block _ (blk_lt X7_14.out)).trans X7_14.out); have X9_15 := Lib.hid ((hb.block _ (blk_lt X9_14.out)).trans X9_14.out)
        clear hb S1_14 S2_14 H_14 B_14 X7_14 X9_14 f0 f1 f2 g0 g1 g2
        obtain ⟨f0, f1, f2⟩ := cells3 X7_15.out
        obtain ⟨g0, g1, g2⟩ := cells3 X9_15.out
        go_wp2_with fail
        refine Calls.mono (Same7_any _ _ _ _ _ _ xss ((List.range N).map (rowF N (unitC N N))) _ H_15.out R5.out) ?_
        rintro e w16 ⟨rfl, hb⟩
        have S1_16 := Lib.hid (S1_15.out.keep hb); have S2_16 := Lib.hid (S2_15.out.keep hb); have H_16 := Lib.hid (H_15.out.keep hb); have B_16 := Lib.hid (bl B_15.out hb B_15.out.size)
        have X7_16 := Lib.hid ((hb.block _ (blk_lt X7_15.out)).trans X7_15.out); have X9_16 := Lib.hid ((hb.block _ (blk_lt X9_15.out)).trans X9_15.out)
        clear hb S1_15 S2_15 H_15 B_15 X7_15 X9_15 f0 f1 f2 g0 g1 g2
        generalize decide (xss = (List.range N).map (rowF N (unitC N N))) = D
        go_wp2
        go_ret
        exact ⟨rfl, B_16.out⟩
      · have HSF : Hid (decide (wd = N ∧ m = N ∧ xss.flatten = unitC N N) = false) := decide_eq_false (fun h => hwn h.1)
        have dwn : ((wd : Int) == (N : Int)) = false := by simp; omega
        clear hwn
        obtain ⟨f0, f1, f2⟩ := cells3 X7_13.out
        obtain ⟨g0, g1, g2⟩ := cells3 X9_13.out
        go_wp2_with fail
        refine Calls.mono (GSame_any m wd N N _ _ _ _ _ _ xss.flatten (unitC N N) _ S1_13.out S2_13.out) ?_
        rintro e w14 ⟨rfl, hb⟩
        have S1_14 := Lib.hid (S1_13.out.keep hb); have S2_14 := Lib.hid (S2_13.out.keep hb); have H_14 := Lib.hid (H_13.out.keep hb); have B_14 := Lib.hid (bl B_13.out hb B_13.out.size)
        have X7_14 := Lib.hid ((hb.block _ (blk_lt X7_13.out)).trans X7_13.out); have X9_14 := Lib.hid ((hb.block _ (blk_lt X9_13.out)).trans X9_13.out)
        clear hb S1_13 S2_13 H_13 B_13 X7_13 X9_13 f0 f1 f2 g0 g1 g2
        rw [HSF.out]
        go_wp2
        go_ret
        exact ⟨rfl, B_14.out⟩
end Go.Proofs.Ytofhdakggapahaa
namespace Go.Proofs.Ytofhdakggapahaa
open Go.RowKit Go.By
set_option maxRecDepth 100000 in
set_option maxHeartbeats 4000000 in
theorem GT_skip1 (width n : Int) (p : Option Addr) (m c : Nat) (xss : List (List UInt8)) (w : World) (h : Sl2 w p m c xss) (hf : (xss.all (fun y => decide (y.length ≤ 30)) && decide (m ≤ 30)) = false) :
    Calls Try.prog 3 #[.int .i64 width, .slice p m c, .int .i64 n] w fun e w' => e = .returned (.bool true) ∧ Below w.heap.size w w' := by
  have HF : Hid (∀ W, Sl2 W p m c xss → Calls Try.prog 10 #[.slice p m c] W fun e w' => e = .returned (.bool false) ∧ W = w') := fun W h => by
    have := Few7_any p m c xss W h
    rw [hf] at this; exact this
  have H := Lib.hid h
  clear h hf
  go_enter Try.func3, Try.ntmps3
  go_wp2_with fail
  refine (awake07 _).mono ?_; rintro e w1 ⟨rfl, k1⟩
  have H1 := Lib.hid (H.out.keep k1); have B1 := Lib.hid k1
  clear k1 H
  go_wp2_with fail
  refine Calls.mono (HF.out _ H1.out) ?_; rintro e w' ⟨rfl, rfl⟩
  go_wp2
  go_ret
  exact ⟨rfl, B1.out⟩
set_option maxRecDepth 100000 in
set_option maxHeartbeats 4000000 in
theorem GT_skip2 (width n : Int) (p : Option Addr) (m c : Nat) (xss : List (List UInt8)) (w : World) (h : Sl2 w p m c xss) (hf : (xss.all (fun y => decide (y.length ≤ 30)) && decide (m ≤ 30)) = true) (h1 : 40 < n) (h2 : n ≤ 256) :
    Calls Try.prog 3 #[.int .i64 width, .slice p m c, .int .i64 n] w fun e w' => e = .returned (.bool true) ∧ Below w.heap.size w w' := by
  have HF : Hid (∀ W, Sl2 W p m c xss → Calls Try.prog 10 #[.slice p m c] W fun e w' => e = .returned (.bool true) ∧ W = w') := fun W h => by
    have := Few7_any p m c xss W h
    rw [hf] at this; exact this
  have H := Lib.hid h
  clear h hf
  go_enter Try.func3, Try.ntmps3
  go_wp2_with fail
  refine (awake07 _).mono ?_; rintro e w1 ⟨rfl, k1⟩
  have H1 := Lib.hid (H.out.keep k1); have B1 := Lib.hid k1
  clear k1 H
  go_wp2_with fail
  refine Calls.mono (HF.out _ H1.out) ?_; rintro e w' ⟨rfl, rfl⟩
  go_wp2
  go_ret
  exact ⟨rfl, B1.out⟩
theorem GridTells_any (width : Int) (p : Option Addr) (m c : Nat) (xss : List (List UInt8)) (n : Int) (w : World) (w0 : (Lit.int .i64 width).wf = true) (h : Sl2 w p m c xss) (_w2 : (Lit.int .i64 n).wf = true) :
    Calls Try.prog 3 #[.int .i64 width, .slice p m c, .int .i64 n] w fun e w' => e = .returned (.bool true) ∧ Below w.heap.size w w' := by
  have hwb := (Go.bounds_i64 w0).2
  cases hfew : (xss.all (fun y => decide (y.length ≤ 30)) && decide (m ≤ 30)) with
  | false => exact GT_skip1 width n p m c xss w h hfew
  | true =>
    have hf2 := hfew
    rw [Bool.and_eq_true] at hf2
    have hm : m ≤ 30 := of_decide_eq_true hf2.2
    by_cases hskip : 40 < n ∧ n ≤ 256
    · exact GT_skip2 width n p m c xss w h hfew hskip.1 hskip.2
    · have key : (∃ wd : Nat, width = wd ∧ wd ≤ 65536 ∧ m * wd ≤ 65536 ∧ xss.all (fun y => decide (y.length = wd)) = true) ∨
          ∃ code : Int, code ≠ 0 ∧ (∀ W, Sl2 W p m c xss → Calls Try.prog 11 #[.int .i64 width, .slice p m c] W (RetG2 5 W 0 0 [] code)) ∧ (∀ W, Sl2 W p m c xss → Calls Try.prog 13 #[.int .i64 width, .slice p m c] W fun e w' => e = .returned (.int .i64 code) ∧ W = w') := by
        by_cases h1 : width < 0 ∨ 65536 < width
        · exact .inr ⟨2, by decide, fun W _ => GOf_bad width p m c W 2 (.inl ⟨h1, rfl⟩) (by omega) hwb, fun W _ => RGOf_bad width p m c W 2 (.inl ⟨h1, rfl⟩) (by omega) hwb⟩
        · obtain ⟨wd, rfl⟩ := Int.eq_ofNat_of_zero_le (show 0 ≤ width by omega)
          by_cases h2 : m * wd ≤ 65536
          · cases hall : xss.all (fun y => decide (y.length = wd)) with
            | true => exact .inl ⟨wd, rfl, by omega, h2, hall⟩
            | false =>
              refine .inr ⟨4, by decide, fun W hW => GOf_uneven wd p m c xss W hW (by omega) (by omega) h2 hall, fun W hW => ?_⟩
              have := RGOf_good wd p m c xss W hW (by omega) (by omega) h2
              rw [if_neg (by rw [hall]; decide)] at this; exact this
          · have hc : (0 : Int) ≤ (wd : Int) ∧ (wd : Int) ≤ 65536 ∧ m ≤ 65536 ∧ (65536 : Int) < (m : Int) * (wd : Int) ∧ (5 : Int) = 5 := ⟨by omega, by omega, by omega, by rw [← Int.natCast_mul]; omega, rfl⟩
            exact .inr ⟨5, by decide, fun W _ => GOf_bad wd p m c W 5 (.inr (.inr hc)) (by omega) hwb, fun W _ => RGOf_bad wd p m c W 5 (.inr (.inr hc)) (by omega) hwb⟩
      by_cases hn : n < 0 ∨ 256 < n
      · rcases key with ⟨wd, rfl, g1, g2, g3⟩ | ⟨code, g1, g2, g3⟩
        · exact GT_gb wd n p m c xss w h hf2.1 hm g1 g2 g3 hn
        · exact GT_bb width code n p m c xss w h hf2.1 hm g2 g3 g1 hn
      · obtain ⟨N, rfl⟩ := Int.eq_ofNat_of_zero_le (show 0 ≤ n by omega)
        have hN : N ≤ 40 := by omega
        rcases key with ⟨wd, rfl, g1, g2, g3⟩ | ⟨code, g1, g2, g3⟩
        · exact GT_gg wd N p m c xss w h hf2.1 hm g1 g2 g3 hN
        · exact GT_bg width code N p m c xss w h hf2.1 hm g2 g3 g1 hN
end Go.Proofs.Ytofhdakggapahaa
