/- The contracts of the plan's functions: needed,fits,Check,Of; and of the reference's Needs and Check. The contracts of slices.Grow and Concat at bytes; of the whole of the symbols. The contracts of slices.Grow and Concat at bytes; of the whole of the symbols (G0 holds them). Chapter 13: head.Check,Bytes. Chapter 14: row.Width,fits,Vector,Write. Chapter 14: row.Explicit,Seeded,Read. Chapter 15: packet.Length,fits (of what fits). Chapter 15: packet.Write (of what fits). Chapter 13: head.Read. Arrays that the call owns,written in place; lists of parcels: cells of two. The contracts of the reference's functions of layer 2: Dot,Scale. The contract of the reference's combination. The contract of the reference's Same of layer 7. The contracts of bytes.Clone,of Same of lists of rows,of slices.Equal at ints,of Harms. A region that draws its order: as in text RC,but one extract ahead of the tail may slip behind the tail's first operation (a store). Chapter 15: packet.Read. -/
import Derived.Test.YtfbmdlfkipipfaaGreatDoorZf2
import Derived.BigQuiet
import Derived.Lib.AppendZeros
import Derived.Laws.IdiomCopy
namespace Go.Proofs.YtfbmdlfkipipfaaGreatDoor
open Go.RowKit Go.By
def needS (l s : Int) : Int := if l = 0 then 1 else (l - 1) / s + 1
def fitS (l s : Int) : Int := if l < 0 then 2 else if s < 1 ∨ 65535 < s then 4 else if 4096 < needS l s then 5 else 0
def checkS (l s n : Int) : Int := if fitS l s = 0 then (if n = needS l s then 0 else 14) else fitS l s
def ofS (l s : Int) (d : Int) : Value := if fitS l s = 0 then .tuple #[.agg #[.int .i64 l,.int .i64 s,.int .i64 (needS l s),.int .u32 d],.int .i64 0] else .tuple #[.agg #[.int .i64 0,.int .i64 0,.int .i64 0,.int .u32 0],.int .i64 (fitS l s)]
theorem needS_pos {l s : Int} (hl : 0 ≤ l) (hs : 1 ≤ s) : 1 ≤ needS l s ∧ (l ≠ 0 → needS l s ≤ l) := by
 unfold needS
 split
 ·omega
 ·rename_i h0
  have h1 : 0 ≤ (l - 1) / s := Int.ediv_nonneg (by omega) (by omega)
  have h2 : (l - 1) / s ≤ l - 1 := Int.ediv_le_self _ (by omega)
  omega
theorem needS_spec {l s : Int} (hl : 0 < l) (hs : 1 ≤ s) : (needS l s - 1) * s < l ∧ l ≤ needS l s * s := by
 unfold needS
 rw [if_neg (by omega)]
 have h := Int.emod_add_mul_ediv (l - 1) s
 have h1 := Int.emod_nonneg (l - 1) (show s ≠ 0 by omega)
 have h2 := Int.emod_lt_of_pos (l - 1) (show 0 < s by omega)
 generalize (l - 1) / s = q at *
 have e1 : (q + 1 - 1) * s = s * q := by rw [Int.mul_comm]; congr 1; omega
 have e2 : (q + 1) * s = s * q + s := by rw [Int.add_mul,Int.mul_comm]; omega
 omega
theorem needS_of {l s k : Int} (hl : 0 < l) (hs : 1 ≤ s) (h1 : (k - 1) * s < l) (h2 : l ≤ k * s) : needS l s = k := by
 obtain ⟨g1,g2⟩ := needS_spec hl hs
 generalize needS l s = n at *
 have a1 : ¬ n < k := fun h => by
  have : n * s ≤ (k - 1) * s := Int.mul_le_mul_of_nonneg_right (by omega) (by omega)
  omega
 have a2 : ¬ k < n := fun h => by
  have : k * s ≤ (n - 1) * s := Int.mul_le_mul_of_nonneg_right (by omega) (by omega)
  omega
 omega
set_option maxHeartbeats 400000 in
theorem needed_any (l s : Int) (w : World) (hl : 0 ≤ l) (hl2 : l ≤ 9223372036854775807) (hs : 1 ≤ s) :
  Calls Tryz.prog 68 #[.int .i64 l,.int .i64 s] w fun e w' => e = .returned (.int .i64 (needS l s)) ∧ w = w' := by
 by_cases h0 : l = 0
 ·subst h0
  go_enter Tryz.func68,Tryz.ntmps68
  go_wp2
  go_ret
  exact ⟨rfl,rfl⟩
 ·have hz : (l == 0) = false := by simpa using h0
  have hs0 : (s == 0) = false := by simp; omega
  obtain ⟨hn,hn'⟩ := needS_pos hl hs
  have hn2 := hn' h0
  clear hn'
  have e0 : needS l s = (l - 1) / s + 1 := if_neg h0
  have hw : wrap64 ((l - 1) / s + 1) = needS l s := by
   rw [← e0]; unfold wrap64
   generalize needS l s = y at *
   clear e0
   omega
  clear e0
  go_enter Tryz.func68,Tryz.ntmps68
  go_wp2
  go_ret
  exact ⟨by rw [hw]; rfl,rfl⟩
set_option maxHeartbeats 400000 in
theorem fits_any (l s : Int) (w : World) (hl2 : l ≤ 9223372036854775807) :
  Calls Tryz.prog 67 #[.int .i64 l,.int .i64 s] w fun e w' => e = .returned (.int .i64 (fitS l s)) ∧ w = w' := by
 by_cases h0 : l < 0
 ·have HR : Hid (fitS l s = 2) := if_pos h0
  go_enter Tryz.func67,Tryz.ntmps67
  go_wp2
  go_ret
  exact ⟨by rw [HR.out]; rfl,rfl⟩
 ·by_cases h1 : s < 1
  ·have HR : Hid (fitS l s = 4) := by unfold fitS; rw [Hid,if_neg h0,if_pos (Or.inl h1)]
   go_enter Tryz.func67,Tryz.ntmps67
   go_wp2
   go_ret
   exact ⟨by rw [HR.out]; rfl,rfl⟩
  ·by_cases h2 : 65535 < s
   ·have HR : Hid (fitS l s = 4) := by unfold fitS; rw [Hid,if_neg h0,if_pos (Or.inr h2)]
    go_enter Tryz.func67,Tryz.ntmps67
    go_wp2
    go_ret
    exact ⟨by rw [HR.out]; rfl,rfl⟩
   ·have HN := Lib.hid (fun w => needed_any l s w (by omega) hl2 (by omega))
    by_cases h3 : 4096 < needS l s
    ·have HR : Hid (fitS l s = 5) := by unfold fitS; rw [Hid,if_neg h0,if_neg (by omega),if_pos h3]
     go_enter Tryz.func67,Tryz.ntmps67
     go_wp2_with fail
     refine (HN.out _).mono ?_; rintro e w' ⟨rfl,rfl⟩
     go_wp2
     go_ret
     exact ⟨by rw [HR.out]; rfl,rfl⟩
    ·have HR : Hid (fitS l s = 0) := by unfold fitS; rw [Hid,if_neg h0,if_neg (by omega),if_neg h3]
     go_enter Tryz.func67,Tryz.ntmps67
     go_wp2_with fail
     refine (HN.out _).mono ?_; rintro e w' ⟨rfl,rfl⟩
     go_wp2
     go_ret
     exact ⟨by rw [HR.out]; rfl,rfl⟩
theorem fitS_cases (l s : Int) : (fitS l s ≠ 0 ∧ (fitS l s = 2 ∨ fitS l s = 4 ∨ fitS l s = 5)) ∨ (fitS l s = 0 ∧ 0 ≤ l ∧ 1 ≤ s ∧ s ≤ 65535 ∧ needS l s ≤ 4096) := by
 unfold fitS
 split
 ·simp
 ·split
  ·simp
  ·split
   ·simp
   ·right; omega
theorem cell4 (w : World) (a b c d : Value) (T : TypeId) : ∀ i : Nat,(w.alloc (.cells #[a,b,c,d] T)).cell? ⟨w.heap.size,i,none⟩ = #[a,b,c,d][i]? := fun i => cell_of_row _ _ _ _ _ _ (hnew rfl)
set_option maxRecDepth 100000 in
set_option maxHeartbeats 1000000 in
theorem Check_any (l s n d : Int) (w : World) (hl2 : l ≤ 9223372036854775807) :
  Calls Tryz.prog 73 #[.agg #[.int .i64 l,.int .i64 s,.int .i64 n,.int .u32 d]] w fun e w' => e = .returned (.int .i64 (checkS l s n)) ∧ Below w.heap.size w w' := by
 have HF := Lib.hid (fun w => fits_any l s w hl2)
 rcases fitS_cases l s with ⟨h0,h1⟩ | ⟨h0,h1,h2,h3,h4⟩
 ·have HR : Hid (checkS l s n = fitS l s) := if_neg h0
  have hb : (fitS l s != 0) = true := by simpa using h0
  clear h1
  generalize fitS l s = f at *
  clear h0
  go_enter Tryz.func73,Tryz.ntmps73
  go_wp2_with fail
  refine (HF.out _).mono ?_; rintro e w' ⟨rfl,rfl⟩
  go_wp2
  go_ret
  exact ⟨by rw [HR.out]; rfl,al (Below.refl _ _) (Nat.le_refl _)⟩
 ·rw [h0] at HF
  have HN := Lib.hid (fun w => needed_any l s w h1 hl2 h2)
  have HR : Hid (checkS l s n = if n = needS l s then 0 else 14) := by unfold checkS; rw [Hid,if_pos h0]
  generalize needS l s = k at *
  by_cases e : n = k
  ·subst e
   have hb : (n != n) = false := by simp
   rw [if_pos rfl] at HR
   clear h0 h1 h2 h3 h4
   go_enter Tryz.func73,Tryz.ntmps73
   go_wp2_with fail
   refine (HF.out _).mono ?_; rintro e w' ⟨rfl,rfl⟩
   go_wp2
   have C0 := cell4 w (.int .i64 l) (.int .i64 s) (.int .i64 n) (.int .u32 d) 27 0
   have C1 := cell4 w (.int .i64 l) (.int .i64 s) (.int .i64 n) (.int .u32 d) 27 1
   have C2 := cell4 w (.int .i64 l) (.int .i64 s) (.int .i64 n) (.int .u32 d) 27 2
   go_quiet ((go_at_call 68; exact Calls.quiet_of_same ((HN.out _).mono fun e w' hh => ⟨hh.1,hh.2.symm⟩)))
   go_wp2
   go_ret
   exact ⟨by rw [HR.out]; rfl,bdn (al (Below.refl _ _) (Nat.le_refl _))⟩
  ·have hb : (n != k) = true := by simpa using e
   rw [if_neg e] at HR
   clear h0 h1 h2 h3 h4 e
   go_enter Tryz.func73,Tryz.ntmps73
   go_wp2_with fail
   refine (HF.out _).mono ?_; rintro e w' ⟨rfl,rfl⟩
   go_wp2
   have C0 := cell4 w (.int .i64 l) (.int .i64 s) (.int .i64 n) (.int .u32 d) 27 0
   have C1 := cell4 w (.int .i64 l) (.int .i64 s) (.int .i64 n) (.int .u32 d) 27 1
   have C2 := cell4 w (.int .i64 l) (.int .i64 s) (.int .i64 n) (.int .u32 d) 27 2
   go_quiet ((go_at_call 68; exact Calls.quiet_of_same ((HN.out _).mono fun e w' hh => ⟨hh.1,hh.2.symm⟩)))
   go_wp2
   go_ret
   exact ⟨by rw [HR.out]; rfl,bdn (al (Below.refl _ _) (Nat.le_refl _))⟩
theorem results_ct {P : Program} {fn : Func} {p u : Tmp} {ty : TypeId} (h : fn.results = #[.cell p ty,.tmp u]) (tmps : Array Value) (w : World) (g : Nat) (t : TypeId) (cs : Array Value) (fr : Nat × Nat) (d : TypeDesc) (v : Value)
  (hp : tmps.getD p undef = .pointer (some ⟨g,0,none⟩)) (hg : w.heap[g]? = some (.cells cs t fr)) (hv : tmps.getD u undef = v)
  (hu : P.underlying ty = some d) (hd : (match d with | .struct _ | .array _ _ => true | _ => false) = true) (hi : (P.info? ty).map (·.size) = some cs.size) :
  (results fn tmps).run P w = .ok (.tuple #[.agg cs,v]) w := by
 have hp' : tmps[p]?.getD undef = .pointer (some ⟨g,0,none⟩) := by simpa using hp
 have hv' : tmps[u]?.getD undef = v := by simpa using hv
 simp [results,h,hp',hv',asAddr,run_loadVar_row w g t ty cs fr d hg hu hd hi]
theorem info_plan : (Tryz.prog.info? 27).map (·.size) = some 4 := by kernel_rfl
set_option maxRecDepth 100000 in
set_option maxHeartbeats 1000000 in
theorem POf_any (l s d : Int) (w : World) (hl2 : l ≤ 9223372036854775807) :
  Calls Tryz.prog 24 #[.int .i64 l,.int .i64 s,.int .u32 d] w fun e w' => e = .returned (ofS l s d) ∧ Below w.heap.size w w' := by
 have HF := Lib.hid (fun w => fits_any l s w hl2)
 rcases fitS_cases l s with ⟨h0,h1⟩ | ⟨h0,h1,h2,h3,h4⟩
 ·have HR : Hid (ofS l s d = .tuple #[.agg #[.int .i64 0,.int .i64 0,.int .i64 0,.int .u32 0],.int .i64 (fitS l s)]) := if_neg h0
  have hb : (fitS l s != 0) = true := by simpa using h0
  clear h1
  generalize fitS l s = f at *
  clear h0
  have hi := info_plan
  go_enter Tryz.func24,Tryz.ntmps24
  go_wp2_with fail
  refine (HF.out _).mono ?_; rintro e w' ⟨rfl,rfl⟩
  go_wp2
  refine bodyPost_ret (results_ct rfl _ _ _ 27 #[.int .i64 0,.int .i64 0,.int .i64 0,.int .u32 0] (0,0) _ (.int .i64 f) rfl (hnew rfl) rfl Tryz.underlying27 rfl hi) rfl ⟨by rw [HR.out],al (Below.refl _ _) (Nat.le_refl _)⟩
 ·rw [h0] at HF
  have HN := Lib.hid (fun w => needed_any l s w h1 hl2 h2)
  have HR : Hid (ofS l s d = .tuple #[.agg #[.int .i64 l,.int .i64 s,.int .i64 (needS l s),.int .u32 d],.int .i64 0]) := if_pos h0
  generalize needS l s = k at *
  clear h0 h1 h2 h3 h4
  have hi := info_plan
  go_enter Tryz.func24,Tryz.ntmps24
  go_wp2_with fail
  refine (HF.out _).mono ?_; rintro e w' ⟨rfl,rfl⟩
  go_wp2_with fail
  refine (HN.out _).mono ?_; rintro e w' ⟨rfl,rfl⟩
  go_wp2
  refine bodyPost_ret (results_ct rfl _ _ _ 27 #[.int .i64 l,.int .i64 s,.int .i64 k,.int .u32 d] (0,0) _ (.int .i64 0) rfl (hnew rfl) rfl Tryz.underlying27 rfl hi) rfl ⟨by rw [HR.out],al (Below.refl _ _) (Nat.le_refl _)⟩
end Go.Proofs.YtfbmdlfkipipfaaGreatDoor
namespace Go.Proofs.YtfbmdlfkipipfaaGreatDoor
open Go.RowKit Go.By
set_option maxRecDepth 100000 in
set_option maxHeartbeats 1000000 in
theorem GrowNil_any (N : Nat) (w : World) (hN : Room N) :
  Calls Tryz.prog 134 #[.slice none 0 0,.int .i64 N] w fun e w' => ∃ q c',e = .returned (.slice q 0 c') ∧ w'.ownsRow w.heap.size 5 1 (.slice q 0 c') 0 [] ∧ Below w.heap.size w w' := by
 obtain ⟨i0,hi,hz0,hz1,hz2⟩ := info_parts info_u8
 by_cases h0 : N = 0
 ·subst h0
  go_enter Tryz.func134,Tryz.ntmps134
  go_wp2
  go_ret
  exact ⟨none,0,rfl,World.ownsRow_nil _ _ _ _,Below.refl _ _⟩
 ·have hp : 0 < N := by omega
  unfold Room at hN
  have hr := fun ty => Lib.run_append_nil_zeros (P := Tryz.prog) w 22 3 ty 5 i0 (.int .u8 0) .i64 .i64 Tryz.underlying22 Tryz.underlying3 hi hz0 N hp (by rw [hz1]; omega) (by omega) (by rw [hz2]; omega)
  have g1 := grownCap_ge w N 0 5
  have g2 := grownCap_le_maxLen w N 0 5 (by unfold maxLen; omega)
  generalize grownCap w N 0 5 = G at *
  have G2 := Lib.hid g2
  unfold maxLen at g2
  have HR := Lib.hid hr; clear hr
  clear h0
  go_enter Tryz.func134,Tryz.ntmps134
  go_wp2_with (at_builtin; refine Lib.wpList_append_run _ rfl _ _ _ _ rfl _ _ rfl rfl _ _ (HR.out _) ?_)
  go_ret
  refine ⟨_,G,rfl,⟨rfl,.inr ⟨w.heap.size,G,_,rfl,Nat.le_refl _,hnew rfl,Nat.zero_le _,G2.out,?_,by simp⟩⟩,al (w1 := w.drew) ⟨rfl,rfl,rfl,Nat.le_refl _,fun _ _ => rfl⟩ (Nat.le_refl _)⟩
  simp [size_zeroCells,Value.cells]; omega
theorem flat_take {xss : List (List UInt8)} {k : Nat} {xs : List UInt8} (h : xss[k]? = some xs) : (xss.take (k + 1)).flatten = (xss.take k).flatten ++ xs := by
 obtain ⟨hk,h⟩ := List.getElem?_eq_some_iff.1 h
 rw [List.take_succ_eq_append_getElem hk,h,List.flatten_append]; simp
theorem flat_le (xss : List (List UInt8)) (k : Nat) : (xss.take k).flatten.length ≤ xss.flatten.length := by
 have : xss.flatten = (xss.take k).flatten ++ (xss.drop k).flatten := by rw [← List.flatten_append,List.take_append_drop]
 rw [this]; simp
set_option maxRecDepth 100000 in
set_option maxHeartbeats 1000000 in
theorem Concat_any (p : Option Addr) (n c : Nat) (xss : List (List UInt8)) (w : World) (h : Sl2 w p n c xss) (hr : Room xss.flatten.length) :
  Calls Tryz.prog 82 #[.slice p n c] w (RetB1 5 w xss.flatten) := by
 obtain ⟨i0,hi,hz0,hz1,hz2⟩ := info_parts info_u8
 have hn := h.bound
 obtain ⟨F,hF⟩ : ∃ F : Nat → List UInt8,F = fun k => (xss.take k).flatten := ⟨_,rfl⟩
 have HF : Hid (∀ k xs,xss[k]? = some xs → F (k + 1) = F k ++ xs) := fun k xs hx => by subst hF; exact flat_take hx
 have HM : Hid (∀ k,(F k).length ≤ 140737488355328) := fun k => by subst hF; exact Nat.le_trans (flat_le xss k) hr
 have HN : Hid (F n = xss.flatten) := by subst hF; show (xss.take n).flatten = _; rw [List.take_of_length_le (by rw [h.len]; omega)]
 have H0 : Hid (F 0 = []) := by subst hF; rfl
 obtain ⟨T,hT⟩ : ∃ T : Nat → Nat,T = fun k => (F k).length := ⟨_,rfl⟩
 have HL : Hid (∀ k,(F k).length = T k) := fun k => by subst hT; rfl
 have HT0 : T 0 = 0 := by rw [← HL.out,H0.out]; rfl
 have H := Lib.hid h
 have HTn : Hid (∀ k,T k ≤ 140737488355328) := fun k => by rw [← HL.out]; exact HM.out k
 clear h hr hF hT
 go_enter Tryz.func82,Tryz.ntmps82
 go_wp2
 go_loop [3,11] (fun s i => ∃ k : Nat,k ≤ n ∧ i = .int .i64 k ∧ s = .int .i64 (T k)) (fun _ i => n - (intOf i).toNat)
 case atStart => exact ⟨0,Nat.zero_le _,rfl,by rw [HT0]; rfl⟩
 case round =>
  obtain ⟨k,hk,rfl,rfl⟩ := hrel
  have t1 := HTn.out k
  by_cases hlt : k < n
  ·obtain ⟨b,o,q,m,c',xs,rfl,hc,hs,hx⟩ := H.out.at k hlt
   have e1 : T (k + 1) = T k + m := by rw [← HL.out,HF.out k xs hx.out,List.length_append,HL.out,hs.len]
   have t2 := HTn.out (k + 1)
   have hm := hs.bound
   have t3 : T k + m ≤ 140737488355328 := by omega
   have E1 := Lib.hid e1
   clear e1 t2 hs
   go_wp2
   go_round
   case rel => exact ⟨k + 1,by omega,by go_num,by rw [E1.out]; go_num⟩
   case measure => simp [intOf]; omega
  ·have hkn : k = n := by omega
   subst hkn
   go_wp2_with fail
   refine (GrowNil_any (T k) w t1).mono ?_; rintro e w1 ⟨q0,c0,rfl,ho,hb⟩
   have HO := Lib.hid ho; clear ho
   go_wp2
   go_loopw [6,27] (fun v i wr => ∃ (j : Nat) (q : Option Addr) (c' : Nat),j ≤ k ∧ i = .int .i64 j ∧ v = .slice q (T j) c' ∧ Hid (wr.ownsRow w.heap.size 5 1 (.slice q (T j) c') (T j) ((F j).map B8)) ∧ Below w.heap.size w wr) (fun _ i _ => k - (intOf i).toNat)
   case atStart => exact ⟨0,q0,c0,Nat.zero_le _,rfl,by rw [HT0],by rw [HT0,H0.out]; exact HO.out,hb⟩
   case round =>
    obtain ⟨j,q,c',hj,rfl,rfl,hov,hbv⟩ := hrel
    have s1 := HTn.out j
    by_cases hjk : j < k
    ·obtain ⟨b,o,q',m,c'',xs,rfl,hc,hs,hx⟩ := H.out.at j hjk
     have hcw := (hbv.cell (p := ⟨b,o + j,none⟩) (lt_of_cell hc)).trans hc
     have e1 : T (j + 1) = T j + m := by rw [← HL.out,HF.out j xs hx.out,List.length_append,HL.out,hs.len]
     have e2 : F (j + 1) = F j ++ xs := HF.out j xs hx.out
     have t2 := HTn.out (j + 1)
     have hm := hs.bound
     have t3 : T j + m ≤ 140737488355328 := by omega
     have HS := Lib.hid hs
     have E1 := Lib.hid e1; have E2 := Lib.hid e2
     clear e1 e2 t2 hs
     go_wp2_with (at_builtin; refine wpList_append_rs _ rfl _ _ 22 rfl w.heap.size 5 i0 (.int .u8 0) 1 Tryz.underlying22 hi hz0 hz1 hz2 rfl _ (T j) _ rfl hov.out B8 _ _ _ xs (fun _ _ => rfl) rfl (HS.out.keep hbv) ?c1 ?c2 ?c3 ?_)
     case c1 => unfold maxLen; omega
     case c2 => omega
     case c3 => exact hbv.size
     intro v' w' ho' hg'
     obtain ⟨q2,c2,rfl⟩ := owns_shape ho'
     have hb' : Below w.heap.size w w' := hbv.grown hg' hbv.size (fun r hr' => (hov.out.lt r hr').1)
     clear hg'
     go_wp2
     go_roundw
     case rel => exact ⟨j + 1,q2,c2,by omega,by go_num,by rw [E1.out],by rw [E1.out,E2.out,List.map_append]; exact ho',hb'⟩
     case measure => simp [intOf]; omega
    ·have hjk' : j = k := by omega
     subst hjk'
     go_wp2
     go_ret
     refine ⟨q,T j,c',?_,rfl,?_,hbv⟩
     ·rw [← HN.out]; exact HL.out j
     ·rw [← HN.out]; exact hov.out
end Go.Proofs.YtfbmdlfkipipfaaGreatDoor
namespace Go.Proofs.YtfbmdlfkipipfaaGreatDoor
end Go.Proofs.YtfbmdlfkipipfaaGreatDoor
namespace Go.Proofs.YtfbmdlfkipipfaaGreatDoor
open Go.RowKit Go.By
abbrev HVal (m : UInt8) (o n : Nat) : Value := .agg #[B8 m,.int .u32 (o : Nat),.int .u32 (n : Nat)]
def modeC (m : UInt8) : Int := if m = 0 ∨ m = 1 then 0 else 8
theorem modeC_range (m : UInt8) : modeC m = 0 ∨ modeC m = 8 := by unfold modeC; split <;> simp
set_option maxHeartbeats 1000000 in
theorem HCheck_any (m : UInt8) (o n : Nat) (w : World) :
  Calls Tryz.prog 173 #[HVal m o n] w fun e w' => e = .returned (.int .i64 (modeC m)) ∧ Below w.heap.size w w' := by
 by_cases h0 : m = 0
 ·subst h0
  go_enter Tryz.func173,Tryz.ntmps173
  go_wp2
  go_ret
  exact ⟨rfl,al (Below.refl _ _) (Nat.le_refl _)⟩
 by_cases h1 : m = 1
 ·subst h1
  go_enter Tryz.func173,Tryz.ntmps173
  go_wp2
  go_ret
  exact ⟨rfl,al (Below.refl _ _) (Nat.le_refl _)⟩
 ·have e0 : ((m.toNat : Int) != 0) = true := bne_iff_ne.2 fun e => h0 (UInt8.toNat_inj.1 (by show m.toNat = 0; omega))
  have e1 : ((m.toNat : Int) != 1) = true := bne_iff_ne.2 fun e => h1 (UInt8.toNat_inj.1 (by show m.toNat = 1; omega))
  have hC : modeC m = 8 := by unfold modeC; rw [if_neg (by simp [h0,h1])]
  rw [hC]
  clear hC
  go_enter Tryz.func173,Tryz.ntmps173
  go_wp2
  go_ret
  exact ⟨rfl,al (Below.refl _ _) (Nat.le_refl _)⟩
def headB (m : UInt8) (o n : Nat) : List UInt8 := [1,m] ++ put4 o ++ put4 n
set_option maxRecDepth 100000 in
set_option maxHeartbeats 2000000 in
theorem HBytes_any (m : UInt8) (o n : Nat) (ho : o < 4294967296) (hn : n < 4294967296) (w : World) :
  Calls Tryz.prog 126 #[HVal m o n] w (SRet w (if modeC m = 0 then headB m o n else []) (modeC m)) := by
 have HO := Lib.hid ho
 have HN := Lib.hid hn
 clear ho hn
 by_cases hc : modeC m = 0
 ·rw [hc,if_pos rfl]
  have HK : Hid (∀ w,Calls Tryz.prog 173 #[HVal m o n] w fun e w' => e = .returned (.int .i64 0) ∧ Below w.heap.size w w') := fun w => by have := HCheck_any m o n w; rw [hc] at this; exact this
  clear hc
  go_enter Tryz.func126,Tryz.ntmps126
  go_wp2_with fail
  refine Calls.mono (HK.out _) ?_
  rintro e w1 ⟨rfl,hb1⟩
  have HB1 := Lib.hid ((al (Below.refl w.heap.size w) (Nat.le_refl _)).trans (hb1.mono (by simp)))
  have hl : w.heap.size < w1.heap.size := by have := hb1.size; simp at this; omega
  have HC : w1.heap[w.heap.size]? = some (.cells #[B8 m,.int .u32 (o : Nat),.int .u32 (n : Nat)] 133 (0,0)) := (hb1.block _ (by simp)).trans (hnew rfl)
  obtain ⟨c0,c1,c2⟩ := cells_three HC
  clear hb1 HC
  go_wp2_with fail
  refine wp_region_shapes (fun ix => ([.val (.pointer (some ⟨w.heap.size,0,none⟩)),.val (B8 m),.bytes ([1,m]),.val (.pointer (some ⟨w.heap.size,1,none⟩)),.val (.int .u32 (o : Nat)),.bytes (put4 o),.val (.pointer (some ⟨w.heap.size,2,none⟩)),.val (.int .u32 (n : Nat)),.bytes (put4 n),.rows ([[1,m],put4 o,put4 n]),.bytes (headB m o n),.bytes (headB m o n),.val (.int .i64 0)][ix]?).getD (.any)) 21 rfl (by kernel_rfl) (by decide) (by decide) (by decide) ?_ ?_
  ·refine ⟨?_,?_,?_,?_,?_,?_,?_,?_,?_,?_,?_,?_,?_,trivial⟩
   ·intro a W hb0 hs hp hi; have hb := undrew hb0; clear hb0
    have t1 : sl a 1 = .pointer (some ⟨w.heap.size,0,none⟩) := hi 1 (by decide)
    refine ite_y rfl (wp_val (.pointer (some ⟨w.heap.size,0,none⟩)) ?_ ?_)
    ·simp only [execOp,eval_tmp,eval_const,t1]; simp [go_sem]
    ·exact ⟨_,rfl,Below.refl _ _,rfl⟩
   ·intro a W hb0 hs hp hi; have hb := undrew hb0; clear hb0
    have tt : sl a 10 = .pointer (some ⟨w.heap.size,0,none⟩) := hp 0 (by decide)
    have dd := (hb.cell (p := ⟨w.heap.size,0,none⟩) (lt_of_cell c0)).trans c0
    refine ite_y rfl (wp_val (B8 m) ?_ ?_)
    ·simp only [execOp,eval_tmp,tt]; simp [go_sem,dd]
    ·exact ⟨_,rfl,Below.refl _ _,rfl⟩
   ·intro a W hb0 hs hp hi; have hb := undrew hb0; clear hb0
    have t11 : sl a 11 = B8 m := hp 1 (by decide)
    have v11 : a.tmps[11]?.getD undef = sl a 11 := by simp [sl]
    rw [t11] at v11
    refine ite_y rfl (wp_val' (w' := W.alloc (.cells #[.int .u8 1,B8 m] 5)) (.slice (some ⟨W.heap.size,0,none⟩) 2 2) ?_ ?_)
    ·simp only [execOp,eval_tmp,eval_const,t11]; simp [go_sem,v11]
    ·exact ⟨_,rfl,(al (Below.refl _ _) (Nat.le_refl _)),_,_,_,rfl,sl_block ([1,m]) 2 (hnew rfl) rfl rfl (by simp [maxLen])⟩
   ·intro a W hb0 hs hp hi; have hb := undrew hb0; clear hb0
    have t1 : sl a 1 = .pointer (some ⟨w.heap.size,0,none⟩) := hi 1 (by decide)
    refine ite_y rfl (wp_val (.pointer (some ⟨w.heap.size,1,none⟩)) ?_ ?_)
    ·simp only [execOp,eval_tmp,eval_const,t1]; simp [go_sem]
    ·exact ⟨_,rfl,Below.refl _ _,rfl⟩
   ·intro a W hb0 hs hp hi; have hb := undrew hb0; clear hb0
    have tt : sl a 13 = .pointer (some ⟨w.heap.size,1,none⟩) := hp 3 (by decide)
    have dd := (hb.cell (p := ⟨w.heap.size,1,none⟩) (lt_of_cell c1)).trans c1
    refine ite_y rfl (wp_val (.int .u32 (o : Nat)) ?_ ?_)
    ·simp only [execOp,eval_tmp,tt]; simp [go_sem,dd]
    ·exact ⟨_,rfl,Below.refl _ _,rfl⟩
   ·intro a W hb0 hs hp hi; have hb := undrew hb0; clear hb0
    have t14 : sl a 14 = .int .u32 (o : Nat) := hp 4 (by decide)
    refine ite_y rfl (wp_enter 128 #[.int .u32 (o : Nat)] ?_ (SPut_any o HO.out _) ?_)
    ·simp only [execOp,resolve,List.map_toArray,List.map,eval_tmp,eval_func,eval_const,t14]; simp [go_sem]
    ·rintro e W' ⟨g5,rfl,hg5,h5,hw⟩; exact ⟨_,rfl,_,rfl,hw,_,_,_,rfl,sl_block (put4 o) 4 h5 rfl (put4_len o) (by simp [maxLen])⟩
   ·intro a W hb0 hs hp hi; have hb := undrew hb0; clear hb0
    have t1 : sl a 1 = .pointer (some ⟨w.heap.size,0,none⟩) := hi 1 (by decide)
    refine ite_y rfl (wp_val (.pointer (some ⟨w.heap.size,2,none⟩)) ?_ ?_)
    ·simp only [execOp,eval_tmp,eval_const,t1]; simp [go_sem]
    ·exact ⟨_,rfl,Below.refl _ _,rfl⟩
   ·intro a W hb0 hs hp hi; have hb := undrew hb0; clear hb0
    have tt : sl a 16 = .pointer (some ⟨w.heap.size,2,none⟩) := hp 6 (by decide)
    have dd := (hb.cell (p := ⟨w.heap.size,2,none⟩) (lt_of_cell c2)).trans c2
    refine ite_y rfl (wp_val (.int .u32 (n : Nat)) ?_ ?_)
    ·simp only [execOp,eval_tmp,tt]; simp [go_sem,dd]
    ·exact ⟨_,rfl,Below.refl _ _,rfl⟩
   ·intro a W hb0 hs hp hi; have hb := undrew hb0; clear hb0
    have t17 : sl a 17 = .int .u32 (n : Nat) := hp 7 (by decide)
    refine ite_y rfl (wp_enter 128 #[.int .u32 (n : Nat)] ?_ (SPut_any n HN.out _) ?_)
    ·simp only [execOp,resolve,List.map_toArray,List.map,eval_tmp,eval_func,eval_const,t17]; simp [go_sem]
    ·rintro e W' ⟨g5,rfl,hg5,h5,hw⟩; exact ⟨_,rfl,_,rfl,hw,_,_,_,rfl,sl_block (put4 n) 4 h5 rfl (put4_len n) (by simp [maxLen])⟩
   ·intro a W hb0 hs hp hi; have hb := undrew hb0; clear hb0
    have t12 : BytesIs ([1,m]) (sl a 12) W := hp 2 (by decide)
    obtain ⟨y12a,y12b,y12c,t12,z12a⟩ := t12
    have t15 : BytesIs (put4 o) (sl a 15) W := hp 5 (by decide)
    obtain ⟨y15a,y15b,y15c,t15,z15a⟩ := t15
    have t18 : BytesIs (put4 n) (sl a 18) W := hp 8 (by decide)
    obtain ⟨y18a,y18b,y18c,t18,z18a⟩ := t18
    have v12 : a.tmps[12]?.getD undef = sl a 12 := by simp [sl]
    rw [t12] at v12
    have v15 : a.tmps[15]?.getD undef = sl a 15 := by simp [sl]
    rw [t15] at v15
    have v18 : a.tmps[18]?.getD undef = sl a 18 := by simp [sl]
    rw [t18] at v18
    refine ite_y rfl (wp_val' (w' := W.alloc (.cells #[.slice y12a y12b y12c,.slice y15a y15b y15c,.slice y18a y18b y18c] 22)) (.slice (some ⟨W.heap.size,0,none⟩) 3 3) ?_ ?_)
    ·simp only [execOp,eval_tmp,eval_const,t12,t15,t18]; simp [go_sem,v12,v15,v18]
    ·exact ⟨_,rfl,(al (Below.refl _ _) (Nat.le_refl _)),_,_,_,rfl,sl2_three (hnew rfl) (z12a.keep (al (Below.refl _ _) (Nat.le_refl _))) (z15a.keep (al (Below.refl _ _) (Nat.le_refl _))) (z18a.keep (al (Below.refl _ _) (Nat.le_refl _)))⟩
   ·intro a W hb0 hs hp hi; have hb := undrew hb0; clear hb0
    have t19 : RowsIs ([[1,m],put4 o,put4 n]) (sl a 19) W := hp 9 (by decide)
    obtain ⟨y19a,y19b,y19c,t19,z19a⟩ := t19
    refine ite_y rfl (wp_enter 82 #[.slice y19a y19b y19c] ?_ (Concat_any _ _ _ _ _ z19a (by simp [put4_len]; unfold Room; omega)) ?_)
    ·simp only [execOp,resolve,List.map_toArray,List.map,eval_tmp,eval_func,eval_const,t19]; simp [go_sem]
    ·rintro e W' ⟨q5,m5,g5,_,rfl,o5,hw⟩; exact ⟨_,rfl,_,rfl,hw,q5,m5,g5,rfl,(Sl.of_owns o5).read (by simp [headB])⟩
   ·intro a W hb0 hs hp hi; have hb := undrew hb0; clear hb0
    exact ite_y rfl (wp_val (sl a 20) rfl ⟨_,rfl,Below.refl _ _,hp 10 (by decide)⟩)
   ·intro a W hb0 hs hp hi; have hb := undrew hb0; clear hb0
    exact ite_y rfl (wp_val (.int .i64 0) rfl ⟨_,rfl,Below.refl _ _,rfl⟩)
  intro a w9 hb hs hd hI ht
  have ha := act_is [10,11,12,13,14,15,16,17,18,19,20,2,3] hs hd ht (by decide)
  have t3 : sl a 3 = .int .i64 0 := hI 12 (by decide)
  have y2 := hI 11 (by decide)
  obtain ⟨q9,n9,c9,t2,z2⟩ := y2
  simp only [List.foldl,t3,t2] at ha
  generalize sl a 10 = u10 at ha
  generalize sl a 11 = u11 at ha
  generalize sl a 12 = u12 at ha
  generalize sl a 13 = u13 at ha
  generalize sl a 14 = u14 at ha
  generalize sl a 15 = u15 at ha
  generalize sl a 16 = u16 at ha
  generalize sl a 17 = u17 at ha
  generalize sl a 18 = u18 at ha
  generalize sl a 19 = u19 at ha
  generalize sl a 20 = u20 at ha
  simp only [Act.put,List.setIfInBounds_toArray,List.set_cons_zero,List.set_cons_succ] at ha
  rw [ha]
  clear ha hI ht
  go_wp2
  go_ret2
  exact ⟨_,_,_,rfl,z2,stp HB1.out hb rfl (Nat.le_refl _)⟩
 ·have hc8 : modeC m = 8 := (modeC_range m).resolve_left hc
  rw [hc8,if_neg (by decide)]
  have HK : Hid (∀ w,Calls Tryz.prog 173 #[HVal m o n] w fun e w' => e = .returned (.int .i64 8) ∧ Below w.heap.size w w') := fun w => by have := HCheck_any m o n w; rw [hc8] at this; exact this
  clear hc hc8
  go_enter Tryz.func126,Tryz.ntmps126
  go_wp2_with fail
  refine Calls.mono (HK.out _) ?_
  rintro e w1 ⟨rfl,hb1⟩
  have HB1 := Lib.hid ((al (Below.refl w.heap.size w) (Nat.le_refl _)).trans (hb1.mono (by simp)))
  clear hb1
  go_wp2
  go_ret2
  exact SRet.nil _ _ _ HB1.out
end Go.Proofs.YtfbmdlfkipipfaaGreatDoor
namespace Go.Proofs.YtfbmdlfkipipfaaGreatDoor
open Go.RowKit Go.By
abbrev SVal (m : UInt8) (p : Option Addr) (n c s : Nat) : Value := .agg #[B8 m,.slice p n c,.int .u64 (s : Nat)]
def widS (m : UInt8) (k : Nat) : Nat := if m = 0 then k else if m = 1 then 8 else 0
def srcC (m : UInt8) (n k : Nat) : Int := if m = 0 then (if n = k then 0 else 4) else modeC m
def srcB (m : UInt8) (xs : List UInt8) (s : Nat) : List UInt8 := if m = 0 then xs else put8 s
def vecS (m : UInt8) (xs : List UInt8) (s k : Nat) : List UInt8 := if m = 0 then xs else mixRow s k
theorem mode_ne {m : UInt8} (h0 : m ≠ 0) : ((m.toNat : Int) != 0) = true := bne_iff_ne.2 fun e => h0 (UInt8.toNat_inj.1 (by show m.toNat = 0; omega))
theorem mode_ne1 {m : UInt8} (h0 : m ≠ 1) : ((m.toNat : Int) != 1) = true := bne_iff_ne.2 fun e => h0 (UInt8.toNat_inj.1 (by show m.toNat = 1; omega))
theorem mode_eq {m : UInt8} (h0 : m ≠ 0) : ((m.toNat : Int) == 0) = false := beq_eq_false_iff_ne.2 fun e => h0 (UInt8.toNat_inj.1 (by show m.toNat = 0; omega))
set_option maxHeartbeats 1000000 in
theorem RWidth_any (m : UInt8) (k : Nat) (h1 : 1 ≤ k) (h2 : k ≤ 4096) (w : World) :
  Calls Tryz.prog 130 #[B8 m,.int .i64 (k : Nat)] w fun e w' => e = .returned (.tuple #[.int .i64 (widS m k : Nat),.int .i64 (modeC m)]) ∧ Below w.heap.size w w' := by
 unfold widS
 by_cases h0 : m = 0
 ·subst h0
  rw [if_pos rfl,show modeC 0 = 0 from rfl]
  go_enter Tryz.func130,Tryz.ntmps130
  go_wp2
  go_ret2
  exact ⟨rfl,Below.refl _ _⟩
 by_cases h1' : m = 1
 ·subst h1'
  rw [if_neg (by decide),if_pos rfl,show modeC 1 = 0 from rfl]
  go_enter Tryz.func130,Tryz.ntmps130
  go_wp2
  go_ret2
  exact ⟨rfl,Below.refl _ _⟩
 ·rw [if_neg h0,if_neg h1']
  have e0 := mode_ne h0
  have e1 := mode_ne1 h1'
  have hC : modeC m = 8 := by unfold modeC; rw [if_neg (by simp [h0,h1'])]
  rw [hC]
  clear hC h0 h1'
  go_enter Tryz.func130,Tryz.ntmps130
  go_wp2
  go_ret2
  exact ⟨rfl,Below.refl _ _⟩
set_option maxHeartbeats 1000000 in
theorem SFits_any (m : UInt8) (p : Option Addr) (n c s k : Nat) (h1 : 1 ≤ k) (h2 : k ≤ 4096) (w : World) :
  Calls Tryz.prog 77 #[SVal m p n c s,.int .i64 (k : Nat)] w fun e w' => e = .returned (.int .i64 (srcC m n k)) ∧ Below w.heap.size w w' := by
 have HW : Hid (∀ w,Calls Tryz.prog 130 #[B8 m,.int .i64 (k : Nat)] w fun e w' => e = .returned (.tuple #[.int .i64 (widS m k : Nat),.int .i64 (modeC m)]) ∧ Below w.heap.size w w') := fun w => RWidth_any m k h1 h2 w
 clear h1 h2
 generalize hV : widS m k = V at HW
 clear hV
 by_cases h0 : m = 0
 ·subst h0
  rw [show modeC 0 = 0 from rfl] at HW
  by_cases hk : n = k
  ·have hC : srcC 0 n k = 0 := by unfold srcC; rw [if_pos rfl,if_pos hk]
   rw [hC]
   subst hk
   clear hC
   go_enter Tryz.func77,Tryz.ntmps77
   go_wp2_with fail
   refine Calls.mono (HW.out _) ?_
   rintro e w1 ⟨rfl,hb⟩
   obtain ⟨hb1,h1,_⟩ := one_of hb
   have HB := Lib.hid hb1
   obtain ⟨c0,c1,c2⟩ := cells_three h1
   clear hb hb1
   go_wp2
   go_ret
   exact ⟨rfl,HB.out⟩
  ·have hC : srcC 0 n k = 4 := by unfold srcC; rw [if_pos rfl,if_neg hk]
   rw [hC]
   have e0 : ((n : Int) != (k : Int)) = true := bne_iff_ne.2 (by omega)
   clear hC hk
   go_enter Tryz.func77,Tryz.ntmps77
   go_wp2_with fail
   refine Calls.mono (HW.out _) ?_
   rintro e w1 ⟨rfl,hb⟩
   obtain ⟨hb1,h1,_⟩ := one_of hb
   have HB := Lib.hid hb1
   obtain ⟨c0,c1,c2⟩ := cells_three h1
   clear hb hb1
   go_wp2
   go_ret
   exact ⟨rfl,HB.out⟩
 ·have hC : srcC m n k = modeC m := by unfold srcC; rw [if_neg h0]
  rw [hC]
  clear hC
  have e0 := mode_eq h0
  clear h0
  rcases modeC_range m with hm | hm
  ·rw [hm] at HW ⊢
   clear hm
   go_enter Tryz.func77,Tryz.ntmps77
   go_wp2_with fail
   refine Calls.mono (HW.out _) ?_
   rintro e w1 ⟨rfl,hb⟩
   obtain ⟨hb1,h1,_⟩ := one_of hb
   have HB := Lib.hid hb1
   obtain ⟨c0,c1,c2⟩ := cells_three h1
   clear hb hb1
   go_wp2
   go_ret
   exact ⟨rfl,HB.out⟩
  ·rw [hm] at HW ⊢
   clear hm
   go_enter Tryz.func77,Tryz.ntmps77
   go_wp2_with fail
   refine Calls.mono (HW.out _) ?_
   rintro e w1 ⟨rfl,hb⟩
   obtain ⟨hb1,h1,_⟩ := one_of hb
   have HB := Lib.hid hb1
   clear hb hb1
   go_wp2
   go_ret
   exact ⟨rfl,HB.out⟩
set_option maxRecDepth 100000 in
set_option maxHeartbeats 1000000 in
theorem SVector_anyF (m : UInt8) (p : Option Addr) (n c s k : Nat) (xs : List UInt8) (h1 : 1 ≤ k) (h2 : k ≤ 4096) (w : World) (h : Sl B8 w p n c xs) (hr : Room n) :
  Calls Tryz.prog 32 #[SVal m p n c s,.int .i64 (k : Nat)] w (SRetF 5 w (if srcC m n k = 0 then vecS m xs s k else []) (srcC m n k)) := by
 have HW : Hid (∀ w,Calls Tryz.prog 77 #[SVal m p n c s,.int .i64 (k : Nat)] w fun e w' => e = .returned (.int .i64 (srcC m n k)) ∧ Below w.heap.size w w') := fun w => SFits_any m p n c s k h1 h2 w
 have HK : Hid (k ≤ 65536) := by show k ≤ 65536; omega
 have H := Lib.hid h
 have HR := Lib.hid hr
 clear h1 h2 h hr
 by_cases hc : srcC m n k = 0
 ·rw [hc] at HW ⊢
  rw [if_pos rfl]
  clear hc
  by_cases h0 : m = 0
  ·subst h0
   unfold vecS
   rw [if_pos rfl]
   go_enter Tryz.func32,Tryz.ntmps32
   go_wp2_with fail
   refine Calls.mono (HW.out _) ?_
   rintro e w1 ⟨rfl,hb⟩
   obtain ⟨hb1,h1,_⟩ := one_of hb
   have HB := Lib.hid hb1
   obtain ⟨c0,c1,c2⟩ := cells_three h1
   clear hb hb1
   go_wp2_with fail
   refine Calls.mono (CloneB_any _ _ _ _ _ (H.out.keep HB.out) HR.out) ?_
   rintro e w2 ⟨q,c',rfl,ho,hb⟩
   have HB2 := Lib.hid (bl HB.out hb HB.out.size)
   have HO := Lib.hid ho
   clear hb ho
   go_wp2
   go_ret2
   exact ⟨_,_,_,rfl,(Fresh.of_owns HO.out).mono HB.out.size,HB2.out⟩
  ·unfold vecS
   rw [if_neg h0]
   have e0 := mode_eq h0
   clear h0
   go_enter Tryz.func32,Tryz.ntmps32
   go_wp2_with fail
   refine Calls.mono (HW.out _) ?_
   rintro e w1 ⟨rfl,hb⟩
   obtain ⟨hb1,h1,_⟩ := one_of hb
   have HB := Lib.hid hb1
   obtain ⟨c0,c1,c2⟩ := cells_three h1
   clear hb hb1
   go_wp2_with fail
   refine Calls.mono (MRow_anyF s k HK.out _) ?_
   rintro e w2 ⟨q,n',c',rfl,ho,hb⟩
   have HB2 := Lib.hid (bl HB.out hb HB.out.size)
   have HO := Lib.hid ho
   clear hb ho
   go_wp2
   go_ret2
   exact ⟨_,_,_,rfl,HO.out.mono HB.out.size,HB2.out⟩
 ·rw [if_neg hc]
  have e0 : (srcC m n k != 0) = true := bne_iff_ne.2 hc
  generalize srcC m n k = C at *
  clear hc
  go_enter Tryz.func32,Tryz.ntmps32
  go_wp2_with fail
  refine Calls.mono (HW.out _) ?_
  rintro e w1 ⟨rfl,hb⟩
  obtain ⟨hb1,h1,_⟩ := one_of hb
  have HB := Lib.hid hb1
  clear hb hb1
  go_wp2
  go_ret2
  exact SRetF.nil _ _ _ _ HB.out
theorem SVector_any (m : UInt8) (p : Option Addr) (n c s k : Nat) (xs : List UInt8) (h1 : 1 ≤ k) (h2 : k ≤ 4096) (w : World) (h : Sl B8 w p n c xs) (hr : Room n) :
  Calls Tryz.prog 32 #[SVal m p n c s,.int .i64 (k : Nat)] w (SRet w (if srcC m n k = 0 then vecS m xs s k else []) (srcC m n k)) := Calls.mono (SVector_anyF m p n c s k xs h1 h2 w h hr) fun _ _ h => h.ret
set_option maxRecDepth 100000 in
set_option maxHeartbeats 1000000 in
theorem SWrite_any (m : UInt8) (p : Option Addr) (n c s k : Nat) (xs : List UInt8) (h1 : 1 ≤ k) (h2 : k ≤ 4096) (w : World) (h : Sl B8 w p n c xs) (hr : Room n) :
  Calls Tryz.prog 127 #[SVal m p n c s,.int .i64 (k : Nat)] w (SRet w (if srcC m n k = 0 then srcB m xs s else []) (srcC m n k)) := by
 have HW : Hid (∀ w,Calls Tryz.prog 77 #[SVal m p n c s,.int .i64 (k : Nat)] w fun e w' => e = .returned (.int .i64 (srcC m n k)) ∧ Below w.heap.size w w') := fun w => SFits_any m p n c s k h1 h2 w
 have H := Lib.hid h
 have HR := Lib.hid hr
 clear h1 h2 h hr
 by_cases hc : srcC m n k = 0
 ·rw [hc] at HW ⊢
  rw [if_pos rfl]
  clear hc
  by_cases h0 : m = 0
  ·subst h0
   unfold srcB
   rw [if_pos rfl]
   go_enter Tryz.func127,Tryz.ntmps127
   go_wp2_with fail
   refine Calls.mono (HW.out _) ?_
   rintro e w1 ⟨rfl,hb⟩
   obtain ⟨hb1,h1,_⟩ := one_of hb
   have HB := Lib.hid hb1
   obtain ⟨c0,c1,c2⟩ := cells_three h1
   clear hb hb1
   go_wp2_with fail
   refine Calls.mono (CloneB_any _ _ _ _ _ (H.out.keep HB.out) HR.out) ?_
   rintro e w2 ⟨q,c',rfl,ho,hb⟩
   have HB2 := Lib.hid (bl HB.out hb HB.out.size)
   have HO := Lib.hid ho
   clear hb ho
   go_wp2
   go_ret2
   exact ⟨_,_,_,rfl,Sl.of_owns HO.out,HB2.out⟩
  ·unfold srcB
   rw [if_neg h0]
   have e0 := mode_eq h0
   clear h0
   go_enter Tryz.func127,Tryz.ntmps127
   go_wp2_with fail
   refine Calls.mono (HW.out _) ?_
   rintro e w1 ⟨rfl,hb⟩
   obtain ⟨hb1,h1,_⟩ := one_of hb
   have HB := Lib.hid hb1
   obtain ⟨c0,c1,c2⟩ := cells_three h1
   clear hb hb1
   go_wp2_with fail
   refine Calls.mono (MPut_any s _) ?_
   rintro e w2 ⟨q,n',c',rfl,ho,hb⟩
   have HB2 := Lib.hid (bl HB.out hb HB.out.size)
   have HO := Lib.hid ho
   clear hb ho
   go_wp2
   go_ret2
   exact ⟨_,_,_,rfl,HO.out,HB2.out⟩
 ·rw [if_neg hc]
  have e0 : (srcC m n k != 0) = true := bne_iff_ne.2 hc
  generalize srcC m n k = C at *
  clear hc
  go_enter Tryz.func127,Tryz.ntmps127
  go_wp2_with fail
  refine Calls.mono (HW.out _) ?_
  rintro e w1 ⟨rfl,hb⟩
  obtain ⟨hb1,h1,_⟩ := one_of hb
  have HB := Lib.hid hb1
  clear hb hb1
  go_wp2
  go_ret2
  exact SRet.nil _ _ _ HB.out
end Go.Proofs.YtfbmdlfkipipfaaGreatDoor
namespace Go.Proofs.YtfbmdlfkipipfaaGreatDoor
open Go.RowKit Go.By
theorem src_ne : 66 ≠ 5 := by decide
theorem info_source : (Tryz.prog.info? 66).map (·.size) = some 3 := by kernel_rfl
set_option maxRecDepth 100000 in
set_option maxHeartbeats 1000000 in
theorem RExplicit_any (p : Option Addr) (n c : Nat) (xs : List UInt8) (w : World) (h : Sl B8 w p n c xs) (hr : Room n) :
  Calls Tryz.prog 92 #[.slice p n c] w fun e w' => ∃ q c',e = .returned (SVal 0 q n c' 0) ∧ Fresh 5 w.heap.size w' q n c' xs ∧ Below w.heap.size w w' := by
 have H := Lib.hid h
 have HR := Lib.hid hr
 clear h hr
 go_enter Tryz.func92,Tryz.ntmps92
 go_wp2_with fail
 refine Calls.mono (CloneB_any _ _ _ _ _ (H.out.keep (al (Below.refl _ _) (Nat.le_refl _))) HR.out) ?_
 rintro e w2 ⟨q,c',rfl,ho,hb⟩
 obtain ⟨hb1,h1,_⟩ := one_of hb
 have HB := Lib.hid hb1
 have HO := Lib.hid ho
 clear hb hb1 ho
 go_wp2_with (refine wpList_store_row (o := ⟨none,.store 66 (.tmp 2) (.tmp 5),_,_,_,_⟩) rfl 66 (.tmp 2) (.tmp 5) rfl w.heap.size #[.int .u8 0,.slice q n c',.int .u64 0] rfl rfl _ _ h1 info_source rfl (by simp [Value.oneCell']) ?_)
 refine bodyPost_ret (results_cell_row rfl _ _ _ 66 #[.int .u8 0,.slice q n c',.int .u64 0] (0,0) _ rfl (hrs h1) Tryz.underlying66 rfl info_source) rfl ?_
 exact ⟨q,c',rfl,((Fresh.of_owns HO.out).mono (by simp)).row h1 src_ne,below_row HB.out (Nat.le_refl _)⟩
set_option maxRecDepth 100000 in
set_option maxHeartbeats 1000000 in
theorem RSeeded_any (s : Nat) (w : World) :
  Calls Tryz.prog 198 #[.int .u64 (s : Nat)] w fun e w' => e = .returned (SVal 1 none 0 0 s) ∧ Below w.heap.size w w' := by
 go_enter Tryz.func198,Tryz.ntmps198
 go_wp2
 refine bodyPost_ret (results_cell_row rfl _ _ _ 66 #[.int .u8 1,.slice none 0 0,.int .u64 (s : Nat)] (0,0) _ rfl ?_ Tryz.underlying66 rfl info_source) rfl ?_
 ·exact hnew rfl
 ·exact ⟨rfl,al (Below.refl _ _) (Nat.le_refl _)⟩
def rdX (m : UInt8) (xs : List UInt8) : List UInt8 := if m = 0 then xs else []
def rdS (m : UInt8) (xs : List UInt8) : Nat := if m = 0 then 0 else get8 xs
set_option maxRecDepth 100000 in
set_option maxHeartbeats 1000000 in
theorem RRead_any (m : UInt8) (k : Nat) (p : Option Addr) (n c : Nat) (xs : List UInt8) (w : World) (hm : modeC m = 0) (h1 : 1 ≤ k) (h2 : k ≤ 4096) (h : Sl B8 w p n c xs) (hn : n = widS m k) :
  Calls Tryz.prog 172 #[B8 m,.int .i64 (k : Nat),.slice p n c] w fun e w' => ∃ q n' c',e = .returned (.tuple #[SVal m q n' c' (rdS m xs),.int .i64 0]) ∧ Fresh 5 w.heap.size w' q n' c' (rdX m xs) ∧ Below w.heap.size w w' := by
 have HW : Hid (∀ w,Calls Tryz.prog 130 #[B8 m,.int .i64 (k : Nat)] w fun e w' => e = .returned (.tuple #[.int .i64 (widS m k : Nat),.int .i64 0]) ∧ Below w.heap.size w w') := fun w => by have := RWidth_any m k h1 h2 w; rw [hm] at this; exact this
 have HR : Hid (Room n) := by show n ≤ 140737488355328; rw [hn]; unfold widS; split <;> (try split) <;> omega
 have H := Lib.hid h
 have hm01 : m = 0 ∨ m = 1 := by
  unfold modeC at hm
  split at hm
  ·assumption
  ·cases hm
 have hnm := h.bound
 have hn8 : m = 1 → n = 8 := fun e => by rw [hn,e]; rfl
 rw [← hn] at HW
 clear h1 h2 h hn hm
 rcases hm01 with rfl | rfl
 ·clear hn8
  unfold rdX rdS
  rw [if_pos rfl,if_pos rfl]
  go_enter Tryz.func172,Tryz.ntmps172
  go_wp2_with fail
  refine Calls.mono (HW.out _) ?_
  rintro e w1 ⟨rfl,hb⟩
  obtain ⟨hb1,h1,hs⟩ := one_of hb
  have HB := Lib.hid hb1
  clear hb hb1
  go_wp2_with fail
  refine Calls.mono (RExplicit_any _ _ _ _ _ (H.out.keep HB.out) HR.out) ?_
  rintro e w2 ⟨q,c',rfl,hsl,hb⟩
  have h1' := (hb.block _ (by omega)).trans h1
  have HB2 := Lib.hid (bl HB.out hb HB.out.size)
  have HS := Lib.hid (hsl.mono HB.out.size)
  clear hb hsl h1
  go_wp2_with (refine wpList_store_row (o := ⟨none,.store 66 (.tmp 6) (.tmp 29),_,_,_,_⟩) rfl 66 (.tmp 6) (.tmp 29) rfl w.heap.size #[.int .u8 0,.slice q n c',.int .u64 0] rfl rfl _ _ h1' info_source rfl (by simp [Value.oneCell']) ?_)
  refine bodyPost_ret (res_ct rfl _ _ _ 66 #[.int .u8 0,.slice q n c',.int .u64 0] (0,0) _ (.int .i64 0) rfl (hrs h1') rfl Tryz.underlying66 rfl info_source) rfl ?_
  exact ⟨q,n,c',rfl,HS.out.row h1' src_ne,below_row HB2.out (Nat.le_refl _)⟩
 ·obtain rfl : n = 8 := hn8 rfl
  clear hn8
  unfold rdX rdS
  rw [if_neg (by decide),if_neg (by decide)]
  obtain ⟨S,hS⟩ : ∃ S,get8 xs = S := ⟨_,rfl⟩
  rw [hS]
  have HSS := Lib.hid hS
  clear hS
  go_enter Tryz.func172,Tryz.ntmps172
  go_wp2_with fail
  refine Calls.mono (HW.out _) ?_
  rintro e w1 ⟨rfl,hb⟩
  obtain ⟨hb1,h1,hs⟩ := one_of hb
  have HB := Lib.hid hb1
  clear hb hb1
  go_wp2_with fail
  refine Calls.mono (MSeed_any _ _ _ _ _ (H.out.keep HB.out) rfl) ?_
  rintro e w2 ⟨rfl,hb⟩
  have h1' := (hb.block _ (by omega)).trans h1
  have HB2 := Lib.hid (bl HB.out hb HB.out.size)
  have hs2 := hb.size
  clear hb h1
  rw [HSS.out]
  go_wp2_with fail
  refine Calls.mono (RSeeded_any S _) ?_
  rintro e w3 ⟨rfl,hb⟩
  have h1 := (hb.block _ (by omega)).trans h1'
  have HB3 := Lib.hid (bl HB2.out hb HB2.out.size)
  clear hb h1'
  go_wp2_with (refine wpList_store_row (o := ⟨none,.store 66 (.tmp 6) (.tmp 40),_,_,_,_⟩) rfl 66 (.tmp 6) (.tmp 40) rfl w.heap.size #[.int .u8 1,.slice none 0 0,.int .u64 (S : Nat)] rfl rfl _ _ h1 info_source rfl (by simp [Value.oneCell']) ?_)
  refine bodyPost_ret (res_ct rfl _ _ _ 66 #[.int .u8 1,.slice none 0 0,.int .u64 (S : Nat)] (0,0) _ (.int .i64 0) rfl (hrs h1) rfl Tryz.underlying66 rfl info_source) rfl ?_
  exact ⟨none,0,0,rfl,Fresh.none _ _ _,below_row HB3.out (Nat.le_refl _)⟩
end Go.Proofs.YtfbmdlfkipipfaaGreatDoor
namespace Go.Proofs.YtfbmdlfkipipfaaGreatDoor
open Go.RowKit Go.By
structure POK (L t k D : Nat) : Prop where
 chk : checkS (L : Int) (t : Int) (k : Int) = 0
 l : (L : Int) ≤ 9223372036854775807
 t1 : 1 ≤ t
 t2 : t ≤ 65535
 k1 : 1 ≤ k
 k2 : k ≤ 4096
 d : D < 4294967296
abbrev PVal (L t k D : Nat) : Value := .agg #[.int .i64 (L : Nat),.int .i64 (t : Nat),.int .i64 (k : Nat),.int .u32 (D : Nat)]
theorem PCheck_ok {L t k D : Nat} (h : POK L t k D) (w : World) : Calls Tryz.prog 73 #[PVal L t k D] w fun e w' => e = .returned (.int .i64 0) ∧ Below w.heap.size w w' := by
 have := Check_any (L : Int) (t : Int) (k : Int) (D : Int) w h.l
 rw [h.chk] at this
 exact this
def lenP (m : UInt8) (k t : Nat) : Nat := 10 + widS m k + t + 4
set_option maxRecDepth 100000 in
set_option maxHeartbeats 1000000 in
theorem PLength_ok (L t k D : Nat) (m : UInt8) (w : World) (hP : POK L t k D) (hm : modeC m = 0) :
  Calls Tryz.prog 96 #[PVal L t k D,B8 m] w fun e w' => e = .returned (.tuple #[.int .i64 (lenP m k t : Nat),.int .i64 0]) ∧ Below w.heap.size w w' := by
 have HK : Hid (∀ w,Calls Tryz.prog 73 #[PVal L t k D] w fun e w' => e = .returned (.int .i64 0) ∧ Below w.heap.size w w') := PCheck_ok hP
 have HW : Hid (∀ w,Calls Tryz.prog 130 #[B8 m,.int .i64 (k : Nat)] w fun e w' => e = .returned (.tuple #[.int .i64 (widS m k : Nat),.int .i64 0]) ∧ Below w.heap.size w w') := fun w => by have := RWidth_any m k hP.k1 hP.k2 w; rw [hm] at this; exact this
 have hV : widS m k ≤ 4096 := by have := hP.k1; have := hP.k2; unfold widS; split <;> (try split) <;> omega
 have ht := hP.t2
 have HL : Hid (lenP m k t = 10 + widS m k + t + 4) := rfl
 generalize lenP m k t = N at *
 generalize widS m k = V at *
 clear hP hm
 go_enter Tryz.func96,Tryz.ntmps96
 go_wp2_with fail
 refine Calls.mono (HK.out _) ?_
 rintro e w1 ⟨rfl,hb⟩
 obtain ⟨hb1,h1,hs⟩ := one_of hb
 have HB := Lib.hid hb1
 obtain ⟨c0,c1,c2,c3⟩ := cells_four h1
 clear hb hb1
 go_wp2_with fail
 refine Calls.mono (HW.out _) ?_
 rintro e w2 ⟨rfl,hb⟩
 have h2 := (hb.block _ (by omega)).trans h1
 have HB2 := Lib.hid (bl HB.out hb HB.out.size)
 clear hb h1 c0 c1 c2 c3
 obtain ⟨c0,c1,c2,c3⟩ := cells_four h2
 go_wp2
 go_ret2
 refine ⟨?_,HB2.out⟩
 rw [HL.out]
 congr 4
abbrev PkVal (m : UInt8) (o n : Nat) (sm : UInt8) (p : Option Addr) (j c s : Nat) (q : Option Addr) (t d : Nat) : Value := .agg #[B8 m,.int .u32 (o : Nat),.int .u32 (n : Nat),B8 sm,.slice p j c,.int .u64 (s : Nat),.slice q t d]
theorem cells_seven {w : World} {b T : Nat} {u v x y z r e : Value} (h : w.heap[b]? = some (.cells #[u,v,x,y,z,r,e] T (0,0))) : w.cell? ⟨b,0,none⟩ = some u ∧ w.cell? ⟨b,1,none⟩ = some v ∧ w.cell? ⟨b,2,none⟩ = some x ∧ w.cell? ⟨b,3,none⟩ = some y ∧ w.cell? ⟨b,4,none⟩ = some z ∧ w.cell? ⟨b,5,none⟩ = some r ∧ w.cell? ⟨b,6,none⟩ = some e :=
 ⟨cell_of_row _ _ 0 _ _ _ h,cell_of_row _ _ 1 _ _ _ h,cell_of_row _ _ 2 _ _ _ h,cell_of_row _ _ 3 _ _ _ h,cell_of_row _ _ 4 _ _ _ h,cell_of_row _ _ 5 _ _ _ h,cell_of_row _ _ 6 _ _ _ h⟩
set_option maxRecDepth 100000 in
set_option maxHeartbeats 2000000 in
theorem PFits_ok (L t k D n : Nat) (m : UInt8) (p : Option Addr) (j c s : Nat) (q : Option Addr) (d : Nat) (w : World) (hP : POK L t k D) (hm : modeC m = 0) (hj : m = 0 → j = k) :
  Calls Tryz.prog 111 #[PkVal m D n m p j c s q t d,PVal L t k D] w fun e w' => e = .returned (.int .i64 0) ∧ Below w.heap.size w w' := by
 have HK : Hid (∀ w,Calls Tryz.prog 73 #[PVal L t k D] w fun e w' => e = .returned (.int .i64 0) ∧ Below w.heap.size w w') := PCheck_ok hP
 have HC : Hid (∀ w,Calls Tryz.prog 173 #[HVal m D n] w fun e w' => e = .returned (.int .i64 0) ∧ Below w.heap.size w w') := fun w => by have := HCheck_any m D n w; rw [hm] at this; exact this
 have ht := hP.t2
 clear hP hm
 by_cases h0 : m = 0
 ·subst h0
  obtain rfl := hj rfl
  clear hj
  go_enter Tryz.func111,Tryz.ntmps111
  go_wp2_with fail
  refine Calls.mono (HK.out _) ?_
  rintro e w1 ⟨rfl,hb⟩
  obtain ⟨hb1,h1,h2,hs⟩ := two_of hb
  have HB := Lib.hid hb1
  obtain ⟨c0,c1,c2,c3,c4,c5,c6⟩ := cells_seven h1
  clear hb hb1
  go_wp2_with fail
  refine Calls.mono (HC.out _) ?_
  rintro e w2 ⟨rfl,hb⟩
  have h1' := (hb.block _ (by omega)).trans h1
  have h2' := (hb.block _ (by omega)).trans h2
  have HB2 := Lib.hid (bl HB.out hb HB.out.size)
  clear hb h1 h2 c0 c1 c2 c3 c4 c5 c6
  obtain ⟨c0,c1,c2,c3,c4,c5,c6⟩ := cells_seven h1'
  obtain ⟨d0,d1,d2,d3⟩ := cells_four h2'
  go_wp2
  go_ret
  exact ⟨rfl,HB2.out⟩
 ·have e0 := mode_eq h0
  clear hj h0
  go_enter Tryz.func111,Tryz.ntmps111
  go_wp2_with fail
  refine Calls.mono (HK.out _) ?_
  rintro e w1 ⟨rfl,hb⟩
  obtain ⟨hb1,h1,h2,hs⟩ := two_of hb
  have HB := Lib.hid hb1
  obtain ⟨c0,c1,c2,c3,c4,c5,c6⟩ := cells_seven h1
  clear hb hb1
  go_wp2_with fail
  refine Calls.mono (HC.out _) ?_
  rintro e w2 ⟨rfl,hb⟩
  have h1' := (hb.block _ (by omega)).trans h1
  have h2' := (hb.block _ (by omega)).trans h2
  have HB2 := Lib.hid (bl HB.out hb HB.out.size)
  clear hb h1 h2 c0 c1 c2 c3 c4 c5 c6
  obtain ⟨c0,c1,c2,c3,c4,c5,c6⟩ := cells_seven h1'
  obtain ⟨d0,d1,d2,d3⟩ := cells_four h2'
  go_wp2
  go_ret
  exact ⟨rfl,HB2.out⟩
end Go.Proofs.YtfbmdlfkipipfaaGreatDoor
namespace Go.Proofs.YtfbmdlfkipipfaaGreatDoor
open Go.RowKit Go.By
def bodyP (m : UInt8) (o n : Nat) (xs : List UInt8) (s : Nat) (ys : List UInt8) : List UInt8 := headB m o n ++ srcB m xs s ++ ys
def pktB (m : UInt8) (o n : Nat) (xs : List UInt8) (s : Nat) (ys : List UInt8) : List UInt8 := bodyP m o n xs s ys ++ put4 (crcS (bodyP m o n xs s ys))
set_option maxRecDepth 100000 in
set_option maxHeartbeats 4000000 in
theorem PWrite_okF (L t k D n : Nat) (m : UInt8) (p : Option Addr) (j c s : Nat) (q : Option Addr) (d : Nat) (xs ys : List UInt8) (w : World) (hP : POK L t k D) (hn : n < 4294967296) (hm : modeC m = 0) (hj : m = 0 → j = k) (hr : Room j) (h1 : Sl B8 w p j c xs) (h2 : Sl B8 w q t d ys) (hT : HalfT w) :
  Calls Tryz.prog 76 #[PkVal m D n m p j c s q t d,PVal L t k D] w (SRetF 5 w (pktB m D n xs s ys) 0) := by
 have HF : Hid (∀ w,Calls Tryz.prog 111 #[PkVal m D n m p j c s q t d,PVal L t k D] w fun e w' => e = .returned (.int .i64 0) ∧ Below w.heap.size w w') := fun w => PFits_ok L t k D n m p j c s q d w hP hm hj
 have HH : Hid (∀ w,Calls Tryz.prog 126 #[HVal m D n] w (SRet w (headB m D n) 0)) := fun w => by have := HBytes_any m D n hP.d hn w; rw [hm,if_pos rfl] at this; exact this
 have hsc : srcC m j k = 0 := by
  unfold srcC
  by_cases h0 : m = 0
  ·rw [if_pos h0,if_pos (hj h0)]
  ·rw [if_neg h0,hm]
 have HS : Hid (∀ w,Sl B8 w p j c xs → Calls Tryz.prog 127 #[SVal m p j c s,.int .i64 (k : Nat)] w (SRet w (srcB m xs s) 0)) := fun w h => by have := SWrite_any m p j c s k xs hP.k1 hP.k2 w h hr; rw [hsc,if_pos rfl] at this; exact this
 have HT := Lib.hid hT
 have H1 := Lib.hid h1
 have H2 := Lib.hid h2
 obtain ⟨B,hB⟩ : ∃ B,headB m D n = B := ⟨_,rfl⟩
 obtain ⟨S,hS⟩ : ∃ S,srcB m xs s = S := ⟨_,rfl⟩
 have hBl : B.length = 10 := by rw [← hB]; simp [headB,put4_len]
 have hSl : S.length ≤ 140737488355328 := by rw [← hS]; unfold srcB; split; · rw [h1.len]; exact hr
                                             ·rw [put8_len]; decide
 have hYl := h2.len
 have ht2 := hP.t2
 have HRm : Hid (Room [B,S,ys,put4 (crcS [B,S,ys].flatten)].flatten.length) := by
  show _ ≤ _
  simp [put4_len]
  have := hr
  unfold srcB at hS
  by_cases h0 : m = 0
  ·rw [if_pos h0] at hS
   have := hj h0; have := hP.k2; have := h1.len; rw [hS] at this; omega
  ·rw [if_neg h0] at hS
   have := put8_len s; rw [hS] at this; omega
 have hE : pktB m D n xs s ys = [B,S,ys,put4 (crcS [B,S,ys].flatten)].flatten := by
  unfold pktB bodyP
  rw [hB,hS]; simp
 rw [hE]
 rw [hB] at HH
 rw [hS] at HS
 have HL : Hid (crcS [B,S,ys].flatten < 4294967296) := crcS_lt _
 clear hB hS hBl hSl hYl ht2 hE hsc h1 h2 hT hr hj hm hP hn
 go_enter Tryz.func76,Tryz.ntmps76
 go_wp2_with fail
 refine Calls.mono (HF.out _) ?_
 rintro e w1 ⟨rfl,hb⟩
 obtain ⟨hb1,h1,h2,hs⟩ := two_of hb
 have HB := Lib.hid hb1
 obtain ⟨c0,c1,c2,c3,c4,c5,c6⟩ := cells_seven h1
 clear hb hb1
 go_wp2_with fail
 refine Calls.mono (HH.out _) ?_
 rintro e w2 ⟨q1,n1,k1,rfl,hq,hb⟩
 have h1' := (hb.block _ (by omega)).trans h1
 have h2' := (hb.block _ (by omega)).trans h2
 have hs2 := hb.size
 have HB2 := Lib.hid (bl HB.out hb HB.out.size)
 have HQ := Lib.hid hq
 clear hb hq h1 h2 c0 c1 c2 c3 c4 c5 c6
 obtain ⟨c0,c1,c2,c3,c4,c5,c6⟩ := cells_seven h1'
 obtain ⟨d0,d1,d2,d3⟩ := cells_four h2'
 go_wp2_with fail
 refine Calls.mono (HS.out _ (H1.out.keep HB2.out)) ?_
 rintro e w3 ⟨q2,n2,k2,rfl,hq,hb⟩
 have h1 := (hb.block _ (by omega)).trans h1'
 have HB3 := Lib.hid (bl HB2.out hb HB2.out.size)
 have HQ1 := Lib.hid (HQ.out.keep hb)
 have HQ2 := Lib.hid hq
 have H2' := Lib.hid (H2.out.keep HB3.out)
 have HT' := Lib.hid (HT.out.keep HB3.out)
 clear hb hq h1' h2' c0 c1 c2 c3 c4 c5 c6 d0 d1 d2 d3
 have c6 := (cells_seven h1).2.2.2.2.2.2
 clear h1
 go_wp2_with fail
 refine wp_region_shapes (fun ix => ([.val (.slice q1 n1 k1),.val (.slice q2 n2 k2),.val (.pointer (some ⟨w.heap.size,6,none⟩)),.val (.slice q t d),.val (.slice q1 n1 k1),.val (.slice q2 n2 k2),.val (.pointer (some ⟨w.heap.size,6,none⟩)),.val (.slice q t d),.rows ([B,S,ys]),.val (.int .u32 (crcS [B,S,ys].flatten : Nat)),.bytes (put4 (crcS [B,S,ys].flatten)),.rows ([B,S,ys,put4 (crcS [B,S,ys].flatten)]),(ShF 5 w.heap.size ([B,S,ys,put4 (crcS [B,S,ys].flatten)].flatten)),(ShF 5 w.heap.size ([B,S,ys,put4 (crcS [B,S,ys].flatten)].flatten)),.val (.int .i64 0)][ix]?).getD (.any)) 49 rfl (by kernel_rfl) (by decide +kernel) (by decide +kernel) (by decide +kernel) ?_ ?_
 ·refine ⟨?_,?_,?_,?_,?_,?_,?_,?_,?_,?_,?_,?_,?_,?_,?_,trivial⟩
  ·intro a W hb0 hs hp hi; have hb := undrew hb0; clear hb0
   have t7 : sl a 7 = .slice q1 n1 k1 := hi 7 (by decide)
   exact ite_y rfl (wp_val (sl a 7) rfl ⟨_,rfl,Below.refl _ _,t7⟩)
  ·intro a W hb0 hs hp hi; have hb := undrew hb0; clear hb0
   have t9 : sl a 9 = .slice q2 n2 k2 := hi 9 (by decide)
   exact ite_y rfl (wp_val (sl a 9) rfl ⟨_,rfl,Below.refl _ _,t9⟩)
  ·intro a W hb0 hs hp hi; have hb := undrew hb0; clear hb0
   have t2 : sl a 2 = .pointer (some ⟨w.heap.size,0,none⟩) := hi 2 (by decide)
   refine ite_y rfl (wp_val (.pointer (some ⟨w.heap.size,6,none⟩)) ?_ ?_)
   ·simp only [execOp,eval_tmp,eval_const,t2]; simp [go_sem]
   ·exact ⟨_,rfl,Below.refl _ _,rfl⟩
  ·intro a W hb0 hs hp hi; have hb := undrew hb0; clear hb0
   have tt : sl a 38 = .pointer (some ⟨w.heap.size,6,none⟩) := hp 2 (by decide)
   have dd := (hb.cell (p := ⟨w.heap.size,6,none⟩) (lt_of_cell c6)).trans c6
   refine ite_y rfl (wp_val (.slice q t d) ?_ ?_)
   ·simp only [execOp,eval_tmp,tt]; simp [go_sem,dd]
   ·exact ⟨_,rfl,Below.refl _ _,rfl⟩
  ·intro a W hb0 hs hp hi; have hb := undrew hb0; clear hb0
   have t7 : sl a 7 = .slice q1 n1 k1 := hi 7 (by decide)
   exact ite_y rfl (wp_val (sl a 7) rfl ⟨_,rfl,Below.refl _ _,t7⟩)
  ·intro a W hb0 hs hp hi; have hb := undrew hb0; clear hb0
   have t9 : sl a 9 = .slice q2 n2 k2 := hi 9 (by decide)
   exact ite_y rfl (wp_val (sl a 9) rfl ⟨_,rfl,Below.refl _ _,t9⟩)
  ·intro a W hb0 hs hp hi; have hb := undrew hb0; clear hb0
   have t2 : sl a 2 = .pointer (some ⟨w.heap.size,0,none⟩) := hi 2 (by decide)
   refine ite_y rfl (wp_val (.pointer (some ⟨w.heap.size,6,none⟩)) ?_ ?_)
   ·simp only [execOp,eval_tmp,eval_const,t2]; simp [go_sem]
   ·exact ⟨_,rfl,Below.refl _ _,rfl⟩
  ·intro a W hb0 hs hp hi; have hb := undrew hb0; clear hb0
   have tt : sl a 42 = .pointer (some ⟨w.heap.size,6,none⟩) := hp 6 (by decide)
   have dd := (hb.cell (p := ⟨w.heap.size,6,none⟩) (lt_of_cell c6)).trans c6
   refine ite_y rfl (wp_val (.slice q t d) ?_ ?_)
   ·simp only [execOp,eval_tmp,tt]; simp [go_sem,dd]
   ·exact ⟨_,rfl,Below.refl _ _,rfl⟩
  ·intro a W hb0 hs hp hi; have hb := undrew hb0; clear hb0
   have t40 : sl a 40 = .slice q1 n1 k1 := hp 4 (by decide)
   have t41 : sl a 41 = .slice q2 n2 k2 := hp 5 (by decide)
   have t43 : sl a 43 = .slice q t d := hp 7 (by decide)
   have v40 : a.tmps[40]?.getD undef = sl a 40 := by simp [sl]
   rw [t40] at v40
   have v41 : a.tmps[41]?.getD undef = sl a 41 := by simp [sl]
   rw [t41] at v41
   have v43 : a.tmps[43]?.getD undef = sl a 43 := by simp [sl]
   rw [t43] at v43
   refine ite_y rfl (wp_val' (w' := W.alloc (.cells #[.slice q1 n1 k1,.slice q2 n2 k2,.slice q t d] 22)) (.slice (some ⟨W.heap.size,0,none⟩) 3 3) ?_ ?_)
   ·simp only [execOp,eval_tmp,eval_const,t40,t41,t43]; simp [go_sem,v40,v41,v43]
   ·exact ⟨_,rfl,(al (Below.refl _ _) (Nat.le_refl _)),_,_,_,rfl,sl2_three (hnew rfl) ((HQ1.out.keep hb).keep (al (Below.refl _ _) (Nat.le_refl _))) ((HQ2.out.keep hb).keep (al (Below.refl _ _) (Nat.le_refl _))) ((H2'.out.keep hb).keep (al (Below.refl _ _) (Nat.le_refl _)))⟩
  ·intro a W hb0 hs hp hi; have hb := undrew hb0; clear hb0
   have t44 : RowsIs ([B,S,ys]) (sl a 44) W := hp 8 (by decide)
   obtain ⟨y44a,y44b,y44c,t44,z44a⟩ := t44
   refine ite_y rfl (wp_enter 129 #[.slice y44a y44b y44c] ?_ (SOf_any _ _ _ _ _ z44a (HT'.out.keep hb)) ?_)
   ·simp only [execOp,resolve,List.map_toArray,List.map,eval_tmp,eval_func,eval_const,t44]; simp [go_sem]
   ·rintro e W' ⟨rfl,hw⟩; exact ⟨_,rfl,_,rfl,hw,rfl⟩
  ·intro a W hb0 hs hp hi; have hb := undrew hb0; clear hb0
   have t45 : sl a 45 = .int .u32 (crcS [B,S,ys].flatten : Nat) := hp 9 (by decide)
   refine ite_y rfl (wp_enter 128 #[.int .u32 (crcS [B,S,ys].flatten : Nat)] ?_ (SPut_any _ HL.out _) ?_)
   ·simp only [execOp,resolve,List.map_toArray,List.map,eval_tmp,eval_func,eval_const,t45]; simp [go_sem]
   ·rintro e W' ⟨g5,rfl,hg5,h5,hw⟩; exact ⟨_,rfl,_,rfl,hw,_,_,_,rfl,sl_block (put4 _) 4 h5 rfl (put4_len _) (by simp [maxLen])⟩
  ·intro a W hb0 hs hp hi; have hb := undrew hb0; clear hb0
   have t36 : sl a 36 = .slice q1 n1 k1 := hp 0 (by decide)
   have t37 : sl a 37 = .slice q2 n2 k2 := hp 1 (by decide)
   have t39 : sl a 39 = .slice q t d := hp 3 (by decide)
   have t46 : BytesIs (put4 (crcS [B,S,ys].flatten)) (sl a 46) W := hp 10 (by decide)
   obtain ⟨y46a,y46b,y46c,t46,z46a⟩ := t46
   have v36 : a.tmps[36]?.getD undef = sl a 36 := by simp [sl]
   rw [t36] at v36
   have v37 : a.tmps[37]?.getD undef = sl a 37 := by simp [sl]
   rw [t37] at v37
   have v39 : a.tmps[39]?.getD undef = sl a 39 := by simp [sl]
   rw [t39] at v39
   have v46 : a.tmps[46]?.getD undef = sl a 46 := by simp [sl]
   rw [t46] at v46
   refine ite_y rfl (wp_val' (w' := W.alloc (.cells #[.slice q1 n1 k1,.slice q2 n2 k2,.slice q t d,.slice y46a y46b y46c] 22)) (.slice (some ⟨W.heap.size,0,none⟩) 4 4) ?_ ?_)
   ·simp only [execOp,eval_tmp,eval_const,t36,t37,t39,t46]; simp [go_sem,v36,v37,v39,v46]
   ·exact ⟨_,rfl,(al (Below.refl _ _) (Nat.le_refl _)),_,_,_,rfl,sl2_four (hnew rfl) ((HQ1.out.keep hb).keep (al (Below.refl _ _) (Nat.le_refl _))) ((HQ2.out.keep hb).keep (al (Below.refl _ _) (Nat.le_refl _))) ((H2'.out.keep hb).keep (al (Below.refl _ _) (Nat.le_refl _))) (z46a.keep (al (Below.refl _ _) (Nat.le_refl _)))⟩
  ·intro a W hb0 hs hp hi; have hb := undrew hb0; clear hb0
   have t47 : RowsIs ([B,S,ys,put4 (crcS [B,S,ys].flatten)]) (sl a 47) W := hp 11 (by decide)
   obtain ⟨y47a,y47b,y47c,t47,z47a⟩ := t47
   refine ite_y rfl (wp_enter 82 #[.slice y47a y47b y47c] ?_ (Concat_any _ _ _ _ _ z47a HRm.out) ?_)
   ·simp only [execOp,resolve,List.map_toArray,List.map,eval_tmp,eval_func,eval_const,t47]; simp [go_sem]
   ·rintro e W' ⟨q5,m5,g5,_,rfl,o5,hw⟩; exact ⟨_,rfl,_,rfl,hw,q5,m5,g5,rfl,(Fresh.of_owns o5).mono (Nat.le_trans HB3.out.size hb.size)⟩
  ·intro a W hb0 hs hp hi; have hb := undrew hb0; clear hb0
   exact ite_y rfl (wp_val (sl a 48) rfl ⟨_,rfl,Below.refl _ _,hp 12 (by decide)⟩)
  ·intro a W hb0 hs hp hi; have hb := undrew hb0; clear hb0
   exact ite_y rfl (wp_val (.int .i64 0) rfl ⟨_,rfl,Below.refl _ _,rfl⟩)
 intro a w9 hb hs hd hI ht
 have ha := act_is [36,37,38,39,40,41,42,43,44,45,46,47,48,4,5] hs hd ht (by decide)
 have t5 : sl a 5 = .int .i64 0 := hI 14 (by decide)
 have y4 : (ShF 5 w.heap.size ([B,S,ys,put4 (crcS [B,S,ys].flatten)].flatten)).ok (sl a 4) w9 := hI 13 (by decide)
 obtain ⟨q9,n9,c9,t4,z4⟩ := y4
 simp only [List.foldl,t5,t4] at ha
 generalize sl a 36 = u36 at ha
 generalize sl a 37 = u37 at ha
 generalize sl a 38 = u38 at ha
 generalize sl a 39 = u39 at ha
 generalize sl a 40 = u40 at ha
 generalize sl a 41 = u41 at ha
 generalize sl a 42 = u42 at ha
 generalize sl a 43 = u43 at ha
 generalize sl a 44 = u44 at ha
 generalize sl a 45 = u45 at ha
 generalize sl a 46 = u46 at ha
 generalize sl a 47 = u47 at ha
 generalize sl a 48 = u48 at ha
 simp only [Act.put,List.setIfInBounds_toArray,List.set_cons_zero,List.set_cons_succ] at ha
 rw [ha]
 clear ha hI ht
 go_wp2
 go_ret2
 exact ⟨_,_,_,rfl,z4.read (by simp),bl HB3.out hb HB3.out.size⟩
end Go.Proofs.YtfbmdlfkipipfaaGreatDoor
namespace Go.Proofs.YtfbmdlfkipipfaaGreatDoor
open Go.RowKit Go.By
def headC (xs : List UInt8) : Int := if xs.length < 10 then 6 else if xs.getD 0 0 ≠ 1 then 7 else modeC (xs.getD 1 0)
theorem headC_mode {xs : List UInt8} (h : headC xs = 0) : modeC (xs.getD 1 0) = 0 := by
 unfold headC at h
 split at h
 ·cases h
 ·split at h
  ·cases h
  ·exact h
theorem info_head : (Tryz.prog.info? 133).map (·.size) = some 3 := by kernel_rfl
theorem at_get {xs : List UInt8} {i : Nat} {x : UInt8} (h : xs[i]? = some x) : xs.getD i 0 = x := by rw [List.getD_eq_getElem?_getD,h]; rfl
def HRet (w : World) (m : UInt8) (o n : Nat) (code : Int) (e : Ending) (w' : World) : Prop :=
 ∃ q k c,e = .returned (.tuple #[HVal m o n,.slice q k c,.int .i64 code]) ∧ Below w.heap.size w w'
set_option maxRecDepth 100000 in
set_option maxHeartbeats 2000000 in
theorem HRead_short (p : Option Addr) (n c : Nat) (w : World) (hn : n < 10) :
  Calls Tryz.prog 170 #[.slice p n c] w (HRet w 0 0 0 6) := by
 have HN := Lib.hid hn
 go_enter Tryz.func170,Tryz.ntmps170
 go_wp2
 refine bodyPost_ret (res_ctt rfl _ _ _ 133 #[.int .u8 0,.int .u32 0,.int .u32 0] (0,0) _ (.slice none 0 0) (.int .i64 6) rfl ?_ rfl rfl Tryz.underlying133 rfl info_head) rfl ?_
 ·exact hnew rfl
 ·exact ⟨none,0,0,rfl,al (Below.refl _ _) (Nat.le_refl _)⟩
set_option maxRecDepth 100000 in
set_option maxHeartbeats 2000000 in
theorem HRead_version (b o n c : Nat) (w : World) (hn : 10 ≤ n) (x0 : UInt8) (k0 : w.cell? ⟨b,o,none⟩ = some (B8 x0)) (hx : x0 ≠ 1) (hm : n ≤ 9223372036854775807) :
  Calls Tryz.prog 170 #[.slice (some ⟨b,o,none⟩) n c] w (HRet w 0 0 0 7) := by
 have e1 : ((x0.toNat : Int) != 1) = true := bne_iff_ne.2 fun e => hx (UInt8.toNat_inj.1 (by show x0.toNat = 1; omega))
 have HN := Lib.hid hn
 have a0 : ∀ o',(w.alloc o').cell? ⟨b,o,none⟩ = some (B8 x0) := fun _ => calloc k0
 clear hx k0
 go_enter Tryz.func170,Tryz.ntmps170
 go_wp2
 refine bodyPost_ret (res_ctt rfl _ _ _ 133 #[.int .u8 0,.int .u32 0,.int .u32 0] (0,0) _ (.slice none 0 0) (.int .i64 7) rfl ?_ rfl rfl Tryz.underlying133 rfl info_head) rfl ?_
 ·exact hnew rfl
 ·exact ⟨none,0,0,rfl,al (Below.refl _ _) (Nat.le_refl _)⟩
set_option maxRecDepth 100000 in
set_option maxHeartbeats 2000000 in
theorem HRead_mode (b o n c : Nat) (w : World) (hn : 10 ≤ n) (x1 : UInt8) (k0 : w.cell? ⟨b,o,none⟩ = some (B8 1)) (k1 : w.cell? ⟨b,o + 1,none⟩ = some (B8 x1)) (hx : modeC x1 = 8) (hm : n ≤ 9223372036854775807) :
  Calls Tryz.prog 170 #[.slice (some ⟨b,o,none⟩) n c] w (HRet w 0 0 0 8) := by
 have HK : Hid (∀ w,Calls Tryz.prog 173 #[HVal x1 0 0] w fun e w' => e = .returned (.int .i64 8) ∧ Below w.heap.size w w') := fun w => by have := HCheck_any x1 0 0 w; rw [hx] at this; exact this
 have HN := Lib.hid hn
 have a0 : ∀ o',(w.alloc o').cell? ⟨b,o,none⟩ = some (B8 1) := fun _ => calloc k0
 have a1 : ∀ o',(w.alloc o').cell? ⟨b,o + 1,none⟩ = some (B8 x1) := fun _ => calloc k1
 clear hx k0 k1
 go_enter Tryz.func170,Tryz.ntmps170
 go_wp2_with fail
 refine Calls.mono (HK.out _) ?_
 rintro e w1 ⟨rfl,hb1⟩
 obtain ⟨hb,h0,h1,hsz⟩ := two_of hb1
 have HB := Lib.hid hb
 clear hb1 hb
 go_wp2_with (refine wpList_store_row (o := ⟨none,.store 133 (.tmp 2) (.tmp 24),_,_,_,_⟩) rfl 133 (.tmp 2) (.tmp 24) rfl w.heap.size #[.int .u8 0,.int .u32 0,.int .u32 0] rfl rfl _ _ h0 info_head rfl (by simp [Value.oneCell']) ?_)
 refine bodyPost_ret (res_ctt rfl _ _ _ 133 #[.int .u8 0,.int .u32 0,.int .u32 0] (0,0) _ (.slice none 0 0) (.int .i64 8) rfl ?_ rfl rfl Tryz.underlying133 rfl info_head) rfl ?_
 ·exact hrs h0
 ·exact ⟨none,0,0,rfl,below_row HB.out (Nat.le_refl _)⟩
set_option maxRecDepth 100000 in
set_option maxHeartbeats 2000000 in
theorem HRead_good (b o n c : Nat) (xs : List UInt8) (w : World) (h : Sl B8 w (some ⟨b,o,none⟩) n c xs) (hr : Room n) (hn : 10 ≤ n) (x1 : UInt8) (k0 : w.cell? ⟨b,o,none⟩ = some (B8 1)) (k1 : w.cell? ⟨b,o + 1,none⟩ = some (B8 x1)) (hx : modeC x1 = 0) :
  Calls Tryz.prog 170 #[.slice (some ⟨b,o,none⟩) n c] w (HRet w x1 (get4 ((xs.drop 2).take 4)) (get4 ((xs.drop 6).take 4)) 0) := by
 obtain ⟨A,hA⟩ : ∃ A,get4 ((xs.drop 2).take 4) = A := ⟨_,rfl⟩
 obtain ⟨B,hB⟩ : ∃ B,get4 ((xs.drop 6).take 4) = B := ⟨_,rfl⟩
 rw [hA,hB]
 have HA := Lib.hid hA
 have HBB := Lib.hid hB
 clear hA hB
 have HK : Hid (∀ w,Calls Tryz.prog 173 #[HVal x1 0 0] w fun e w' => e = .returned (.int .i64 0) ∧ Below w.heap.size w w') := fun w => by have := HCheck_any x1 0 0 w; rw [hx] at this; exact this
 have HN := Lib.hid hn
 have H := Lib.hid h
 have HR := Lib.hid hr
 have hm := h.bound
 have hle := h.le
 have hmx := h.max
 unfold maxLen at hmx
 have a0 : ∀ o',(w.alloc o').cell? ⟨b,o,none⟩ = some (B8 1) := fun _ => calloc k0
 have a1 : ∀ o',(w.alloc o').cell? ⟨b,o + 1,none⟩ = some (B8 x1) := fun _ => calloc k1
 clear hx k0 k1 h hr
 go_enter Tryz.func170,Tryz.ntmps170
 go_wp2_with fail
 refine Calls.mono (HK.out _) ?_
 rintro e w1 ⟨rfl,hb1⟩
 obtain ⟨hb,h0,h1,hsz⟩ := two_of hb1
 have HB := Lib.hid hb
 clear hb1 hb a0 a1
 go_wp2_with fail
 refine Calls.mono (SGet_any _ _ _ _ _ (Sl.part (k := 2) (m := 4) (H.out.keep HB.out) (by omega))) ?_
 rintro e w2 ⟨rfl,hb2⟩
 rw [if_pos rfl,HA.out]
 have h0' := (hb2.block _ (by omega)).trans h0
 have h1' := (hb2.block _ (by omega)).trans h1
 have HB2 := Lib.hid (bl HB.out hb2 HB.out.size)
 have hs2 := hb2.size
 obtain ⟨j0,j1,j2⟩ := cells_three h1'
 have z1 := frozen_of_row _ _ 1 _ _ h1'
 have z2 := frozen_of_row _ _ 2 _ _ h1'
 clear hb2 h0 h1
 go_wp2_with fail
 have HB3 := Lib.hid (HB2.out.setCell (p := ⟨w.heap.size + 1,1,none⟩) (by simp) (.int .u32 (A : Nat)))
 refine Calls.mono (SGet_any _ _ _ _ _ (Sl.part (k := 6) (m := 4) (H.out.keep HB3.out) (by omega))) ?_
 rintro e w3 ⟨rfl,hb3⟩
 rw [if_pos rfl,HBB.out]
 have h0 : w3.heap[w.heap.size]? = some (.cells #[.int .u8 0,.int .u32 0,.int .u32 0] 133 (0,0)) := (hb3.block _ (by simp [World.setCell]; omega)).trans (hsc h0' (by simp))
 have h1 : w3.heap[w.heap.size + 1]? = some (.cells #[B8 x1,.int .u32 (A : Nat),.int .u32 0] 133 (0,0)) := (hb3.block _ (by simp [World.setCell]; omega)).trans (hss h1')
 have HB4 := Lib.hid (bl HB3.out hb3 HB3.out.size)
 have hs3 : w.heap.size + 2 ≤ w3.heap.size := by have := hb3.size; simp [World.setCell] at this; omega
 clear hb3 h0' h1' z1 z2 j0 j1 j2 hs2 hsz
 have z2 := frozen_of_row _ _ 2 _ _ h1
 obtain ⟨j0,j1,j2⟩ := cells_three h1
 go_wp2_with fail
 have HB5 := Lib.hid (HB4.out.setCell (p := ⟨w.heap.size + 1,2,none⟩) (by simp) (.int .u32 (B : Nat)))
 have h0' : (w3.setCell ⟨w.heap.size + 1,2,none⟩ (.int .u32 (B : Nat))).heap[w.heap.size]? = some (.cells #[.int .u8 0,.int .u32 0,.int .u32 0] 133 (0,0)) := hsc h0 (by simp)
 have h1' : (w3.setCell ⟨w.heap.size + 1,2,none⟩ (.int .u32 (B : Nat))).heap[w.heap.size + 1]? = some (.cells #[B8 x1,.int .u32 (A : Nat),.int .u32 (B : Nat)] 133 (0,0)) := hss h1
 have hs4 : w.heap.size + 2 ≤ (w3.setCell ⟨w.heap.size + 1,2,none⟩ (.int .u32 (B : Nat))).heap.size := by simp [World.setCell]; omega
 clear z2 j0 j1 j2 h0 h1 hs3
 generalize w3.setCell ⟨w.heap.size + 1,2,none⟩ (.int .u32 (B : Nat)) = w4 at *
 obtain ⟨c0,c1,c2⟩ := cells_three h1'
 have S := Lib.hid (H.out.keep HB5.out)
 have h10 : (10 : Int) ≤ (n : Int) := by omega
 clear HB HB2 HB3 HB4
 refine wp_region_tail (fun ix => ([.val (.agg #[B8 x1,.int .u32 (A : Nat),.int .u32 (B : Nat)]),.val (.slice (some ⟨b,o,none⟩) n c),.val (.slice (if c = 10 then some ⟨b,o,none⟩ else some ⟨b,o + 10,none⟩) (n - 10) (c - 10)),.bytes (xs.drop 10),.any,.any,.any][ix]?).getD (.any)) 44 4 rfl (by kernel_rfl) (by decide) (by decide) (by decide) (by decide) ?_ ?_
 ·refine ⟨?_,?_,?_,?_,trivial⟩
  ·intro a W hb0 hs hp hi; have hb := undrew hb0; clear hb0
   have tt : sl a 5 = .pointer (some ⟨(w.heap.size + 1),0,none⟩) := hi 5 (by decide)
   have dd0 := (hb.cell (p := ⟨(w.heap.size + 1),0,none⟩) (lt_of_cell c0)).trans c0
   have dd1 := (hb.cell (p := ⟨(w.heap.size + 1),1,none⟩) (lt_of_cell c1)).trans c1
   have dd2 := (hb.cell (p := ⟨(w.heap.size + 1),2,none⟩) (lt_of_cell c2)).trans c2
   refine ite_y rfl (wp_val (.agg #[B8 x1,.int .u32 (A : Nat),.int .u32 (B : Nat)]) ?_ ?_)
   ·simp only [execOp,eval_tmp,tt]; simp [go_sem,dd0,dd1,dd2]
   ·exact ⟨_,rfl,Below.refl _ _,rfl⟩
  ·intro a W hb0 hs hp hi; have hb := undrew hb0; clear hb0
   have t0 : sl a 0 = .slice (some ⟨b,o,none⟩) n c := hi 0 (by decide)
   exact ite_y rfl (wp_val (sl a 0) rfl ⟨_,rfl,Below.refl _ _,t0⟩)
  ·intro a W hb0 hs hp hi; have hb := undrew hb0; clear hb0
   have t41 : sl a 41 = .slice (some ⟨b,o,none⟩) n c := hp 1 (by decide)
   refine ite_y rfl (wp_val (.slice (if c = 10 then some ⟨b,o,none⟩ else some ⟨b,o + 10,none⟩) (n - 10) (c - 10)) ?_ ?_)
   ·simp only [execOp,eval_tmp,eval_const,t41]; simp [go_sem,h10]
   ·exact ⟨_,rfl,Below.refl _ _,rfl⟩
  ·intro a W hb0 hs hp hi; have hb := undrew hb0; clear hb0
   have t42 : sl a 42 = .slice (if c = 10 then some ⟨b,o,none⟩ else some ⟨b,o + 10,none⟩) (n - 10) (c - 10) := hp 2 (by decide)
   refine ite_y rfl (wp_enter 78 #[.slice (if c = 10 then some ⟨b,o,none⟩ else some ⟨b,o + 10,none⟩) (n - 10) (c - 10)] ?_ (CloneB_any _ _ _ _ _ (Sl.tail 10 (S.out.keep hb) HN.out) (HR.out.le (by omega))) ?_)
   ·simp only [execOp,resolve,List.map_toArray,List.map,eval_tmp,eval_func,eval_const,t42]; simp [go_sem]
   ·rintro e W' ⟨q5,g5,rfl,o5,hw⟩; exact ⟨_,rfl,_,rfl,hw,q5,_,g5,rfl,Sl.of_owns o5⟩
 intro a w9 hb hs hd hI ht
 have ha := act_is [40,41,42,43,3,4] hs hd ht (by decide)
 have t40 : sl a 40 = .agg #[B8 x1,.int .u32 (A : Nat),.int .u32 (B : Nat)] := hI 0 (by decide)
 have y43 := hI 3 (by decide)
 obtain ⟨q9,n9,c9,t43,z43⟩ := y43
 simp only [List.foldl,t40,t43] at ha
 generalize sl a 41 = u41 at ha
 generalize sl a 42 = u42 at ha
 generalize sl a 3 = u3 at ha
 generalize sl a 4 = u4 at ha
 simp only [Act.put,List.setIfInBounds_toArray,List.set_cons_zero,List.set_cons_succ] at ha
 rw [ha]; clear ha hI ht hs hd
 simp only [List.drop_succ_cons,List.drop_zero]
 have h0 := (hb.block _ (by omega)).trans h0'
 have HB6 := Lib.hid (bl HB5.out hb HB5.out.size)
 clear hb h0' h1' c0 c1 c2 h10
 go_wp2_with (refine wpList_store_row (o := ⟨none,.store 133 (.tmp 2) (.tmp 40),_,_,_,_⟩) rfl 133 (.tmp 2) (.tmp 40) rfl w.heap.size #[B8 x1,.int .u32 (A : Nat),.int .u32 (B : Nat)] rfl rfl _ _ h0 info_head rfl (by simp [Value.oneCell']) ?_)
 refine bodyPost_ret (res_ctt rfl _ _ _ 133 #[B8 x1,.int .u32 (A : Nat),.int .u32 (B : Nat)] (0,0) _ (.slice q9 n9 c9) (.int .i64 0) rfl ?_ rfl rfl Tryz.underlying133 rfl info_head) rfl ?_
 ·exact hrs h0
 ·exact ⟨_,_,_,rfl,below_row HB6.out (Nat.le_refl _)⟩
theorem HRead_any (p : Option Addr) (n c : Nat) (xs : List UInt8) (w : World) (h : Sl B8 w p n c xs) (hr : Room n) :
  Calls Tryz.prog 170 #[.slice p n c] w (if headC xs = 0 then HRet w (xs.getD 1 0) (get4 ((xs.drop 2).take 4)) (get4 ((xs.drop 6).take 4)) 0 else HRet w 0 0 0 (headC xs)) := by
 have hl := h.len
 unfold headC
 by_cases h10 : n < 10
 ·rw [if_pos (by omega : xs.length < 10),if_neg (by decide)]
  exact HRead_short p n c w h10
 ·rw [if_neg (by omega : ¬ xs.length < 10)]
  obtain ⟨b,o,x0,rfl,k0,y0⟩ := h.at 0 (by omega)
  obtain ⟨_,_,x1,e1,k1,y1⟩ := h.at 1 (by omega)
  cases e1
  rw [Nat.add_zero] at k0
  rw [at_get y0.out,at_get y1.out]
  by_cases h0 : x0 = 1
  ·have e : (if x0 ≠ 1 then 7 else modeC x1) = modeC x1 := if_neg (by simp [h0])
   rw [e]
   subst h0
   rcases modeC_range x1 with h1 | h1
   ·rw [h1,if_pos rfl]
    exact HRead_good b o n c xs w h hr (by omega) x1 k0 k1 h1
   ·rw [h1,if_neg (by decide)]
    exact HRead_mode b o n c w (by omega) x1 k0 k1 h1 h.bound
  ·have e : (if x0 ≠ 1 then 7 else modeC x1) = 7 := if_pos h0
   rw [e,if_neg (by decide)]
   exact HRead_version b o n c w (by omega) x0 k0 h0 h.bound
end Go.Proofs.YtfbmdlfkipipfaaGreatDoor
namespace Go.By
open Go.RowKit
theorem heap_setCells {g T : Nat} : ∀ (vs : List Value) (o : Nat) (w : World) (cur : List Value),w.heap[g]? = some (.cells cur.toArray T (0,0)) → o + vs.length ≤ cur.length →
  (w.setCells g o vs).heap[g]? = some (.cells (cur.take o ++ vs ++ cur.drop (o + vs.length)).toArray T (0,0))
 | [],o,w,cur,h,_ => by simpa [World.setCells] using h
 | v :: r,o,w,cur,h,hl => by
  have hl' : o + (r.length + 1) ≤ cur.length := hl
  have h1 : (w.setCell ⟨g,o,none⟩ v).heap[g]? = some (.cells (cur.set o v).toArray T (0,0)) := by
   rw [hss h]; simp
  rw [World.setCells,heap_setCells r (o + 1) _ _ h1 (by rw [List.length_set]; omega)]
  congr 3
  apply List.ext_getElem?
  intro j
  simp only [List.getElem?_append,List.length_append,List.length_take,List.length_set,List.length_cons,List.getElem?_take,List.getElem?_drop,List.getElem?_set,List.getElem?_cons,show min (o + 1) cur.length = o + 1 by omega,show min o cur.length = o by omega]
  by_cases c1 : j < o
  ·simp [c1,show j < o + 1 by omega,show j < o + 1 + r.length by omega,show j < o + (r.length + 1) by omega,show ¬ o = j by omega]
  ·by_cases c2 : j = o
   ·subst c2; simp [show j < j + 1 + r.length by omega,show j < cur.length by omega]
   ·by_cases c3 : j < o + 1 + r.length
    ·simp [c1,c3,show ¬ j < o + 1 by omega,show j < o + (r.length + 1) by omega,show ¬ j - o = 0 by omega,show j - o - 1 = j - (o + 1) by omega]
    ·simp [c1,c3,show ¬ j < o + (r.length + 1) by omega,show ¬ o = o + 1 + r.length + (j - (o + 1 + r.length)) by omega,show o + (r.length + 1) + (j - (o + (r.length + 1))) = o + 1 + r.length + (j - (o + 1 + r.length)) by omega]
theorem grownBy_setCell (w : World) (g o : Nat) (v : Value) : w.grownBy (w.setCell ⟨g,o,none⟩ v) (some g) :=
 ⟨rfl,rfl,rfl,by simp,fun i hi hne => by
  have e : i ≠ g := fun e => hne (by rw [e])
  have := hsc (w := w) (a := ⟨g,o,none⟩) (v := v) (x := w.heap[i]) (i := i) (Array.getElem?_eq_getElem hi) e
  rw [this,Array.getElem?_eq_getElem hi]⟩
theorem grownBy_setCells (g : Nat) : ∀ (vs : List Value) (o : Nat) (w : World),w.grownBy (w.setCells g o vs) (some g)
 | [],_,w => World.grownBy.refl _ _
 | v :: r,o,w => grown_trans (grownBy_setCell w g o v) (grownBy_setCells g r (o + 1) _)
theorem grownBy_drew (w : World) (row : Option Nat) : w.grownBy w.drew row := ⟨rfl,rfl,rfl,Nat.le_refl _,fun _ _ _ => rfl⟩
theorem owns2_shut {w : World} {base T n c g : Nat} {cur L : List Value} (hg : base ≤ g) (hh : w.heap[g]? = some (.cells (List.toArray cur) T (0,0))) (h1 : n ≤ c) (h2 : c ≤ maxLen) (h3 : cur.length = c * 2) (h4 : cur.take (n * 2) = L) :
  w.ownsRow base T 2 (.slice (some ⟨g,0,none⟩) n c) n L :=
 ⟨by rw [← h4,List.length_take]; omega,.inr ⟨g,c,cur.toArray,rfl,hg,hh,h1,h2,by simpa using h3,by simpa using h4⟩⟩
theorem cell_arr {w : World} {g T : Nat} {cur : List Value} (h : w.heap[g]? = some (.cells (List.toArray cur) T (0,0))) (j : Nat) : w.cell? ⟨g,j,none⟩ = cur[j]? := by
 rw [cell_of_row _ _ j _ T (0,0) h]; simp
theorem frozen_arr {w : World} {g T : Nat} {cur : List Value} (h : w.heap[g]? = some (.cells (List.toArray cur) T (0,0))) (j : Nat) : w.frozen? ⟨g,j,none⟩ = false := frozen_of_row _ _ j _ _ h
theorem run_copy_two {P : Program} (w : World) (dT sT ty elem : TypeId) (b o dLen dCap : Nat) (a : Addr) (sLen sCap : Nat) (cs : List Value)
  (hu : P.underlying dT = some (.slice elem)) (hs : (P.info? elem).map (·.size) = some 2) (hn : cs.length = Nat.min sLen dLen * 2)
  (hsrc : ∀ j v,cs[j]? = some v → w.cell? (a.add j) = some v) (hc : ∀ j,j < cs.length → (w.cell? ⟨b,o + j,none⟩).isSome = true) (hf : ∀ j,j < cs.length → w.frozen? ⟨b,o + j,none⟩ = false) (h1 : ∀ v ∈ cs,v.oneCell' = true) :
  (Builtin.copy_ #[dT,sT] ty #[.slice (some ⟨b,o,none⟩) dLen dCap,.slice (some a) sLen sCap]).run P w = .ok (goInt (Nat.min sLen dLen)) (w.setCells b o cs) := by
 have hl := run_loadCells_list (P := P) w a cs hsrc
 have hst := run_storeCells_cells (P := P) b o cs 0 w (by simpa using hc) (by simpa using hf) h1
 cases hq : P.info? elem with
 | none => simp [hq] at hs
 | some i =>
  have hi : i.size = 2 := by simpa [hq] using hs
  simp only [Nat.add_zero] at hst
  simp [Builtin.copy_,run_underlying hu,Builtin.lenOf,Builtin.firstCells,sizeOf,typeInfo,hq,hi,← hn,hl,hst]
end Go.By
namespace Go.Proofs.YtfbmdlfkipipfaaGreatDoor
open Go.RowKit Go.By
theorem RefMul_q (a b : UInt8) (w : World) : Calls Tryz.prog 193 #[B8 a,B8 b] w fun e w' => e = .returned (B8 (Gf.gmul a b)) ∧ w' = w :=
 (RefMul_any a b w).mono fun _ _ ⟨h1,h2⟩ => ⟨h1,h2.symm⟩
theorem map_take_succ {α β : Type} (f : α → β) {xs : List α} {k : Nat} {x : α} (hx : xs[k]? = some x) : (xs.take (k + 1)).map f = (xs.take k).map f ++ [f x] := by
 obtain ⟨hk,hx⟩ := List.getElem?_eq_some_iff.1 hx
 rw [List.take_succ_eq_append_getElem hk,List.map_append,hx]; rfl
set_option maxHeartbeats 400000 in
theorem RScale_any (c : UInt8) (p : Option Addr) (n cc : Nat) (xs : List UInt8) (w : World) (h : Sl B8 w p n cc xs) (hn : Room n) :
  Calls Tryz.prog 192 #[B8 c,.slice p n cc] w (RetB1 5 w (xs.map (Gf.gmul c))) := by
 obtain ⟨i0,hi,hz0,hz1,hz2⟩ := info_parts info_u8
 have hb := h.bound
 have hm := h.max
 have hle := h.le
 have HL := Lib.hid (show n ≤ maxLen by omega)
 clear hm hle
 have H := Lib.hid h; clear h
 go_enter Tryz.func192,Tryz.ntmps192
 go_wp2
 go_loopw [5,6] (fun v i wr => ∃ k : Nat,k ≤ n ∧ i = .int .i64 k ∧ wr.ownsRow w.heap.size 5 1 v k (((xs.take k).map (Gf.gmul c)).map B8) ∧ Below w.heap.size w wr) (fun _ i _ => n - (intOf i).toNat)
 case atStart => exact ⟨0,Nat.zero_le _,rfl,World.ownsRow_nil _ _ _ _,Below.refl _ _⟩
 case round =>
  obtain ⟨k,hk,rfl,ho,hw⟩ := hrel
  obtain ⟨L,eL⟩ : ∃ L,L = ((xs.take k).map (Gf.gmul c)).map B8 := ⟨_,rfl⟩
  rw [← eL] at ho
  have HO := Lib.hid ho; have HEL := Lib.hid eL; clear ho eL
  by_cases hlt : k < n
  ·obtain ⟨b,o,x,rfl,hc,hx⟩ := (H.out.keep hw).at k hlt
   go_wp2_with (first
    | (go_at_call 193; refine (RefMul_any _ _ _).mono ?_; rintro e w' ⟨rfl,rfl⟩)
    | (at_builtin; refine wpList_append_rs _ rfl _ _ 22 rfl w.heap.size 5 i0 (.int .u8 0) 1 Tryz.underlying22 hi hz0 hz1 hz2 rfl _ k _ rfl (HO.out.alloc _) B8 _ _ _ [Gf.gmul c x] (fun _ _ => rfl) rfl (sl_one rfl rfl) ?c1 ?c2 ?c3 ?_))
   case c1 => have := HL.out; omega
   case c2 => unfold Room at hn; omega
   case c3 => have := hw.size; simp; omega
   intro v' w' ho hg
   have HO' := Lib.hid ho; clear ho
   have HB := Lib.hid ((hw.alloc hw.size _).grown hg (by have := hw.size; simp; omega) (fun j hj => (HO.out.lt j hj).1))
   clear hg
   go_wp2
   go_roundw
   case rel => exact ⟨k + 1,by omega,by go_num,by rw [map_take_succ _ hx.out,List.map_append,← HEL.out]; exact HO'.out,HB.out⟩
   case measure => simp [intOf]; omega
  ·go_wp2
   go_ret
   obtain ⟨q,c',hv⟩ := owns_shape HO.out
   have := HO.out
   rw [hv,HEL.out] at this
   have e : xs.take k = xs := List.take_of_length_le (by have := H.out.len; omega)
   rw [e] at this
   exact ⟨q,k,c',by have := H.out.len; show _ = _; rw [List.length_map]; omega,by rw [← hv]; rfl,this,hw⟩
end Go.Proofs.YtfbmdlfkipipfaaGreatDoor
namespace Go.Proofs.YtfbmdlfkipipfaaGreatDoor
open Go.RowKit Go.By
def col (cs : List UInt8) (xss : List (List UInt8)) (i : Nat) (s : UInt8) : UInt8 := (List.zip cs xss).foldl (fun s r => s ^^^ Gf.gmul r.1 (r.2.getD i 0)) s
theorem combF_get (i m : Nat) (hi : i < m) (xss : List (List UInt8)) (h : ∀ xs,xs ∈ xss → xs.length = m) : ∀ (cs z : List UInt8),z.length = m → (combF z cs xss)[i]? = some (col cs xss i (z.getD i 0)) := by
 induction xss with
 | nil => intro cs z hz; simp [combF,col,List.getElem?_eq_getElem (show i < z.length by omega)]
 | cons x l ih =>
  intro cs z hz
  cases cs with
  | nil => simp [combF,col,List.getElem?_eq_getElem (show i < z.length by omega)]
  | cons c cs =>
   have hx := h x List.mem_cons_self
   have := ih (fun xs hx => h xs (List.mem_cons_of_mem _ hx)) cs (axpy c x z) (by rw [axpy_length _ _ _ (hx.trans hz.symm)]; exact hz)
   have e : (axpy c x z).getD i 0 = z.getD i 0 ^^^ Gf.gmul c (x.getD i 0) := by
    simp [axpy,List.getD,List.getElem?_zipWith,List.getElem?_eq_getElem (show i < z.length by omega),List.getElem?_eq_getElem (show i < x.length by omega)]
   rw [e] at this
   simpa [combF,col] using this
theorem col_step {cs : List UInt8} {xss : List (List UInt8)} {k i : Nat} {c y s : UInt8} {x : List UInt8} (hc : cs[k]? = some c) (hx : xss[k]? = some x) (hy : x[i]? = some y) :
  col (cs.take (k + 1)) (xss.take (k + 1)) i s = col (cs.take k) (xss.take k) i s ^^^ Gf.gmul c y := by
 have e : ∀ j,List.zip (cs.take j) (xss.take j) = (List.zip cs xss).take j := fun j => by simp [List.zip,List.take_zipWith]
 have hz : (List.zip cs xss)[k]? = some (c,x) := by simp [List.zip,List.getElem?_zipWith,hc,hx]
 obtain ⟨hk,hz⟩ := List.getElem?_eq_some_iff.1 hz
 simp only [col,e]
 rw [foldl_take_succ _ _ _ _ hk,hz]
 simp [List.getD,hy]
theorem take_snoc_of {α : Type} {xs : List α} {k : Nat} {x : α} (hx : xs[k]? = some x) : xs.take (k + 1) = xs.take k ++ [x] := by
 obtain ⟨hk,hx⟩ := List.getElem?_eq_some_iff.1 hx
 rw [List.take_succ_eq_append_getElem hk,hx]
theorem noughtS_of {xss : List (List UInt8)} {x0 : List UInt8} {m : Nat} (h0 : xss[0]? = some x0) (hm : x0.length = m) (h : ∀ xs,xs ∈ xss → xs.length = m) : noughtS xss = (List.replicate m 0,0) := by
 cases xss with
 | nil => simp at h0
 | cons x l =>
  simp at h0; subst h0; subst hm
  simp only [noughtS]
  rw [if_pos (List.all_eq_true.2 fun xs hx => by simpa using h xs hx)]
theorem noughtS_not {xss : List (List UInt8)} {x0 x : List UInt8} (h0 : xss[0]? = some x0) (hx : x ∈ xss) (h : x.length ≠ x0.length) : noughtS xss = ([],4) := by
 cases xss with
 | nil => simp at h0
 | cons y l =>
  simp at h0; subst h0
  simp only [noughtS]
  rw [if_neg]
  intro ha
  have := List.all_eq_true.1 ha x hx
  simp at this; exact h this
set_option maxRecDepth 100000 in
set_option maxHeartbeats 1000000 in
theorem RComb_any (p1 p2 : Option Addr) (n1 n2 c1 c2 : Nat) (cs : List UInt8) (xss : List (List UInt8)) (w : World) (h1 : Sl B8 w p1 n1 c1 cs) (h2 : Sl2 w p2 n2 c2 xss) (hr : ∀ xs,xs ∈ xss → Room xs.length) :
  Calls Tryz.prog 163 #[.slice p1 n1 c1,.slice p2 n2 c2] w (RetB 5 w (combS cs xss).1 (combS cs xss).2) := by
 obtain ⟨i0,hi,hz0,hz1,hz2⟩ := info_parts info_u8
 have b1 := h1.bound; have b2 := h2.bound
 by_cases he : n1 = n2
 ·obtain rfl := he
  by_cases h0 : n1 = 0
  ·subst h0
   have e1 : cs = [] := List.eq_nil_of_length_eq_zero h1.len
   have e2 : xss = [] := List.eq_nil_of_length_eq_zero h2.len
   subst e1; subst e2
   clear h1 h2 hr
   go_enter Tryz.func163,Tryz.ntmps163
   go_wp2
   go_ret2
   exact RetB.nil _ _ _ _ (Below.refl _ _)
  ·obtain ⟨b,o,q0,m0,c0,x0,rfl,hc0,hs0,hx0⟩ := h2.at 0 (by omega)
   have hS : Hid (combS cs xss = if (noughtS xss).2 = 0 then (combF (noughtS xss).1 cs xss,0) else ([],4)) := by unfold combS; rw [if_pos (h1.len.trans h2.len.symm)]; rfl
   have hrm : Hid (Room m0) := by have := hr x0 (List.mem_of_getElem? hx0.out); rw [hs0.len] at this; exact this
   have hm0 := hs0.bound
   have hmm := Lib.hid (show m0 ≤ maxLen by have := hs0.le; have := hs0.max; omega)
   have HL0 := Lib.hid hs0.len
   have H1 := Lib.hid h1; have H2 := Lib.hid h2
   have hn0 : ((n1 : Int) == 0) = false := by simp; omega
   have hnp : (0 : Int) < (n1 : Int) := by omega
   rw [Nat.add_zero] at hc0
   clear h1 h2 hr hs0 h0
   go_enter Tryz.func163,Tryz.ntmps163
   go_wp2
   go_loopw [6] (fun i wr => ∃ k : Nat,k ≤ n1 ∧ i = .int .i64 k ∧ Below w.heap.size w wr ∧ Hid (∀ j x,j < k → xss[j]? = some x → x.length = m0)) (fun i _ => n1 - (intOf i).toNat)
   case atStart => exact ⟨0,Nat.zero_le _,rfl,Below.refl _ _,fun j x hj => by omega⟩
   case round =>
    obtain ⟨k,hk,rfl,hw,hj⟩ := hrel
    have hcz : wr.cell? ⟨b,o,none⟩ = some (.slice q0 m0 c0) := (hw.cell (p := ⟨b,o,none⟩) (lt_of_cell hc0)).trans hc0
    by_cases hlt : k < n1
    ·obtain ⟨b',o',q,m,c',row,hp,hc,hs,hy⟩ := H2.out.at k hlt
     cases hp
     have hc' := (hw.cell (p := ⟨b,o + k,none⟩) (lt_of_cell hc)).trans hc
     have hml := Lib.hid hs.len
     have hmb := hs.bound
     have i1 : (k : Int) < (n1 : Int) := by omega
     clear hc hs
     by_cases hm : m = m0
     ·subst hm
      go_wp2
      go_quiet (fail)
      go_wp2
      go_roundw
      case rel => exact ⟨k + 1,by omega,by go_num,⟨hw.os,hw.tape,hw.output,hw.size,hw.block⟩,fun j x hj' hx => by
       by_cases e : j = k
       ·subst e; have := hy.out.symm.trans hx; cases this; exact hml.out
       ·exact hj.out j x (by omega) hx⟩
      case measure => simp [intOf]; omega
     ·have hne : ((m : Int) != (m0 : Int)) = true := by simp; omega
      have HN := Lib.hid hm; clear hm
      go_wp2
      go_quiet (fail)
      go_wp2
      go_ret2
      rw [hS.out,noughtS_not hx0.out (List.mem_of_getElem? hy.out) (by rw [hml.out,HL0.out]; exact HN.out)]
      exact RetB.nil _ _ _ _ ⟨hw.os,hw.tape,hw.output,hw.size,hw.block⟩
    ·have HALL : Hid (∀ xs,xs ∈ xss → xs.length = m0) := fun xs hx => by
      obtain ⟨j,hj',e⟩ := List.getElem_of_mem hx
      exact hj.out j xs (by have := H2.out.len; omega) (by rw [List.getElem?_eq_getElem hj',e])
     have HS : Hid (combS cs xss = (combF (List.replicate m0 0) cs xss,0)) := by
      have := hS.out
      rw [noughtS_of hx0.out HL0.out HALL.out] at this
      exact this
     have HG : Hid (∀ i,i < m0 → (combF (List.replicate m0 0) cs xss)[i]? = some (col cs xss i 0)) := fun i hi' => by
      have := combF_get i m0 hi' xss HALL.out cs (List.replicate m0 0) (by simp)
      rw [this]; simp [List.getD,hi']
     have HLen : Hid ((combF (List.replicate m0 0) cs xss).length = m0) := combF_len cs xss m0 HALL.out _ (by simp)
     clear hS hj
     generalize combF (List.replicate m0 0) cs xss = Y at *
     go_wp2
     go_loopw [7,8] (fun v i wr2 => ∃ k : Nat,k ≤ m0 ∧ i = .int .i64 k ∧ wr2.ownsRow w.heap.size 5 1 v k ((Y.take k).map B8) ∧ Below w.heap.size w wr2) (fun _ i _ => m0 - (intOf i).toNat)
     case atStart => exact ⟨0,Nat.zero_le _,rfl,by simpa using World.ownsRow_nil _ _ _ _,hw⟩
     case round =>
      clear hw hcz
      obtain ⟨k2,hk2,rfl,ho,hw⟩ := hrel
      have hcz : wr.cell? ⟨b,o,none⟩ = some (.slice q0 m0 c0) := (hw.cell (p := ⟨b,o,none⟩) (lt_of_cell hc0)).trans hc0
      obtain ⟨L,eL⟩ : ∃ L,L = (Y.take k2).map B8 := ⟨_,rfl⟩
      rw [← eL] at ho
      have HO := Lib.hid ho; have HEL := Lib.hid eL; clear ho eL
      by_cases hlt2 : k2 < m0
      ·go_wp2
       go_loopw [9,10] (fun s i wr3 => ∃ j : Nat,j ≤ n1 ∧ i = .int .i64 j ∧ s = B8 (col (cs.take j) (xss.take j) k2 0) ∧ wr3.ownsRow w.heap.size 5 1 u7 k2 L ∧ Below w.heap.size w wr3) (fun _ i _ => n1 - (intOf i).toNat)
       case atStart => exact ⟨0,Nat.zero_le _,rfl,by simp [col],HO.out,hw⟩
       case round =>
        clear hw hcz
        obtain ⟨j,hj,rfl,rfl,ho,hw⟩ := hrel
        have HO3 := Lib.hid ho; clear ho
        by_cases hlt3 : j < n1
        ·obtain ⟨b1',o1',cj,rfl,hcj,hcx⟩ := (H1.out.keep hw).at j hlt3
         obtain ⟨b',o',q,m,c',row,hp,hc,hs,hy⟩ := H2.out.at j hlt3
         cases hp
         have hc' := (hw.cell (p := ⟨b,o + j,none⟩) (lt_of_cell hc)).trans hc
         have hmm' : m = m0 := by rw [← hs.len]; exact HALL.out row (List.mem_of_getElem? hy.out)
         subst hmm'
         obtain ⟨b2',o2',x,rfl,hcxx,hxx⟩ := (hs.keep hw).at k2 hlt2
         have HZ := Lib.hid (col_step (s := 0) hcx.out hy.out hxx.out)
         generalize col (cs.take j) (xss.take j) k2 0 = s at HZ ⊢
         have i1 : (j : Int) < (n1 : Int) := by omega
         have i2 : (k2 : Int) < (m : Int) := by omega
         clear hc hs
         go_wp2
         go_quiet ((go_at_call 193; exact Calls.quiet_of_same (RefMul_q _ _ _)))
         go_wp2
         go_roundw
         case rel => exact ⟨j + 1,by omega,by go_num,by rw [HZ.out]; exact B8_congr (bits_xor _ _),HO3.out,⟨hw.os,hw.tape,hw.output,hw.size,hw.block⟩⟩
         case measure => simp [intOf]; omega
        ·have e1 : cs.take j = cs := List.take_of_length_le (by have := H1.out.len; omega)
         have e2 : xss.take j = xss := List.take_of_length_le (by have := H2.out.len; omega)
         rw [e1,e2]
         have HY := Lib.hid (HG.out k2 hlt2)
         generalize col cs xss k2 0 = s at HY ⊢
         clear e1 e2
         go_wp2_with (at_builtin; refine wpList_append_rs _ rfl _ _ 22 rfl w.heap.size 5 i0 (.int .u8 0) 1 Tryz.underlying22 hi hz0 hz1 hz2 rfl _ k2 _ rfl (HO3.out.alloc _) B8 _ _ _ [s] (fun _ _ => rfl) rfl (sl_one rfl rfl) ?c1 ?c2 ?c3 ?_)
         case c1 => have := hmm.out; omega
         case c2 => have := hrm.out; unfold Room at this; omega
         case c3 => have := hw.size; simp; omega
         intro v' w' ho hg
         have HO' := Lib.hid ho; clear ho
         have HB := Lib.hid ((hw.alloc hw.size _).grown hg (by have := hw.size; simp; omega) (fun j hj => (HO3.out.lt j hj).1))
         clear hg
         go_wp2
         go_roundw
         case rel => exact ⟨k2 + 1,by omega,by go_num,by rw [take_snoc_of HY.out,List.map_append,← HEL.out]; exact HO'.out,HB.out⟩
         case measure => simp [intOf]; omega
      ·have hkm : k2 = m0 := by omega
       have HKM := Lib.hid hkm; clear hkm
       go_wp2
       go_ret2
       rw [HS.out]
       obtain ⟨q,c',hv⟩ := owns_shape HO.out
       have := HO.out
       rw [hv,HEL.out] at this
       have e : Y.take k2 = Y := List.take_of_length_le (by have := HLen.out; have := HKM.out; omega)
       rw [e] at this
       exact ⟨q,k2,c',by have := HLen.out; have := HKM.out; show Y.length = k2; omega,by rw [← hv]; rfl,this,hw⟩
 ·have HR := Lib.hid (show combS cs xss = ([],4) by simp [combS,h1.len,h2.len,he])
  have hne : ((n1 : Int) != (n2 : Int)) = true := by simp; omega
  clear h1 h2 hr
  go_enter Tryz.func163,Tryz.ntmps163
  go_wp2
  go_ret2
  rw [HR.out]
  exact RetB.nil _ _ _ _ (Below.refl _ _)
end Go.Proofs.YtfbmdlfkipipfaaGreatDoor
namespace Go.Proofs.YtfbmdlfkipipfaaGreatDoor
open Go.RowKit Go.By
end Go.Proofs.YtfbmdlfkipipfaaGreatDoor
namespace Go.Proofs.YtfbmdlfkipipfaaGreatDoor
open Go.RowKit Go.By
set_option maxHeartbeats 400000 in
theorem BClone_any (p : Option Addr) (n c : Nat) (xs : List UInt8) (w : World) (h : Sl B8 w p n c xs) (hn : Room n) :
  Calls Tryz.prog 150 #[.slice p n c] w fun e w' => ∃ q c',e = .returned (.slice q n c') ∧ w'.ownsRow w.heap.size 5 1 (.slice q n c') n (xs.map B8) ∧ Below w.heap.size w w' := by
 obtain ⟨i0,hi,hz0,hz1,hz2⟩ := info_parts info_u8
 cases hp : p with
 | none =>
  subst hp
  obtain ⟨rfl,rfl⟩ := h.nil rfl
  have : xs = [] := List.eq_nil_of_length_eq_zero h.len
  subst this
  have hq := fun w => Lib.run_eql_slice_nil (P := Tryz.prog) w 22 5 none 0 0 0 0 Tryz.underlying22
  go_enter Tryz.func150,Tryz.ntmps150
  go_wp2
  go_ret
  exact ⟨none,0,rfl,World.ownsRow_nil _ _ _ _,Below.refl _ _⟩
 | some ad =>
  subst hp
  have hq := fun w => Lib.run_eql_slice_nil (P := Tryz.prog) w 22 5 (some ad) n c 0 0 Tryz.underlying22
  have H := Lib.hid h
  clear h
  go_enter Tryz.func150,Tryz.ntmps150
  go_wp2_with (at_builtin; refine wpList_append_rs _ rfl _ _ 22 rfl w.heap.size 5 i0 (.int .u8 0) 1 Tryz.underlying22 hi hz0 hz1 hz2 rfl _ 0 [] rfl (World.ownsRow_lit w #[] 0 (Nat.le_refl _) (by simp [maxLen]) rfl) B8 _ _ _ xs (fun _ _ => rfl) rfl (H.out.keep ((Below.refl _ _).alloc (Nat.le_refl _) _)) ?c1 ?c2 ?c3 ?_)
  case c1 => have := H.out.le; have := H.out.max; omega
  case c2 => unfold Room at hn; omega
  case c3 => simp
  intro v' w' ho hg
  obtain ⟨q,c',rfl⟩ := owns_shape ho
  go_wp2
  go_ret
  exact ⟨q,c',by simp,by simpa using ho,((Below.refl _ _).alloc (Nat.le_refl _) _).grown hg (by simp) (by simp [Value.ownBlock])⟩
end Go.Proofs.YtfbmdlfkipipfaaGreatDoor
namespace Go.By
open Go.RowKit
def slipB (ops : Array Oper) (m e : Nat) : Bool := decide (m + 1 < ops.size) && decide (e < m) && (match ops[m]? with
 | some o => o.guard.isNone && o.dst.isNone && !(preds o).contains e
 | none => false) && (match ops[m + 1]? with
 | some o => (preds o).contains e
 | none => false) && ((List.range m).all fun i => i == e || (List.range (m + 1)).any fun j => decide (i < j) && j != e && match ops[j]? with
 | some o => (preds o).contains i
 | none => false) && (List.range ops.size).all fun j => !decide (m < j) || match ops[j]? with
 | some o => (preds o).contains (j - 1)
 | none => false
theorem wp_region_slip {P : Program} {ops : Array Oper} {Q : Exit → Act → World → Prop} {id : Nat} {a0 : Act} {w0 : World} (sh : Nat → Shp) (n m e t d : Nat) (u : Value) (hn : a0.tmps.size = n) (hm : P.follows .mixedOrders = true) (hback : backB ops = true) (hdist : distB ops = true)
  (htail : slipB ops m e = true) (oe : Oper) (hoe : ops[e]? = some oe) (hge : oe.guard = none) (hde : oe.dst = some d) (hdn : d < n) (hshe : sh e = Shp.val u)
  (hrun : ∀ (a : Act) (x : Value) (w : World),sl a t = .tuple #[x,u] → (execOp a.eval oe).run P w = .ok (.value u) w) (hdsts : dstsB (ops.extract 0 m) n = true)
  (each : EachS P ops Q a0 w0.drew sh (ops.toList.take m) 0)
  (fin : ∀ a w o,ops[m]? = some o → Below w0.heap.size w0 w → a.tmps.size = a0.tmps.size → a.defers = a0.defers → (∀ j,j < m → j ≠ e → InvS ops sh j (sl a) w) → (∀ t,(ops.toList.all fun o => o.dst != some t) = true → sl a t = sl a0 t) →
   (∃ x,sl a t = .tuple #[x,u]) ∧ o.wp P a w (fun a' w' => a' = a ∧ ∀ b : Act,b.tmps.size = a0.tmps.size → b.defers = a0.defers → (∀ t',t' ≠ d → sl b t' = sl a t') → sl b d = u → wpList P ops Q (ops.toList.drop (m + 1)) b w') Q) :
  (Code.region id ops true).wp P Q a0 w0 := by
 unfold slipB at htail
 simp only [Bool.and_eq_true,decide_eq_true_eq] at htail
 obtain ⟨⟨⟨⟨⟨hm1,hem⟩,hl2⟩,hl3⟩,htl⟩,hch⟩ := htail
 have hm' : m < ops.size := by omega
 obtain ⟨ol,hol⟩ : ∃ ol,ops[m]? = some ol := ⟨_,Array.getElem?_eq_getElem hm'⟩
 rw [hol] at hl2
 simp only [Bool.and_eq_true] at hl2
 have hguard : ol.guard = none := by cases hg : ol.guard <;> simp [hg] at hl2 ⊢
 have hdst : ol.dst = none := by cases hg : ol.dst <;> simp [hg] at hl2 ⊢
 obtain ⟨on,hon⟩ : ∃ on,ops[m + 1]? = some on := ⟨_,Array.getElem?_eq_getElem hm1⟩
 rw [hon] at hl3
 have hne : e ∈ preds on := by simpa using hl3
 have hchain : ∀ j o,m < j → ops[j]? = some o → (preds o).contains (j - 1) = true := fun j o hj ho => by
  have := List.all_eq_true.1 hch j (List.mem_range.2 (Array.getElem?_eq_some_iff.1 ho).1)
  rw [ho] at this
  simpa [hj] using this
 have hpl : ∀ i,i < m → i ≠ e → ∃ j o,i < j ∧ j ≤ m ∧ j ≠ e ∧ ops[j]? = some o ∧ i ∈ preds o := fun i hi hie => by
  have h0 := List.all_eq_true.1 htl i (List.mem_range.2 hi)
  rw [Bool.or_eq_true] at h0
  have h0' := h0.resolve_left (by simpa using hie)
  obtain ⟨j,hj,h⟩ := List.any_eq_true.1 h0'
  have hjm := List.mem_range.1 hj
  simp only [Bool.and_eq_true,decide_eq_true_eq] at h
  obtain ⟨oj,hoj⟩ : ∃ oj,ops[j]? = some oj := ⟨_,Array.getElem?_eq_getElem (by omega)⟩
  have h2 := h.2
  rw [hoj] at h2
  exact ⟨j,oj,h.1.1,by omega,by simpa using h.1.2,hoj,by simpa using h2⟩
 have hE := each_of (Q := Q) (P := P) (a0 := a0) (W0 := w0.drew) (sh := sh) hn (ops.toList.take m) 0 (fun j o hj => by
   rw [List.getElem?_take] at hj; split at hj
   ·simpa using hj
   ·cases hj) (by
   unfold dstsB at hdsts
   have e : (ops.extract 0 m).toList = ops.toList.take m := by simp
   rw [e] at hdsts; exact hdsts) each
 have stepAt : ∀ i o,i < m → ops[i]? = some o → StepOf P ops Q a0 w0.drew (fun W w => Below W.heap.size W w) (fun _ w w' => Below w.heap.size w w') (InvS ops sh) i o := fun i o hi ho => by
  have := Each.get _ 0 hE i o (by rw [List.getElem?_take,if_pos hi]; simpa using ho)
  rwa [Nat.zero_add] at this
 have stable : ∀ i j oi oj (σ σ' : Nat → Value) w w',i ≠ j → ops[i]? = some oi → ops[j]? = some oj → InvS ops sh j σ w → Below w.heap.size w w' → (∀ t,oi.dst ≠ some t → σ' t = σ t) → InvS ops sh j σ' w' := by
  intro i j oi oj σ σ' w w' hij hoi hoj hI hR hσ
  unfold InvS at hI ⊢
  cases hdj : dstOf ops j with
  | none => trivial
  | some d =>
   rw [hdj] at hI
   show (sh j).ok (σ' d) w'
   have hne : oi.dst ≠ some d := by
    intro e
    have hi' : i < ops.size := (Array.getElem?_eq_some_iff.1 hoi).1
    have hj' : j < ops.size := (Array.getElem?_eq_some_iff.1 hoj).1
    have := List.all_eq_true.1 (List.all_eq_true.1 hdist i (List.mem_range.2 hi')) j (List.mem_range.2 hj')
    rw [hoi,hoj] at this
    have hdj' : oj.dst = some d := by simpa [dstOf,hoj] using hdj
    simp [e,hdj',hij] at this
   rw [hσ d hne]
   exact (sh j).keep _ _ _ hI hR
 refine wp_region_any hm ?_
 show wpAny P .any ops Q ops.size (Array.replicate ops.size false) a0 w0.drew
 have main : ∀ (fuel : Nat) (listed : Array Bool) (a : Act) (w : World),unl ops.size listed ≤ fuel → listed.getD m true = false → Below w0.heap.size w0 w → a.tmps.size = a0.tmps.size → a.defers = a0.defers →
   (∀ j o,listed.getD j false = true → ops[j]? = some o → ∀ k,k ∈ preds o → listed.getD k false = true) →
   (∀ j,j < ops.size → listed.getD j true = true → listed.getD j false = true) →
   (∀ j,j < m → listed.getD j false = true → InvS ops sh j (sl a) w) →
   (∀ t,(∀ j o,j < m → listed.getD j false = true → ops[j]? = some o → o.dst ≠ some t) → sl a t = sl a0 t) → wpAny P .any ops Q fuel listed a w := by
  intro fuel
  induction fuel with
  | zero =>
   intro listed a w hu hlm
   exfalso
   have h0 : unl ops.size listed = 0 := by omega
   unfold unl at h0
   have := List.countP_eq_zero.1 h0 m (List.mem_range.2 hm')
   simp [hlm] at this
  | succ fuel ih =>
   intro listed a w hu hlm hEw hs hd hcl hlt hI ht
   have hup : ∀ d j,j = m + d → j < ops.size → listed.getD j false = true → False := by
    intro d
    induction d with
    | zero => intro j e hj hl; rw [show j = m by omega] at hl; exact (getD_both hlm).1 hl
    | succ d ihd =>
     intro j e hj hl
     have hoj : ops[j]? = some ops[j] := Array.getElem?_eq_getElem hj
     exact ihd (j - 1) (by omega) (by omega) (hcl j _ hl hoj (j - 1) (by simpa using hchain j _ (by omega) hoj))
   refine ⟨fun hr => ?_,fun i hi => ?_⟩
   ·exfalso
    have hall : ∀ k j,j < k → j < ops.size → listed.getD j false = true := by
     intro k
     induction k with
     | zero => intro j hj; omega
     | succ k ihk =>
      intro j hj hjs
      refine hlt j hjs ?_
      cases hb : listed.getD j true with
      | true => rfl
      | false =>
       exfalso
       have ho : ops[j]? = some ops[j] := Array.getElem?_eq_getElem hjs
       have : j ∈ Region.ready .any ops listed := mem_ready.2 ⟨hjs,hb,_,ho,fun q hq => by
        have hbk := List.all_eq_true.1 hback j (List.mem_range.2 hjs)
        rw [ho] at hbk
        have hkj := of_decide_eq_true (List.all_eq_true.1 hbk q hq)
        exact ihk q (by omega) (by omega)⟩
       rw [hr] at this; cases this
    have hx := hall (m + 1) m (by omega) hm'
    rcases Nat.lt_or_ge m listed.size with h | h
    ·simp [Array.getD_eq_getD_getElem?,h] at hlm hx; rw [hlm] at hx; cases hx
    ·simp [Array.getD_eq_getD_getElem?,Array.getElem?_eq_none h] at hx
   ·obtain ⟨h1,h2,o,ho,h3⟩ := mem_ready.1 hi
    have hnl : listed.getD i false ≠ true := by
     intro hx
     rcases Nat.lt_or_ge i listed.size with h | h
     ·simp [Array.getD_eq_getD_getElem?,h] at h2 hx; rw [h2] at hx; cases hx
     ·simp [Array.getD_eq_getD_getElem?,Array.getElem?_eq_none h] at hx
    have his : i < listed.size := by
     rcases Nat.lt_or_ge i listed.size with h | h
     ·exact h
     ·simp [Array.getD_eq_getD_getElem?,Array.getElem?_eq_none h] at h2
    have gset : ∀ j (d : Bool),(listed.setIfInBounds i true).getD j d = if i = j then true else listed.getD j d := by
     intro j d
     simp only [Array.getD_eq_getD_getElem?,Array.getElem?_setIfInBounds]
     by_cases e : i = j
     ·subst e; simp [his]
     ·simp [e]
    by_cases him : i = m
    ·subst him
     rw [hol] at ho; cases ho
     have hdown : ∀ d j,i - j ≤ d → j < i → j ≠ e → listed.getD j false = true := by
      intro d
      induction d with
      | zero => intro j h4 h5; omega
      | succ d ihd =>
       intro j h4 h5 h6
       obtain ⟨j2,o2,g1,g2,g5,g3,g4⟩ := hpl j h5 h6
       by_cases e2 : j2 = i
       ·subst e2; rw [hol] at g3; cases g3; exact h3 j g4
       ·exact hcl j2 o2 (ihd j2 (by omega) (by omega) g5) g3 j g4
     have hdn' : ∀ j,j < i → j ≠ e → listed.getD j false = true := fun j hj hje => hdown i j (by omega) hj hje
     obtain ⟨⟨x,hx⟩,hf⟩ := fin a w ol hol hEw hs hd (fun j hj hje => hI j hj (hdn' j hj hje)) (fun t htt => ht t (fun j oj hj _ hoj => by
      have := List.all_eq_true.1 htt oj (by rw [Array.mem_toList_iff]; exact Array.mem_of_getElem? hoj)
      simpa using this))
     have htrue : ∀ j,listed.getD j false = true → listed.getD j true = true := fun j hj => by
      cases hb : listed.getD j true with
      | true => rfl
      | false => exact absurd hj (getD_both hb).1
     have hfu := unl_set (n := ops.size) h1 h2
     unfold wpOp
     rw [hol]
     show if Region.wanted ol (yielded ops a.tmps) = true then _ else _
     rw [if_pos (by simp [Region.wanted,hguard])]
     refine .inl (Oper.wp_mono (fun a' w' hq => ?_) hf)
     obtain ⟨rfl,hq⟩ := hq
     cases hle : listed.getD e false with
     | true =>
      have hIe := hI e hem hle
      have hud : sl a' d = u := by
       unfold InvS at hIe
       rw [show dstOf ops e = some d by simp [dstOf,hoe,hde]] at hIe
       rw [hshe] at hIe
       exact hIe
      refine wpAny_tail (m := i) hback hchain fuel (i + 1) _ a' w' (by omega) (by omega) (fun j hj hjs => ?_) (fun j hj hjs => ?_) (hq a' hs hd (fun _ _ => rfl) hud)
      ·rw [gset,gset]
       by_cases e3 : i = j
       ·rw [if_pos e3,if_pos e3]; exact ⟨rfl,rfl⟩
       ·rw [if_neg e3,if_neg e3]
        have hjl : listed.getD j false = true := by
         by_cases e4 : j = e
         ·rw [e4]; exact hle
         ·exact hdn' j (by omega) e4
        exact ⟨hjl,htrue j hjl⟩
      ·rw [gset,if_neg (by omega)]
       cases hb : listed.getD j true with
       | false => rfl
       | true => exact (hup (j - i) j (by omega) hjs (hlt j hjs hb)).elim
     | false =>
      have hes : e < ops.size := by omega
      have hleT : listed.getD e true = false := by
       cases hb : listed.getD e true with
       | false => rfl
       | true => rw [hlt e hes hb] at hle; cases hle
      have gse : (listed.setIfInBounds i true).getD e true = false := by rw [gset,if_neg (by omega)]; exact hleT
      have hpe : ∀ k,k ∈ preds oe → (listed.setIfInBounds i true).getD k false = true := fun k hk => by
       have hbk := List.all_eq_true.1 hback e (List.mem_range.2 hes)
       rw [hoe] at hbk
       have hke := of_decide_eq_true (List.all_eq_true.1 hbk k hk)
       rw [gset]
       by_cases e3 : i = k
       ·rw [if_pos e3]
       ·rw [if_neg e3]; exact hdn' k (by omega) (by omega)
      have hin : e ∈ Region.ready .any ops (listed.setIfInBounds i true) := mem_ready.2 ⟨hes,gse,oe,hoe,hpe⟩
      have hu2 : unl ops.size (listed.setIfInBounds i true) ≤ fuel := by omega
      cases fuel with
      | zero =>
       exfalso
       have h0 : unl ops.size (listed.setIfInBounds i true) = 0 := by omega
       unfold unl at h0
       have := List.countP_eq_zero.1 h0 e (List.mem_range.2 hes)
       simp [gse] at this
      | succ fuel =>
       refine ⟨fun hr => by rw [hr] at hin; simp at hin,fun k hk => ?_⟩
       obtain ⟨k1,k2,ok,hok,k3⟩ := mem_ready.1 hk
       obtain ⟨knl,kis⟩ := getD_both k2
       have hke : k = e := by
        apply Classical.byContradiction
        intro hne'
        rcases Nat.lt_trichotomy k i with hlt' | heq | hgt
        ·exact knl (by rw [gset,if_neg (by omega)]; exact hdn' k hlt' hne')
        ·subst heq; exact knl (by rw [gset,if_pos rfl])
        ·by_cases hk1 : k = i + 1
         ·subst hk1
          rw [hon] at hok; cases hok
          have := k3 e hne
          exact (getD_both gse).1 this
         ·have := k3 (k - 1) (by simpa using hchain k ok (by omega) hok)
          rw [gset,if_neg (by omega)] at this
          exact hup (k - 1 - i) (k - 1) (by omega) (by omega) this
       subst hke
       rw [hoe] at hok; cases hok
       unfold wpOp
       rw [hoe]
       show if Region.wanted oe (yielded ops a'.tmps) = true then _ else _
       rw [if_pos (by simp [Region.wanted,hge])]
       have hr := hrun a' x w' hx
       refine .inl ?_
       refine wp_val u hr ?_
       rw [hde]
       have gset2 : ∀ j (dd : Bool),((listed.setIfInBounds i true).setIfInBounds k true).getD j dd = if k = j then true else (listed.setIfInBounds i true).getD j dd := by
        intro j dd
        simp only [Array.getD_eq_getD_getElem?,Array.getElem?_setIfInBounds]
        by_cases e5 : k = j
        ·subst e5; simp at kis; simp [kis]
        ·simp [e5]
       refine wpAny_tail (m := i) hback hchain fuel (i + 1) _ _ w' (by omega) (by have := unl_set (n := ops.size) k1 k2; omega) (fun j hj hjs => ?_) (fun j hj hjs => ?_) (hq (a'.put (some d) u) ((put_size _ _ _).trans hs) ((put_defers _ _ _).trans hd) (fun t' ht' => put_sl _ _ _ _ (fun ee => ht' (Option.some.inj ee).symm)) (put_same _ _ _ (by rw [hs,hn]; exact hdn)))
       ·rw [gset2,gset2]
        by_cases e3 : k = j
        ·rw [if_pos e3,if_pos e3]; exact ⟨rfl,rfl⟩
        ·rw [if_neg e3,if_neg e3,gset,gset]
         by_cases e4 : i = j
         ·rw [if_pos e4,if_pos e4]; exact ⟨rfl,rfl⟩
         ·rw [if_neg e4,if_neg e4]
          have hjl := hdn' j (by omega) (fun e9 => e3 e9.symm)
          exact ⟨hjl,htrue j hjl⟩
       ·rw [gset2,if_neg (by omega),gset,if_neg (by omega)]
        cases hb : listed.getD j true with
        | false => rfl
        | true => exact (hup (j - i) j (by omega) hjs (hlt j hjs hb)).elim
    ·have him' : i < m := by
      rcases Nat.lt_or_ge i m with hx | hx
      ·exact hx
      ·exact (hup (i - 1 - m) (i - 1) (by omega) (by omega) (h3 (i - 1) (by simpa using hchain i o (by omega) ho))).elim
     have hst := stepAt i o him' ho
     have hst' := hst a w ⟨hEw.os,hEw.tape,hEw.output,hEw.size,hEw.block⟩ hs (fun k hk => hI k (by
       have hbk := List.all_eq_true.1 hback i (List.mem_range.2 h1)
       rw [ho] at hbk
       have := of_decide_eq_true (List.all_eq_true.1 hbk k hk); omega) (h3 k hk)) (fun t hti => by
      refine ht t (fun j oj hj hlj hoj hdj => ?_)
      have := List.all_eq_true.1 hti j (List.mem_range.2 (by omega))
      rw [hoj] at this
      by_cases e : j = i
      ·subst e; exact hnl hlj
      ·simp [e,hdj] at this
       exact hnl (hcl j oj hlj hoj i this))
     have next : ∀ (v : Value) (w' : World),Below w.heap.size w w' → InvS ops sh i (sl (a.put o.dst v)) w' → wpAny P .any ops Q fuel (listed.setIfInBounds i true) (a.put o.dst v) w' := by
      intro v w' hR hIi
      refine ih _ _ _ (by have := unl_set (n := ops.size) h1 h2; omega) (by rw [gset,if_neg him]; exact hlm) (hEw.trans (hR.mono hEw.size)) ((put_size _ _ _).trans hs) ((put_defers _ _ _).trans hd) ?_ ?_ ?_ ?_
      ·intro j oj hj hoj k hk
       rw [gset] at hj ⊢
       by_cases e : i = k
       ·rw [if_pos e]
       ·rw [if_neg e]
        by_cases e' : i = j
        ·subst e'; rw [ho] at hoj; cases hoj; exact h3 k hk
        ·rw [if_neg e'] at hj; exact hcl j oj hj hoj k hk
      ·intro j hj hl
       rw [gset] at hl ⊢
       by_cases e : i = j
       ·rw [if_pos e]
       ·rw [if_neg e] at hl ⊢; exact hlt j hj hl
      ·intro j hj hl
       rw [gset] at hl
       by_cases e : i = j
       ·subst e; exact hIi
       ·rw [if_neg e] at hl
        have hoj : ops[j]? = some ops[j] := Array.getElem?_eq_getElem (by omega)
        exact stable i j o _ (sl a) _ w w' e ho hoj (hI j hj hl) hR (fun t h => put_sl _ _ _ _ h)
      ·intro t htt
       have hdt : o.dst ≠ some t := htt i o him' (by rw [gset,if_pos rfl]) ho
       rw [put_sl _ _ _ _ hdt]
       exact ht t (fun j oj hj hl hoj => htt j oj hj (by rw [gset]; split <;> simp [hl]) hoj)
     unfold wpOp
     rw [ho]
     show if Region.wanted o (yielded ops a.tmps) = true then _ else _
     split
     ·rename_i hw
      rw [if_pos hw] at hst'
      exact .inl (Oper.wp_mono (fun a' w' ⟨v,e,hR,hIi⟩ => by rw [e] at hIi ⊢; exact next v w' hR hIi) hst')
     ·rename_i hw
      rw [if_neg hw] at hst'
      exact next undef w hst'.1 hst'.2
 refine main ops.size _ a0 w0.drew ?_ ?_ ⟨rfl,rfl,rfl,Nat.le_refl _,fun _ _ => rfl⟩ rfl rfl ?_ ?_ ?_ ?_
 ·unfold unl; exact Nat.le_trans List.countP_le_length (by simp)
 ·simp [Array.getD_eq_getD_getElem?,Array.getElem?_replicate,hm']
 ·intro j o hj; simp [Array.getD_eq_getD_getElem?,Array.getElem?_replicate] at hj
  split at hj <;> simp at hj
 ·intro j hj hl; simp [Array.getD_eq_getD_getElem?,Array.getElem?_replicate,hj] at hl
 ·intro j hj hl; simp [Array.getD_eq_getD_getElem?,Array.getElem?_replicate,show j < ops.size by omega] at hl
 ·intro t _; rfl
theorem run_extract_two {P : Program} {a : Act} {u x : Value} {w : World} {t : Nat} (oe : Oper) (hop : oe.op = .extract (.tmp t) 1) (h : sl a t = .tuple #[x,u]) : (execOp a.eval oe).run P w = .ok (.value u) w := by
 unfold execOp; rw [hop]; simp only [eval_tmp,h]; rfl
end Go.By
namespace Go.Proofs.YtfbmdlfkipipfaaGreatDoor
open Go.RowKit Go.By
theorem info_packet : (Tryz.prog.info? 135).map (·.size) = some 7 := by kernel_rfl
theorem Sl.front' {α : Type} {enc : α → Value} {w : World} {p : Option Addr} {n c k : Nat} {xs : List α} (h : Sl enc w p n c xs) (hk : k ≤ n) : Sl enc w p k c (xs.take k) := by
 have h1 := h.len; have h2 := h.le; have h3 := h.max
 refine ⟨by simp; omega,by omega,h3,fun hp => by have := h.nil hp; omega,?_⟩
 intro i hi
 simp at hi
 obtain ⟨b,o,e,hc⟩ := h.rs i (by omega)
 exact ⟨b,o,e,by rw [hc]; simp⟩
def PZero (w : World) (code : Int) (e : Ending) (w' : World) : Prop := e = .returned (.tuple #[PkVal 0 0 0 0 none 0 0 0 none 0 0,.int .i64 code]) ∧ Below w.heap.size w w'
set_option maxRecDepth 100000 in
set_option maxHeartbeats 2000000 in
theorem PRead_head (L t k D : Nat) (p : Option Addr) (n c : Nat) (xs : List UInt8) (w : World) (hP : POK L t k D) (h : Sl B8 w p n c xs) (hr : Room n) (hc : headC xs ≠ 0) :
  Calls Tryz.prog 110 #[PVal L t k D,.slice p n c] w (PZero w (headC xs)) := by
 have HK : Hid (∀ w,Calls Tryz.prog 73 #[PVal L t k D] w fun e w' => e = .returned (.int .i64 0) ∧ Below w.heap.size w w') := PCheck_ok hP
 have HR : Hid (∀ w,Sl B8 w p n c xs → Calls Tryz.prog 170 #[.slice p n c] w (HRet w 0 0 0 (headC xs))) := fun w h => by have := HRead_any p n c xs w h hr; rw [if_neg hc] at this; exact this
 have H := Lib.hid h
 have e0 : (headC xs != 0) = true := bne_iff_ne.2 hc
 generalize headC xs = C at *
 clear hP h hr hc
 go_enter Tryz.func110,Tryz.ntmps110
 go_wp2_with fail
 refine Calls.mono (HK.out _) ?_
 rintro e w1 ⟨rfl,hb⟩
 obtain ⟨hb1,h1,h2,hs⟩ := two_of hb
 have HB := Lib.hid hb1
 clear hb hb1
 go_wp2_with fail
 refine Calls.mono (HR.out _ (H.out.keep HB.out)) ?_
 rintro e w2 ⟨q0,n0,k0,rfl,hb⟩
 have h1' := (hb.block _ (by omega)).trans h1
 have h2' := (hb.block _ (by omega)).trans h2
 have hs2 : w.heap.size + 2 ≤ w2.heap.size := Nat.le_trans hs hb.size
 have HB2 := Lib.hid (bl HB.out hb HB.out.size)
 clear hb h1 h2 hs
 go_wp2_with (refine wpList_store_row (o := ⟨none,.store 135 (.tmp 4) (.tmp 29),_,_,_,_⟩) rfl 135 (.tmp 4) (.tmp 29) rfl (w.heap.size + 1) #[.int .u8 0,.int .u32 0,.int .u32 0,.int .u8 0,.slice none 0 0,.int .u64 0,.slice none 0 0] rfl rfl _ _ (hal h2') info_packet rfl (by simp [Value.oneCell']) ?_)
 refine bodyPost_ret (res_ct rfl _ _ _ 135 #[.int .u8 0,.int .u32 0,.int .u32 0,.int .u8 0,.slice none 0 0,.int .u64 0,.slice none 0 0] (0,0) _ (.int .i64 C) rfl (hrs (hal h2')) rfl Tryz.underlying135 rfl info_packet) rfl ?_
 exact ⟨rfl,below_row (al HB2.out HB2.out.size) (by omega)⟩
set_option maxRecDepth 100000 in
set_option maxHeartbeats 2000000 in
theorem PRead_len (L t k D : Nat) (p : Option Addr) (n c : Nat) (xs : List UInt8) (w : World) (hP : POK L t k D) (h : Sl B8 w p n c xs) (hr : Room n) (hc : headC xs = 0) (hn : n ≠ lenP (xs.getD 1 0) k t) :
  Calls Tryz.prog 110 #[PVal L t k D,.slice p n c] w (PZero w 4) := by
 have HK : Hid (∀ w,Calls Tryz.prog 73 #[PVal L t k D] w fun e w' => e = .returned (.int .i64 0) ∧ Below w.heap.size w w') := PCheck_ok hP
 have hm := headC_mode hc
 have HR : Hid (∀ w,Sl B8 w p n c xs → Calls Tryz.prog 170 #[.slice p n c] w (HRet w (xs.getD 1 0) (get4 ((xs.drop 2).take 4)) (get4 ((xs.drop 6).take 4)) 0)) := fun w h => by have := HRead_any p n c xs w h hr; rw [if_pos hc] at this; exact this
 have HN : Hid (∀ w,Calls Tryz.prog 96 #[PVal L t k D,B8 (xs.getD 1 0)] w fun e w' => e = .returned (.tuple #[.int .i64 (lenP (xs.getD 1 0) k t : Nat),.int .i64 0]) ∧ Below w.heap.size w w') := fun w => PLength_ok L t k D _ w hP hm
 have H := Lib.hid h
 have e0 : ((n : Int) != (lenP (xs.getD 1 0) k t : Int)) = true := bne_iff_ne.2 (by omega)
 generalize lenP (xs.getD 1 0) k t = N at *
 generalize xs.getD 1 0 = m at *
 generalize get4 ((xs.drop 2).take 4) = O at *
 generalize get4 ((xs.drop 6).take 4) = M at *
 clear hP h hr hc hm hn
 go_enter Tryz.func110,Tryz.ntmps110
 go_wp2_with fail
 refine Calls.mono (HK.out _) ?_
 rintro e w1 ⟨rfl,hb⟩
 obtain ⟨hb1,h1,h2,hs⟩ := two_of hb
 have HB := Lib.hid hb1
 clear hb hb1
 go_wp2_with fail
 refine Calls.mono (HR.out _ (H.out.keep HB.out)) ?_
 rintro e w2 ⟨q0,n0,k0,rfl,hb⟩
 have h1' := (hb.block _ (by omega)).trans h1
 have h2' := (hb.block _ (by omega)).trans h2
 have hs2 : w.heap.size + 2 ≤ w2.heap.size := Nat.le_trans hs hb.size
 have HB2 := Lib.hid (bl HB.out hb HB.out.size)
 clear hb h1 h2 hs
 have c0 : ∀ o',(w2.alloc o').cell? ⟨w.heap.size,0,none⟩ = _ := fun _ => calloc (cells_four h1').1
 have c1 : ∀ o',(w2.alloc o').cell? ⟨w.heap.size,1,none⟩ = _ := fun _ => calloc (cells_four h1').2.1
 have c2 : ∀ o',(w2.alloc o').cell? ⟨w.heap.size,2,none⟩ = _ := fun _ => calloc (cells_four h1').2.2.1
 have c3 : ∀ o',(w2.alloc o').cell? ⟨w.heap.size,3,none⟩ = _ := fun _ => calloc (cells_four h1').2.2.2
 go_wp2_with fail
 refine Calls.mono (HN.out _) ?_
 rintro e w3 ⟨rfl,hb⟩
 obtain ⟨hb3,h3,hs3⟩ := one_of hb
 have h1 := (hb3.block _ (by omega)).trans h1'
 have h2 := (hb3.block _ (by omega)).trans h2'
 have HB3 := Lib.hid (bl HB2.out hb3 HB2.out.size)
 have HX : Hid (w.heap.size + 2 ≤ w2.heap.size) := hs2
 clear hb hb3 h1' h2' c0 c1 c2 c3
 go_wp2_with (refine wpList_store_row (o := ⟨none,.store 135 (.tmp 4) (.tmp 46),_,_,_,_⟩) rfl 135 (.tmp 4) (.tmp 46) rfl (w.heap.size + 1) #[.int .u8 0,.int .u32 0,.int .u32 0,.int .u8 0,.slice none 0 0,.int .u64 0,.slice none 0 0] rfl rfl _ _ h2 info_packet rfl (by simp [Value.oneCell']) ?_)
 refine bodyPost_ret (res_ct rfl _ _ _ 135 #[.int .u8 0,.int .u32 0,.int .u32 0,.int .u8 0,.slice none 0 0,.int .u64 0,.slice none 0 0] (0,0) _ (.int .i64 4) rfl (hrs h2) rfl Tryz.underlying135 rfl info_packet) rfl ?_
 exact ⟨rfl,below_row HB3.out (by omega)⟩
set_option maxRecDepth 100000 in
set_option maxHeartbeats 4000000 in
theorem PRead_sum (L t k D : Nat) (b o : Nat) (n c : Nat) (xs : List UInt8) (w : World) (hP : POK L t k D) (hT : HalfT w) (h : Sl B8 w (some ⟨b,o,none⟩) n c xs) (hr : Room n) (hc : headC xs = 0) (E : Nat) (hn : n = lenP (xs.getD 1 0) k t) (hE : n = E + 4) (hs : get4 ((xs.drop E).take 4) ≠ crcS (xs.take E)) :
  Calls Tryz.prog 110 #[PVal L t k D,.slice (some ⟨b,o,none⟩) n c] w (PZero w 10) := by
 have HK : Hid (∀ w,Calls Tryz.prog 73 #[PVal L t k D] w fun e w' => e = .returned (.int .i64 0) ∧ Below w.heap.size w w') := PCheck_ok hP
 have hm := headC_mode hc
 have HR : Hid (∀ w,Sl B8 w (some ⟨b,o,none⟩) n c xs → Calls Tryz.prog 170 #[.slice (some ⟨b,o,none⟩) n c] w (HRet w (xs.getD 1 0) (get4 ((xs.drop 2).take 4)) (get4 ((xs.drop 6).take 4)) 0)) := fun w h => by have := HRead_any (some ⟨b,o,none⟩) n c xs w h hr; rw [if_pos hc] at this; exact this
 have HN : Hid (∀ w,Calls Tryz.prog 96 #[PVal L t k D,B8 (xs.getD 1 0)] w fun e w' => e = .returned (.tuple #[.int .i64 (n : Nat),.int .i64 0]) ∧ Below w.heap.size w w') := fun w => by rw [hn]; exact PLength_ok L t k D _ w hP hm
 have H := Lib.hid h
 have HT := Lib.hid hT
 have hle := h.le
 have hmx := h.max
 unfold maxLen at hmx
 have HE : Hid (E + 4 ≤ n) := by show E + 4 ≤ n; omega
 have HE' : Hid (E ≤ n) := by show E ≤ n; omega
 have eE : (n : Int) - 4 = (E : Int) := by omega
 have eN : n - E = 4 := by omega
 have eC : ¬ (c = E) := by omega
 have eb1 : (E : Int) ≤ (n : Int) := by omega
 have eb2 : (E : Int) ≤ (c : Int) := by omega
 obtain ⟨G,hG⟩ : ∃ G,get4 ((xs.drop E).take 4) = G := ⟨_,rfl⟩
 have HG := Lib.hid hG
 obtain ⟨C,hC⟩ : ∃ C,crcS ([xs.take E].flatten) = C := ⟨_,rfl⟩
 have HC := Lib.hid hC
 have e0 : ((G : Int) != (C : Int)) = true := bne_iff_ne.2 (by rw [hG] at hs; simp at hC; rw [hC] at hs; omega)
 generalize xs.getD 1 0 = m at *
 generalize get4 ((xs.drop 2).take 4) = O at *
 generalize get4 ((xs.drop 6).take 4) = M at *
 clear hP h hr hc hm hn hs hT hG hC hE
 go_enter Tryz.func110,Tryz.ntmps110
 go_wp2_with fail
 refine Calls.mono (HK.out _) ?_
 rintro e w1 ⟨rfl,hb⟩
 obtain ⟨hb1,h1,h2,hs⟩ := two_of hb
 have HB := Lib.hid hb1
 clear hb hb1
 go_wp2_with fail
 refine Calls.mono (HR.out _ (H.out.keep HB.out)) ?_
 rintro e w2 ⟨q0,n0,k0,rfl,hb⟩
 have h1' := (hb.block _ (by omega)).trans h1
 have h2' := (hb.block _ (by omega)).trans h2
 have hs2 : w.heap.size + 2 ≤ w2.heap.size := Nat.le_trans hs hb.size
 have HB2 := Lib.hid (bl HB.out hb HB.out.size)
 clear hb h1 h2 hs
 have c0 : ∀ o',(w2.alloc o').cell? ⟨w.heap.size,0,none⟩ = _ := fun _ => calloc (cells_four h1').1
 have c1 : ∀ o',(w2.alloc o').cell? ⟨w.heap.size,1,none⟩ = _ := fun _ => calloc (cells_four h1').2.1
 have c2 : ∀ o',(w2.alloc o').cell? ⟨w.heap.size,2,none⟩ = _ := fun _ => calloc (cells_four h1').2.2.1
 have c3 : ∀ o',(w2.alloc o').cell? ⟨w.heap.size,3,none⟩ = _ := fun _ => calloc (cells_four h1').2.2.2
 go_wp2_with fail
 refine Calls.mono (HN.out _) ?_
 rintro e w3 ⟨rfl,hb⟩
 obtain ⟨hb3,h3,hs3⟩ := one_of hb
 have h1 := (hb3.block _ (by omega)).trans h1'
 have h2 := (hb3.block _ (by omega)).trans h2'
 have HB3 := Lib.hid (bl HB2.out hb3 HB2.out.size)
 have HX : Hid (w.heap.size + 2 ≤ w2.heap.size) := hs2
 clear hb hb3 h1' h2' c0 c1 c2 c3
 go_wp2_with fail
 refine Calls.mono (SGet_any _ _ _ _ _ (Sl.part (k := E) (m := 4) (H.out.keep HB3.out) HE.out)) ?_
 rintro e w4 ⟨rfl,hb⟩
 rw [if_pos rfl,HG.out]
 have h1' := (hb.block _ (by omega)).trans h1
 have h2' := (hb.block _ (by omega)).trans h2
 have h3' := (hb.block _ (by omega)).trans h3
 have hs4 : w2.heap.size + 1 ≤ w4.heap.size := Nat.le_trans hs3 hb.size
 have HB4 := Lib.hid (bl HB3.out hb HB3.out.size)
 clear hb h1 h2 h3 hs3
 go_wp2_with fail
 refine Calls.mono (SOf_any _ _ _ [xs.take E] _ (sl2_one (hnew rfl) ((Sl.front' (H.out.keep HB4.out) HE'.out).keep (al (Below.refl _ _) (Nat.le_refl _)))) (HT.out.keep (al HB4.out HB4.out.size))) ?_
 rintro e w5 ⟨rfl,hb⟩
 obtain ⟨hb5,-,hs5'⟩ := one_of hb
 have h1 := (hb5.block _ (by omega)).trans h1'
 have h2 := (hb5.block _ (by omega)).trans h2'
 have h3 := (hb5.block _ (by omega)).trans h3'
 have hs5 : w2.heap.size + 1 ≤ w5.heap.size := by omega
 have HB5 := Lib.hid (bl HB4.out hb5 HB4.out.size)
 clear hb hb5 h1' h2' h3' hs5' hs4
 rw [HC.out]
 go_wp2_with (refine wpList_store_row (o := ⟨none,.store 135 (.tmp 4) (.tmp 67),_,_,_,_⟩) rfl 135 (.tmp 4) (.tmp 67) rfl (w.heap.size + 1) #[.int .u8 0,.int .u32 0,.int .u32 0,.int .u8 0,.slice none 0 0,.int .u64 0,.slice none 0 0] rfl rfl _ _ h2 info_packet rfl (by simp [Value.oneCell']) ?_)
 refine bodyPost_ret (res_ct rfl _ _ _ 135 #[.int .u8 0,.int .u32 0,.int .u32 0,.int .u8 0,.slice none 0 0,.int .u64 0,.slice none 0 0] (0,0) _ (.int .i64 10) rfl (hrs h2) rfl Tryz.underlying135 rfl info_packet) rfl ?_
 exact ⟨rfl,below_row HB5.out (by omega)⟩
set_option maxRecDepth 100000 in
set_option maxHeartbeats 4000000 in
theorem PRead_obj (L t k D : Nat) (b o : Nat) (n c : Nat) (xs : List UInt8) (w : World) (hP : POK L t k D) (hT : HalfT w) (h : Sl B8 w (some ⟨b,o,none⟩) n c xs) (hr : Room n) (hc : headC xs = 0) (E : Nat) (hn : n = lenP (xs.getD 1 0) k t) (hE : n = E + 4) (hs : get4 ((xs.drop E).take 4) = crcS (xs.take E)) (ho : get4 ((xs.drop 2).take 4) ≠ D) :
  Calls Tryz.prog 110 #[PVal L t k D,.slice (some ⟨b,o,none⟩) n c] w (PZero w 9) := by
 have HK : Hid (∀ w,Calls Tryz.prog 73 #[PVal L t k D] w fun e w' => e = .returned (.int .i64 0) ∧ Below w.heap.size w w') := PCheck_ok hP
 have hm := headC_mode hc
 have HR : Hid (∀ w,Sl B8 w (some ⟨b,o,none⟩) n c xs → Calls Tryz.prog 170 #[.slice (some ⟨b,o,none⟩) n c] w (HRet w (xs.getD 1 0) (get4 ((xs.drop 2).take 4)) (get4 ((xs.drop 6).take 4)) 0)) := fun w h => by have := HRead_any (some ⟨b,o,none⟩) n c xs w h hr; rw [if_pos hc] at this; exact this
 have HN : Hid (∀ w,Calls Tryz.prog 96 #[PVal L t k D,B8 (xs.getD 1 0)] w fun e w' => e = .returned (.tuple #[.int .i64 (n : Nat),.int .i64 0]) ∧ Below w.heap.size w w') := fun w => by rw [hn]; exact PLength_ok L t k D _ w hP hm
 have H := Lib.hid h
 have HT := Lib.hid hT
 have hle := h.le
 have hmx := h.max
 unfold maxLen at hmx
 have HE : Hid (E + 4 ≤ n) := by show E + 4 ≤ n; omega
 have HE' : Hid (E ≤ n) := by show E ≤ n; omega
 have eE : (n : Int) - 4 = (E : Int) := by omega
 have eN : n - E = 4 := by omega
 have eC : ¬ (c = E) := by omega
 have eb1 : (E : Int) ≤ (n : Int) := by omega
 have eb2 : (E : Int) ≤ (c : Int) := by omega
 obtain ⟨G,hG⟩ : ∃ G,get4 ((xs.drop E).take 4) = G := ⟨_,rfl⟩
 have HG := Lib.hid hG
 obtain ⟨C,hC⟩ : ∃ C,crcS ([xs.take E].flatten) = C := ⟨_,rfl⟩
 have HC := Lib.hid hC
 have e0 : C = G := by rw [hG] at hs; simp at hC; rw [hC] at hs; exact hs.symm
 subst e0
 have e1 : ((get4 ((xs.drop 2).take 4) : Int) != (D : Int)) = true := bne_iff_ne.2 (by omega)
 generalize xs.getD 1 0 = m at *
 generalize get4 ((xs.drop 2).take 4) = O at *
 generalize get4 ((xs.drop 6).take 4) = M at *
 clear hP h hr hc hm hn hs ho hT hG hC hE
 go_enter Tryz.func110,Tryz.ntmps110
 go_wp2_with fail
 refine Calls.mono (HK.out _) ?_
 rintro e w1 ⟨rfl,hb⟩
 obtain ⟨hb1,h1,h2,hs⟩ := two_of hb
 have HB := Lib.hid hb1
 clear hb hb1
 go_wp2_with fail
 refine Calls.mono (HR.out _ (H.out.keep HB.out)) ?_
 rintro e w2 ⟨q0,n0,k0,rfl,hb⟩
 have h1' := (hb.block _ (by omega)).trans h1
 have h2' := (hb.block _ (by omega)).trans h2
 have hs2 : w.heap.size + 2 ≤ w2.heap.size := Nat.le_trans hs hb.size
 have HB2 := Lib.hid (bl HB.out hb HB.out.size)
 clear hb h1 h2 hs
 have c0 : ∀ o',(w2.alloc o').cell? ⟨w.heap.size,0,none⟩ = _ := fun _ => calloc (cells_four h1').1
 have c1 : ∀ o',(w2.alloc o').cell? ⟨w.heap.size,1,none⟩ = _ := fun _ => calloc (cells_four h1').2.1
 have c2 : ∀ o',(w2.alloc o').cell? ⟨w.heap.size,2,none⟩ = _ := fun _ => calloc (cells_four h1').2.2.1
 have c3 : ∀ o',(w2.alloc o').cell? ⟨w.heap.size,3,none⟩ = _ := fun _ => calloc (cells_four h1').2.2.2
 go_wp2_with fail
 refine Calls.mono (HN.out _) ?_
 rintro e w3 ⟨rfl,hb⟩
 obtain ⟨hb3,h3,hs3⟩ := one_of hb
 have h1 := (hb3.block _ (by omega)).trans h1'
 have h2 := (hb3.block _ (by omega)).trans h2'
 have HB3 := Lib.hid (bl HB2.out hb3 HB2.out.size)
 have HX : Hid (w.heap.size + 2 ≤ w2.heap.size) := hs2
 clear hb hb3 h1' h2' c0 c1 c2 c3
 go_wp2_with fail
 refine Calls.mono (SGet_any _ _ _ _ _ (Sl.part (k := E) (m := 4) (H.out.keep HB3.out) HE.out)) ?_
 rintro e w4 ⟨rfl,hb⟩
 rw [if_pos rfl,HG.out]
 have h1' := (hb.block _ (by omega)).trans h1
 have h2' := (hb.block _ (by omega)).trans h2
 have h3' := (hb.block _ (by omega)).trans h3
 have hs4 : w2.heap.size + 1 ≤ w4.heap.size := Nat.le_trans hs3 hb.size
 have HB4 := Lib.hid (bl HB3.out hb HB3.out.size)
 clear hb h1 h2 h3 hs3
 go_wp2_with fail
 refine Calls.mono (SOf_any _ _ _ [xs.take E] _ (sl2_one (hnew rfl) ((Sl.front' (H.out.keep HB4.out) HE'.out).keep (al (Below.refl _ _) (Nat.le_refl _)))) (HT.out.keep (al HB4.out HB4.out.size))) ?_
 rintro e w5 ⟨rfl,hb⟩
 obtain ⟨hb5,-,hs5'⟩ := one_of hb
 have h1 := (hb5.block _ (by omega)).trans h1'
 have h2 := (hb5.block _ (by omega)).trans h2'
 have h3 := (hb5.block _ (by omega)).trans h3'
 have hs5 : w2.heap.size + 1 ≤ w5.heap.size := by omega
 have HB5 := Lib.hid (bl HB4.out hb5 HB4.out.size)
 clear hb hb5 h1' h2' h3' hs5' hs4
 rw [HC.out]
 obtain ⟨c0,c1,c2,c3⟩ := cells_four h1
 obtain ⟨d0,d1,d2⟩ := cells_three h3
 go_wp2_with (refine wpList_store_row (o := ⟨none,.store 135 (.tmp 4) (.tmp 73),_,_,_,_⟩) rfl 135 (.tmp 4) (.tmp 73) rfl (w.heap.size + 1) #[.int .u8 0,.int .u32 0,.int .u32 0,.int .u8 0,.slice none 0 0,.int .u64 0,.slice none 0 0] rfl rfl _ _ h2 info_packet rfl (by simp [Value.oneCell']) ?_)
 refine bodyPost_ret (res_ct rfl _ _ _ 135 #[.int .u8 0,.int .u32 0,.int .u32 0,.int .u8 0,.slice none 0 0,.int .u64 0,.slice none 0 0] (0,0) _ (.int .i64 9) rfl (hrs h2) rfl Tryz.underlying135 rfl info_packet) rfl ?_
 exact ⟨rfl,below_row HB5.out (by omega)⟩
end Go.Proofs.YtfbmdlfkipipfaaGreatDoor
