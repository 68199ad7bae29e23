/- The contract of a system's Put: a row more. The contract of vec.Unit. The contract of a system's Known. The example of chapter 7. The law's example of chapter 8; what is told of no system. A system's Rest and Put,where the sizes don't fit,or nothing is left. The contract of the reference's Put of chapter 8. The contract of the reference's Known of chapter 8. The law's Same and Fit of chapter 8. A system's Rows and Clone. A system's Clone. A system's Solve. What a system's Put leaves as it is; Put of an equation that fits,and the reference's,whatever comes of it. Chapter 19: a taker in memory; taker.New,Rows,Gate. A region that draws its order,op by op: what holds of the world is told by which operations have run. A region that draws its order,with one call that writes: all else is told values. Chapter 19: taker.Take. Chapter 19: taker.Take of a packet. Chapter 19: taker.Take of a packet that is put. The contracts of the whole of the symbols,Join and Clean. The contracts of Join and Clean. The contracts of the reference's All and of the law's few; the chapter's example. The contract of the law's few; the chapter's example. Chapter 11: fits,piece,Cut,Spread. Chapter 17: a sender in memory; sender.New,Send,Explicit. Chapter 17: sender.Send. -/
import Derived.Test.YtccaiiigdfieoaaGreatDoorZg7
import Derived.Laws.OwnMore
import Derived.OwnWalk
namespace Go.By
open Go.RowKit
structure Chg (w w' : World) (be : Nat) (v : Value) : Prop where
 os : w'.os = w.os
 tape : w'.tape = w.tape
 output : w'.output = w.output
 size : w.heap.size ≤ w'.heap.size
 block : ∀ b,b < w.heap.size → b ≠ be → v.ownBlock ≠ some b → w'.heap[b]? = w.heap[b]?
theorem Chg.of {w w' : World} (be : Nat) (v : Value) (h : Below w.heap.size w w') : Chg w w' be v := ⟨h.os,h.tape,h.output,h.size,fun b hb _ _ => h.block b hb⟩
theorem Chg.below {w a b : World} {be : Nat} {v : Value} (h : Chg w a be v) (g : Below a.heap.size a b) : Chg w b be v := ⟨g.os.trans h.os,g.tape.trans h.tape,g.output.trans h.output,Nat.le_trans h.size g.size,fun k hk h1 h2 => (g.block k (Nat.lt_of_lt_of_le hk h.size)).trans (h.block k hk h1 h2)⟩
theorem Chg.grown {w a b : World} {be : Nat} {v : Value} (h : Chg w a be v) (g : a.grownBy b v.ownBlock) : Chg w b be v := ⟨g.os.trans h.os,g.tape.trans h.tape,g.output.trans h.output,Nat.le_trans h.size g.size,fun k hk h1 h2 => (g.block k (Nat.lt_of_lt_of_le hk h.size) (fun e => h2 e.symm)).trans (h.block k hk h1 h2)⟩
theorem Chg.box {w a : World} {be : Nat} {v : Value} (h : Chg w a be v) (o : Nat) (u : Value) : Chg w (a.setCell ⟨be,o,none⟩ u) be v := ⟨h.os,h.tape,h.output,by simpa using h.size,fun k hk h1 h2 => (Below.heap_setCell _ _ _ _ h1).trans (h.block k hk h1 h2)⟩
theorem take_while {α : Type} (p : α → Bool) : ∀ (M : List α) (r : Nat),r ≤ M.length → (∀ j x,j < r → M[j]? = some x → p x = true) → (∀ x,M[r]? = some x → p x = false) → M.takeWhile p = M.take r ∧ M.dropWhile p = M.drop r
 | [],r,h,_,_ => by simp at h; subst h; exact ⟨rfl,rfl⟩
 | a :: M,0,_,_,h2 => by
  have := h2 a rfl
  rw [List.takeWhile_cons,List.dropWhile_cons,this]; exact ⟨rfl,rfl⟩
 | a :: M,r + 1,h,h1,h2 => by
  have := h1 0 a (by omega) rfl
  obtain ⟨e1,e2⟩ := take_while p M r (by simpa using h) (fun j x hj hx => h1 (j + 1) x (by omega) (by simpa using hx)) (fun x hx => h2 x (by simpa using hx))
  rw [List.takeWhile_cons,List.dropWhile_cons,this,if_pos rfl,if_pos rfl,e1,e2]; exact ⟨rfl,rfl⟩
theorem RwL.ne_box {T2 T1 TX g n base : Nat} {w : World} {v : Value} {K : List (List UInt8 × List UInt8)} {cs : Array Value} {fr : Nat × Nat} (h : RwL T2 T1 w base v n K) (hX : w.heap[g]? = some (.cells cs TX fr)) (hT : T2 ≠ TX) : v.ownBlock ≠ some g := by
 obtain ⟨vs,a,b,o,r⟩ := h
 intro e
 rcases o.2 with ⟨hv,_⟩ | ⟨g',cap,cur,hv,_,hh,_⟩
 ·rw [hv] at e; simp [Value.ownBlock] at e
 ·rw [hv] at e; simp [Value.ownBlock] at e
  rw [e,hX] at hh
  injection hh with hh; injection hh with _ hh _; exact hT hh.symm
def shpOne (T B : Nat) (u1 u2 : Value) : Shp := ⟨fun v W => ∃ vb,v = .slice (some ⟨vb,0,none⟩) 1 1 ∧ W.heap[vb]? = some (.cells #[u1,u2] T (0,0)) ∧ B ≤ vb,fun _ _ _ ⟨vb,e,h,g⟩ hb => ⟨vb,e,(hb.block _ (blk_lt h)).trans h,g⟩⟩
def shpRowO (T B : Nat) (r : List UInt8 × List UInt8) : Shp := ⟨fun v W => ∃ u1 u2,v = .agg #[u1,u2] ∧ Bw T W B u1 r.1 ∧ Bw T W B u2 r.2,fun _ _ _ ⟨u1,u2,e,h1,h2⟩ hb => ⟨u1,u2,e,h1.keep hb,h2.keep hb⟩⟩
def shpRowTO (T B : Nat) (r : List UInt8 × List UInt8) (code : Int) : Shp := ⟨fun v W => ∃ u,v = .tuple #[u,.int .i64 code] ∧ (shpRowO T B r).ok u W,fun _ _ _ ⟨u,e,h⟩ hb => ⟨u,e,(shpRowO T B r).keep _ _ _ h hb⟩⟩
theorem RwL.blk {T2 T1 base n c g : Nat} {w : World} {K : List (List UInt8 × List UInt8)} (h : RwL T2 T1 w base (.slice (some ⟨g,0,none⟩) n c) n K) : ∃ cur : Array Value,w.heap[g]? = some (.cells cur T2 (0,0)) := by
 obtain ⟨vs,a,b,o,r⟩ := h
 rcases o.2 with ⟨hv,_⟩ | ⟨g',cap,cur,hv,_,hh,_⟩
 ·simp at hv
 ·obtain ⟨rfl,rfl⟩ : g = g' ∧ c = cap := by simpa using hv
  exact ⟨cur,hh⟩
theorem Bw.sl' {T1 base m c : Nat} {w : World} {q : Option Addr} {xs : List UInt8} (h : Bw T1 w base (.slice q m c) xs) : Sl B8 w q m c xs := by
 obtain ⟨q',m',c',e,l,o⟩ := h; cases e; exact Sl.of_owns o
theorem Bw.mk {T1 base m c : Nat} {w : World} {q : Option Addr} {xs : List UInt8} (o : w.ownsRow base T1 1 (.slice q m c) m (xs.map B8)) (l : xs.length = m) : Bw T1 w base (.slice q m c) xs := ⟨q,m,c,rfl,l,o⟩
theorem Bw.mono {T1 base b2 : Nat} {w : World} {v : Value} {xs : List UInt8} (h : Bw T1 w base v xs) (hb : b2 ≤ base) : Bw T1 w b2 v xs := by
 obtain ⟨q',m',c',e,l,o⟩ := h; exact ⟨q',m',c',e,l,owns_mono o hb⟩
end Go.By
namespace Go.Proofs.YtccaiiigdfieoaaGreatDoor
open Go.RowKit Go.By
theorem zero_lead {v : List UInt8} (h : ¬ leadS v < 0) : zeroS v = false := by
 unfold zeroS
 cases e : v.all (fun x => decide (x = 0)) with
 | false => rfl
 | true =>
  refine absurd ?_ h
  have hz : ∀ x,x ∈ v → x = 0 := fun x hx => by simpa using List.all_eq_true.1 e x hx
  have : leadS v = -1 := idxf_none (k := v.length) rfl fun j y _ hy => by rw [hz y (List.mem_of_getElem? hy)]; rfl
  rw [this]; decide
set_option maxRecDepth 100000 in
set_option maxHeartbeats 8000000 in
theorem EPut_grown (base be k t n : Nat) (v : Value) (K : List Rw) (p1 p2 : Option Addr) (c1 c2 : Nat) (x : Rw) (w : World) (hE : Elm w base be k t v n K) (s1 : Sl B8 w p1 k c1 x.1) (s2 : Sl B8 w p2 t c2 x.2) (hR : Red k t K) (hk : k ≤ 4096) (ht : t ≤ 65535) (hn : ¬ leadS (restF K x).1 < 0) (hnn : n ≤ 4096) :
  Calls Tryz.prog 64 #[.pointer (some ⟨be,0,none⟩),.agg #[.slice p1 k c1,.slice p2 t c2]] w fun e w' => e = .returned (.tuple #[.int .i64 0,.int .i64 0]) ∧
   ∃ v',Elm w' base be k t v' (n + 1) (putF K x) ∧ Chg w w' be v ∧ (v'.ownBlock = v.ownBlock ∨ ∀ b,v'.ownBlock = some b → w.heap.size ≤ b) := by
 have hx : Fit k t x := ⟨s1.len,s2.len⟩
 obtain ⟨q,c,rfl⟩ := hE.rows.shape
 obtain ⟨l,hL,hF,h0,-,-⟩ := rest_norm hR.kept hx hn
 obtain ⟨Y,hY⟩ : ∃ Y,Y = normS (restF K x) := ⟨_,rfl⟩
 have hput : Hid (putF K x = putAt (K.map (clrF Y)) Y) := by rw [hY]; rfl
 rw [← hY] at hL hF h0
 have hKn := hE.rows.len
 have hclr : Hid (∀ r,r ∈ K → Fit k t (clrF Y r) ∧ LeadAt (clrF Y r) (leadN r)) := fun r hr => by
  have h := clr_row hL hF (hR.kept.rows r hr).1 (hR.kept.rows r hr).2 (h0 r hr)
  exact ⟨h.1,h.2.1⟩
 obtain ⟨f,hf⟩ : ∃ f : Nat → Bool,f = fun i => decide ((l : Int) < leadS ((K.map (clrF Y)).getD i ([],[])).1) := ⟨_,rfl⟩
 have hfat : Hid (∀ i a,K[i]? = some a → f i = decide ((l : Int) < (leadN a : Int))) := fun i a ha => by
  rw [hf]
  show decide ((l : Int) < leadS ((K.map (clrF Y)).getD i ([],[])).1) = _
  rw [List.getD_eq_getElem?_getD,List.getElem?_map,ha]
  show decide ((l : Int) < leadS (clrF Y a).1) = _
  rw [(hclr.out a (List.mem_of_getElem? ha)).2.1]
 have hmono : Hid (∀ i j,i ≤ j → j < n → f i = true → f j = true) := fun i j hij hj hfi => by
  obtain ⟨a,ha⟩ : ∃ a,K[i]? = some a := ⟨_,List.getElem?_eq_getElem (by omega)⟩
  obtain ⟨b,hb⟩ : ∃ b,K[j]? = some b := ⟨_,List.getElem?_eq_getElem (by omega)⟩
  rw [hfat.out i a ha] at hfi
  rw [hfat.out j b hb]
  rcases Nat.lt_or_ge i j with g | g
  ·have h1 := List.pairwise_iff_getElem.1 hR.kept.sorted i j (by omega) (by omega) g
   have ea : K[i]'(by omega) = a := by rw [List.getElem?_eq_getElem (by omega)] at ha; injection ha
   have eb : K[j]'(by omega) = b := by rw [List.getElem?_eq_getElem (by omega)] at hb; injection hb
   rw [ea,eb] at h1
   have h2 := of_decide_eq_true hfi
   exact decide_eq_true (by omega)
  ·have e : i = j := by omega
   subst e; rw [ha] at hb; cases hb; exact hfi
 have hfin : Hid (∀ r,r ≤ n → (∀ i,i < r → f i = false) → (∀ i,r ≤ i → i < n → f i = true) → (K.map (clrF Y)).take r ++ Y :: (K.map (clrF Y)).drop r = putF K x) := fun r hr h1 h2 => by
  rw [hput.out]
  unfold putAt
  rw [hL.1]
  obtain ⟨e1,e2⟩ := take_while (fun r : Rw => decide (leadS r.1 ≤ (l : Int))) (K.map (clrF Y)) r (by rw [List.length_map]; omega) (fun j z hj hz => by
   have h3 := h1 j hj
   rw [hf] at h3
   have h4 : (K.map (clrF Y)).getD j ([],[]) = z := by rw [List.getD_eq_getElem?_getD,hz]; rfl
   simp only [h4] at h3
   have h5 := of_decide_eq_false h3
   exact decide_eq_true (by omega)) (fun z hz => by
   have hrn : r < n := by have := (List.getElem?_eq_some_iff.1 hz).1; rw [List.length_map] at this; omega
   have h3 := h2 r (Nat.le_refl _) hrn
   rw [hf] at h3
   have h4 : (K.map (clrF Y)).getD r ([],[]) = z := by rw [List.getD_eq_getElem?_getD,hz]; rfl
   simp only [h4] at h3
   have h5 := of_decide_eq_true h3
   exact decide_eq_false (by omega))
  rw [e1,e2]
 have hbe := hE.old
 have HE := Lib.hid hE; have S1 := Lib.hid s1; have S2 := Lib.hid s2; have HLY := Lib.hid hL.1; have HFY := Lib.hid hF; have HKL := Lib.hid hR.kept.rows; have HKN := Lib.hid hKn; have HYE := Lib.hid hY
 have HZ : Hid (zeroS (restF K x).1 = false) := zero_lead hn
 have HBE : Hid (be < w.heap.size) := blk_lt hE.box
 have hlk : l < k := hL.lt hF
 have HFF := Lib.hid hf
 have HRF : Hid (Fit k t (restF K x)) := hx.rest (fun a ha => (hR.kept.rows a ha).1)
 have hbw : base ≤ w.heap.size := by have h1 := blk_lt hE.box; omega
 clear hE s1 s2 hR hn hx hL hF h0 hY hKn hf
 go_enter Tryz.func64,Tryz.ntmps64
 go_wp2_with fail
 refine use_w1 (fun W => Below w.heap.size w W ∧ W.heap[w.heap.size]? = some (.cells #[.pointer (some ⟨be,0,none⟩)] 114 (0,0)) ∧ w.heap.size + 2 ≤ W.heap.size) ⟨al (al (Below.refl _ _) (Nat.le_refl _)) (by simp),hal (hnew rfl),by simp⟩ ?_
 rintro w2 ⟨b0,x0,z0⟩
 refine Calls.mono (ERest_any base be k t n _ K p1 p2 c1 c2 x w2 (HE.out.keep b0) (S1.out.keep b0) (S2.out.keep b0) HKL.out hk ht) ?_
 rintro e w3 ⟨q1,m1,g1,q2,m2,g2,l1,l2,rfl,o1,o2,hb⟩
 have B3 := Lib.hid (bl b0 hb b0.size)
 have X3 := Lib.hid ((hb.block _ (blk_lt x0)).trans x0)
 have L1 := Lib.hid (Sl.of_owns o1); have L2 := Lib.hid (Sl.of_owns o2)
 clear b0 x0 z0 o1 o2 hb l1 l2 S1 S2
 go_wp2_with fail
 refine use_w1 (fun W => Below w3.heap.size w3 W ∧ W.heap[w3.heap.size]? = some (.cells #[.slice q1 m1 g1,.slice q2 m2 g2] 99 (0,0))) ⟨al (Below.refl _ _) (Nat.le_refl _),hnew rfl⟩ ?_
 rintro w4 ⟨b4,x4⟩
 obtain ⟨b6,h6⟩ : ∃ b6,b6 = w3.heap.size := ⟨_,rfl⟩
 rw [← h6] at x4 ⊢
 have hb6 : w.heap.size < b6 := by rw [h6]; exact blk_lt X3.out
 have hb64 : b6 < w4.heap.size := blk_lt x4
 refine Calls.mono (VZero_any q1 m1 g1 (restF K x).1 w4 (L1.out.keep b4)) ?_
 rintro e w' ⟨rfl,rfl⟩
 rw [HZ.out]
 have B4 := Lib.hid (bl B3.out b4 B3.out.size)
 have X24 := Lib.hid ((b4.block _ (blk_lt X3.out)).trans X3.out)
 have X64 := Lib.hid x4
 have L14 := Lib.hid (L1.out.keep b4); have L24 := Lib.hid (L2.out.keep b4)
 have hr1 : m1 ≤ 4096 := by have h1 := L1.out.len; have h2 := HRF.out.1; omega
 have hr2 : m2 ≤ 65535 := by have h1 := L2.out.len; have h2 := HRF.out.2; omega
 clear b4 x4 B3 X3 L1 L2 h6
 obtain ⟨y0,y1⟩ := cells2 X64.out
 go_wp2_with fail
 refine Calls.mono (Norm_any q1 q2 m1 g1 m2 g2 (restF K x).1 (restF K x).2 w4 L14.out L24.out (by unfold Room; omega) (by unfold Room; omega)) ?_
 rintro e w5 ⟨q5,m5,g5,q6,m6,g6,l5,l6,rfl,o5,o6,hb⟩
 rw [← show Y = normS ((restF K x).1,(restF K x).2) from HYE.out] at l5 l6 o5 o6
 have B5 := Lib.hid (bl B4.out hb B4.out.size)
 have X25 := Lib.hid ((hb.block _ (blk_lt X24.out)).trans X24.out)
 have X65 := Lib.hid ((hb.block _ (blk_lt X64.out)).trans X64.out)
 have ne1 : w.heap.size ≠ b6 := by omega
 have N6 : Hid (Below w.heap.size w ((w5.setCell ⟨b6,0,none⟩ (.slice q5 m5 g5)).setCell ⟨b6,1,none⟩ (.slice q6 m6 g6)) ∧ ((w5.setCell ⟨b6,0,none⟩ (.slice q5 m5 g5)).setCell ⟨b6,1,none⟩ (.slice q6 m6 g6)).heap[w.heap.size]? = some (.cells #[.pointer (some ⟨be,0,none⟩)] 114 (0,0)) ∧
   ((w5.setCell ⟨b6,0,none⟩ (.slice q5 m5 g5)).setCell ⟨b6,1,none⟩ (.slice q6 m6 g6)).heap[b6]? = some (.cells #[.slice q5 m5 g5,.slice q6 m6 g6] 99 (0,0)) ∧
   Bw 5 ((w5.setCell ⟨b6,0,none⟩ (.slice q5 m5 g5)).setCell ⟨b6,1,none⟩ (.slice q6 m6 g6)) w.heap.size (.slice q5 m5 g5) Y.1 ∧ Bw 5 ((w5.setCell ⟨b6,0,none⟩ (.slice q5 m5 g5)).setCell ⟨b6,1,none⟩ (.slice q6 m6 g6)) w.heap.size (.slice q6 m6 g6) Y.2) :=
  ⟨(B5.out.setCell (by show w.heap.size ≤ b6; omega) _).setCell (by show w.heap.size ≤ b6; omega) _,hsc (hsc X25.out ne1) ne1,hss (hss X65.out),Bw.mk (owns_mono (owns_set (owns_set o5 hb64) hb64) (by omega)) l5.out,Bw.mk (owns_mono (owns_set (owns_set o6 hb64) hb64) (by omega)) l6.out⟩
 obtain ⟨y0',y1'⟩ := cells2 X65.out
 have z0 := frozen_of_row _ _ 0 _ _ X65.out
 have z1 := frozen_of_row _ _ 1 _ _ X65.out
 clear y0 y1 o5 o6 hb B4 X24 X64 L14 L24 B5 X25 X65 l5 l6
 go_wp2_with fail
 clear y0' y1' z0 z1
 refine use_w1 (fun W => Below w.heap.size w W ∧ W.heap[w.heap.size]? = some (.cells #[.pointer (some ⟨be,0,none⟩)] 114 (0,0)) ∧ W.heap[b6]? = some (.cells #[.slice q5 m5 g5,.slice q6 m6 g6] 99 (0,0)) ∧ Bw 5 W w.heap.size (.slice q5 m5 g5) Y.1 ∧ Bw 5 W w.heap.size (.slice q6 m6 g6) Y.2) N6.out ?_
 rintro w6 ⟨b6',x26,x66,yb1,yb2⟩
 clear N6
 refine Calls.mono (Lead_any q5 m5 g5 Y.1 w6 yb1.sl') ?_
 rintro e w' ⟨rfl,rfl⟩
 rw [HLY.out]
 have B6 := Lib.hid b6'; have X26 := Lib.hid x26; have X66 := Lib.hid x66; have Y1 := Lib.hid yb1; have Y2 := Lib.hid yb2
 have E6 := Lib.hid (HE.out.keep b6')
 clear b6' x26 x66 yb1 yb2
 obtain ⟨f0,f1,f2⟩ := cells3 (hal (o := .cells #[.int .i64 l] 3) E6.out.box)
 have p0 : (w6.alloc (.cells #[.int .i64 l] 3)).cell? ⟨w.heap.size,0,none⟩ = some (.pointer (some ⟨be,0,none⟩)) := cell_of_row _ _ 0 _ _ _ (hal X26.out)
 obtain ⟨b8,h8⟩ : ∃ b8,b8 = w6.heap.size := ⟨_,rfl⟩
 have hb8 : b6 < b8 := by rw [h8]; exact blk_lt X66.out
 have NA : Hid (∀ o,Below w6.heap.size w6 (w6.alloc o)) := fun o => al (Below.refl _ _) (Nat.le_refl _)
 obtain ⟨b2,hb2⟩ : ∃ b2,b2 = w.heap.size := ⟨_,rfl⟩
 go_wp2
 clear f0 f1 f2 p0
 rw [← h8]
 have H8 := Lib.hid h8
 clear h8
 go_loopw [39] (fun i wr => ∃ j : Nat,j ≤ n ∧ i = .int .i64 j ∧ Hid (RwL 99 5 wr base (.slice q n c) n ((K.take j).map (clrF Y) ++ K.drop j)) ∧ Hid (wr.heap[be]? = some (.cells #[.int .i64 k,.int .i64 t,.slice q n c] 191 (0,0))) ∧
  Hid (wr.heap[w.heap.size]? = some (.cells #[.pointer (some ⟨be,0,none⟩)] 114 (0,0))) ∧ Hid (wr.heap[b6]? = some (.cells #[.slice q5 m5 g5,.slice q6 m6 g6] 99 (0,0))) ∧ Hid (wr.heap[b8]? = some (.cells #[.int .i64 l] 3 (0,0))) ∧
  Hid (Bw 5 wr w.heap.size (.slice q5 m5 g5) Y.1) ∧ Hid (Bw 5 wr w.heap.size (.slice q6 m6 g6) Y.2) ∧ Hid (Chg w wr be (.slice q n c))) (fun i _ => n - (intOf i).toNat)
 case atStart => exact ⟨0,Nat.zero_le _,rfl,by show RwL _ _ _ _ _ _ _; simpa using (E6.out.keep (NA.out _)).rows,(E6.out.keep (NA.out _)).box,hal X26.out,hal X66.out,hnew H8.out,Y1.out.keep (NA.out _),Y2.out.keep (NA.out _),(Chg.of be _ B6.out).below (NA.out _)⟩
 case round =>
  clear B6 X26 X66 Y1 Y2 E6 NA
  obtain ⟨j,hj,rfl,hR,hX,h2,hX6,hX8,hY1,hY2,hC⟩ := hrel
  have HKJ : Hid (∀ a,K[j]? = some a → ((K.take j).map (clrF Y) ++ K.drop j)[j]? = some a) := fun a ha => by
   have lj : ((K.take j).map (clrF Y)).length = j := by rw [List.length_map,List.length_take,HKN.out]; omega
   rw [List.getElem?_append_right (by omega),lj,Nat.sub_self,List.getElem?_drop]; simpa using ha
  by_cases hjl : j < n
  ·have jn : (j : Int) < (n : Int) := by omega
   obtain ⟨A,hA⟩ : ∃ A,K[j]? = some A := ⟨_,List.getElem?_eq_getElem (by rw [HKN.out]; exact hjl)⟩
   obtain ⟨g,kk,a1,b1,d1,a2,b2',d2,rfl,e1,e2,hkk,t1,t2⟩ := hR.out.at hjl
   have hkA : kk = A := by have h := hkk.out; rw [HKJ.out A hA] at h; cases h; rfl
   subst hkA
   have fA := (HKL.out kk (List.mem_of_getElem? hA))
   have HA := Lib.hid hA; have T1 := Lib.hid t1; have T2 := Lib.hid t2
   have HE1 := Lib.hid e1; have HE2 := Lib.hid e2
   obtain ⟨CJ,hCJ⟩ : ∃ CJ,CJ = atS kk.1 (l : Int) := ⟨_,rfl⟩
   have HYJ : Hid (clrF Y kk = lessF kk CJ Y) := by show _ = _; unfold clrF; rw [HLY.out,hCJ]
   have HFA := Lib.hid fA
   have HAT : Hid (∀ W,Sl B8 W a1 b1 d1 kk.1 → Calls Tryz.prog 116 #[.slice a1 b1 d1,.int .i64 l] W fun e w' => e = .returned (B8 CJ) ∧ W = w') := fun W h => by rw [hCJ]; exact At_any _ _ _ _ l W h
   have c8 : (wr.alloc (.cells #[.slice a1 b1 d1,.slice a2 b2' d2] 99)).cell? ⟨b8,0,none⟩ = some (.int .i64 l) := cell_of_row _ _ 0 _ _ _ (hal hX8.out)
   clear t1 t2 hkk hA fA hCJ
   go_wp2_with fail
   clear e1 e2 c8
   refine use_w1 (fun W => Below wr.heap.size wr W ∧ W.heap[wr.heap.size]? = some (.cells #[.slice a1 b1 d1,.slice a2 b2' d2] 99 (0,0))) ⟨al (Below.refl _ _) (Nat.le_refl _),hnew rfl⟩ ?_
   rintro w7 ⟨b7,x7⟩
   refine Calls.mono (HAT.out w7 (T1.out.keep b7)) ?_
   rintro e w' ⟨rfl,rfl⟩
   have B7 := Lib.hid b7; have X7 := Lib.hid x7
   have R7 := Lib.hid (hR.out.keep b7); have E7 := Lib.hid ((b7.block _ (blk_lt hX.out)).trans hX.out); have P7 := Lib.hid ((b7.block _ (blk_lt h2.out)).trans h2.out)
   have X67 := Lib.hid ((b7.block _ (blk_lt hX6.out)).trans hX6.out); have X87 := Lib.hid ((b7.block _ (blk_lt hX8.out)).trans hX8.out)
   have Y17 := Lib.hid (hY1.out.keep b7); have Y27 := Lib.hid (hY2.out.keep b7); have C7 := Lib.hid (hC.out.below b7)
   have T17 := Lib.hid (T1.out.keep b7); have T27 := Lib.hid (T2.out.keep b7)
   clear b7 x7 HAT hR hX h2 hX6 hX8 hY1 hY2 hC T1 T2 HE1 HE2 HKJ
   have HKS : Hid ((K.take (j + 1)).map (clrF Y) ++ K.drop (j + 1) = ((K.take j).map (clrF Y) ++ K.drop j).set j (clrF Y kk)) := by
    show _ = _
    have lj : ((K.take j).map (clrF Y)).length = j := by rw [List.length_map,List.length_take,HKN.out]; omega
    rw [List.set_append_right _ _ (by omega),lj,Nat.sub_self,List.take_add_one,HA.out,List.map_append]
    have : K.drop j = kk :: K.drop (j + 1) := by
     obtain ⟨hl,e⟩ := List.getElem?_eq_some_iff.1 HA.out
     rw [List.drop_eq_getElem_cons hl,e]
    rw [this]; simp
   by_cases hc : CJ = 0
   ·have hz : ((CJ.toNat : Int) != 0) = false := by rw [hc]; rfl
    have HKZ : Hid ((K.take (j + 1)).map (clrF Y) ++ K.drop (j + 1) = (K.take j).map (clrF Y) ++ K.drop j) := by
     show _ = _
     rw [HKS.out,HYJ.out,hc,less_zero HFA.out.1 HFY.out]
     refine List.ext_getElem? fun i => ?_
     rw [List.getElem?_set]
     by_cases e : j = i
     ·subst e
      have lj : ((K.take j).map (clrF Y)).length = j := by rw [List.length_map,List.length_take,HKN.out]; omega
      rw [if_pos rfl,if_pos (by rw [List.length_append,lj,List.length_drop,HKN.out]; omega),List.getElem?_append_right (by omega),lj,Nat.sub_self,List.getElem?_drop]
      have := HA.out; simpa using this.symm
     ·rw [if_neg e]
    have R8 := Lib.hid R7.out
    rw [← HKZ.out] at R8
    clear hc HKZ HKS HYJ R7 HA T17 T27 HFA B7 X7
    go_wp2
    go_roundw
    case rel => exact ⟨j + 1,by omega,by go_num,R8.out,E7.out,P7.out,X67.out,X87.out,Y17.out,Y27.out,C7.out⟩
    case measure => simp [intOf]; omega
   ·have hz : ((CJ.toNat : Int) != 0) = true := by simp; exact fun h => hc (UInt8.toNat_inj.1 (by simpa using h))
    obtain ⟨YJ,hYJ⟩ : ∃ YJ,YJ = lessF kk CJ Y := ⟨_,rfl⟩
    have HLS : Hid (∀ W,Sl B8 W a1 b1 d1 kk.1 → Sl B8 W a2 b2' d2 kk.2 → Sl B8 W q5 m5 g5 Y.1 → Sl B8 W q6 m6 g6 Y.2 → Calls Tryz.prog 117 #[.agg #[.slice a1 b1 d1,.slice a2 b2' d2],B8 CJ,.agg #[.slice q5 m5 g5,.slice q6 m6 g6]] W (RetR2 5 W YJ 0)) := fun W g1 g2 g3 g4 => by
     have := Less_any a1 a2 q5 q6 b1 d1 b2' d2 m5 g5 m6 g6 kk.1 kk.2 Y.1 Y.2 CJ W g1 g2 g3 g4 (by have h1 := g1.len; have h2 := HFA.out.1.1; unfold Room; omega) (by have h1 := g2.len; have h2 := HFA.out.1.2; unfold Room; omega)
     rw [lessS_fit (n := k) (t := t) (x := kk) (k := Y) HFA.out.1 HFY.out,← hYJ] at this
     exact this
    rw [HYJ.out,← hYJ] at HKS
    have hgw : g < w.heap.size := (HE.out.rows.lt g (by simp [Value.ownBlock])).2
    have hgbe : g ≠ be := fun e => HE.out.rows.ne_box HE.out.box (by decide) (by simp [Value.ownBlock,e])
    have hbw7 : base ≤ w7.heap.size := by have := C7.out.size; omega
    obtain ⟨u0,u1⟩ := cells2 X7.out
    obtain ⟨y0,y1⟩ := cells2 X67.out
    obtain ⟨f0,f1,f2⟩ := cells3 E7.out
    have p2 : w7.cell? ⟨w.heap.size,0,none⟩ = some (.pointer (some ⟨be,0,none⟩)) := cell_of_row _ _ 0 _ _ _ P7.out
    clear hc hYJ HYJ HA HFA
    go_wp2
    refine wp_region_late (fun ix => ([.val (.pointer (some ⟨be,0,none⟩)),.val (.pointer (some ⟨be,0,none⟩)),.val (.pointer (some ⟨be,2,none⟩)),.val (.slice (some ⟨g,0,none⟩) n c),.val (.int .i64 j),.val (.agg #[.slice a1 b1 d1,.slice a2 b2' d2]),.val (B8 CJ),.val (.agg #[.slice q5 m5 g5,.slice q6 m6 g6]),(shpRowTO 5 base YJ 0),(shpRowTO 5 base YJ 0),(shpRowO 5 base YJ),.val (.int .i64 0),.val (.pointer (some ⟨g,j * 2,none⟩)),.any][ix]?).getD (.any)) 83 13 11 50 61 rfl (by kernel_rfl) (by decide) (by decide) (by decide) _ rfl rfl rfl (by decide) (fun a u x w h => run_extract1 _ rfl h) (by decide) ?_ ?_
    ·refine ⟨?_,?_,?_,?_,?_,?_,?_,?_,?_,?_,?_,?_,?_,trivial⟩
     ·intro a W hb0 hs hp hi; have hb := undrew hb0; clear hb0
      have tt : sl a 2 = .pointer (some ⟨w.heap.size,0,none⟩) := hi 2 (by decide)
      have dd0 := (hb.cell (p := ⟨w.heap.size,0,none⟩) (lt_of_cell p2)).trans p2
      refine ite_y rfl (wp_val (.pointer (some ⟨be,0,none⟩)) ?_ ?_)
      ·simp only [execOp,eval_tmp,tt]; simp [go_sem,dd0]
      ·exact ⟨_,rfl,Below.refl _ _,rfl⟩
     ·intro a W hb0 hs hp hi; have hb := undrew hb0; clear hb0
      have tt : sl a 51 = .pointer (some ⟨be,0,none⟩) := hp 0 (by decide)
      refine ite_y rfl (wp_val (.pointer (some ⟨be,0,none⟩)) ?_ ?_)
      ·simp only [execOp,eval_tmp,tt]; simp [go_sem]
      ·exact ⟨_,rfl,Below.refl _ _,rfl⟩
     ·intro a W hb0 hs hp hi; have hb := undrew hb0; clear hb0
      have t52 : sl a 52 = .pointer (some ⟨be,0,none⟩) := hp 1 (by decide)
      refine ite_y rfl (wp_val (.pointer (some ⟨be,2,none⟩)) ?_ ?_)
      ·simp only [execOp,eval_tmp,eval_const,t52]; simp [go_sem]
      ·exact ⟨_,rfl,Below.refl _ _,rfl⟩
     ·intro a W hb0 hs hp hi; have hb := undrew hb0; clear hb0
      have tt : sl a 53 = .pointer (some ⟨be,2,none⟩) := hp 2 (by decide)
      have dd0 := (hb.cell (p := ⟨be,2,none⟩) (lt_of_cell f2)).trans f2
      refine ite_y rfl (wp_val (.slice (some ⟨g,0,none⟩) n c) ?_ ?_)
      ·simp only [execOp,eval_tmp,tt]; simp [go_sem,dd0]
      ·exact ⟨_,rfl,Below.refl _ _,rfl⟩
     ·intro a W hb0 hs hp hi; have hb := undrew hb0; clear hb0
      have t9 : sl a 9 = .int .i64 j := hi 9 (by decide)
      exact ite_y rfl (wp_val (sl a 9) rfl ⟨_,rfl,Below.refl _ _,t9⟩)
     ·intro a W hb0 hs hp hi; have hb := undrew hb0; clear hb0
      have tt : sl a 10 = .pointer (some ⟨wr.heap.size,0,none⟩) := hi 10 (by decide)
      have dd0 := (hb.cell (p := ⟨wr.heap.size,0,none⟩) (lt_of_cell u0)).trans u0
      have dd1 := (hb.cell (p := ⟨wr.heap.size,1,none⟩) (lt_of_cell u1)).trans u1
      refine ite_y rfl (wp_val (.agg #[.slice a1 b1 d1,.slice a2 b2' d2]) ?_ ?_)
      ·simp only [execOp,eval_tmp,tt]; simp [go_sem,dd0,dd1]
      ·exact ⟨_,rfl,Below.refl _ _,rfl⟩
     ·intro a W hb0 hs hp hi; have hb := undrew hb0; clear hb0
      have t11 : sl a 11 = B8 CJ := hi 11 (by decide)
      exact ite_y rfl (wp_val (sl a 11) rfl ⟨_,rfl,Below.refl _ _,t11⟩)
     ·intro a W hb0 hs hp hi; have hb := undrew hb0; clear hb0
      have tt : sl a 6 = .pointer (some ⟨b6,0,none⟩) := hi 6 (by decide)
      have dd0 := (hb.cell (p := ⟨b6,0,none⟩) (lt_of_cell y0)).trans y0
      have dd1 := (hb.cell (p := ⟨b6,1,none⟩) (lt_of_cell y1)).trans y1
      refine ite_y rfl (wp_val (.agg #[.slice q5 m5 g5,.slice q6 m6 g6]) ?_ ?_)
      ·simp only [execOp,eval_tmp,tt]; simp [go_sem,dd0,dd1]
      ·exact ⟨_,rfl,Below.refl _ _,rfl⟩
     ·intro a W hb0 hs hp hi; have hb := undrew hb0; clear hb0
      have t56 : sl a 56 = .agg #[.slice a1 b1 d1,.slice a2 b2' d2] := hp 5 (by decide)
      have t57 : sl a 57 = B8 CJ := hp 6 (by decide)
      have t58 : sl a 58 = .agg #[.slice q5 m5 g5,.slice q6 m6 g6] := hp 7 (by decide)
      refine ite_y rfl (wp_enter 117 #[.agg #[.slice a1 b1 d1,.slice a2 b2' d2],B8 CJ,.agg #[.slice q5 m5 g5,.slice q6 m6 g6]] ?_ (HLS.out W (T17.out.keep hb) (T27.out.keep hb) (Y17.out.keep hb).sl' (Y27.out.keep hb).sl') ?_)
      ·simp only [execOp,resolve,List.map_toArray,List.map,eval_tmp,eval_func,eval_const,t56,t57,t58]; simp [go_sem]
      ·rintro e W' ⟨q7,m7,k7,q8,m8,k8,e7,e8,rfl,o7,o8,hw⟩; have hbs := hb.size; exact ⟨_,rfl,_,rfl,hw,_,rfl,_,_,rfl,(Bw.mk o7 e7.out).mono (by omega),(Bw.mk o8 e8.out).mono (by omega)⟩
     ·intro a W hb0 hs hp hi; have hb := undrew hb0; clear hb0
      have tt : (shpRowTO 5 base YJ 0).ok (sl a 59) W := hp 8 (by decide)
      exact ite_y rfl (wp_val (sl a 59) rfl ⟨_,rfl,Below.refl _ _,tt⟩)
     ·intro a W hb0 hs hp hi; have hb := undrew hb0; clear hb0
      have tt : (shpRowTO 5 base YJ 0).ok (sl a 50) W := hp 9 (by decide)
      obtain ⟨u,tt,hr⟩ := tt
      exact ite_y rfl (wp_val u (by simp only [execOp,eval_tmp,tt]; rfl) ⟨_,rfl,Below.refl _ _,hr⟩)
     ·intro a W hb0 hs hp hi; have hb := undrew hb0; clear hb0
      have tt : (shpRowTO 5 base YJ 0).ok (sl a 50) W := hp 9 (by decide)
      obtain ⟨u,tt,hr⟩ := tt
      exact ite_y rfl (wp_val (.int .i64 0) (by simp only [execOp,eval_tmp,tt]; rfl) ⟨_,rfl,Below.refl _ _,rfl⟩)
     ·intro a W hb0 hs hp hi; have hb := undrew hb0; clear hb0
      have t54 : sl a 54 = .slice (some ⟨g,0,none⟩) n c := hp 3 (by decide)
      have t55 : sl a 55 = .int .i64 j := hp 4 (by decide)
      refine ite_y rfl (wp_val (.pointer (some ⟨g,j * 2,none⟩)) ?_ ?_)
      ·simp only [execOp,eval_tmp,eval_const,t54,t55]; simp [go_sem,jn,hjl]
      ·exact ⟨_,rfl,Below.refl _ _,rfl⟩
    ·intro a w9 o ho hb hs hd hI ht
     simp at ho; subst ho
     have t62 : sl a 62 = .pointer (some ⟨g,j * 2,none⟩) := hI 12 (by decide) (by decide)
     have t50 : (shpRowTO 5 base YJ 0).ok (sl a 50) w9 := hI 9 (by decide) (by decide)
     have t60 : (shpRowO 5 base YJ).ok (sl a 60) w9 := hI 10 (by decide) (by decide)
     obtain ⟨uu,t50,-⟩ := t50
     obtain ⟨v1,v2,t60,hv1,hv2⟩ := t60
     have R9 := R7.out.keep hb
     obtain ⟨cur9,hcur⟩ := R9.blk
     obtain ⟨g',kx,x1,y1',z1',x2,y2',z2',eg,d0,d1,-⟩ := R9.at hjl
     cases eg
     have z0 : w9.frozen? ⟨g,j * 2,none⟩ = false := frozen_of_row _ _ _ _ _ hcur
     have z1 : w9.frozen? ⟨g,j * 2 + 1,none⟩ = false := frozen_of_row _ _ _ _ _ hcur
     have o1 := hv1.one
     have o2 := hv2.one
     obtain ⟨xq1,xm1,xc1,rfl,-⟩ := id hv1
     obtain ⟨xq2,xm2,xc2,rfl,-⟩ := id hv2
     refine ⟨⟨_,_,t50⟩,wp_skipX (w' := ((w9.setCell ⟨g,j * 2,none⟩ (.slice xq1 xm1 xc1)).setCell ⟨g,j * 2 + 1,none⟩ (.slice xq2 xm2 xc2))) ?_ ⟨rfl,fun b hbs hbd hbt => ?_⟩⟩
     ·simp only [execOp,eval_tmp,t60,t62]; simp [go_sem,d0,d1,z0,z1]
     have ha := act_is [51,52,53,54,55,56,57,58,59,50,60,61,62] hbs hbd (fun t h => (hbt t (fun e => by subst e; revert h; decide)).trans (ht t h)) (by decide)
     simp only [List.foldl] at ha
     generalize sl b 51 = u51 at ha
     generalize sl b 52 = u52 at ha
     generalize sl b 53 = u53 at ha
     generalize sl b 54 = u54 at ha
     generalize sl b 55 = u55 at ha
     generalize sl b 56 = u56 at ha
     generalize sl b 57 = u57 at ha
     generalize sl b 58 = u58 at ha
     generalize sl b 59 = u59 at ha
     generalize sl b 50 = u50 at ha
     generalize sl b 60 = u60 at ha
     generalize sl b 61 = u61 at ha
     generalize sl b 62 = u62 at ha
     simp only [Act.put,List.setIfInBounds_toArray,List.set_cons_zero,List.set_cons_succ] at ha
     rw [ha]; clear ha
     have RN := R9.put (k := YJ) (by decide) hjl hv1 hv2
     rw [← HKS.out] at RN
     have gb := grown_trans (grownBy_setCell w9 g (j * 2) (.slice xq1 xm1 xc1)) (grownBy_setCell (w9.setCell ⟨g,j * 2,none⟩ (.slice xq1 xm1 xc1)) g (j * 2 + 1) (.slice xq2 xm2 xc2))
     have ne0 : be ≠ g := fun e => hgbe e.symm
     have ne2 : w.heap.size ≠ g := by omega
     have ne6 : b6 ≠ g := by omega
     have ne8 : b8 ≠ g := by omega
     have yo : ∀ (u : Value) (xs : List UInt8),Bw 5 w9 w.heap.size u xs → Bw 5 ((w9.setCell ⟨g,j * 2,none⟩ (.slice xq1 xm1 xc1)).setCell ⟨g,j * 2 + 1,none⟩ (.slice xq2 xm2 xc2)) w.heap.size u xs := fun u xs h => h.set (g := g) (o := 0) (u := u) (fun kx hkx => by
      obtain ⟨q',m',c',e',l',o'⟩ := h
      rw [e'] at hkx
      have := (o'.lt kx hkx).1
      omega) gb
     have NX : ((w9.setCell ⟨g,j * 2,none⟩ (.slice xq1 xm1 xc1)).setCell ⟨g,j * 2 + 1,none⟩ (.slice xq2 xm2 xc2)).heap[be]? = some (.cells #[.int .i64 k,.int .i64 t,.slice (some ⟨g,0,none⟩) n c] 191 (0,0)) ∧ ((w9.setCell ⟨g,j * 2,none⟩ (.slice xq1 xm1 xc1)).setCell ⟨g,j * 2 + 1,none⟩ (.slice xq2 xm2 xc2)).heap[w.heap.size]? = some (.cells #[.pointer (some ⟨be,0,none⟩)] 114 (0,0)) ∧ ((w9.setCell ⟨g,j * 2,none⟩ (.slice xq1 xm1 xc1)).setCell ⟨g,j * 2 + 1,none⟩ (.slice xq2 xm2 xc2)).heap[b6]? = some (.cells #[.slice q5 m5 g5,.slice q6 m6 g6] 99 (0,0)) ∧ ((w9.setCell ⟨g,j * 2,none⟩ (.slice xq1 xm1 xc1)).setCell ⟨g,j * 2 + 1,none⟩ (.slice xq2 xm2 xc2)).heap[b8]? = some (.cells #[.int .i64 l] 3 (0,0)) ∧
       Bw 5 ((w9.setCell ⟨g,j * 2,none⟩ (.slice xq1 xm1 xc1)).setCell ⟨g,j * 2 + 1,none⟩ (.slice xq2 xm2 xc2)) w.heap.size (.slice q5 m5 g5) Y.1 ∧ Bw 5 ((w9.setCell ⟨g,j * 2,none⟩ (.slice xq1 xm1 xc1)).setCell ⟨g,j * 2 + 1,none⟩ (.slice xq2 xm2 xc2)) w.heap.size (.slice q6 m6 g6) Y.2 ∧ Chg w ((w9.setCell ⟨g,j * 2,none⟩ (.slice xq1 xm1 xc1)).setCell ⟨g,j * 2 + 1,none⟩ (.slice xq2 xm2 xc2)) be (.slice (some ⟨g,0,none⟩) n c) :=
      ⟨hsc (hsc ((hb.block _ (blk_lt E7.out)).trans E7.out) ne0) ne0,hsc (hsc ((hb.block _ (blk_lt P7.out)).trans P7.out) ne2) ne2,hsc (hsc ((hb.block _ (blk_lt X67.out)).trans X67.out) ne6) ne6,hsc (hsc ((hb.block _ (blk_lt X87.out)).trans X87.out) ne8) ne8,
       yo _ _ (Y17.out.keep hb),yo _ _ (Y27.out.keep hb),(C7.out.below hb).grown (by simpa [Value.ownBlock] using gb)⟩
     generalize ((w9.setCell ⟨g,j * 2,none⟩ (.slice xq1 xm1 xc1)).setCell ⟨g,j * 2 + 1,none⟩ (.slice xq2 xm2 xc2)) = wn at NX RN ⊢
     have NXH := Lib.hid NX; have RNH := Lib.hid RN
     clear NX RN R9 hcur d0 d1 z0 z1 hv1 hv2 hI ht hb hbt gb yo u0 u1 y0 y1 f0 f1 f2 p2 R7 E7 P7 X67 X87 Y17 Y27 C7 B7 X7 T17 T27 HLS
     go_wp2
     go_roundw
     case rel => exact ⟨j + 1,by omega,by go_num,RNH.out,NXH.out.1,NXH.out.2.1,NXH.out.2.2.1,NXH.out.2.2.2.1,NXH.out.2.2.2.2.1,NXH.out.2.2.2.2.2.1,NXH.out.2.2.2.2.2.2⟩
     case measure => simp [intOf]; omega
  ·have hjn : j = n := by omega
   have hge : (n : Int) ≤ (j : Int) := by omega
   have RM : Hid (RwL 99 5 wr base (.slice q n c) n (K.map (clrF Y))) := by
    have h := hR.out
    rw [hjn,List.take_of_length_le (by rw [HKN.out]; exact Nat.le_refl _),List.drop_eq_nil_of_le (by rw [HKN.out]; exact Nat.le_refl _),List.append_nil] at h; exact h
   have EM : Hid (Elm wr base be k t (.slice q n c) n (K.map (clrF Y))) := ⟨hX.out,RM.out,hbe⟩
   obtain ⟨f0,f1,f2⟩ := cells3 hX.out
   have p2 : wr.cell? ⟨w.heap.size,0,none⟩ = some (.pointer (some ⟨be,0,none⟩)) := cell_of_row _ _ 0 _ _ _ h2.out
   clear hjn hR HKJ
   go_wp2_with fail
   refine Calls.mono (Search_any f 118 #[.pointer (some ⟨w.heap.size,0,none⟩),.pointer (some ⟨b8,0,none⟩)] enters_behind n wr (by omega) (fun W i hW hi => ?_) hmono.out) ?_
   ·obtain ⟨z,hz⟩ : ∃ z,(K.map (clrF Y))[i]? = some z := ⟨_,List.getElem?_eq_getElem (by rw [List.length_map,HKN.out]; exact hi)⟩
    have h := Behind_any base be k t n (.slice q n c) (K.map (clrF Y)) w.heap.size b8 i (l : Int) z W (EM.out.keep hW) (cell_of_row _ _ 0 _ _ _ ((hW.block _ (blk_lt h2.out)).trans h2.out)) (cell_of_row _ _ 0 _ _ _ ((hW.block _ (blk_lt hX8.out)).trans hX8.out)) hi hz
    have e : decide ((l : Int) < leadS z.1) = f i := by
     rw [HFF.out]
     show _ = decide ((l : Int) < leadS ((K.map (clrF Y)).getD i ([],[])).1)
     rw [List.getD_eq_getElem?_getD,hz]; rfl
    rw [e] at h; exact h
   rintro e w10 ⟨r,hr,rfl,hlo,hhi,hb⟩
   have HFIN := Lib.hid (hfin.out r hr hlo hhi)
   have E10 := Lib.hid (EM.out.keep hb); have P10 := Lib.hid ((hb.block _ (blk_lt h2.out)).trans h2.out); have X610 := Lib.hid ((hb.block _ (blk_lt hX6.out)).trans hX6.out)
   have Y110 := Lib.hid (hY1.out.keep hb); have Y210 := Lib.hid (hY2.out.keep hb); have C10 := Lib.hid (hC.out.below hb)
   have hb10 : base ≤ w10.heap.size := by have := C10.out.size; omega
   clear hlo hhi hb EM RM hX h2 hX6 hX8 hY1 hY2 hC f0 f1 f2 p2
   obtain ⟨f0,f1,f2⟩ := cells3 E10.out.box
   obtain ⟨y0,y1⟩ := cells2 X610.out
   have p2 : w10.cell? ⟨w.heap.size,0,none⟩ = some (.pointer (some ⟨be,0,none⟩)) := cell_of_row _ _ 0 _ _ _ P10.out
   go_wp2
   refine wp_region_mid (fun ix => ([.val (.pointer (some ⟨be,0,none⟩)),.val (.pointer (some ⟨be,0,none⟩)),.val (.pointer (some ⟨be,0,none⟩)),.val (.pointer (some ⟨be,2,none⟩)),.val (.slice q n c),.val (.int .i64 r),.val (.agg #[.slice q5 m5 g5,.slice q6 m6 g6]),(shpOne 99 w10.heap.size (.slice q5 m5 g5) (.slice q6 m6 g6)),.any,.val (.pointer (some ⟨be,0,none⟩)),.val (.pointer (some ⟨be,2,none⟩)),.any][ix]?).getD (.any)) (fun ix => (([some (.pointer (some ⟨be,0,none⟩)),some (.pointer (some ⟨be,0,none⟩)),some (.pointer (some ⟨be,0,none⟩)),some (.pointer (some ⟨be,2,none⟩)),none,none,some (.agg #[.slice q5 m5 g5,.slice q6 m6 g6]),none,none,some (.pointer (some ⟨be,0,none⟩)),some (.pointer (some ⟨be,2,none⟩))] : List (Option Value))[ix]?).getD none) 83 11 8 80 (fun u W => RwL 99 5 W base u (n + 1) (putF K x) ∧ W.heap[be]? = some (.cells #[.int .i64 k,.int .i64 t,.slice q n c] 191 (0,0)) ∧ W.heap[w.heap.size]? = some (.cells #[.pointer (some ⟨be,0,none⟩)] 114 (0,0)) ∧ W.heap[b6]? = some (.cells #[.slice q5 m5 g5,.slice q6 m6 g6] 99 (0,0)) ∧ Chg w W be (.slice q n c) ∧ (u.ownBlock = (Value.slice q n c).ownBlock ∨ ∀ b,u.ownBlock = some b → w.heap.size ≤ b)) rfl (by kernel_rfl) (by decide) (by decide) (by decide) ?_ _ rfl ?_ ?_ ?_ ?_
   ·intro j u hj
    have hj11 : j < 11 := by
     rcases Nat.lt_or_ge j 11 with h | h
     ·exact h
     ·simp [List.getElem?_eq_none (show ([_,_,_,_,_,_,_,_,_,_,_] : List (Option Value)).length ≤ j from h)] at hj
    rcases (show j = 0 ∨ j = 1 ∨ j = 2 ∨ j = 3 ∨ j = 4 ∨ j = 5 ∨ j = 6 ∨ j = 7 ∨ j = 8 ∨ j = 9 ∨ j = 10 by omega) with rfl | rfl | rfl | rfl | rfl | rfl | rfl | rfl | rfl | rfl | rfl
    all_goals (simp at hj <;> (subst hj; rfl))
   ·intro i o him his ho hps
    rcases (show i = 0 ∨ i = 1 ∨ i = 2 ∨ i = 3 ∨ i = 4 ∨ i = 5 ∨ i = 6 ∨ i = 7 ∨ i = 8 ∨ i = 9 ∨ i = 10 by omega) with rfl | rfl | rfl | rfl | rfl | rfl | rfl | rfl | rfl | rfl | rfl
    ·simp at ho; subst ho
     intro a W hb0 hs hp hi; have hb := undrew hb0; clear hb0
     have tt : sl a 2 = .pointer (some ⟨w.heap.size,0,none⟩) := hi 2 (by decide)
     have dd0 := (hb.cell (p := ⟨w.heap.size,0,none⟩) (lt_of_cell p2)).trans p2
     refine ite_y rfl (wp_val (.pointer (some ⟨be,0,none⟩)) ?_ ?_)
     ·simp only [execOp,eval_tmp,tt]; simp [go_sem,dd0]
     ·exact ⟨_,rfl,Below.refl _ _,rfl⟩
    ·simp at ho; subst ho
     intro a W hb0 hs hp hi; have hb := undrew hb0; clear hb0
     have tt : sl a 2 = .pointer (some ⟨w.heap.size,0,none⟩) := hi 2 (by decide)
     have dd0 := (hb.cell (p := ⟨w.heap.size,0,none⟩) (lt_of_cell p2)).trans p2
     refine ite_y rfl (wp_val (.pointer (some ⟨be,0,none⟩)) ?_ ?_)
     ·simp only [execOp,eval_tmp,tt]; simp [go_sem,dd0]
     ·exact ⟨_,rfl,Below.refl _ _,rfl⟩
    ·simp at ho; subst ho
     intro a W hb0 hs hp hi; have hb := undrew hb0; clear hb0
     have tt : sl a 73 = .pointer (some ⟨be,0,none⟩) := hp 1 (by decide)
     refine ite_y rfl (wp_val (.pointer (some ⟨be,0,none⟩)) ?_ ?_)
     ·simp only [execOp,eval_tmp,tt]; simp [go_sem]
     ·exact ⟨_,rfl,Below.refl _ _,rfl⟩
    ·simp at ho; subst ho
     intro a W hb0 hs hp hi; have hb := undrew hb0; clear hb0
     have t74 : sl a 74 = .pointer (some ⟨be,0,none⟩) := hp 2 (by decide)
     refine ite_y rfl (wp_val (.pointer (some ⟨be,2,none⟩)) ?_ ?_)
     ·simp only [execOp,eval_tmp,eval_const,t74]; simp [go_sem]
     ·exact ⟨_,rfl,Below.refl _ _,rfl⟩
    ·simp at ho; subst ho
     intro a W hb0 hs hp hi; have hb := undrew hb0; clear hb0
     have tt : sl a 75 = .pointer (some ⟨be,2,none⟩) := hp 3 (by decide)
     have dd0 := (hb.cell (p := ⟨be,2,none⟩) (lt_of_cell f2)).trans f2
     refine ite_y rfl (wp_val (.slice q n c) ?_ ?_)
     ·simp only [execOp,eval_tmp,tt]; simp [go_sem,dd0]
     ·exact ⟨_,rfl,Below.refl _ _,rfl⟩
    ·simp at ho; subst ho
     intro a W hb0 hs hp hi; have hb := undrew hb0; clear hb0
     have t13 : sl a 13 = .int .i64 r := hi 13 (by decide)
     exact ite_y rfl (wp_val (sl a 13) rfl ⟨_,rfl,Below.refl _ _,t13⟩)
    ·simp at ho; subst ho
     intro a W hb0 hs hp hi; have hb := undrew hb0; clear hb0
     have tt : sl a 6 = .pointer (some ⟨b6,0,none⟩) := hi 6 (by decide)
     have dd0 := (hb.cell (p := ⟨b6,0,none⟩) (lt_of_cell y0)).trans y0
     have dd1 := (hb.cell (p := ⟨b6,1,none⟩) (lt_of_cell y1)).trans y1
     refine ite_y rfl (wp_val (.agg #[.slice q5 m5 g5,.slice q6 m6 g6]) ?_ ?_)
     ·simp only [execOp,eval_tmp,tt]; simp [go_sem,dd0,dd1]
     ·exact ⟨_,rfl,Below.refl _ _,rfl⟩
    ·simp at ho; subst ho
     intro a W hb0 hs hp hi; have hb := undrew hb0; clear hb0
     have tt : sl a 78 = .agg #[.slice q5 m5 g5,.slice q6 m6 g6] := hp 6 (by decide)
     have v78 : a.tmps[78]?.getD undef = .agg #[.slice q5 m5 g5,.slice q6 m6 g6] := by simpa [sl] using tt
     refine ite_y rfl (wp_val' (w' := W.alloc (.cells #[.slice q5 m5 g5,.slice q6 m6 g6] 99)) (.slice (some ⟨W.heap.size,0,none⟩) 1 1) ?_ ?_)
     ·simp only [execOp,eval_tmp,tt]; simp [go_sem,tt,v78]
     ·exact ⟨_,rfl,al (Below.refl _ _) (Nat.le_refl _),W.heap.size,rfl,hnew rfl,hb.size⟩
    ·exact absurd rfl his
    ·simp at ho; subst ho; exact absurd hps (by decide)
    ·simp at ho; subst ho; exact absurd hps (by decide)
   ·intro a W hb hs hp
    have t76 : sl a 76 = .slice q n c := hp 4 (by decide)
    have t77 : sl a 77 = .int .i64 r := hp 5 (by decide)
    obtain ⟨vb,t79,hvb,hvb2⟩ : ∃ vb,sl a 79 = .slice (some ⟨vb,0,none⟩) 1 1 ∧ W.heap[vb]? = some (.cells #[.slice q5 m5 g5,.slice q6 m6 g6] 99 (0,0)) ∧ w10.heap.size ≤ vb := hp 7 (by decide)
    have EW := E10.out.keep hb
    have hvo : (Value.slice q n c).ownBlock ≠ some vb := fun e => by have := (E10.out.rows.lt vb e).2; omega
    refine wp_enter 120 #[.slice q n c,.int .i64 r,.slice (some ⟨vb,0,none⟩) 1 1] ?_ (InsRow_any base n r vb _ (.slice q5 m5 g5) (.slice q6 m6 g6) (K.map (clrF Y)) Y W EW.rows hr (by omega) (by have := hb.size; omega) hvb hvo ((Y110.out.keep hb).mono hbw) ((Y210.out.keep hb).mono hbw)) ?_
    ·simp [execOp,resolve,show a.tmps[76]?.getD undef = .slice q n c by simpa [sl] using t76,show a.tmps[77]?.getD undef = .int .i64 r by simpa [sl] using t77,show a.tmps[79]?.getD undef = .slice (some ⟨vb,0,none⟩) 1 1 by simpa [sl] using t79,go_sem]
    ·rintro e W' ⟨u,rfl,hRw,hg,hbk⟩
     rw [HFIN.out] at hRw
     have hCW := C10.out.below hb
     have ko : ∀ b,b < W.heap.size → (Value.slice q n c).ownBlock ≠ some b → W'.heap[b]? = W.heap[b]? := fun b h1 h2 => hg.block b h1 (fun e => h2 e.symm)
     have n1 : (Value.slice q n c).ownBlock ≠ some be := EW.rows.ne_box EW.box (by decide)
     have lt1 : ∀ b,(Value.slice q n c).ownBlock = some b → b < w.heap.size := fun b e => (HE.out.rows.lt b e).2
     have P10W := (hb.block _ (blk_lt P10.out)).trans P10.out; have X610W := (hb.block _ (blk_lt X610.out)).trans X610.out
     refine ⟨u,rfl,u,rfl,hRw,(ko be (blk_lt EW.box) n1).trans EW.box,(ko _ (blk_lt P10W) (fun e => by have := lt1 _ e; omega)).trans P10W,(ko _ (blk_lt X610W) (fun e => by have := lt1 _ e; omega)).trans X610W,hCW.grown hg,?_⟩
     rcases hbk with e | e
     ·exact .inl e
     ·refine .inr fun b hb' => ?_
      rw [e] at hb'; cases hb'
      exact hCW.size
   ·intro i o him his ho hpo a W u hP hs hu hk hi
    obtain ⟨-,hPb,hP2,hP6,-,-⟩ := hP
    obtain ⟨F0,F1,F2⟩ := cells3 hPb
    obtain ⟨G0,G1⟩ := cells2 hP6
    have Q2 : W.cell? ⟨w.heap.size,0,none⟩ = some (.pointer (some ⟨be,0,none⟩)) := cell_of_row _ _ 0 _ _ _ hP2
    rcases (show i = 0 ∨ i = 1 ∨ i = 2 ∨ i = 3 ∨ i = 4 ∨ i = 5 ∨ i = 6 ∨ i = 7 ∨ i = 8 ∨ i = 9 ∨ i = 10 by omega) with rfl | rfl | rfl | rfl | rfl | rfl | rfl | rfl | rfl | rfl | rfl
    ·simp at ho; subst ho
     have tt : sl a 2 = .pointer (some ⟨w.heap.size,0,none⟩) := hi 2 (by decide)
     refine ⟨_,rfl,?_⟩
     simp only [execOp,eval_tmp,tt]; simp [go_sem,Q2]
    ·simp at ho; subst ho
     have tt : sl a 2 = .pointer (some ⟨w.heap.size,0,none⟩) := hi 2 (by decide)
     refine ⟨_,rfl,?_⟩
     simp only [execOp,eval_tmp,tt]; simp [go_sem,Q2]
    ·simp at ho; subst ho
     have tt : sl a 73 = .pointer (some ⟨be,0,none⟩) := hk 1 (by decide) (by decide) _ 73 rfl rfl
     refine ⟨_,rfl,?_⟩
     simp only [execOp,eval_tmp,tt]; simp [go_sem]
    ·simp at ho; subst ho
     have tt : sl a 74 = .pointer (some ⟨be,0,none⟩) := hk 2 (by decide) (by decide) _ 74 rfl rfl
     refine ⟨_,rfl,?_⟩
     simp only [execOp,eval_tmp,tt]; simp [go_sem]
    ·exact absurd hpo (by decide)
    ·exact absurd hpo (by decide)
    ·simp at ho; subst ho
     have tt : sl a 6 = .pointer (some ⟨b6,0,none⟩) := hi 6 (by decide)
     refine ⟨_,rfl,?_⟩
     simp only [execOp,eval_tmp,tt]; simp [go_sem,G0,G1]
    ·exact absurd hpo (by decide)
    ·exact absurd rfl his
    ·simp at ho; subst ho
     have tt : sl a 72 = .pointer (some ⟨be,0,none⟩) := hk 0 (by decide) (by decide) _ 72 rfl rfl
     refine ⟨_,rfl,?_⟩
     simp only [execOp,eval_tmp,tt]; simp [go_sem]
    ·simp at ho; subst ho
     have tt : sl a 81 = .pointer (some ⟨be,0,none⟩) := hk 9 (by decide) (by decide) _ 81 rfl rfl
     refine ⟨_,rfl,?_⟩
     simp only [execOp,eval_tmp,tt]; simp [go_sem]
   ·intro a W u o ho hP hs hd hu hlvs ht
    have ha := act_is [72,73,74,75,76,77,78,79,80,81,82] hs hd ht (by decide)
    simp at ho; subst ho
    have t82 : sl a 82 = .pointer (some ⟨be,2,none⟩) := hlvs 10 (by decide) (by decide) _ 82 rfl rfl
    obtain ⟨hRw,hPb,-,-,hCW,hbk⟩ := hP
    obtain ⟨F0,F1,F2⟩ := cells3 hPb
    have z2 := frozen_of_row _ _ 2 _ _ hPb
    obtain ⟨uq,uc,rfl⟩ := hRw.shape
    refine wp_skip_none rfl (w' := W.setCell ⟨be,2,none⟩ (.slice uq (n + 1) uc)) ?_ ?_
    ·simp only [execOp,eval_tmp,t82,hu]; simp [go_sem,F2,z2]
    simp only [List.foldl,t82,hu] at ha
    generalize sl a 72 = u72 at ha
    generalize sl a 73 = u73 at ha
    generalize sl a 74 = u74 at ha
    generalize sl a 75 = u75 at ha
    generalize sl a 76 = u76 at ha
    generalize sl a 77 = u77 at ha
    generalize sl a 78 = u78 at ha
    generalize sl a 79 = u79 at ha
    generalize sl a 81 = u81 at ha
    simp only [Act.put,List.setIfInBounds_toArray,List.set_cons_zero,List.set_cons_succ] at ha
    rw [ha]; clear ha
    have hne2 := hRw.ne_box hPb (by decide)
    have NX : Hid (Elm (W.setCell ⟨be,2,none⟩ (.slice uq (n + 1) uc)) base be k t (.slice uq (n + 1) uc) (n + 1) (putF K x) ∧ Chg w (W.setCell ⟨be,2,none⟩ (.slice uq (n + 1) uc)) be (.slice q n c)) :=
     ⟨⟨hss hPb,hRw.set hPb (by decide) hne2 (grownBy_setCell W be 2 _),hbe⟩,hCW.box 2 _⟩
    have HBK := Lib.hid hbk
    clear hRw hPb hCW hbk F0 F1 F2 z2 ht hlvs
    go_wp2
    go_ret2
    exact ⟨rfl,_,NX.out.1,NX.out.2,HBK.out⟩
end Go.Proofs.YtccaiiigdfieoaaGreatDoor
namespace Go.Proofs.YtccaiiigdfieoaaGreatDoor
open Go.RowKit Go.By
end Go.Proofs.YtccaiiigdfieoaaGreatDoor
namespace Go.By
open Go.RowKit
theorem RwL.rwS {T2 T1 base n c : Nat} {w : World} {q : Option Addr} {K : List (List UInt8 × List UInt8)} (h : RwL T2 T1 w base (.slice q n c) n K) : RwS w q n c K := by
 have hl := h.len
 have hs : n ≤ c ∧ c ≤ maxLen ∧ (q = none → n = 0 ∧ c = 0) := by
  obtain ⟨vs,a,b,o,r⟩ := h
  rcases o.2 with ⟨hv,hn⟩ | ⟨g,cap,cur,hv,_,_,h1,h2,_⟩
  ·simp at hv; exact ⟨by omega,by unfold maxLen; omega,fun _ => ⟨by omega,by omega⟩⟩
  ·simp at hv; exact ⟨by omega,by omega,fun e => by rw [hv.1] at e; cases e⟩
 refine ⟨hl,hs.1,hs.2.1,hs.2.2,fun j k hj => ?_⟩
 have hjn : j < n := by rw [← hl]; exact (List.getElem?_eq_some_iff.1 hj).1
 obtain ⟨g,k',q1,m1,c1,q2,m2,c2,e,d1,d2,hk,s1,s2⟩ := h.at hjn
 have : k' = k := by have h := hk.out; rw [hj] at h; cases h; rfl
 subst this
 exact ⟨g,0,q1,m1,c1,q2,m2,c2,e,by rw [Nat.zero_add]; exact d1,by rw [Nat.zero_add]; exact d2,s1,s2⟩
end Go.By
namespace Go.Proofs.YtccaiiigdfieoaaGreatDoor
open Go.RowKit Go.By
end Go.Proofs.YtccaiiigdfieoaaGreatDoor
namespace Go.Proofs.YtccaiiigdfieoaaGreatDoor
open Go.RowKit Go.By
end Go.Proofs.YtccaiiigdfieoaaGreatDoor
namespace Go.Proofs.YtccaiiigdfieoaaGreatDoor
open Go.RowKit Go.By
end Go.Proofs.YtccaiiigdfieoaaGreatDoor
namespace Go.Proofs.YtccaiiigdfieoaaGreatDoor
open Go.RowKit Go.By
theorem lead_zero {v : List UInt8} (h : leadS v < 0) : zeroS v = true := by
 unfold zeroS
 exact List.all_eq_true.2 fun x hx => by simpa using leadS_neg h x hx
set_option maxRecDepth 100000 in
set_option maxHeartbeats 4000000 in
theorem EPut_zero (base be k t n : Nat) (v : Value) (K : List Rw) (p1 p2 : Option Addr) (c1 c2 : Nat) (x : Rw) (w : World) (hE : Elm w base be k t v n K) (s1 : Sl B8 w p1 k c1 x.1) (s2 : Sl B8 w p2 t c2 x.2) (hK : ∀ r,r ∈ K → Fit k t r ∧ Led r) (hk : k ≤ 4096) (ht : t ≤ 65535) (hn : leadS (restF K x).1 < 0) :
  Calls Tryz.prog 64 #[.pointer (some ⟨be,0,none⟩),.agg #[.slice p1 k c1,.slice p2 t c2]] w fun e w' => e = .returned (.tuple #[.int .i64 (if zeroS (restF K x).2 = true then 1 else 2),.int .i64 0]) ∧ Below w.heap.size w w' := by
 have HB : Hid (∀ o1 o2,Below w.heap.size w ((w.alloc o1).alloc o2)) := fun o1 o2 => al (al (Below.refl _ _) (Nat.le_refl _)) (by simp)
 have HZ : Hid (zeroS (restF K x).1 = true) := lead_zero hn
 have HE := Lib.hid hE; have S1 := Lib.hid s1; have S2 := Lib.hid s2; have HK := Lib.hid hK
 clear hE s1 s2 hK hn
 obtain ⟨u,hu⟩ : ∃ u : Int,u = if zeroS (restF K x).2 = true then 1 else 2 := ⟨_,rfl⟩
 rw [← hu]
 have HU := Lib.hid hu
 clear hu
 go_enter Tryz.func64,Tryz.ntmps64
 go_wp2_with fail
 refine Calls.mono (ERest_any base be k t n v K p1 p2 c1 c2 x _ (HE.out.keep (HB.out _ _)) (S1.out.keep (HB.out _ _)) (S2.out.keep (HB.out _ _)) HK.out hk ht) ?_
 rintro e w3 ⟨q1,m1,g1,q2,m2,g2,l1,l2,rfl,o1,o2,hb⟩
 have B3 : Hid (Below w.heap.size w w3) := bl (HB.out _ _) hb (by simp; omega)
 have L1 := Lib.hid (Sl.of_owns o1); have L2 := Lib.hid (Sl.of_owns o2)
 clear hb o1 o2 l1 l2 S1 S2 HE HB
 go_wp2_with fail
 refine use_w1 (fun W => Below w3.heap.size w3 W ∧ W.heap[w3.heap.size]? = some (.cells #[.slice q1 m1 g1,.slice q2 m2 g2] 99 (0,0))) ⟨al (Below.refl _ _) (Nat.le_refl _),hnew rfl⟩ ?_
 rintro w4 ⟨b4,x4⟩
 refine Calls.mono (VZero_any q1 m1 g1 (restF K x).1 w4 (L1.out.keep b4)) ?_
 rintro e w' ⟨rfl,rfl⟩
 rw [HZ.out]
 have L24 := Lib.hid (L2.out.keep b4); have B4 := Lib.hid (bl B3.out b4 B3.out.size)
 obtain ⟨y0,y1⟩ := cells2 x4
 clear b4 x4
 go_wp2_with fail
 refine Calls.mono (VZero_any q2 m2 g2 (restF K x).2 w4 L24.out) ?_
 rintro e w' ⟨rfl,rfl⟩
 clear y0 y1
 cases hz : zeroS (restF K x).2 with
 | true =>
  go_wp2
  go_ret2
  have e1 := HU.out.trans (if_pos hz)
  exact ⟨by rw [e1]; rfl,B4.out⟩
 | false =>
  go_wp2
  go_ret2
  have e1 := HU.out.trans (if_neg (by rw [hz]; decide))
  exact ⟨by rw [e1]; rfl,B4.out⟩
end Go.Proofs.YtccaiiigdfieoaaGreatDoor
namespace Go.By
open Go.RowKit
theorem RwV.of_owns {w : World} {base T n c : Nat} {q : Option Addr} {vs : List (Value × Value)} (h : w.ownsRow base T 2 (.slice q n c) n (fl2 vs)) (h1 : ∀ u,u ∈ fl2 vs → u.oneCell' = true) : RwV w q n c vs := by
 have hl : vs.length = n := by have := h.1; rw [fl2_length] at this; omega
 rcases h.2 with ⟨e1,e2⟩ | ⟨g,cap,cur,e1,_,_,h3,h4,_⟩
 ·cases e1
  exact ⟨hl,Nat.le_of_eq e2,by simp [maxLen],fun _ => ⟨e2,rfl⟩,fun j u hj => (by have := (List.getElem?_eq_some_iff.1 hj).1; rw [fl2_length] at this; omega),h1⟩
 ·cases e1
  refine ⟨hl,h3,h4,fun e => (by cases e),fun j u hj => ⟨g,0,rfl,?_⟩,h1⟩
  have := (List.getElem?_eq_some_iff.1 hj).1
  rw [fl2_length] at this
  rw [Nat.zero_add,h.cellAt _ (by omega)]; exact hj
end Go.By
namespace Go.Proofs.YtccaiiigdfieoaaGreatDoor
open Go.RowKit Go.By
end Go.Proofs.YtccaiiigdfieoaaGreatDoor
namespace Go.By
open Go.RowKit
end Go.By
namespace Go.Proofs.YtccaiiigdfieoaaGreatDoor
open Go.RowKit Go.By
end Go.Proofs.YtccaiiigdfieoaaGreatDoor
namespace Go.By
open Go.RowKit
end Go.By
namespace Go.Proofs.YtccaiiigdfieoaaGreatDoor
open Go.RowKit Go.By
end Go.Proofs.YtccaiiigdfieoaaGreatDoor
namespace Go.Proofs.YtccaiiigdfieoaaGreatDoor
open Go.RowKit Go.By
theorem RwL.made {w : World} {base g n : Nat} (hh : w.heap[g]? = some (.cells (madeCells #[.slice none 0 0,.slice none 0 0] (n * 2)) 99 (0,0))) (hb : base ≤ g) (hn : n ≤ maxLen) : RwL 99 5 w base (.slice (some ⟨g,0,none⟩) n n) n (List.replicate n ([],[])) := by
 have hfl : (madeCells #[.slice none 0 0,.slice none 0 0] (n * 2)).toList = fl2 (List.replicate n ((.slice none 0 0 : Value),(.slice none 0 0 : Value))) := by
  apply List.ext_getElem?
  intro i
  by_cases hi : i < n * 2
  ·have e1 : (madeCells #[.slice none 0 0,.slice none 0 0] (n * 2)).toList[i]? = some (.slice none 0 0) := by
    rcases Nat.mod_two_eq_zero_or_one i with h | h <;> simp [madeCells,hi,h]
   have hd : i / 2 < n := by omega
   obtain ⟨f1,f2⟩ := fl2_at (vs := List.replicate n ((.slice none 0 0 : Value),(.slice none 0 0 : Value))) (i := i / 2) (u := (.slice none 0 0,.slice none 0 0)) (by rw [List.getElem?_replicate,if_pos hd])
   rw [e1]
   rcases Nat.mod_two_eq_zero_or_one i with h | h
   ·rw [show i / 2 * 2 = i by omega] at f1; exact f1.symm
   ·rw [show i / 2 * 2 + 1 = i by omega] at f2; exact f2.symm
  ·rw [List.getElem?_eq_none (by simp [madeCells]; omega),List.getElem?_eq_none (by rw [fl2_length,List.length_replicate]; omega)]
 refine ⟨List.replicate n (.slice none 0 0,.slice none 0 0),by simp,by simp,⟨by rw [fl2_length,List.length_replicate],.inr ⟨g,n,_,rfl,hb,hh,Nat.le_refl _,hn,by simp [madeCells],?_⟩⟩,?_⟩
 ·rw [hfl,List.take_of_length_le (by rw [fl2_length,List.length_replicate]; omega)]
 ·intro j u hj
  obtain ⟨h1,h2⟩ := List.getElem?_eq_some_iff.1 hj
  rw [List.length_replicate] at h1
  simp at h2
  subst h2
  exact ⟨([],[]),by rw [List.getElem?_replicate,if_pos h1],⟨none,0,0,rfl,rfl,World.ownsRow_nil _ _ _ _⟩,⟨none,0,0,rfl,rfl,World.ownsRow_nil _ _ _ _⟩⟩
theorem fill_step {α : Type} {K : List α} {j n : Nat} {a z : α} (hj : K[j]? = some a) (hn : K.length = n) : (K.take j ++ List.replicate (n - j) z).set j a = K.take (j + 1) ++ List.replicate (n - (j + 1)) z := by
 have hl := (List.getElem?_eq_some_iff.1 hj).1
 have lj : (K.take j).length = j := by rw [List.length_take]; omega
 rw [List.set_append_right _ _ (by omega),lj,Nat.sub_self,List.take_add_one,hj]
 rw [show n - j = (n - (j + 1)) + 1 by omega,List.replicate_succ]
 simp
theorem heap_owns2 {w : World} {base E g n : Nat} {L : List Value} (h : w.ownsRow base E 2 (.slice (some ⟨g,0,none⟩) n n) n L) : w.heap[g]? = some (.cells L.toArray E (0,0)) := by
 rcases h.2 with ⟨h1,_⟩ | ⟨g',cap,cur,hv,_,hh,_,_,hs,ht⟩
 ·cases h1
 ·cases hv
  rw [hh]
  have : cur = L.toArray := by
   rw [← ht,List.take_of_length_le (by simp [hs])]
  rw [this]
set_option maxRecDepth 100000 in
set_option maxHeartbeats 4000000 in
theorem ERows_any (base be k t n : Nat) (v : Value) (K : List Rw) (w : World) (hE : Elm w base be k t v n K) (hr : ∀ r,r ∈ K → Room r.1.length ∧ Room r.2.length) (hn : n ≤ 4096) :
  Calls Tryz.prog 78 #[.pointer (some ⟨be,0,none⟩)] w fun e w' => ∃ v',e = .returned v' ∧ RwL 99 5 w' w.heap.size v' n K ∧ Below w.heap.size w w' := by
 obtain ⟨r0,hr0,hrz,hr1,hr2⟩ := info_parts info_vrow
 obtain ⟨q,c,rfl⟩ := hE.rows.shape
 have HLEN := Lib.hid hE.rows.len; have HR := Lib.hid hr; have HE := Lib.hid hE
 have HM1 : Hid (n ≤ maxLen) := by show n ≤ maxLen; unfold maxLen; omega
 have HM2 : Hid (48 * n ≤ 281474976710656) := by show 48 * n ≤ _; omega
 obtain ⟨g,hg⟩ : ∃ g,g = w.heap.size := ⟨_,rfl⟩
 have HG := Lib.hid hg
 clear hg
 obtain ⟨f0,f1,f2⟩ := cells3 hE.box
 clear hE hr
 go_enter Tryz.func78,Tryz.ntmps78
 go_wp2_with (at_make; refine wpList_make_full _ rfl _ _ 44 rfl w.heap.size 99 r0 (.agg #[.slice none 0 0,.slice none 0 0]) 2 Tryz.underlying44 hr0 hrz hr1 .i64 .i64 _ _ n rfl rfl rfl rfl (by rw [hr2]; exact HM2.out) HM1.out (by simp) ?_)
 intro w1 ho hg
 have hg' : Below w.heap.size w w1 := (Below.refl _ _).grown hg (by simp) (by simp)
 have RM := heap_owns2 ho
 have R1 : Hid (RwL 99 5 w1 w.heap.size (.slice (some ⟨w.heap.size,0,none⟩) n n) n (List.replicate n ([],[]))) := RwL.made (by simpa using RM) (Nat.le_refl _) HM1.out
 have E1 := Lib.hid (HE.out.keep hg')
 have B1 := Lib.hid hg'
 rw [← HG.out] at R1 ⊢
 clear RM ho hg hg' f0 f1 f2 hr0 hrz hr1 hr2 HM1 HM2
 obtain ⟨f0,f1,f2⟩ := cells3 E1.out.box
 go_wp2
 clear f0 f1 f2
 go_loopw [19] (fun i wr => ∃ j : Nat,j ≤ n ∧ i = .int .i64 j ∧ Hid (RwL 99 5 wr g (.slice (some ⟨g,0,none⟩) n n) n (K.take j ++ List.replicate (n - j) ([],[]))) ∧ Hid (Below g w wr)) (fun i _ => n - (intOf i).toNat)
 case atStart => exact ⟨0,Nat.zero_le _,rfl,by show RwL _ _ _ _ _ _ _; simpa using R1.out,by show Below _ _ _; rw [HG.out]; exact B1.out⟩
 case round =>
  clear R1 E1 B1
  obtain ⟨j,hj,rfl,hR,hB⟩ := hrel
  have hE := Lib.hid (HE.out.keep (w' := wr) (by rw [← HG.out]; exact hB.out))
  by_cases hjl : j < n
  ·have jn : (j : Int) < (n : Int) := by omega
   obtain ⟨gs,kk,a1,b1,d1,a2,b2,d2,rfl,e1,e2,hkk,t1,t2⟩ := hE.out.rows.at hjl
   have T1 := Lib.hid t1; have T2 := Lib.hid t2; have HK := Lib.hid hkk.out
   have HRR := Lib.hid (HR.out kk (List.mem_of_getElem? hkk.out))
   clear t1 t2 hkk
   go_wp2_with fail
   clear e1 e2
   refine use_w1 (fun W => Below wr.heap.size wr W) (al (Below.refl _ _) (Nat.le_refl _)) ?_
   rintro w7 b7
   refine Calls.mono (RClone_any a1 a2 b1 d1 b2 d2 kk.1 kk.2 w7 (T1.out.keep b7) (T2.out.keep b7) (by rw [← T1.out.len]; exact HRR.out.1) (by rw [← T2.out.len]; exact HRR.out.2)) ?_
   rintro e w8 ⟨q1,m1,g1,q2,m2,g2,l1,l2,rfl,o1,o2,hb⟩
   have hgs : g ≤ w7.heap.size := Nat.le_trans (by rw [HG.out]; exact hB.out.size) b7.size
   have B8' := Lib.hid (b7.trans (hb.mono b7.size))
   have Y1 : Hid (Bw 5 w8 g (.slice q1 m1 g1) kk.1) := Bw.mk (owns_mono o1 hgs) l1.out
   have Y2 : Hid (Bw 5 w8 g (.slice q2 m2 g2) kk.2) := Bw.mk (owns_mono o2 hgs) l2.out
   have R8 := Lib.hid (hR.out.keep B8'.out)
   have E8 := Lib.hid (hE.out.keep B8'.out)
   have B9 := Lib.hid (hB.out.trans (B8'.out.mono (by rw [HG.out]; exact hB.out.size)))
   obtain ⟨cur,hcur⟩ := R8.out.blk
   have z0 : w8.frozen? ⟨g,j * 2,none⟩ = false := frozen_of_row _ _ _ _ _ hcur
   have z1 : w8.frozen? ⟨g,j * 2 + 1,none⟩ = false := frozen_of_row _ _ _ _ _ hcur
   obtain ⟨gx,kx,x1,xb1,xd1,x2,xb2,xd2,hgx,c1,c2,-,-,-⟩ := R8.out.at hjl
   obtain rfl : g = gx := by injection hgx with h; injection h
   have HP := Lib.hid (R8.out.put (by decide) hjl Y1.out Y2.out)
   have hs8 : g ≤ w8.heap.size := Nat.le_trans hgs hb.size
   clear hcur hgx o1 o2 hb b7 hR hE hB T1 T2 l1 l2 B8' hgs
   rw [fill_step HK.out HLEN.out] at HP
   have BX : Hid (∀ o1 o2 v1 v2,Below g w ((w8.setCell ⟨g,o1,none⟩ v1).setCell ⟨g,o2,none⟩ v2)) := fun o1 o2 v1 v2 => (B9.out.setCell (Nat.le_refl _) _).setCell (Nat.le_refl _) _
   clear B9 E8 R8 hs8
   go_wp2
   go_roundw
   case rel => exact ⟨j + 1,by omega,by go_num,HP.out,BX.out _ _ _ _⟩
   case measure => simp [intOf]; omega
  ·have hjn : j = n := by omega
   have hge : (n : Int) ≤ (j : Int) := by omega
   have HF := Lib.hid hR.out
   rw [List.take_of_length_le (by rw [HLEN.out]; omega),hjn,Nat.sub_self,List.replicate_zero,List.append_nil] at HF
   have BF := Lib.hid hB.out
   clear hR hE hB hjn
   go_wp2
   go_ret
   exact ⟨_,rfl,by rw [← HG.out]; exact HF.out,by rw [← HG.out]; exact BF.out⟩
end Go.Proofs.YtccaiiigdfieoaaGreatDoor
namespace Go.By
open Go.RowKit
theorem RwL.mono {T2 T1 base b2 n : Nat} {w : World} {v : Value} {K : List (List UInt8 × List UInt8)} (h : RwL T2 T1 w base v n K) (hb : b2 ≤ base) : RwL T2 T1 w b2 v n K := by
 obtain ⟨vs,a,b,o,r⟩ := h
 refine ⟨vs,a,b,?_,fun j u hj => by obtain ⟨k,hk,g1,g2⟩ := r j u hj; exact ⟨k,hk,g1.mono hb,g2.mono hb⟩⟩
 obtain ⟨q,c,rfl⟩ := owns_shape o
 exact owns_mono o hb
end Go.By
namespace Go.Proofs.YtccaiiigdfieoaaGreatDoor
open Go.RowKit Go.By
end Go.Proofs.YtccaiiigdfieoaaGreatDoor
namespace Go.By
open Go.RowKit
section
variable {T2 T1 : TypeId} {w w' : World} {base n : Nat} {v : Value} {xss : List (List UInt8)}
theorem Own2.mono {b2 : Nat} (h : Own2 T2 T1 w base v n xss) (hb : b2 ≤ base) : Own2 T2 T1 w b2 v n xss := by
 obtain ⟨vs,a,b,r⟩ := h
 obtain ⟨q,c,rfl⟩ := owns_shape a
 exact ⟨vs,owns_mono a hb,b,fun j u hj => by obtain ⟨xs,q',c',e1,e2,e3⟩ := r j u hj; exact ⟨xs,q',c',e1,e2,owns_mono e3 hb⟩⟩
theorem Own2.made {q : Value} (ho : w.ownsRow base T2 1 q n (madeCells #[Value.slice none 0 0] n).toList) : Own2 T2 T1 w base q n (List.replicate n []) := by
 have e : (madeCells #[Value.slice none 0 0] n).toList = List.replicate n (Value.slice none 0 0) := toList_madeCells_one _ _
 rw [e] at ho
 refine ⟨_,ho,by simp,fun j u hj => ?_⟩
 obtain ⟨h1,h2⟩ := List.getElem?_eq_some_iff.1 hj
 rw [List.length_replicate] at h1
 simp at h2
 exact ⟨[],none,0,by rw [List.getElem?_replicate,if_pos h1],h2.symm,World.ownsRow_nil _ _ _ _⟩
theorem Own2.put {g c i m c3 : Nat} {q3 : Option Addr} {xs : List UInt8} (h : Own2 T2 T1 w base (.slice (some ⟨g,0,none⟩) n c) n xss) (hT : T1 ≠ T2) (hi : i < n) (h1 : w.ownsRow base T1 1 (.slice q3 m c3) m (xs.map B8)) :
  Own2 T2 T1 (w.setCell ⟨g,i,none⟩ (.slice q3 m c3)) base (.slice (some ⟨g,0,none⟩) n c) n (xss.set i xs) := by
 obtain ⟨vs,a,b,r⟩ := h
 have hml : m = xs.length := by have := h1.1; simp at this; exact this.symm
 subst hml
 have hvl : vs.length = n := by simpa using a.1
 have hst := a.stored i (.slice q3 xs.length c3)
 refine ⟨vs.set i (.slice q3 xs.length c3),hst.1,by simp [b],fun j u hj => ?_⟩
 rw [List.getElem?_set] at hj
 by_cases e : i = j
 ·subst e
  rw [if_pos rfl,if_pos (by omega)] at hj
  cases hj
  exact ⟨xs,q3,c3,by rw [List.getElem?_set,if_pos rfl,if_pos (by omega)],rfl,owns_kept h1 hst.2 (owns_ne h1 a hT)⟩
 ·rw [if_neg e] at hj
  obtain ⟨xs',q',c',e1,e2,e3⟩ := r j u hj
  exact ⟨xs',q',c',by rw [List.getElem?_set,if_neg e]; exact e1,e2,owns_kept e3 hst.2 (owns_ne e3 a hT)⟩
theorem Own2.blk {g c i : Nat} (h : Own2 T2 T1 w base (.slice (some ⟨g,0,none⟩) n c) n xss) (hi : i < n) : (∃ u,w.cell? ⟨g,i,none⟩ = some u) ∧ w.frozen? ⟨g,i,none⟩ = false ∧ base ≤ g := by
 obtain ⟨vs,a,b,r⟩ := h
 have hvl : vs.length = n := by simpa using a.1
 exact ⟨⟨_,(a.cellAt i (by omega)).trans (List.getElem?_eq_getElem (by omega))⟩,a.frozenAt _,(a.lt g rfl).1⟩
end
end Go.By
namespace Go.Proofs.YtccaiiigdfieoaaGreatDoor
open Go.RowKit Go.By
end Go.Proofs.YtccaiiigdfieoaaGreatDoor
namespace Go.By
open Go.RowKit Go.Proofs.YtccaiiigdfieoaaGreatDoor
theorem owns_same {w w' : World} {base T k n : Nat} {v : Value} {L : List Value} (h : w.ownsRow base T k v n L) (hs : w.heap.size ≤ w'.heap.size) (hb : ∀ g,v.ownBlock = some g → w'.heap[g]? = w.heap[g]?) : w'.ownsRow base T k v n L := by
 have _ := hs
 refine ⟨h.1,?_⟩
 rcases h.2 with h1 | ⟨g,cap,cur,e,h1,h2,h3⟩
 ·exact .inl h1
 ·exact .inr ⟨g,cap,cur,e,h1,(hb g (by rw [e]; rfl)).trans h2,h3⟩
section
variable {w w' : World} {base be k t n : Nat} {v : Value} {K : List Rw}
theorem Chg.blk (h : Chg w w' be v) (hE : Elm w base be k t v n K) {g T : Nat} {cs : Array Value} {fr : Nat × Nat} (hg : w.heap[g]? = some (.cells cs T fr)) (h1 : T ≠ 191) (h2 : v.ownBlock ≠ some g) : w'.heap[g]? = some (.cells cs T fr) := by
 refine (h.block g (blk_lt hg) (fun e => ?_) h2).trans hg
 subst e
 rw [hE.box] at hg; injection hg with hg; injection hg with _ hg _; exact h1 hg.symm
theorem Chg.blk2 (h : Chg w w' be v) (hE : Elm w base be k t v n K) {g T : Nat} {cs : Array Value} {fr : Nat × Nat} (hg : w.heap[g]? = some (.cells cs T fr)) (h1 : T ≠ 191) (h2 : 99 ≠ T) : w'.heap[g]? = some (.cells cs T fr) :=
 h.blk hE hg h1 (hE.rows.ne_box hg h2)
theorem Chg.bw (h : Chg w w' be v) (hE : Elm w base be k t v n K) {b : Nat} {u : Value} {xs : List UInt8} (hu : Bw 5 w b u xs) : Bw 5 w' b u xs := by
 obtain ⟨q,m,c,e,l,o⟩ := hu
 refine ⟨q,m,c,e,l,owns_same o h.size fun g hg => ?_⟩
 rcases o.2 with ⟨e1,_⟩ | ⟨g',cap,cur,e1,_,hh,_⟩
 ·rw [e1] at hg; cases hg
 ·rw [e1] at hg; cases hg
  rw [h.blk2 hE hh (by decide) (by decide),hh]
theorem Chg.rwl (h : Chg w w' be v) (hE : Elm w base be k t v n K) {b2 n2 : Nat} {v2 : Value} {K2 : List Rw} (h2 : RwL 99 5 w b2 v2 n2 K2) (hne : ∀ g,v2.ownBlock = some g → v.ownBlock ≠ some g) : RwL 99 5 w' b2 v2 n2 K2 := by
 obtain ⟨vs,a,b,o,r⟩ := h2
 refine ⟨vs,a,b,owns_same o h.size fun g hg => ?_,fun j u hj => by obtain ⟨x,hk,g1,g2⟩ := r j u hj; exact ⟨x,hk,h.bw hE g1,h.bw hE g2⟩⟩
 rcases o.2 with ⟨e1,_⟩ | ⟨g',cap,cur,e1,_,hh,_⟩
 ·rw [e1] at hg; cases hg
 ·have hn := hne g hg
  rw [e1] at hg; cases hg
  rw [h.blk hE hh (by decide) hn,hh]
theorem Chg.elm (h : Chg w w' be v) (hE : Elm w base be k t v n K) {b2 be2 n2 k2 t2 : Nat} {v2 : Value} {K2 : List Rw} (h2 : Elm w b2 be2 k2 t2 v2 n2 K2) (hbe : be2 ≠ be) (hne : ∀ g,v2.ownBlock = some g → v.ownBlock ≠ some g) : Elm w' b2 be2 k2 t2 v2 n2 K2 :=
 ⟨(h.block be2 (blk_lt h2.box) hbe (hE.rows.ne_box h2.box (by decide))).trans h2.box,h.rwl hE h2.rows hne,h2.old⟩
end
end Go.By
namespace Go.Proofs.YtccaiiigdfieoaaGreatDoor
open Go.RowKit Go.By
def codeF (K : List Rw) (x : Rw) : Int := if leadS (restF K x).1 < 0 then (if zeroS (restF K x).2 = true then 1 else 2) else 0
def putK (K : List Rw) (x : Rw) : List Rw := if leadS (restF K x).1 < 0 then K else putF K x
def putD (K D : List Rw) (x : Rw) : List Rw := if leadS (restF K x).1 < 0 then D else D ++ [x]
theorem EPut_fit (base be k t n : Nat) (v : Value) (K : List Rw) (p1 p2 : Option Addr) (c1 c2 : Nat) (x : Rw) (w : World) (hE : Elm w base be k t v n K) (s1 : Sl B8 w p1 k c1 x.1) (s2 : Sl B8 w p2 t c2 x.2) (hR : Red k t K) (hk : k ≤ 4096) (ht : t ≤ 65535) (hnn : n ≤ 4096) :
  Calls Tryz.prog 64 #[.pointer (some ⟨be,0,none⟩),.agg #[.slice p1 k c1,.slice p2 t c2]] w fun e w' => e = .returned (.tuple #[.int .i64 (codeF K x),.int .i64 0]) ∧
   ∃ v' n',Elm w' base be k t v' n' (putK K x) ∧ Chg w w' be v ∧ (v'.ownBlock = v.ownBlock ∨ ∀ b,v'.ownBlock = some b → w.heap.size ≤ b) := by
 by_cases hn : leadS (restF K x).1 < 0
 ·refine (EPut_zero base be k t n v K p1 p2 c1 c2 x w hE s1 s2 hR.kept.rows hk ht hn).mono ?_
  rintro e w' ⟨rfl,hb⟩
  unfold codeF putK
  rw [if_pos hn,if_pos hn]
  exact ⟨rfl,v,n,hE.keep hb,Chg.of be v hb,.inl rfl⟩
 ·refine (EPut_grown base be k t n v K p1 p2 c1 c2 x w hE s1 s2 hR hk ht hn hnn).mono ?_
  rintro e w' ⟨rfl,v',h1,h2,h3⟩
  unfold codeF putK
  rw [if_neg hn,if_neg hn]
  exact ⟨rfl,v',n + 1,h1,h2,h3⟩
theorem Sys.putK {n t : Nat} {D K : List Rw} {x : Rw} (h : Sys n t (kD D) K) (hx : Fit n t x) : Sys n t (kD (putD K D x)) (putK K x) := by
 unfold putD Go.Proofs.YtccaiiigdfieoaaGreatDoor.putK
 by_cases hn : leadS (restF K x).1 < 0
 ·rw [if_pos hn,if_pos hn]; exact h
 ·rw [if_neg hn,if_neg hn,kD_snoc]; exact h.put hx hn
theorem RwN.vals {W w : World} {T n c : Nat} {q : Option Addr} {K : List Rw} (h : RwN W w T q n c K) : ∃ vs,w.ownsRow W.heap.size T 2 (.slice q n c) n (fl2 vs) ∧ RwV w q n c vs ∧ vs.length = n ∧ ∀ (j : Nat) (k : Rw),K[j]? = some k → ∃ u,vs[j]? = some u ∧ RwP W u k := by
 obtain ⟨hb,hl,vs,o,hv⟩ := h
 have hvl : vs.length = n := by have := o.1; rw [fl2_length] at this; omega
 refine ⟨vs,o,RwV.of_owns o (fun u hu => ?_),hvl,hv⟩
 obtain ⟨a,ha,hu⟩ := List.mem_flatMap.1 hu
 obtain ⟨j,hj,rfl⟩ := List.getElem_of_mem ha
 obtain ⟨u',hu',q1,m1,c1,q2,m2,c2,e,-⟩ := hv j (K[j]'(by omega)) (List.getElem?_eq_getElem (by omega))
 rw [List.getElem?_eq_getElem hj] at hu'
 injection hu' with hu'
 rw [hu',e] at hu
 simp at hu
 rcases hu with rfl | rfl <;> rfl
theorem incr_ge {l : List Nat} (h : l.Pairwise (· < ·)) : ∀ (i : Nat) (hi : i < l.length),i ≤ l[i]
 | 0,_ => Nat.zero_le _
 | i + 1,hi => by
  have h1 := incr_ge h i (by omega)
  have h2 := List.pairwise_iff_getElem.1 h i (i + 1) (by omega) hi (by omega)
  omega
theorem incr_len {l : List Nat} {B : Nat} (h : l.Pairwise (· < ·)) (hB : ∀ a,a ∈ l → a < B) : l.length ≤ B := by
 rcases Nat.eq_zero_or_pos l.length with h0 | h0
 ·omega
 ·have h1 := incr_ge h (l.length - 1) (by omega)
  have h2 := hB _ (List.getElem_mem (show l.length - 1 < l.length by omega))
  omega
theorem Red.le {k t : Nat} {K : List Rw} (h : Red k t K) : K.length ≤ k := by
 have := incr_len h.leads (B := k) (fun a ha => by
  obtain ⟨x,hx,rfl⟩ := List.mem_map.1 ha
  obtain ⟨hf,hl⟩ := h.kept.rows x hx
  exact hl.at.lt hf)
 rwa [List.length_map] at this
end Go.Proofs.YtccaiiigdfieoaaGreatDoor
namespace Go.Proofs.YtccaiiigdfieoaaGreatDoor
open Go.RowKit Go.By Go.Maps
theorem ones_gate {a b c d : Int} {M : Value} (hM : M.oneCell' = true) : (#[Value.int .i64 a,.int .i64 b,.int .i64 c,.int .u32 d,M].all (·.oneCell')) = true := by
 simp only [List.all_toArray,List.all_cons,List.all_nil,hM]; rfl
structure Tkr (w : World) (base gt be L t k D N : Nat) (M v : Value) (C : DataW Unit) (K : List Rw) (st : Nat) : Prop where
 ok : POK L t k D
 box : w.heap[gt]? = some (.cells #[.int .i64 (L : Nat),.int .i64 (t : Nat),.int .i64 (k : Nat),.int .u32 (D : Nat),M,.pointer (some ⟨be,0,none⟩),.int .i64 (st : Nat)] 118 (0,0))
 cnt : CntM w M N C
 elm : Elm w base be k t v K.length K
 red : Red k t K
 old : base ≤ gt
theorem Tkr.keep {w w' : World} {base gt be L t k D N : Nat} {M v : Value} {C : DataW Unit} {K : List Rw} {st : Nat} (h : Tkr w base gt be L t k D N M v C K st) (hb : Below w.heap.size w w') : Tkr w' base gt be L t k D N M v C K st :=
 ⟨h.ok,(hb.block _ (lt_of_block h.box)).trans h.box,h.cnt.keep hb,h.elm.keep hb,h.red,h.old⟩
set_option maxRecDepth 100000 in
set_option maxHeartbeats 2000000 in
theorem TNew_ok (L t k D : Nat) (w : World) (hP : POK L t k D) :
  Calls Tryz.prog 15 #[PVal L t k D] w fun e w' => ∃ gt be v,e = .returned (.tuple #[.pointer (some ⟨gt,0,none⟩),.int .i64 0]) ∧ Tkr w' w.heap.size gt be L t k D 0 (.map none) v (.map []) [] 0 ∧ Below w.heap.size w w' := by
 have HP := Lib.hid hP
 have HG : Hid (∀ w,Calls Tryz.prog 60 #[PVal L t k D] w fun e w' => e = .returned (.tuple #[GVal L t k D (.map none),.int .i64 0]) ∧ Below w.heap.size w w') := fun w => GNew_ok L t k D w hP
 have HE : Hid (∀ w,Calls Tryz.prog 61 #[.int .i64 (k : Nat),.int .i64 (t : Nat)] w _) := fun w => New_good k t w hP.k1 hP.k2 hP.t2
 clear hP
 go_enter Tryz.func15,Tryz.ntmps15
 go_wp2_with fail
 refine Calls.mono (HG.out _) ?_
 rintro e w1 ⟨rfl,hb⟩
 obtain ⟨hb1,h1,hs⟩ := one_of hb
 have HB := Lib.hid hb1
 obtain ⟨c0,c1,c2,c3⟩ := cells_four h1
 have a1 : ∀ o',(w1.alloc o').cell? ⟨w.heap.size,1,none⟩ = _ := fun _ => calloc c1
 have a2 : ∀ o',(w1.alloc o').cell? ⟨w.heap.size,2,none⟩ = _ := fun _ => calloc c2
 clear hb hb1 c0 c1 c2 c3
 go_wp2_with fail
 refine Calls.mono (HE.out _) ?_
 rintro e w2 ⟨be,rfl,hE,hb⟩
 obtain ⟨hb2,h2,hs2⟩ := one_of hb
 have HB2 := Lib.hid (bl HB.out hb2 HB.out.size)
 have HEl := Lib.hid (⟨hE.box,hE.rows.mono (by have := HB.out.size; simp; omega),Nat.le_trans (by have := HB.out.size; simp; omega) hE.old⟩ : Elm w2 w.heap.size be k t (.slice none 0 0) 0 [])
 obtain ⟨d0,d1,d2,d3,d4⟩ := cells_five h2
 clear hb hb2 hE a1 a2
 go_wp2
 go_ret2
 exact ⟨w2.heap.size,be,.slice none 0 0,rfl,⟨HP.out,hnew rfl,CntM.none _ _,HEl.out.keep (al (Below.refl _ _) (Nat.le_refl _)),Red.nil _ _,HB2.out.size⟩,al HB2.out HB2.out.size⟩
set_option maxRecDepth 100000 in
set_option maxHeartbeats 1000000 in
theorem TRows_any (base gt be L t k D N : Nat) (M v : Value) (C : DataW Unit) (K : List Rw) (st : Nat) (w : World) (h : Tkr w base gt be L t k D N M v C K st) :
  Calls Tryz.prog 21 #[.pointer (some ⟨gt,0,none⟩)] w fun e w' => ∃ v',e = .returned v' ∧ RwL 99 5 w' w.heap.size v' K.length K ∧ Below w.heap.size w w' := by
 have hl := Red.le h.red
 have hk2 := h.ok.k2
 have ht2 := h.ok.t2
 have hR := h.red
 have HE := Lib.hid (ERows_any base be k t K.length v K w h.elm (fun r hr => ⟨by have := (hR.kept.rows r hr).1.1; show _ ≤ _; omega,by have := (hR.kept.rows r hr).1.2; show _ ≤ _; omega⟩) (by omega))
 obtain ⟨c0,c1,c2,c3,c4,c5,c6⟩ := cells_seven h.box
 clear h hl hk2 ht2 hR
 go_enter Tryz.func21,Tryz.ntmps21
 go_wp2_with fail
 refine Calls.mono HE.out ?_
 rintro e w1 ⟨v',rfl,hr,hb⟩
 have HR := Lib.hid hr
 have HB := Lib.hid hb
 clear hr hb
 go_wp2
 go_ret
 exact ⟨v',rfl,HR.out,HB.out⟩
set_option maxRecDepth 100000 in
set_option maxHeartbeats 1000000 in
theorem TGate_any (base gt be L t k D N : Nat) (M v : Value) (C : DataW Unit) (K : List Rw) (st : Nat) (w : World) (h : Tkr w base gt be L t k D N M v C K st) :
  Calls Tryz.prog 71 #[.pointer (some ⟨gt,0,none⟩)] w fun e w' => e = .returned (GVal L t k D M) ∧ Below w.heap.size w w' := by
 have hM : M.oneCell' = true := by rcases h.cnt.at_ with ⟨rfl,_⟩ | ⟨b,rfl,_⟩ <;> rfl
 obtain ⟨c0,c1,c2,c3,c4,c5,c6⟩ := cells_seven h.box
 have a0 : ∀ o',(w.alloc o').cell? ⟨gt,0,none⟩ = _ := fun _ => calloc c0
 have a1 : ∀ o',(w.alloc o').cell? ⟨gt,1,none⟩ = _ := fun _ => calloc c1
 have a2 : ∀ o',(w.alloc o').cell? ⟨gt,2,none⟩ = _ := fun _ => calloc c2
 have a3 : ∀ o',(w.alloc o').cell? ⟨gt,3,none⟩ = _ := fun _ => calloc c3
 have a4 : ∀ o',(w.alloc o').cell? ⟨gt,4,none⟩ = _ := fun _ => calloc c4
 clear h c0 c1 c2 c3 c4 c5 c6
 go_enter Tryz.func71,Tryz.ntmps71
 go_wp2_with (refine wpList_store_row (o := ⟨none,.store 111 (.tmp 2) (.tmp 9),_,_,_,_⟩) rfl 111 (.tmp 2) (.tmp 9) rfl w.heap.size #[.int .i64 (L : Nat),.int .i64 (t : Nat),.int .i64 (k : Nat),.int .u32 (D : Nat),M] rfl rfl _ _ (hnew rfl) info_gate rfl (ones_gate hM) ?_)
 refine bodyPost_ret (results_cell_row rfl _ _ _ 111 #[.int .i64 (L : Nat),.int .i64 (t : Nat),.int .i64 (k : Nat),.int .u32 (D : Nat),M] (0,0) _ rfl (hrs (hnew rfl)) Tryz.underlying111 rfl info_gate) rfl ?_
 exact ⟨rfl,below_row (al (Below.refl _ _) (Nat.le_refl _)) (Nat.le_refl _)⟩
end Go.Proofs.YtccaiiigdfieoaaGreatDoor
namespace Go.By
open Go.RowKit
section
variable {P : Program} {ops : Array Oper} {Q : Exit → Act → World → Prop}
def StepDn (P : Program) (ops : Array Oper) (Q : Exit → Act → World → Prop) (a0 : Act) (E : (Nat → Bool) → World → Prop) (R : Nat → World → World → Prop) (Inv : Nat → (Nat → Value) → World → Prop) (i : Nat) (o : Oper) : Prop :=
 ∀ (a : Act) (w : World) (dn : Nat → Bool),dn i = false → E dn w → a.tmps.size = a0.tmps.size → (∀ k,k ∈ preds o → Inv k (sl a) w) → (∀ t,initAt ops i t = true → sl a t = sl a0 t) →
  if Region.wanted o (yielded ops a.tmps) = true then o.wp P a w (fun a' w' => ∃ v,a' = a.put o.dst v ∧ R i w w' ∧ Inv i (sl a') w') Q
  else R i w w ∧ Inv i (sl (a.put o.dst undef)) w
def EachDn (P : Program) (ops : Array Oper) (Q : Exit → Act → World → Prop) (a0 : Act) (E : (Nat → Bool) → World → Prop) (R : Nat → World → World → Prop) (Inv : Nat → (Nat → Value) → World → Prop) : List Oper → Nat → Prop
 | [],_ => True
 | o :: rest,i => StepDn P ops Q a0 E R Inv i o ∧ EachDn P ops Q a0 E R Inv rest (i + 1)
theorem EachDn.get {a0 : Act} {E : (Nat → Bool) → World → Prop} {R : Nat → World → World → Prop} {Inv : Nat → (Nat → Value) → World → Prop} : ∀ (l : List Oper) (k : Nat),EachDn P ops Q a0 E R Inv l k → ∀ j o,l[j]? = some o → StepDn P ops Q a0 E R Inv (k + j) o := by
 intro l
 induction l with
 | nil => intro k _ j o h; simp at h
 | cons x l ih =>
  intro k h j o hj
  cases j with
  | zero => simp at hj; subst hj; exact h.1
  | succ j =>
   have := ih (k + 1) h.2 j o (by simpa using hj)
   rwa [show k + 1 + j = k + (j + 1) by omega] at this
theorem wp_region_done {id : Nat} {a0 : Act} {w0 : World} (hm : P.follows .mixedOrders = true) (hback : backB ops = true)
  (E : (Nat → Bool) → World → Prop) (R : Nat → World → World → Prop) (Inv : Nat → (Nat → Value) → World → Prop)
  (E0 : E (fun _ => false) w0.drew) (ER : ∀ dn i w w',dn i = false → E dn w → R i w w' → E (fun j => if i = j then true else dn j) w')
  (stable : ∀ i j oi oj (σ σ' : Nat → Value) w w',i ≠ j → ops[i]? = some oi → ops[j]? = some oj → i ∉ preds oj ∨ True → Inv j σ w → R i w w' → (∀ t,oi.dst ≠ some t → σ' t = σ t) → (j ∉ preds oi → True) → (∀ d,oi.dst = some d → i ∈ preds oj → False) → Inv j σ' w')
  (each : EachDn P ops Q a0 E R Inv ops.toList 0)
  (fin : ∀ a w dn,E dn w → a.tmps.size = a0.tmps.size → a.defers = a0.defers → (∀ j,j < ops.size → Inv j (sl a) w) → (∀ t,(ops.toList.all fun o => o.dst != some t) = true → sl a t = sl a0 t) → Q .normal a w) :
  (Code.region id ops true).wp P Q a0 w0 := by
 refine wp_region_any hm ?_
 show wpAny P .any ops Q ops.size (Array.replicate ops.size false) a0 w0.drew
 have main : ∀ (fuel : Nat) (listed : Array Bool) (a : Act) (w : World),unl ops.size listed ≤ fuel → E (fun j => listed.getD j false) w → a.tmps.size = a0.tmps.size → a.defers = a0.defers →
   (∀ j o,listed.getD j false = true → ops[j]? = some o → ∀ k,k ∈ preds o → listed.getD k false = true) →
   (∀ j,j < ops.size → listed.getD j true = true → listed.getD j false = true) →
   (∀ j,j < ops.size → listed.getD j false = true → Inv j (sl a) w) →
   (∀ t,(∀ j o,j < ops.size → listed.getD j false = true → ops[j]? = some o → o.dst ≠ some t) → sl a t = sl a0 t) → wpAny P .any ops Q fuel listed a w := by
  intro fuel
  induction fuel with
  | zero =>
   intro listed a w hu hE hs hd hcl hlt hI ht
   have hall : ∀ j,j < ops.size → listed.getD j false = true := by
    intro j hj
    refine hlt j hj ?_
    have h0 : unl ops.size listed = 0 := by omega
    unfold unl at h0
    have := List.countP_eq_zero.1 h0 j (List.mem_range.2 hj)
    simpa using this
   refine ⟨?_,fin a w _ hE hs hd (fun j hj => hI j hj (hall j hj)) (fun t htt => ht t (fun j o _ _ ho => ?_))⟩
   ·rw [List.eq_nil_iff_forall_not_mem]
    intro i hi
    obtain ⟨h1,h2,_⟩ := mem_ready.1 hi
    have hx := hall i h1
    rcases Nat.lt_or_ge i listed.size with h | h
    ·simp [Array.getD_eq_getD_getElem?,h] at h2 hx; rw [h2] at hx; cases hx
    ·simp [Array.getD_eq_getD_getElem?,Array.getElem?_eq_none h] at hx
   ·have := List.all_eq_true.1 htt o (by rw [Array.mem_toList_iff]; exact Array.mem_of_getElem? ho)
    simpa using this
  | succ fuel ih =>
   intro listed a w hu hE hs hd hcl hlt hI ht
   refine ⟨fun hr => ?_,fun i hi => ?_⟩
   ·have hall : ∀ n j,j < n → j < ops.size → listed.getD j false = true := by
     intro n
     induction n with
     | zero => intro j hj; omega
     | succ n ihn =>
      intro j hj hjs
      refine hlt j hjs ?_
      cases hb : listed.getD j true with
      | true => rfl
      | false =>
       exfalso
       have ho : ops[j]? = some ops[j] := Array.getElem?_eq_getElem hjs
       have : j ∈ Region.ready .any ops listed := mem_ready.2 ⟨hjs,hb,_,ho,fun k hk => by
        have hbk := List.all_eq_true.1 hback j (List.mem_range.2 hjs)
        rw [ho] at hbk
        have hkj := of_decide_eq_true (List.all_eq_true.1 hbk k hk)
        exact ihn k (by omega) (by omega)⟩
       rw [hr] at this; cases this
    exact fin a w _ hE hs hd (fun j hj => hI j hj (hall (j + 1) j (by omega) hj)) (fun t htt => ht t (fun j o _ _ ho => by
     have := List.all_eq_true.1 htt o (by rw [Array.mem_toList_iff]; exact Array.mem_of_getElem? ho)
     simpa using this))
   ·obtain ⟨h1,h2,o,ho,h3⟩ := mem_ready.1 hi
    have hst := EachDn.get ops.toList 0 each i o (by simpa using ho)
    rw [Nat.zero_add] at hst
    have hnl : listed.getD i false ≠ true := by
     intro hx
     rcases Nat.lt_or_ge i listed.size with h | h
     ·simp [Array.getD_eq_getD_getElem?,h] at h2 hx; rw [h2] at hx; cases hx
     ·simp [Array.getD_eq_getD_getElem?,Array.getElem?_eq_none h] at hx
    have his : i < listed.size := by
     rcases Nat.lt_or_ge i listed.size with h | h
     ·exact h
     ·simp [Array.getD_eq_getD_getElem?,Array.getElem?_eq_none h] at h2
    have gset : ∀ j (d : Bool),(listed.setIfInBounds i true).getD j d = if i = j then true else listed.getD j d := by
     intro j d
     simp only [Array.getD_eq_getD_getElem?,Array.getElem?_setIfInBounds]
     by_cases e : i = j
     ·subst e; simp [his]
     ·simp [e]
    have hst' := hst a w _ (by simpa using hnl) hE hs (fun k hk => hI k (by
      have hbk := List.all_eq_true.1 hback i (List.mem_range.2 h1)
      rw [ho] at hbk
      have := of_decide_eq_true (List.all_eq_true.1 hbk k hk); omega) (h3 k hk)) (fun t hti => by
     refine ht t (fun j oj hj hlj hoj hdj => ?_)
     have := List.all_eq_true.1 hti j (List.mem_range.2 hj)
     rw [hoj] at this
     by_cases e : j = i
     ·subst e; exact hnl hlj
     ·simp [e,hdj] at this
      exact hnl (hcl j oj hlj hoj i this))
    have next : ∀ (v : Value) (w' : World),R i w w' → Inv i (sl (a.put o.dst v)) w' → wpAny P .any ops Q fuel (listed.setIfInBounds i true) (a.put o.dst v) w' := by
     intro v w' hR hIi
     refine ih _ _ _ (by have := unl_set (n := ops.size) h1 h2; omega) (by have h := ER _ i w w' (by simpa using hnl) hE hR; have e : (fun j => if i = j then true else listed.getD j false) = fun j => (listed.setIfInBounds i true).getD j false := funext fun j => (gset j false).symm; rw [e] at h; exact h) ((put_size _ _ _).trans hs) ((put_defers _ _ _).trans hd) ?_ ?_ ?_ ?_
     ·intro j oj hj hoj k hk
      rw [gset] at hj ⊢
      by_cases e : i = k
      ·rw [if_pos e]
      ·rw [if_neg e]
       by_cases e' : i = j
       ·subst e'; rw [ho] at hoj; cases hoj; exact h3 k hk
       ·rw [if_neg e'] at hj; exact hcl j oj hj hoj k hk
     ·intro j hj hl
      rw [gset] at hl ⊢
      by_cases e : i = j
      ·rw [if_pos e]
      ·rw [if_neg e] at hl ⊢; exact hlt j hj hl
     ·intro j hj hl
      rw [gset] at hl
      by_cases e : i = j
      ·subst e; exact hIi
      ·rw [if_neg e] at hl
       have hoj : ops[j]? = some ops[j] := Array.getElem?_eq_getElem hj
       exact stable i j o _ (sl a) _ w w' e ho hoj (.inr trivial) (hI j hj hl) hR (fun t h => put_sl _ _ _ _ h) (fun _ => trivial) (fun d hdd hp => hnl (hcl j _ hl hoj i hp))
     ·intro t htt
      have hdt : o.dst ≠ some t := htt i o h1 (by rw [gset,if_pos rfl]) ho
      rw [put_sl _ _ _ _ hdt]
      exact ht t (fun j oj hj hl hoj => htt j oj hj (by rw [gset]; split <;> simp [hl]) hoj)
    unfold wpOp
    rw [ho]
    show if Region.wanted o (yielded ops a.tmps) = true then _ else _
    split
    ·rename_i hw
     rw [if_pos hw] at hst'
     exact .inl (Oper.wp_mono (fun a' w' ⟨v,e,hR,hIi⟩ => by rw [e] at hIi ⊢; exact next v w' hR hIi) hst')
    ·rename_i hw
     rw [if_neg hw] at hst'
     exact next undef w hst'.1 hst'.2
 refine main ops.size _ a0 w0.drew ?_ (by have e : (fun j => (Array.replicate ops.size false).getD j false) = fun _ => false := funext fun j => (by simp [Array.getD_eq_getD_getElem?,Array.getElem?_replicate]; split <;> rfl); rw [e]; exact E0) rfl rfl ?_ ?_ ?_ ?_
 ·unfold unl; exact Nat.le_trans List.countP_le_length (by simp)
 ·intro j o hj; simp [Array.getD_eq_getD_getElem?,Array.getElem?_replicate] at hj
  split at hj <;> simp at hj
 ·intro j hj hl; simp [Array.getD_eq_getD_getElem?,Array.getElem?_replicate,hj] at hl
 ·intro j hj hl; simp [Array.getD_eq_getD_getElem?,Array.getElem?_replicate,hj] at hl
 ·intro t _; rfl
def InvD (ops : Array Oper) (sh : Nat → Value → World → Prop) (i : Nat) (σ : Nat → Value) (w : World) : Prop := match dstOf ops i with
 | some d => sh i (σ d) w
 | none => True
def StepE (P : Program) (ops : Array Oper) (Q : Exit → Act → World → Prop) (a0 : Act) (E : (Nat → Bool) → World → Prop) (R : Nat → World → World → Prop) (sh : Nat → Value → World → Prop) (i : Nat) (o : Oper) : Prop :=
 ∀ (a : Act) (w : World) (dn : Nat → Bool),dn i = false → E dn w → a.tmps.size = a0.tmps.size → (∀ k,k ∈ preds o → InvD ops sh k (sl a) w) → (∀ t,initAt ops i t = true → sl a t = sl a0 t) →
  if Region.wanted o (yielded ops a.tmps) = true then o.wp P a w (fun a' w' => ∃ v,a' = a.put o.dst v ∧ R i w w' ∧ sh i v w') Q
  else R i w w ∧ sh i undef w
def EachE (P : Program) (ops : Array Oper) (Q : Exit → Act → World → Prop) (a0 : Act) (E : (Nat → Bool) → World → Prop) (R : Nat → World → World → Prop) (sh : Nat → Value → World → Prop) : List Oper → Nat → Prop
 | [],_ => True
 | o :: rest,i => StepE P ops Q a0 E R sh i o ∧ EachE P ops Q a0 E R sh rest (i + 1)
theorem eachE_of {a0 : Act} {E : (Nat → Bool) → World → Prop} {R : Nat → World → World → Prop} {sh : Nat → Value → World → Prop} {n : Nat} (hn : a0.tmps.size = n) : ∀ (l : List Oper) (k : Nat),(∀ j o,l[j]? = some o → ops[k + j]? = some o) → (l.all fun o => match o.dst with
  | some d => decide (d < n)
  | none => false) = true →
  EachE P ops Q a0 E R sh l k → EachDn P ops Q a0 E R (InvD ops sh) l k := by
 intro l
 induction l with
 | nil => intro k _ _ _; trivial
 | cons o l ih =>
  intro k hk hd h
  simp only [List.all_cons,Bool.and_eq_true] at hd
  refine ⟨?_,ih (k + 1) (fun j o' hj => by have := hk (j + 1) o' (by simpa using hj); rwa [show k + (j + 1) = k + 1 + j by omega] at this) hd.2 h.2⟩
  intro a w dn hdn hE hs hp hi
  have ho : ops[k]? = some o := by have := hk 0 o (by simp); simpa using this
  have hs1 := h.1 a w dn hdn hE hs hp hi
  cases hdo : o.dst with
  | none => rw [hdo] at hd; simp at hd
  | some d =>
   rw [hdo] at hd
   have hd1 : d < n := of_decide_eq_true hd.1
   have hdn : d < a.tmps.size := by rw [hs,hn]; exact hd1
   have hdst : dstOf ops k = some d := by simp [dstOf,ho,hdo]
   split
   ·rename_i hw
    rw [if_pos hw] at hs1
    refine Oper.wp_mono ?_ hs1
    rintro a' w' ⟨v,e,hb,hok⟩
    refine ⟨v,e.trans (by rw [hdo]),hb,?_⟩
    unfold InvD
    rw [hdst]
    show sh k (sl a' d) w'
    rw [e,hdo,put_same _ _ _ hdn]; exact hok
   ·rename_i hw
    rw [if_neg hw] at hs1
    refine ⟨hs1.1,?_⟩
    unfold InvD
    rw [hdst]
    show sh k (sl (a.put (some d) undef) d) w
    rw [put_same _ _ _ hdn]; exact hs1.2
def predB (ops : Array Oper) (i j : Nat) : Bool := match ops[j]? with
 | some o => (preds o).contains i
 | none => false
theorem wp_region_dones {id : Nat} {a0 : Act} {w0 : World} (E : (Nat → Bool) → World → Prop) (R : Nat → World → World → Prop) (sh : Nat → Value → World → Prop) (n : Nat) (hn : a0.tmps.size = n) (hm : P.follows .mixedOrders = true) (hback : backB ops = true) (hdist : distB ops = true) (hdsts : dstsB ops n = true)
  (E0 : E (fun _ => false) w0.drew) (ER : ∀ dn i w w',dn i = false → E dn w → R i w w' → E (fun j => if i = j then true else dn j) w') (keep : ∀ i j v w w',i ≠ j → predB ops i j = false → sh j v w → R i w w' → sh j v w')
  (each : EachE P ops Q a0 E R sh ops.toList 0)
  (fin : ∀ a w dn,E dn w → a.tmps.size = a0.tmps.size → a.defers = a0.defers → (∀ j,j < ops.size → InvD ops sh j (sl a) w) → (∀ t,(ops.toList.all fun o => o.dst != some t) = true → sl a t = sl a0 t) → Q .normal a w) :
  (Code.region id ops true).wp P Q a0 w0 := by
 refine wp_region_done hm hback E R (InvD ops sh) E0 ER ?_ (eachE_of hn _ 0 (fun j o hj => by simpa using hj) hdsts each) fin
 intro i j oi oj σ σ' w w' hij hoi hoj _ hI hR hσ _ hnp
 unfold InvD at hI ⊢
 cases hdj : dstOf ops j with
 | none => trivial
 | some d =>
  rw [hdj] at hI
  show sh j (σ' d) w'
  have hne : oi.dst ≠ some d := by
   intro e
   have hi' : i < ops.size := (Array.getElem?_eq_some_iff.1 hoi).1
   have hj' : j < ops.size := (Array.getElem?_eq_some_iff.1 hoj).1
   have := List.all_eq_true.1 (List.all_eq_true.1 hdist i (List.mem_range.2 hi')) j (List.mem_range.2 hj')
   rw [hoi,hoj] at this
   have hdj' : oj.dst = some d := by simpa [dstOf,hoj] using hdj
   simp [e,hdj',hij] at this
  rw [hσ d hne]
  refine keep i j _ _ _ hij ?_ hI hR
  unfold predB
  rw [hoj]
  show (preds oj).contains i = false
  cases hc : (preds oj).contains i with
  | false => rfl
  | true =>
   have hdo := List.all_eq_true.1 hdsts oi (by rw [Array.mem_toList_iff]; exact Array.mem_of_getElem? hoi)
   cases hd : oi.dst with
   | none => rw [hd] at hdo; simp at hdo
   | some d => exact (hnp d hd (by simpa using hc)).elim
end
end Go.By
namespace Go.By
open Go.RowKit
theorem eachE_all {P : Program} {ops : Array Oper} {Q : Exit → Act → World → Prop} {a0 : Act} {E : (Nat → Bool) → World → Prop} {R : Nat → World → World → Prop} {sh : Nat → Value → World → Prop} (key : ∀ i o,ops[i]? = some o → StepE P ops Q a0 E R sh i o) :
  ∀ (l : List Oper) (k : Nat),(∀ j o,l[j]? = some o → ops[k + j]? = some o) → EachE P ops Q a0 E R sh l k := by
 intro l
 induction l with
 | nil => intro k _; trivial
 | cons x l ih =>
  intro k h
  exact ⟨key k x (by have := h 0 x rfl; simpa using this),ih (k + 1) fun j o hj => by have := h (j + 1) o (by simpa using hj); rwa [show k + 1 + j = k + (j + 1) by omega]⟩
def freeB (ops : Array Oper) : Bool := ops.toList.all fun o => o.guard.isNone
theorem wp_region_call {P : Program} {ops : Array Oper} {Q : Exit → Act → World → Prop} {id : Nat} {a0 : Act} {w0 : World} (sv : Nat → Value) (n s : Nat) (P1 : World → Prop) (hn : a0.tmps.size = n) (hm : P.follows .mixedOrders = true) (hback : backB ops = true) (hdist : distB ops = true) (hdsts : dstsB ops n = true) (hfree : freeB ops = true) (hs : s < ops.size)
  (each : ∀ i o,i ≠ s → ops[i]? = some o → ∀ a w,(w = w0.drew ∨ P1 w) → a.tmps.size = a0.tmps.size → (∀ k d,k ∈ preds o → dstOf ops k = some d → sl a d = sv k) → (∀ t,initAt ops i t = true → sl a t = sl a0 t) → (execOp a.eval o).run P w = .ok (.value (sv i)) w)
  (call : ∀ o,ops[s]? = some o → ∀ a,a.tmps.size = a0.tmps.size → (∀ k d,k ∈ preds o → dstOf ops k = some d → sl a d = sv k) → (∀ t,initAt ops s t = true → sl a t = sl a0 t) → o.wp P a w0.drew (fun a' w' => a' = a.put o.dst (sv s) ∧ P1 w') Q)
  (fin : ∀ a w,P1 w → a.tmps.size = a0.tmps.size → a.defers = a0.defers → (∀ j d,j < ops.size → dstOf ops j = some d → sl a d = sv j) → (∀ t,(ops.toList.all fun o => o.dst != some t) = true → sl a t = sl a0 t) → Q .normal a w) :
  (Code.region id ops true).wp P Q a0 w0 := by
 have hg : ∀ (i : Nat) (o : Oper),ops[i]? = some o → o.guard = none := fun i o ho => by
  have := List.all_eq_true.1 hfree o (by rw [Array.mem_toList_iff]; exact Array.mem_of_getElem? ho)
  cases hx : o.guard <;> simp [hx] at this ⊢
 refine wp_region_dones (fun dn w => (dn s = true → P1 w) ∧ (dn s = false → w = w0.drew)) (fun i w w' => if i = s then w = w0.drew ∧ P1 w' else w' = w) (fun j v w => v = sv j ∧ (j = s → P1 w)) n hn hm hback hdist hdsts ?_ ?_ ?_ ?_ ?_
 ·exact ⟨fun h => absurd h (by simp),fun _ => rfl⟩
 ·intro dn i w w' hdn hE hR
  by_cases hi : i = s
  ·have hR' : w = w0.drew ∧ P1 w' := by simpa [hi] using hR
   exact ⟨fun _ => hR'.2,fun h => by simp [hi] at h⟩
  ·have hR' : w' = w := by simpa [hi] using hR
   subst hR'
   exact ⟨fun h => hE.1 (by simpa [hi] using h),fun h => hE.2 (by simpa [hi] using h)⟩
 ·intro i j v w w' hij _ hv hR
  refine ⟨hv.1,fun hj => ?_⟩
  by_cases hi : i = s
  ·exact absurd (hi.trans hj.symm) hij
  ·rw [if_neg hi] at hR
   rw [hR]; exact hv.2 hj
 ·refine eachE_all ?_ ops.toList 0 (fun j o hj => by simpa using hj)
  intro i o ho a w dn hdn hE hsz hp hi
  have hp' : ∀ k d,k ∈ preds o → dstOf ops k = some d → sl a d = sv k := fun k d hk hd => by
   have := hp k hk
   unfold InvD at this
   rw [hd] at this
   exact this.1
  rw [if_pos (by simp [Region.wanted,hg i o ho])]
  by_cases his : i = s
  ·subst his
   have hw := hE.2 hdn
   subst hw
   refine Oper.wp_mono (fun a' w' hq => ?_) (call o ho a hsz hp' hi)
   obtain ⟨rfl,h1⟩ := hq
   refine ⟨sv i,rfl,?_,rfl,fun _ => h1⟩
   dsimp only
   rw [if_pos rfl]
   exact ⟨rfl,h1⟩
  ·have hw : w = w0.drew ∨ P1 w := by
    cases hx : dn s with
    | true => exact .inr (hE.1 hx)
    | false => exact .inl (hE.2 hx)
   refine wp_val (sv i) (each i o his ho a w hw hsz hp' hi) ⟨sv i,rfl,?_,rfl,fun h => absurd h his⟩
   dsimp only
   rw [if_neg his]
 ·intro a w dn hE hsz hd hI ht
  have hos : ops[s]? = some ops[s] := Array.getElem?_eq_getElem hs
  have hds : ∃ d,dstOf ops s = some d := by
   have := List.all_eq_true.1 hdsts ops[s] (Array.getElem_mem_toList hs)
   cases hx : ops[s].dst with
   | none => rw [hx] at this; cases this
   | some d => exact ⟨d,by simp [dstOf,hos,hx]⟩
  obtain ⟨d,hds⟩ := hds
  have h1 := hI s hs
  unfold InvD at h1
  rw [hds] at h1
  refine fin a w (h1.2 rfl) hsz hd (fun j d' hj hdj => ?_) ht
  have := hI j hj
  unfold InvD at this
  rw [hdj] at this
  exact this.1
end Go.By
namespace Go.By
open Go.RowKit Go.Maps Go.Proofs.YtccaiiigdfieoaaGreatDoor
structure OneE (w : World) (g : Nat) (w' : World) : Prop where
 os : w'.os = w.os
 tape : w'.tape = w.tape
 output : w'.output = w.output
 size : w'.heap.size = w.heap.size
 block : ∀ b,b ≠ g → w'.heap[b]? = w.heap[b]?
theorem OneE.refl (w : World) (g : Nat) : OneE w g w := ⟨rfl,rfl,rfl,rfl,fun _ _ => rfl⟩
theorem OneE.set {w w' : World} {g i : Nat} (h : OneE w g w') (v : Value) : OneE w g (w'.setCell ⟨g,i,none⟩ v) :=
 ⟨h.os,h.tape,h.output,by simp [World.setCell]; exact h.size,fun b hb => (Below.heap_setCell _ _ _ _ hb).trans (h.block b hb)⟩
theorem OneE.below {w w' : World} {g B : Nat} (h : OneE w g w') (hB : B ≤ g) : Below B w w' := ⟨h.os,h.tape,h.output,by rw [h.size]; exact Nat.le_refl _,fun i hi => h.block i (by omega)⟩
theorem OneE.fresh {T T' B g n c : Nat} {w w' : World} {q : Option Addr} {xs : List UInt8} {old : Array Value} {fr : Nat × Nat} (hE : OneE w g w') (h : Fresh T B w q n c xs) (hg : w.heap[g]? = some (.cells old T' fr)) (hne : T' ≠ T) : Fresh T B w' q n c xs := by
 have hd : ∀ a,q = some a → a.block ≠ g := fun a ha e1 => by
  obtain ⟨cs,fr,e⟩ := h.ty a ha
  rw [e1,hg] at e; injection e with e; injection e with _ e _; exact hne e
 refine ⟨⟨h.sl.len,h.sl.le,h.sl.max,h.sl.nil,fun i hi => ?_⟩,h.new,fun a ha => ?_⟩
 ·obtain ⟨b,o,e,hc⟩ := h.sl.rs i hi
  exact ⟨b,o,e,(World.cell?_of_block (a := ⟨b,o + i,none⟩) (hE.block b (hd _ e))).trans hc⟩
 ·obtain ⟨cs,fr,e⟩ := h.ty a ha
  exact ⟨cs,fr,(hE.block _ (hd a ha)).trans e⟩
theorem OneE.bw {T g b : Nat} {w w' : World} {u : Value} {xs : List UInt8} {old : Array Value} {T' : Nat} {fr : Nat × Nat} (hE : OneE w g w') (h : Bw T w b u xs) (hg : w.heap[g]? = some (.cells old T' fr)) (hne : T' ≠ T) : Bw T w' b u xs := by
 obtain ⟨q,m,c,e,l,o⟩ := h
 refine ⟨q,m,c,e,l,owns_same o (by rw [hE.size]; exact Nat.le_refl _) fun g2 hg2 => hE.block _ fun e2 => ?_⟩
 rcases o.2 with ⟨e1,_⟩ | ⟨g',cap,cur,e1,_,hh,_⟩
 ·rw [e1] at hg2; cases hg2
 ·rw [e1] at hg2; cases hg2
  have e3 : g' = g := e2
  rw [e3,hg] at hh; injection hh with hh; injection hh with _ hh _; exact hne hh
theorem OneE.elm {g base be k t n : Nat} {w w' : World} {v : Value} {K : List Rw} {old : Array Value} {T' : Nat} {fr : Nat × Nat} (hE : OneE w g w') (h : Elm w base be k t v n K) (hg : w.heap[g]? = some (.cells old T' fr)) (h1 : T' ≠ 191) (h2 : 99 ≠ T') (h3 : T' ≠ 5) : Elm w' base be k t v n K := by
 refine ⟨(hE.block be fun e => ?_).trans h.box,?_,h.old⟩
 ·have := h.box
  rw [e,hg] at this; injection this with this; injection this with _ this _; exact h1 this
 ·have hv := h.rows.ne_box hg h2
  obtain ⟨vs,a,b,o,r⟩ := h.rows
  exact ⟨vs,a,b,owns_same o (by rw [hE.size]; exact Nat.le_refl _) fun g2 hg2 => hE.block _ fun e2 => hv (by rw [hg2,e2]),fun j u hj => by obtain ⟨x,hk,g1,g2⟩ := r j u hj; exact ⟨x,hk,hE.bw g1 hg h3,hE.bw g2 hg h3⟩⟩
structure TChg (w w' : World) (gt be : Nat) (v : Value) : Prop where
 os : w'.os = w.os
 tape : w'.tape = w.tape
 output : w'.output = w.output
 size : w.heap.size ≤ w'.heap.size
 block : ∀ b,b < w.heap.size → b ≠ gt → b ≠ be → v.ownBlock ≠ some b → w'.heap[b]? = w.heap[b]?
theorem TChg.of {w w' : World} (gt be : Nat) (v : Value) (h : Below w.heap.size w w') : TChg w w' gt be v := ⟨h.os,h.tape,h.output,h.size,fun b hb _ _ _ => h.block b hb⟩
theorem TChg.one {w a b : World} {gt be : Nat} {v : Value} (h : TChg w a gt be v) (g : OneE a gt b) : TChg w b gt be v :=
 ⟨g.os.trans h.os,g.tape.trans h.tape,g.output.trans h.output,by rw [g.size]; exact h.size,fun i hi h1 h2 h3 => (g.block i h1).trans (h.block i hi h1 h2 h3)⟩
theorem TChg.then {w a b : World} {gt be : Nat} {v : Value} (h : TChg w a gt be v) (g : Below a.heap.size a b) : TChg w b gt be v :=
 ⟨g.os.trans h.os,g.tape.trans h.tape,g.output.trans h.output,Nat.le_trans h.size g.size,fun i hi h1 h2 h3 => (g.block i (Nat.lt_of_lt_of_le hi h.size)).trans (h.block i hi h1 h2 h3)⟩
theorem TChg.chg {w a b : World} {gt be : Nat} {v : Value} (h : TChg w a gt be v) (g : Chg a b be v) : TChg w b gt be v :=
 ⟨g.os.trans h.os,g.tape.trans h.tape,g.output.trans h.output,Nat.le_trans h.size g.size,fun i hi h1 h2 h3 => (g.block i (Nat.lt_of_lt_of_le hi h.size) h2 h3).trans (h.block i hi h1 h2 h3)⟩
end Go.By
namespace Go.Proofs.YtccaiiigdfieoaaGreatDoor
open Go.RowKit Go.By Go.Maps
theorem CntM.row {w : World} {M : Value} {N : Nat} {C : DataW Unit} (h : CntM w M N C) {g T : Nat} {old cs : Array Value} {fr : Nat × Nat} (hg : w.heap[g]? = some (.cells old T fr)) : CntM (w.setRow g cs) M N C := by
 refine ⟨?_,h.small⟩
 rcases h.at_ with h1 | ⟨b,e,ho⟩
 ·exact .inl h1
 ·refine .inr ⟨b,e,?_⟩
  obtain ⟨es,clock,h1,F,hs,hD⟩ := ho
  exact ⟨es,clock,hro h1 (fun e => by rw [e,hg] at h1; cases h1),F,hs,hD⟩
theorem CntM.one {w w' : World} {M : Value} {N g : Nat} {C : DataW Unit} (h : CntM w M N C) (hE : OneE w g w') {T : Nat} {old : Array Value} {fr : Nat × Nat} (hg : w.heap[g]? = some (.cells old T fr)) : CntM w' M N C := by
 refine ⟨?_,h.small⟩
 rcases h.at_ with h1 | ⟨b,e,ho⟩
 ·exact .inl h1
 ·refine .inr ⟨b,e,?_⟩
  obtain ⟨es,clock,h1,F,hs,hD⟩ := ho
  exact ⟨es,clock,(hE.block b (fun e => by rw [e,hg] at h1; cases h1)).trans h1,F,hs,hD⟩
theorem PkC.one {w w' : World} {B k t D : Nat} {xs : List UInt8} {v0 v1 v2 v3 v4 v5 v6 : Value} (h : PkC w B k t D xs v0 v1 v2 v3 v4 v5 v6) {T g : Nat} {o1 : Array Value} {f1 : Nat × Nat} (hE : OneE w g w') (h1 : w.heap[g]? = some (.cells o1 T f1)) (n1 : T ≠ 5) : PkC w' B k t D xs v0 v1 v2 v3 v4 v5 v6 :=
 ⟨h.1,fun hc => by obtain ⟨q,n,c,q2,n2',c2,e0,e1,e2,e3,e4,e5,e6,f1,f2⟩ := h.2 hc; exact ⟨q,n,c,q2,n2',c2,e0,e1,e2,e3,e4,e5,e6,hE.fresh f1 h1 n1,hE.fresh f2 h1 n1⟩⟩
theorem tk_ne : 118 ≠ 5 ∧ 118 ≠ 191 ∧ 99 ≠ 118 := by decide
def TkRet (w : World) (base gt be L t k D N : Nat) (v : Value) (C : DataW Unit) (K : List Rw) (st : Nat) (code : Int) (e : Ending) (w' : World) : Prop :=
 e = .returned (.int .i64 code) ∧ ∃ M' v',Tkr w' base gt be L t k D N M' v' C K st ∧ TChg w w' gt be v ∧ (v'.ownBlock = v.ownBlock ∨ ∀ b,v'.ownBlock = some b → w.heap.size ≤ b)
set_option maxRecDepth 100000 in
set_option maxHeartbeats 4000000 in
theorem TTake_bad (base gt be L t k D N : Nat) (M v : Value) (C : DataW Unit) (K : List Rw) (st : Nat) (p : Option Addr) (n c : Nat) (xs : List UInt8) (w : World) (h : Tkr w base gt be L t k D N M v C K st) (hT : HalfT w) (hN : N < 1000000) (hs : Sl B8 w p n c xs) (hr : Room n) (hc : readC k t D xs ≠ 0) :
  Calls Tryz.prog 16 #[.pointer (some ⟨gt,0,none⟩),.slice p n c] w (TkRet w base gt be L t k D (N + 1) v (bump C (readC k t D xs)) K st (readC k t D xs)) := by
 have HG : Hid (∀ w,HalfT w → CntM w M N C → Sl B8 w p n c xs → Calls Tryz.prog 62 #[GVal L t k D M,.slice p n c] w fun e w' => ∃ b2 v0 v1 v2 v3 v4 v5 v6,e = .returned (.tuple #[GVal L t k D (.map (some b2)),.agg #[v0,v1,v2,v3,v4,v5,v6],.int .i64 (readC k t D xs)]) ∧
   CntM w' (.map (some b2)) (N + 1) (bump C (readC k t D xs)) ∧ PkC w' w.heap.size k t D xs v0 v1 v2 v3 v4 v5 v6 ∧ Below w.heap.size w w') := fun w hT hC hs => GLook_any L t k D N M C p n c xs w h.ok hT hC hN hs hr
 have H := Lib.hid h
 have HT := Lib.hid hT
 have HS := Lib.hid hs
 obtain ⟨c0,c1,c2,c3,c4,c5,c6⟩ := cells_seven h.box
 have e0 : (readC k t D xs != 0) = true := bne_iff_ne.2 hc
 generalize readC k t D xs = E at *
 clear h hT hs hr hN hc
 go_enter Tryz.func16,Tryz.ntmps16
 go_wp2_with fail
 refine Calls.mono (HG.out _ HT.out H.out.cnt HS.out) ?_
 rintro e w1 ⟨b2,v0,v1,v2,v3,v4,v5,v6,rfl,hcn,hpk,hb⟩
 have HB := Lib.hid hb
 have HCn := Lib.hid hcn
 have HPk := Lib.hid hpk
 obtain ⟨o0,o1,o2,o3,o4,o5,o6⟩ := hpk.1
 clear c0 c1 c2 c3 c4 c5 c6 hb hcn hpk
 go_wp2_with (first | (refine wpList_store_row (o := ⟨none,.store 111 (.tmp 5) (.tmp 19),_,_,_,_⟩) rfl 111 (.tmp 5) (.tmp 19) rfl w1.heap.size #[.int .i64 (L : Nat),.int .i64 (t : Nat),.int .i64 (k : Nat),.int .u32 (D : Nat),.map (some b2)] rfl rfl _ _ (hal (hnew rfl)) info_gate rfl (ones_gate rfl) ?_) | (refine wpList_store_rowS (o := ⟨none,.store 122 (.tmp 6) (.tmp 20),_,_,_,_⟩) rfl 122 (.tmp 6) (.tmp 20) rfl (w1.heap.size + 1) #[v0,v1,v2,v3,v4,v5,v6] rfl rfl _ _ (hro (hnew (by simp)) (by omega)) info_packet rfl (by simp [o0,o1,o2,o3,o4,o5,o6]) ?_))
 intro w2 hr2
 have HB2 : Hid (Below w.heap.size w w2) := by rw [hr2.eq]; exact below_row (below_row (al (al HB.out HB.out.size) (by have := HB.out.size; simp; omega)) HB.out.size) (by have := HB.out.size; omega)
 have k5 : w2.heap[w1.heap.size]? = some (.cells #[.int .i64 (L : Nat),.int .i64 (t : Nat),.int .i64 (k : Nat),.int .u32 (D : Nat),.map (some b2)] 111 (0,0)) := by rw [hr2.eq]; exact hro (hrs (hal (hnew rfl))) (by omega)
 have k6 : w2.heap[w1.heap.size + 1]? = some (.cells #[v0,v1,v2,v3,v4,v5,v6] 122 (0,0)) := by rw [hr2.eq]; exact hrs (hro (hnew (by simp)) (by omega))
 have kt := (HB2.out.block _ (lt_of_block H.out.box)).trans H.out.box
 have HPk2 : Hid (PkC w2 w.heap.size k t D xs v0 v1 v2 v3 v4 v5 v6) := by rw [hr2.eq]; exact ((HPk.out.keep (al (al (Below.refl _ _) (Nat.le_refl _)) (by simp))).row (hal (hnew rfl)) gate_ne).row (hro (hnew (by simp)) (by omega)) pkt_ne
 have HCn2 : Hid (CntM w2 (.map (some b2)) (N + 1) (bump C E)) := by rw [hr2.eq]; exact ((HCn.out.keep (al (al (Below.refl _ _) (Nat.le_refl _)) (by simp))).row (hal (hnew rfl))).row (hro (hnew (by simp)) (by omega))
 have hgt := lt_of_block H.out.box
 have hG5 := HB.out.size
 clear hr2 HCn HPk HB
 obtain ⟨g5,hg5⟩ : ∃ g5,g5 = w1.heap.size := ⟨_,rfl⟩
 rw [← hg5] at k5 k6 hG5 ⊢
 clear hg5
 obtain ⟨c0,c1,c2,c3,c4,c5,c6⟩ := cells_seven kt
 obtain ⟨d0,d1,d2,d3,d4⟩ := cells_five k5
 have z0 := frozen_of_row _ _ 0 _ _ kt
 have z1 := frozen_of_row _ _ 1 _ _ kt
 have z2 := frozen_of_row _ _ 2 _ _ kt
 have z3 := frozen_of_row _ _ 3 _ _ kt
 have z4 := frozen_of_row _ _ 4 _ _ kt
 go_wp2
 go_ret
 have hO : OneE w2 gt (((((w2.setCell ⟨gt,0,none⟩ (.int .i64 (L : Nat))).setCell ⟨gt,1,none⟩ (.int .i64 (t : Nat))).setCell ⟨gt,2,none⟩ (.int .i64 (k : Nat))).setCell ⟨gt,3,none⟩ (.int .u32 (D : Nat))).setCell ⟨gt,4,none⟩ (.map (some b2))) := (((((OneE.refl w2 gt).set _).set _).set _).set _).set _
 exact ⟨rfl,.map (some b2),v,⟨H.out.ok,hss (hss (hss (hss (hss kt)))),HCn2.out.one hO kt,hO.elm (H.out.elm.keep HB2.out) kt tk_ne.2.1 tk_ne.2.2 tk_ne.1,H.out.red,H.out.old⟩,(TChg.of gt be v HB2.out).one hO,.inl rfl⟩
end Go.Proofs.YtccaiiigdfieoaaGreatDoor
namespace Go.By
open Go.RowKit Go.Maps Go.Proofs.YtccaiiigdfieoaaGreatDoor
theorem wpList_store_five {P : Program} {ops : Array Oper} {rest : List Oper} {o : Oper} {a : Act} {w : World} {Q : Exit → Act → World → Prop} (hgd : o.guard = none) (ty : TypeId) (x y : Operand) (ho : o.op = .store ty x y)
  (g : Nat) (a0 a1 a2 a3 : Int) (m : Nat) (b0 b1 b2 b3 b4 b5 b6 : Value) (T : TypeId) (hx : a.eval x = .pointer (some ⟨g,0,none⟩)) (hy : a.eval y = .agg #[.int .i64 a0,.int .i64 a1,.int .i64 a2,.int .u32 a3,.map (some m)])
  (kt : w.heap[g]? = some (.cells #[b0,b1,b2,b3,b4,b5,b6] T (0,0))) (hi : (P.info? ty).map (·.size) = some 5) {d : TypeDesc} (hu : P.underlying ty = some d)
  (h : ∀ w',OneE w g w' → w'.heap[g]? = some (.cells #[.int .i64 a0,.int .i64 a1,.int .i64 a2,.int .u32 a3,.map (some m),b5,b6] T (0,0)) → wpList P ops Q rest (a.put o.dst undef) w') : wpList P ops Q (o :: rest) a w := by
 refine wpList_plain hgd fun K hK => ?_
 have hK' := hK _ _ (h (((((w.setCell ⟨g,0,none⟩ (.int .i64 a0)).setCell ⟨g,1,none⟩ (.int .i64 a1)).setCell ⟨g,2,none⟩ (.int .i64 a2)).setCell ⟨g,3,none⟩ (.int .u32 a3)).setCell ⟨g,4,none⟩ (.map (some m))) ((((((OneE.refl w g).set _).set _).set _).set _).set _) (hss (hss (hss (hss (hss kt))))))
 obtain ⟨c0,c1,c2,c3,c4,c5,c6⟩ := cells_seven kt
 have z0 := frozen_of_row _ _ 0 _ _ kt
 have z1 := frozen_of_row _ _ 1 _ _ kt
 have z2 := frozen_of_row _ _ 2 _ _ kt
 have z3 := frozen_of_row _ _ 3 _ _ kt
 have z4 := frozen_of_row _ _ 4 _ _ kt
 have hsz : (sizeOf ty).run P w = .ok 5 w := by
  cases hI : P.info? ty with
  | none => rw [hI] at hi; cases hi
  | some i =>
   rw [hI] at hi
   simp at hi
   simp [sizeOf,typeInfo,hI,hi]
 have _ := hu
 unfold Oper.wp
 simp only [execOp,ho,hx,hy]
 simp [go_sem,hsz,c0,c1,c2,c3,c4,z0,z1,z2,z3,z4]
 exact hK'
end Go.By
namespace Go.Proofs.YtccaiiigdfieoaaGreatDoor
open Go.RowKit Go.By Go.Maps
def eqX (k t : Nat) (xs : List UInt8) : Rw := (vecS (pktM xs) (pktX k xs) (pktS k xs) k,pktY k t xs)
def nextS (K : List Rw) (x : Rw) (k : Nat) : Nat := if codeF K x = 2 then 2 else if (putK K x).length = k then 1 else 0
set_option maxRecDepth 100000 in
set_option maxHeartbeats 4000000 in
theorem TTake_done (base gt be L t k D N : Nat) (M v : Value) (C : DataW Unit) (K : List Rw) (st : Nat) (p : Option Addr) (n c : Nat) (xs : List UInt8) (w : World) (h : Tkr w base gt be L t k D N M v C K st) (hT : HalfT w) (hN : N < 1000000) (hs : Sl B8 w p n c xs) (hr : Room n) (hc : readC k t D xs = 0) (hst : st ≠ 0) :
  Calls Tryz.prog 16 #[.pointer (some ⟨gt,0,none⟩),.slice p n c] w (TkRet w base gt be L t k D (N + 1) v (bump C (readC k t D xs)) K st (readC k t D xs)) := by
 have HG : Hid (∀ w,HalfT w → CntM w M N C → Sl B8 w p n c xs → Calls Tryz.prog 62 #[GVal L t k D M,.slice p n c] w fun e w' => ∃ b2 v0 v1 v2 v3 v4 v5 v6,e = .returned (.tuple #[GVal L t k D (.map (some b2)),.agg #[v0,v1,v2,v3,v4,v5,v6],.int .i64 (readC k t D xs)]) ∧
   CntM w' (.map (some b2)) (N + 1) (bump C (readC k t D xs)) ∧ PkC w' w.heap.size k t D xs v0 v1 v2 v3 v4 v5 v6 ∧ Below w.heap.size w w') := fun w hT hC hs => GLook_any L t k D N M C p n c xs w h.ok hT hC hN hs hr
 have H := Lib.hid h
 have HT := Lib.hid hT
 have HS := Lib.hid hs
 obtain ⟨c0,c1,c2,c3,c4,c5,c6⟩ := cells_seven h.box
 rw [hc] at HG ⊢
 have HC := Lib.hid hc
 have e1 : ((st : Int) != 0) = true := bne_iff_ne.2 (by omega)
 clear h hT hs hr hN hc hst
 go_enter Tryz.func16,Tryz.ntmps16
 go_wp2_with fail
 refine Calls.mono (HG.out _ HT.out H.out.cnt HS.out) ?_
 rintro e w1 ⟨b2,v0,v1,v2,v3,v4,v5,v6,rfl,hcn,hpk,hb⟩
 have HB := Lib.hid hb
 have HCn := Lib.hid hcn
 have HPk := Lib.hid hpk
 obtain ⟨o0,o1,o2,o3,o4,o5,o6⟩ := hpk.1
 clear c0 c1 c2 c3 c4 c5 c6 hb hcn hpk
 go_wp2_with (first | (refine wpList_store_row (o := ⟨none,.store 111 (.tmp 5) (.tmp 19),_,_,_,_⟩) rfl 111 (.tmp 5) (.tmp 19) rfl w1.heap.size #[.int .i64 (L : Nat),.int .i64 (t : Nat),.int .i64 (k : Nat),.int .u32 (D : Nat),.map (some b2)] rfl rfl _ _ (hal (hnew rfl)) info_gate rfl (ones_gate rfl) ?_) | (refine wpList_store_rowS (o := ⟨none,.store 122 (.tmp 6) (.tmp 20),_,_,_,_⟩) rfl 122 (.tmp 6) (.tmp 20) rfl (w1.heap.size + 1) #[v0,v1,v2,v3,v4,v5,v6] rfl rfl _ _ (hro (hnew (by simp)) (by omega)) info_packet rfl (by simp [o0,o1,o2,o3,o4,o5,o6]) ?_))
 intro w2 hr2
 have HB2 : Hid (Below w.heap.size w w2) := by rw [hr2.eq]; exact below_row (below_row (al (al HB.out HB.out.size) (by have := HB.out.size; simp; omega)) HB.out.size) (by have := HB.out.size; omega)
 have k5 : w2.heap[w1.heap.size]? = some (.cells #[.int .i64 (L : Nat),.int .i64 (t : Nat),.int .i64 (k : Nat),.int .u32 (D : Nat),.map (some b2)] 111 (0,0)) := by rw [hr2.eq]; exact hro (hrs (hal (hnew rfl))) (by omega)
 have k6 : w2.heap[w1.heap.size + 1]? = some (.cells #[v0,v1,v2,v3,v4,v5,v6] 122 (0,0)) := by rw [hr2.eq]; exact hrs (hro (hnew (by simp)) (by omega))
 have kt := (HB2.out.block _ (lt_of_block H.out.box)).trans H.out.box
 have HPk2 : Hid (PkC w2 w.heap.size k t D xs v0 v1 v2 v3 v4 v5 v6) := by rw [hr2.eq]; exact ((HPk.out.keep (al (al (Below.refl _ _) (Nat.le_refl _)) (by simp))).row (hal (hnew rfl)) gate_ne).row (hro (hnew (by simp)) (by omega)) pkt_ne
 have HCn2 : Hid (CntM w2 (.map (some b2)) (N + 1) (bump C 0)) := by rw [hr2.eq]; exact ((HCn.out.keep (al (al (Below.refl _ _) (Nat.le_refl _)) (by simp))).row (hal (hnew rfl))).row (hro (hnew (by simp)) (by omega))
 have hgt := lt_of_block H.out.box
 have hG5 := HB.out.size
 clear hr2 HCn HPk HB
 obtain ⟨g5,hg5⟩ : ∃ g5,g5 = w1.heap.size := ⟨_,rfl⟩
 rw [← hg5] at k5 k6 hG5 ⊢
 clear hg5
 obtain ⟨c0,c1,c2,c3,c4,c5,c6⟩ := cells_seven kt
 obtain ⟨d0,d1,d2,d3,d4⟩ := cells_five k5
 go_wp2_with (refine wpList_store_five (o := ⟨none,.store 111 (.tmp 25) (.tmp 23),_,_,_,_⟩) rfl 111 (.tmp 25) (.tmp 23) rfl gt (L : Nat) (t : Nat) (k : Nat) (D : Nat) b2 _ _ _ _ _ _ _ _ rfl rfl kt info_gate Tryz.underlying111 ?_)
 intro w3 hO kt3
 have HO := Lib.hid hO
 have m5 := (hO.block g5 (by omega)).trans k5
 have m6 := (hO.block (g5 + 1) (by omega)).trans k6
 have HCn3 := Lib.hid (HCn2.out.one hO kt)
 have HPk3 := Lib.hid (HPk2.out.one hO kt tk_ne.1)
 have HEl := Lib.hid (hO.elm (H.out.elm.keep HB2.out) kt tk_ne.2.1 tk_ne.2.2 tk_ne.1)
 have HTC := Lib.hid ((TChg.of gt be v HB2.out).one hO)
 have HT3 := Lib.hid (HT.out.keep HB2.out)
 have hs3 : w3.heap.size = w2.heap.size := hO.size
 have hl6 := lt_of_block k6
 clear k5 k6 kt hO c0 c1 c2 c3 c4 c5 c6 d0 d1 d2 d3 d4 HCn2 HPk2
 obtain ⟨c0,c1,c2,c3,c4,c5,c6⟩ := cells_seven kt3
 go_wp2
 go_ret
 exact ⟨rfl,.map (some b2),v,⟨H.out.ok,kt3,HCn3.out,HEl.out,H.out.red,H.out.old⟩,HTC.out,.inl rfl⟩
end Go.Proofs.YtccaiiigdfieoaaGreatDoor
namespace Go.Proofs.YtccaiiigdfieoaaGreatDoor
open Go.RowKit Go.By Go.Maps
def PutP (base be k t : Nat) (v : Value) (K : List Rw) (x : Rw) (w5 W : World) : Prop := ∃ v' n',Elm W base be k t v' n' (putK K x) ∧ Chg w5 W be v ∧ (v'.ownBlock = v.ownBlock ∨ ∀ b,v'.ownBlock = some b → w5.heap.size ≤ b)
set_option maxRecDepth 100000 in
set_option maxHeartbeats 4000000 in
theorem TTake_put (base gt be L t k D N : Nat) (M v : Value) (C : DataW Unit) (K : List Rw) (st : Nat) (p : Option Addr) (n c : Nat) (xs : List UInt8) (w : World) (h : Tkr w base gt be L t k D N M v C K st) (hT : HalfT w) (hN : N < 1000000) (hs : Sl B8 w p n c xs) (hr : Room n) (hc : readC k t D xs = 0) (hst : st = 0) :
  Calls Tryz.prog 16 #[.pointer (some ⟨gt,0,none⟩),.slice p n c] w (TkRet w base gt be L t k D (N + 1) v (bump C (readC k t D xs)) (putK K (eqX k t xs)) (nextS K (eqX k t xs) k) (readC k t D xs)) := by
 have HG : Hid (∀ w,HalfT w → CntM w M N C → Sl B8 w p n c xs → Calls Tryz.prog 62 #[GVal L t k D M,.slice p n c] w fun e w' => ∃ b2 v0 v1 v2 v3 v4 v5 v6,e = .returned (.tuple #[GVal L t k D (.map (some b2)),.agg #[v0,v1,v2,v3,v4,v5,v6],.int .i64 (readC k t D xs)]) ∧
   CntM w' (.map (some b2)) (N + 1) (bump C (readC k t D xs)) ∧ PkC w' w.heap.size k t D xs v0 v1 v2 v3 v4 v5 v6 ∧ Below w.heap.size w w') := fun w hT hC hs => GLook_any L t k D N M C p n c xs w h.ok hT hC hN hs hr
 have H := Lib.hid h
 have HT := Lib.hid hT
 have HS := Lib.hid hs
 obtain ⟨c0,c1,c2,c3,c4,c5,c6⟩ := cells_seven h.box
 rw [hc] at HG ⊢
 have HC := Lib.hid hc
 subst hst
 obtain ⟨hmo,hX0,hYl⟩ := read_fits hc
 have hXl : (pktX k xs).length ≤ 4096 := by
  have := h.ok.k2
  by_cases h0 : pktM xs = 0
  ·rw [hX0 h0]; exact this
  ·have e : pktX k xs = [] := if_neg h0
   rw [e]; simp
 have hVl : (vecS (pktM xs) (pktX k xs) (pktS k xs) k).length = k := by
  unfold vecS
  by_cases h0 : pktM xs = 0
  ·rw [if_pos h0]; exact hX0 h0
  ·rw [if_neg h0,mixRow_len]
 have HQ : Hid (∀ w p j c s q d,j = (pktX k xs).length → s = pktS k xs → Sl B8 w p j c (pktX k xs) → Sl B8 w q t d (pktY k t xs) → Calls Tryz.prog 63 #[PkVal (pktM xs) D (pktN xs) (pktM xs) p j c s q t d,PVal L t k D] w (EqRet w (eqX k t xs).1 (eqX k t xs).2)) := fun w p j c s q d hj hs s1 s2 => by
  subst hs
  exact PEquation_ok L t k D (pktN xs) (pktM xs) p j c (pktS k xs) q d (pktX k xs) (pktY k t xs) w h.ok hmo (fun h0 => by rw [hj]; exact hX0 h0) (by rw [hj]; show _ ≤ _; omega) s1 s2
 obtain ⟨x,hx⟩ : ∃ x,eqX k t xs = x := ⟨_,rfl⟩
 have hx1 : x.1.length = k := by rw [← hx]; exact hVl
 have hx2 : x.2.length = t := by rw [← hx]; exact hYl
 rw [hx] at HQ ⊢
 have HX1 := Lib.hid hx1
 have HX2 := Lib.hid hx2
 have HYl := Lib.hid hYl
 clear h hT hs hr hN hc hmo hX0 hYl hXl hVl hx hx1 hx2
 go_enter Tryz.func16,Tryz.ntmps16
 go_wp2_with fail
 refine Calls.mono (HG.out _ HT.out H.out.cnt HS.out) ?_
 rintro e w1 ⟨b2,v0,v1,v2,v3,v4,v5,v6,rfl,hcn,hpk,hb⟩
 have HB := Lib.hid hb
 have HCn := Lib.hid hcn
 have HPk := Lib.hid hpk
 obtain ⟨o0,o1,o2,o3,o4,o5,o6⟩ := hpk.1
 clear c0 c1 c2 c3 c4 c5 c6 hb hcn hpk
 go_wp2_with (first | (refine wpList_store_row (o := ⟨none,.store 111 (.tmp 5) (.tmp 19),_,_,_,_⟩) rfl 111 (.tmp 5) (.tmp 19) rfl w1.heap.size #[.int .i64 (L : Nat),.int .i64 (t : Nat),.int .i64 (k : Nat),.int .u32 (D : Nat),.map (some b2)] rfl rfl _ _ (hal (hnew rfl)) info_gate rfl (ones_gate rfl) ?_) | (refine wpList_store_rowS (o := ⟨none,.store 122 (.tmp 6) (.tmp 20),_,_,_,_⟩) rfl 122 (.tmp 6) (.tmp 20) rfl (w1.heap.size + 1) #[v0,v1,v2,v3,v4,v5,v6] rfl rfl _ _ (hro (hnew (by simp)) (by omega)) info_packet rfl (by simp [o0,o1,o2,o3,o4,o5,o6]) ?_))
 intro w2 hr2
 have HB2 : Hid (Below w.heap.size w w2) := by rw [hr2.eq]; exact below_row (below_row (al (al HB.out HB.out.size) (by have := HB.out.size; simp; omega)) HB.out.size) (by have := HB.out.size; omega)
 have k5 : w2.heap[w1.heap.size]? = some (.cells #[.int .i64 (L : Nat),.int .i64 (t : Nat),.int .i64 (k : Nat),.int .u32 (D : Nat),.map (some b2)] 111 (0,0)) := by rw [hr2.eq]; exact hro (hrs (hal (hnew rfl))) (by omega)
 have k6 : w2.heap[w1.heap.size + 1]? = some (.cells #[v0,v1,v2,v3,v4,v5,v6] 122 (0,0)) := by rw [hr2.eq]; exact hrs (hro (hnew (by simp)) (by omega))
 have kt := (HB2.out.block _ (lt_of_block H.out.box)).trans H.out.box
 have HPk2 : Hid (PkC w2 w.heap.size k t D xs v0 v1 v2 v3 v4 v5 v6) := by rw [hr2.eq]; exact ((HPk.out.keep (al (al (Below.refl _ _) (Nat.le_refl _)) (by simp))).row (hal (hnew rfl)) gate_ne).row (hro (hnew (by simp)) (by omega)) pkt_ne
 have HCn2 : Hid (CntM w2 (.map (some b2)) (N + 1) (bump C 0)) := by rw [hr2.eq]; exact ((HCn.out.keep (al (al (Below.refl _ _) (Nat.le_refl _)) (by simp))).row (hal (hnew rfl))).row (hro (hnew (by simp)) (by omega))
 have hgt := lt_of_block H.out.box
 have hG5 := HB.out.size
 clear hr2 HCn HPk HB
 obtain ⟨g5,hg5⟩ : ∃ g5,g5 = w1.heap.size := ⟨_,rfl⟩
 rw [← hg5] at k5 k6 hG5 ⊢
 clear hg5
 obtain ⟨c0,c1,c2,c3,c4,c5,c6⟩ := cells_seven kt
 obtain ⟨d0,d1,d2,d3,d4⟩ := cells_five k5
 go_wp2_with (refine wpList_store_five (o := ⟨none,.store 111 (.tmp 25) (.tmp 23),_,_,_,_⟩) rfl 111 (.tmp 25) (.tmp 23) rfl gt (L : Nat) (t : Nat) (k : Nat) (D : Nat) b2 _ _ _ _ _ _ _ _ rfl rfl kt info_gate Tryz.underlying111 ?_)
 intro w3 hO kt3
 have HO := Lib.hid hO
 have m5 := (hO.block g5 (by omega)).trans k5
 have m6 := (hO.block (g5 + 1) (by omega)).trans k6
 have HCn3 := Lib.hid (HCn2.out.one hO kt)
 have HPk3 := Lib.hid (HPk2.out.one hO kt tk_ne.1)
 have HEl := Lib.hid (hO.elm (H.out.elm.keep HB2.out) kt tk_ne.2.1 tk_ne.2.2 tk_ne.1)
 have HTC := Lib.hid ((TChg.of gt be v HB2.out).one hO)
 have HT3 := Lib.hid (HT.out.keep HB2.out)
 have hs3 : w3.heap.size = w2.heap.size := hO.size
 have hl6 := lt_of_block k6
 clear k5 k6 kt hO c0 c1 c2 c3 c4 c5 c6 d0 d1 d2 d3 d4 HCn2 HPk2
 obtain ⟨c0,c1,c2,c3,c4,c5,c6⟩ := cells_seven kt3
 obtain ⟨q,j,cq,q2,j2,cq2,r0,r1,r2,r3,r4,r5,r6,f1,f2⟩ := HPk3.out.2 HC.out
 subst r0 r1 r2 r3 r4 r5 r6
 have hj2 : t = j2 := by rw [← f2.sl.len]; exact HYl.out.symm
 subst hj2
 have hj := f1.sl.len
 have F1 := Lib.hid f1.sl
 have F2 := Lib.hid f2.sl
 have HJ := Lib.hid hj.symm
 clear f1 f2 hj
 obtain ⟨d0,d1,d2,d3,d4⟩ := cells_five m5
 obtain ⟨f0,f1,f2,f3,f4,f5,f6⟩ := cells_seven m6
 go_wp2_with fail
 refine Calls.mono (HQ.out _ _ _ _ _ _ _ HJ.out rfl F1.out F2.out) ?_
 rintro e w4 ⟨qa,na,ca,qb,nb,cb,rfl,Fa,Fb,hb⟩
 have hna : k = na := by rw [← Fa.sl.len]; exact HX1.out.symm
 have hnb : t = nb := by rw [← Fb.sl.len]; exact HX2.out.symm
 subst hna hnb
 have kt4 := (hb.block _ (lt_of_block kt3)).trans kt3
 have n5 := (hb.block _ (lt_of_block m5)).trans m5
 have HCn4 := Lib.hid (HCn3.out.keep hb)
 have HEl4 := Lib.hid (HEl.out.keep hb)
 have HTC4 := Lib.hid (HTC.out.then hb)
 have SA := Lib.hid Fa.sl
 have SB := Lib.hid Fb.sl
 have hown : v.ownBlock ≠ some w4.heap.size := fun e => by have := (HEl4.out.rows.lt _ e).2; omega
 have HW := Lib.hid (lt_of_block m5)
 have hs4 := hb.size
 clear hb kt3 m5 m6 HCn3 HPk3 HEl HTC Fa Fb c0 c1 c2 c3 c4 c5 c6 d0 d1 d2 d3 d4 f0 f1 f2 f3 f4 f5 f6
 go_wp2_with fail
 have kt5 : (w4.alloc (.cells #[.slice qa k ca,.slice qb t cb] 99 (0,0))).heap[gt]? = some (.cells #[.int .i64 (L : Nat),.int .i64 (t : Nat),.int .i64 (k : Nat),.int .u32 (D : Nat),.map (some b2),.pointer (some ⟨be,0,none⟩),.int .i64 (0 : Nat)] 118 (0,0)) := hal kt4
 have kg5 : (w4.alloc (.cells #[.slice qa k ca,.slice qb t cb] 99 (0,0))).heap[g5]? = some (.cells #[.int .i64 (L : Nat),.int .i64 (t : Nat),.int .i64 (k : Nat),.int .u32 (D : Nat),.map (some b2)] 111 (0,0)) := hal n5
 have kr5 : (w4.alloc (.cells #[.slice qa k ca,.slice qb t cb] 99 (0,0))).heap[w4.heap.size]? = some (.cells #[.slice qa k ca,.slice qb t cb] 99 (0,0)) := hnew rfl
 have HCn5 := Lib.hid (HCn4.out.keep (al (o := .cells #[.slice qa k ca,.slice qb t cb] 99 (0,0)) (Below.refl _ _) (Nat.le_refl _)))
 have HEl5 := Lib.hid (HEl4.out.keep (al (o := .cells #[.slice qa k ca,.slice qb t cb] 99 (0,0)) (Below.refl _ _) (Nat.le_refl _)))
 have HTC5 := Lib.hid (HTC4.out.then (al (o := .cells #[.slice qa k ca,.slice qb t cb] 99 (0,0)) (Below.refl _ _) (Nat.le_refl _)))
 have SA5 := Lib.hid (SA.out.keep (al (o := .cells #[.slice qa k ca,.slice qb t cb] 99 (0,0)) (Below.refl _ _) (Nat.le_refl _)))
 have SB5 := Lib.hid (SB.out.keep (al (o := .cells #[.slice qa k ca,.slice qb t cb] 99 (0,0)) (Below.refl _ _) (Nat.le_refl _)))
 clear kt4 n5 HCn4 HEl4 HTC4 SA SB
 obtain ⟨g8,hg8⟩ : ∃ g8,g8 = w4.heap.size := ⟨_,rfl⟩
 rw [← hg8] at kr5 hown hs4 ⊢
 clear hg8
 generalize w4.alloc (.cells #[.slice qa k ca,.slice qb t cb] 99 (0,0)) = w5 at *
 have hmem : Hid (∀ W,(W = w5.drew ∨ PutP base be k t v K x w5 W) → W.heap[gt]? = some (.cells #[.int .i64 (L : Nat),.int .i64 (t : Nat),.int .i64 (k : Nat),.int .u32 (D : Nat),.map (some b2),.pointer (some ⟨be,0,none⟩),.int .i64 (0 : Nat)] 118 (0,0)) ∧ W.heap[g8]? = some (.cells #[.slice qa k ca,.slice qb t cb] 99 (0,0))) := by
  intro W hW
  rcases hW with rfl | ⟨v',n',-,hc,-⟩
  ·exact ⟨kt5,kr5⟩
  ·exact ⟨hc.blk2 HEl5.out kt5 tk_ne.2.1 tk_ne.2.2,hc.blk HEl5.out kr5 (by decide) hown⟩
 refine wp_region_call (fun ix => ([.pointer (some ⟨gt,0,none⟩),.pointer (some ⟨gt,0,none⟩),.pointer (some ⟨gt,5,none⟩),.pointer (some ⟨be,0,none⟩),.agg #[.slice qa k ca,.slice qb t cb],.tuple #[.int .i64 (codeF K x),.int .i64 0],.tuple #[.int .i64 (codeF K x),.int .i64 0],.int .i64 (codeF K x),.int .i64 0,.int .i64 (codeF K x),.int .i64 0][ix]?).getD undef) 75 5 (PutP base be k t v K x w5) rfl (by kernel_rfl) (by decide) (by decide) (by decide) (by decide) (by decide) ?_ ?_ ?_
 ·intro i o h1 ho a W hW hs hp hi
  obtain ⟨m1,m2⟩ := hmem.out W hW
  match i,h1,ho with
  | 0,_,ho =>
   simp at ho; subst ho
   have tt : sl a 0 = .pointer (some ⟨gt,0,none⟩) := hi 0 (by decide)
   simp only [execOp,eval_tmp,tt]; rfl
  | 1,_,ho =>
   simp at ho; subst ho
   have tt : sl a 47 = .pointer (some ⟨gt,0,none⟩) := hp 0 47 (by decide) rfl
   simp only [execOp,eval_tmp,tt]; simp [go_sem]
  | 2,_,ho =>
   simp at ho; subst ho
   have tt : sl a 48 = .pointer (some ⟨gt,0,none⟩) := hp 1 48 (by decide) rfl
   simp only [execOp,eval_tmp,tt]; simp [go_sem]
  | 3,_,ho =>
   simp at ho; subst ho
   have tt : sl a 49 = .pointer (some ⟨gt,5,none⟩) := hp 2 49 (by decide) rfl
   obtain ⟨x0,x1,x2,x3,x4,x5,x6⟩ := cells_seven m1
   simp only [execOp,eval_tmp,tt]; simp [go_sem,x5]
  | 4,_,ho =>
   simp at ho; subst ho
   have tt : sl a 8 = .pointer (some ⟨g8,0,none⟩) := hi 8 (by decide)
   obtain ⟨x0,x1⟩ := cells2 m2
   simp only [execOp,eval_tmp,tt]; simp [go_sem,x0,x1]
  | 6,_,ho =>
   simp at ho; subst ho
   have tt : sl a 52 = .tuple #[.int .i64 (codeF K x),.int .i64 0] := hp 5 52 (by decide) rfl
   simp only [execOp,eval_tmp,tt]; rfl
  | 7,_,ho =>
   simp at ho; subst ho
   have tt : sl a 46 = .tuple #[.int .i64 (codeF K x),.int .i64 0] := hp 6 46 (by decide) rfl
   simp only [execOp,eval_tmp,tt]; rfl
  | 8,_,ho =>
   simp at ho; subst ho
   have tt : sl a 46 = .tuple #[.int .i64 (codeF K x),.int .i64 0] := hp 6 46 (by decide) rfl
   simp only [execOp,eval_tmp,tt]; rfl
  | 9,_,ho =>
   simp at ho; subst ho
   have tt : sl a 53 = .int .i64 (codeF K x) := hp 7 53 (by decide) rfl
   simp only [execOp,eval_tmp,tt]; rfl
  | 10,_,ho =>
   simp at ho; subst ho
   have tt : sl a 54 = .int .i64 0 := hp 8 54 (by decide) rfl
   simp only [execOp,eval_tmp,tt]; rfl
  | 5,h,_ => exact absurd rfl h
  | j + 11,_,ho => simp at ho
 ·intro o ho a hs hp hi
  simp at ho; subst ho
  have t50 : sl a 50 = .pointer (some ⟨be,0,none⟩) := hp 3 50 (by decide) rfl
  have t51 : sl a 51 = .agg #[.slice qa k ca,.slice qb t cb] := hp 4 51 (by decide) rfl
  have hbd : Below w5.heap.size w5 w5.drew := ⟨rfl,rfl,rfl,Nat.le_refl _,fun _ _ => rfl⟩
  refine wp_enter 64 #[.pointer (some ⟨be,0,none⟩),.agg #[.slice qa k ca,.slice qb t cb]] ?_ (EPut_fit base be k t K.length v K qa qb ca cb x w5.drew (HEl5.out.keep hbd) (SA5.out.keep hbd) (SB5.out.keep hbd) H.out.red H.out.ok.k2 H.out.ok.t2 (Nat.le_trans (Red.le H.out.red) H.out.ok.k2)) ?_
  ·simp only [execOp,resolve,List.map_toArray,List.map,eval_tmp,eval_func,eval_const,t50,t51]; simp [go_sem]
  ·rintro e W' ⟨rfl,v',n',g1,g2,g3⟩
   exact ⟨_,rfl,rfl,v',n',g1,⟨g2.os,g2.tape,g2.output,g2.size,g2.block⟩,g3⟩
 ·intro a W hP1 hs hd hI ht
  have ha := act_is [47,48,49,50,51,52,46,53,54,9,7] hs hd ht (by decide)
  have t9 : sl a 9 = .int .i64 (codeF K x) := hI 9 9 (by decide) rfl
  have t7 : sl a 7 = .int .i64 0 := hI 10 7 (by decide) rfl
  simp only [List.foldl,t9,t7] at ha
  generalize sl a 47 = u47 at ha
  generalize sl a 48 = u48 at ha
  generalize sl a 49 = u49 at ha
  generalize sl a 50 = u50 at ha
  generalize sl a 51 = u51 at ha
  generalize sl a 52 = u52 at ha
  generalize sl a 46 = u46 at ha
  generalize sl a 53 = u53 at ha
  generalize sl a 54 = u54 at ha
  simp only [Act.put,List.setIfInBounds_toArray,List.set_cons_zero,List.set_cons_succ] at ha
  rw [ha]
  obtain ⟨kt6,-⟩ := hmem.out W (.inr hP1)
  have kg6 : W.heap[g5]? = some (.cells #[.int .i64 (L : Nat),.int .i64 (t : Nat),.int .i64 (k : Nat),.int .u32 (D : Nat),.map (some b2)] 111 (0,0)) := by
   obtain ⟨v',n',-,hc,-⟩ := hP1
   exact hc.blk2 HEl5.out kg5 (by decide) (by decide)
  have HCn6 : Hid (CntM W (.map (some b2)) (N + 1) (bump C 0)) := by
   obtain ⟨v',n',-,hc,-⟩ := hP1
   refine ⟨?_,HCn5.out.small⟩
   rcases HCn5.out.at_ with h1 | ⟨bb,e,ho⟩
   ·exact .inl h1
   ·refine .inr ⟨bb,e,?_⟩
    have hlt := ho.lt
    obtain ⟨es,clock,j1,F,j2,j3⟩ := ho
    refine ⟨es,clock,(hc.block bb hlt (fun e => ?_) (fun e => ?_)).trans j1,F,j2,j3⟩
    ·have := HEl5.out.box; rw [← e,j1] at this; cases this
    ·obtain ⟨vs,_,_,o,_⟩ := HEl5.out.rows
     rcases o.2 with ⟨e1,_⟩ | ⟨g',cap,cur,e1,_,hh,_⟩
     ·rw [e1] at e; cases e
     ·rw [e1] at e; cases e
      rw [j1] at hh; cases hh
  obtain ⟨v',n',hE6,hc6,ho6⟩ := hP1
  have hn' : n' = (putK K x).length := hE6.rows.len.symm
  subst hn'
  have HE6 := Lib.hid hE6
  have HTC6 := Lib.hid (HTC5.out.chg hc6)
  have HO6 : Hid (v'.ownBlock = v.ownBlock ∨ ∀ b,v'.ownBlock = some b → w.heap.size ≤ b) := by
   rcases ho6 with h | h
   ·exact .inl h
   ·exact .inr fun b hb => Nat.le_trans HTC5.out.size (h b hb)
  have HRd : Hid (Red k t (putK K x)) := by
   unfold putK
   by_cases hn : leadS (restF K x).1 < 0
   ·rw [if_pos hn]; exact H.out.red
   ·rw [if_neg hn]; exact (putF_red H.out.red ⟨HX1.out,HX2.out⟩ hn).1
  clear ha hI ht hs hd t9 t7 hE6 hc6 ho6 kt5 kg5 kr5 hmem hown
  obtain ⟨x0,x1,x2,x3,x4,x5,x6⟩ := cells_seven kt6
  have z6 := frozen_of_row _ _ 6 _ _ kt6
  have y2 := (cells_five kg6).2.2.1
  by_cases hcl : codeF K x = 2
  ·have HNX : Hid (nextS K x k = 2) := by unfold nextS; rw [if_pos hcl]; rfl
   go_wp2
   go_ret
   have hO : OneE W gt (W.setCell ⟨gt,6,none⟩ (.int .i64 2)) := (OneE.refl W gt).set _
   exact ⟨rfl,.map (some b2),v',⟨H.out.ok,by rw [HNX.out]; exact hss kt6,HCn6.out.one hO kt6,hO.elm HE6.out kt6 tk_ne.2.1 tk_ne.2.2 tk_ne.1,HRd.out,H.out.old⟩,HTC6.out.one hO,HO6.out⟩
  ·have e9 : (codeF K x == 2) = false := beq_eq_false_iff_ne.2 hcl
   by_cases hfull : (putK K x).length = k
   ·have HNX : Hid (nextS K x k = 1) := by unfold nextS; rw [if_neg hcl,if_pos hfull]; rfl
    have e15 : (((putK K x).length : Int) == (k : Int)) = true := by simp [hfull]
    clear hcl hfull
    go_wp2_with fail
    refine wp_region_shapes (fun ix => ([.val (.pointer (some ⟨gt,0,none⟩)),.val (.pointer (some ⟨gt,0,none⟩)),.val (.pointer (some ⟨gt,5,none⟩)),.val (.pointer (some ⟨be,0,none⟩)),.val (.int .i64 ((putK K x).length : Nat)),.val (.pointer (some ⟨g5,0,none⟩)),.val (.pointer (some ⟨g5,2,none⟩)),.val (.int .i64 (k : Nat)),.val (.bool true)][ix]?).getD (.any)) 75 rfl (by kernel_rfl) (by decide) (by decide) (by decide) ?_ ?_
    ·refine ⟨?_,?_,?_,?_,?_,?_,?_,?_,?_,trivial⟩
     ·intro a W hb0 hs hp hi; have hb := undrew hb0; clear hb0
      have t0 : sl a 0 = .pointer (some ⟨gt,0,none⟩) := hi 0 (by decide)
      exact ite_y rfl (wp_val (sl a 0) rfl ⟨_,rfl,Below.refl _ _,t0⟩)
     ·intro a W hb0 hs hp hi; have hb := undrew hb0; clear hb0
      have tt : sl a 63 = .pointer (some ⟨gt,0,none⟩) := hp 0 (by decide)
      refine ite_y rfl (wp_val (.pointer (some ⟨gt,0,none⟩)) ?_ ?_)
      ·simp only [execOp,eval_tmp,tt]; simp [go_sem]
      ·exact ⟨_,rfl,Below.refl _ _,rfl⟩
     ·intro a W hb0 hs hp hi; have hb := undrew hb0; clear hb0
      have t64 : sl a 64 = .pointer (some ⟨gt,0,none⟩) := hp 1 (by decide)
      refine ite_y rfl (wp_val (.pointer (some ⟨gt,5,none⟩)) ?_ ?_)
      ·simp only [execOp,eval_tmp,eval_const,t64]; simp [go_sem]
      ·exact ⟨_,rfl,Below.refl _ _,rfl⟩
     ·intro a W hb0 hs hp hi; have hb := undrew hb0; clear hb0
      have tt : sl a 65 = .pointer (some ⟨gt,5,none⟩) := hp 2 (by decide)
      have dd := (hb.cell (p := ⟨gt,5,none⟩) (lt_of_cell x5)).trans x5
      refine ite_y rfl (wp_val (.pointer (some ⟨be,0,none⟩)) ?_ ?_)
      ·simp only [execOp,eval_tmp,tt]; simp [go_sem,dd]
      ·exact ⟨_,rfl,Below.refl _ _,rfl⟩
     ·intro a W hb0 hs hp hi; have hb := undrew hb0; clear hb0
      have t66 : sl a 66 = .pointer (some ⟨be,0,none⟩) := hp 3 (by decide)
      refine ite_y rfl (wp_enter 65 #[.pointer (some ⟨be,0,none⟩)] ?_ (Rank_any' base be k t _ v' _ _ (HE6.out.keep hb)) ?_)
      ·simp only [execOp,resolve,List.map_toArray,List.map,eval_tmp,eval_func,eval_const,t66]; simp [go_sem]
      ·rintro e W' ⟨rfl,rfl⟩; exact ⟨_,rfl,_,rfl,Below.refl _ _,rfl⟩
     ·intro a W hb0 hs hp hi; have hb := undrew hb0; clear hb0
      have tt : sl a 5 = .pointer (some ⟨g5,0,none⟩) := hi 5 (by decide)
      refine ite_y rfl (wp_val (.pointer (some ⟨g5,0,none⟩)) ?_ ?_)
      ·simp only [execOp,eval_tmp,tt]; simp [go_sem]
      ·exact ⟨_,rfl,Below.refl _ _,rfl⟩
     ·intro a W hb0 hs hp hi; have hb := undrew hb0; clear hb0
      have tt : sl a 68 = .pointer (some ⟨g5,0,none⟩) := hp 5 (by decide)
      refine ite_y rfl (wp_val (.pointer (some ⟨g5,2,none⟩)) ?_ ?_)
      ·simp only [execOp,eval_tmp,tt]; simp [go_sem]
      ·exact ⟨_,rfl,Below.refl _ _,rfl⟩
     ·intro a W hb0 hs hp hi; have hb := undrew hb0; clear hb0
      have tt : sl a 69 = .pointer (some ⟨g5,2,none⟩) := hp 6 (by decide)
      have dd := (hb.cell (p := ⟨g5,2,none⟩) (lt_of_cell y2)).trans y2
      refine ite_y rfl (wp_val (.int .i64 (k : Nat)) ?_ ?_)
      ·simp only [execOp,eval_tmp,tt]; simp [go_sem,dd]
      ·exact ⟨_,rfl,Below.refl _ _,rfl⟩
     ·intro a W hb0 hs hp hi; have hb := undrew hb0; clear hb0
      have t67 : sl a 67 = .int .i64 ((putK K x).length : Nat) := hp 4 (by decide)
      have t70 : sl a 70 = .int .i64 (k : Nat) := hp 7 (by decide)
      refine ite_y rfl (wp_val (.bool true) ?_ ?_)
      ·simp only [execOp,eval_tmp,eval_const,t67,t70]; simp [go_sem,e15]
      ·exact ⟨_,rfl,Below.refl _ _,rfl⟩
    intro a w9 hb hs hd hI ht
    have ha := act_is [63,64,65,66,67,68,69,70,71] hs hd ht (by decide)
    have t71 : sl a 71 = .bool true := hI 8 (by decide)
    simp only [List.foldl,t71] at ha
    generalize sl a 63 = u63 at ha
    generalize sl a 64 = u64 at ha
    generalize sl a 65 = u65 at ha
    generalize sl a 66 = u66 at ha
    generalize sl a 67 = u67 at ha
    generalize sl a 68 = u68 at ha
    generalize sl a 69 = u69 at ha
    generalize sl a 70 = u70 at ha
    simp only [Act.put,List.setIfInBounds_toArray,List.set_cons_zero,List.set_cons_succ] at ha
    rw [ha]
    clear ha hI ht
    have kt7 := (hb.block _ (lt_of_block kt6)).trans kt6
    have HB7 := Lib.hid hb
    obtain ⟨x0,x1,x2,x3,x4,x5,x6⟩ := cells_seven kt7
    have z6 := frozen_of_row _ _ 6 _ _ kt7
    clear hb
    go_wp2
    go_ret
    have hO : OneE w9 gt (w9.setCell ⟨gt,6,none⟩ (.int .i64 1)) := (OneE.refl w9 gt).set _
    exact ⟨rfl,.map (some b2),v',⟨H.out.ok,by rw [HNX.out]; exact hss kt7,(HCn6.out.keep HB7.out).one hO kt7,hO.elm (HE6.out.keep HB7.out) kt7 tk_ne.2.1 tk_ne.2.2 tk_ne.1,HRd.out,H.out.old⟩,(HTC6.out.then HB7.out).one hO,HO6.out⟩
   ·have HNX : Hid (nextS K x k = 0) := by unfold nextS; rw [if_neg hcl,if_neg hfull]; rfl
    have e15 : (((putK K x).length : Int) == (k : Int)) = false := beq_eq_false_iff_ne.2 (by omega)
    clear hcl hfull
    go_wp2_with fail
    refine wp_region_shapes (fun ix => ([.val (.pointer (some ⟨gt,0,none⟩)),.val (.pointer (some ⟨gt,0,none⟩)),.val (.pointer (some ⟨gt,5,none⟩)),.val (.pointer (some ⟨be,0,none⟩)),.val (.int .i64 ((putK K x).length : Nat)),.val (.pointer (some ⟨g5,0,none⟩)),.val (.pointer (some ⟨g5,2,none⟩)),.val (.int .i64 (k : Nat)),.val (.bool false)][ix]?).getD (.any)) 75 rfl (by kernel_rfl) (by decide) (by decide) (by decide) ?_ ?_
    ·refine ⟨?_,?_,?_,?_,?_,?_,?_,?_,?_,trivial⟩
     ·intro a W hb0 hs hp hi; have hb := undrew hb0; clear hb0
      have t0 : sl a 0 = .pointer (some ⟨gt,0,none⟩) := hi 0 (by decide)
      exact ite_y rfl (wp_val (sl a 0) rfl ⟨_,rfl,Below.refl _ _,t0⟩)
     ·intro a W hb0 hs hp hi; have hb := undrew hb0; clear hb0
      have tt : sl a 63 = .pointer (some ⟨gt,0,none⟩) := hp 0 (by decide)
      refine ite_y rfl (wp_val (.pointer (some ⟨gt,0,none⟩)) ?_ ?_)
      ·simp only [execOp,eval_tmp,tt]; simp [go_sem]
      ·exact ⟨_,rfl,Below.refl _ _,rfl⟩
     ·intro a W hb0 hs hp hi; have hb := undrew hb0; clear hb0
      have t64 : sl a 64 = .pointer (some ⟨gt,0,none⟩) := hp 1 (by decide)
      refine ite_y rfl (wp_val (.pointer (some ⟨gt,5,none⟩)) ?_ ?_)
      ·simp only [execOp,eval_tmp,eval_const,t64]; simp [go_sem]
      ·exact ⟨_,rfl,Below.refl _ _,rfl⟩
     ·intro a W hb0 hs hp hi; have hb := undrew hb0; clear hb0
      have tt : sl a 65 = .pointer (some ⟨gt,5,none⟩) := hp 2 (by decide)
      have dd := (hb.cell (p := ⟨gt,5,none⟩) (lt_of_cell x5)).trans x5
      refine ite_y rfl (wp_val (.pointer (some ⟨be,0,none⟩)) ?_ ?_)
      ·simp only [execOp,eval_tmp,tt]; simp [go_sem,dd]
      ·exact ⟨_,rfl,Below.refl _ _,rfl⟩
     ·intro a W hb0 hs hp hi; have hb := undrew hb0; clear hb0
      have t66 : sl a 66 = .pointer (some ⟨be,0,none⟩) := hp 3 (by decide)
      refine ite_y rfl (wp_enter 65 #[.pointer (some ⟨be,0,none⟩)] ?_ (Rank_any' base be k t _ v' _ _ (HE6.out.keep hb)) ?_)
      ·simp only [execOp,resolve,List.map_toArray,List.map,eval_tmp,eval_func,eval_const,t66]; simp [go_sem]
      ·rintro e W' ⟨rfl,rfl⟩; exact ⟨_,rfl,_,rfl,Below.refl _ _,rfl⟩
     ·intro a W hb0 hs hp hi; have hb := undrew hb0; clear hb0
      have tt : sl a 5 = .pointer (some ⟨g5,0,none⟩) := hi 5 (by decide)
      refine ite_y rfl (wp_val (.pointer (some ⟨g5,0,none⟩)) ?_ ?_)
      ·simp only [execOp,eval_tmp,tt]; simp [go_sem]
      ·exact ⟨_,rfl,Below.refl _ _,rfl⟩
     ·intro a W hb0 hs hp hi; have hb := undrew hb0; clear hb0
      have tt : sl a 68 = .pointer (some ⟨g5,0,none⟩) := hp 5 (by decide)
      refine ite_y rfl (wp_val (.pointer (some ⟨g5,2,none⟩)) ?_ ?_)
      ·simp only [execOp,eval_tmp,tt]; simp [go_sem]
      ·exact ⟨_,rfl,Below.refl _ _,rfl⟩
     ·intro a W hb0 hs hp hi; have hb := undrew hb0; clear hb0
      have tt : sl a 69 = .pointer (some ⟨g5,2,none⟩) := hp 6 (by decide)
      have dd := (hb.cell (p := ⟨g5,2,none⟩) (lt_of_cell y2)).trans y2
      refine ite_y rfl (wp_val (.int .i64 (k : Nat)) ?_ ?_)
      ·simp only [execOp,eval_tmp,tt]; simp [go_sem,dd]
      ·exact ⟨_,rfl,Below.refl _ _,rfl⟩
     ·intro a W hb0 hs hp hi; have hb := undrew hb0; clear hb0
      have t67 : sl a 67 = .int .i64 ((putK K x).length : Nat) := hp 4 (by decide)
      have t70 : sl a 70 = .int .i64 (k : Nat) := hp 7 (by decide)
      refine ite_y rfl (wp_val (.bool false) ?_ ?_)
      ·simp only [execOp,eval_tmp,eval_const,t67,t70]; simp [go_sem,e15]
      ·exact ⟨_,rfl,Below.refl _ _,rfl⟩
    intro a w9 hb hs hd hI ht
    have ha := act_is [63,64,65,66,67,68,69,70,71] hs hd ht (by decide)
    have t71 : sl a 71 = .bool false := hI 8 (by decide)
    simp only [List.foldl,t71] at ha
    generalize sl a 63 = u63 at ha
    generalize sl a 64 = u64 at ha
    generalize sl a 65 = u65 at ha
    generalize sl a 66 = u66 at ha
    generalize sl a 67 = u67 at ha
    generalize sl a 68 = u68 at ha
    generalize sl a 69 = u69 at ha
    generalize sl a 70 = u70 at ha
    simp only [Act.put,List.setIfInBounds_toArray,List.set_cons_zero,List.set_cons_succ] at ha
    rw [ha]
    clear ha hI ht
    have kt7 := (hb.block _ (lt_of_block kt6)).trans kt6
    have HB7 := Lib.hid hb
    clear hb
    go_wp2
    go_ret
    exact ⟨rfl,.map (some b2),v',⟨H.out.ok,by rw [HNX.out]; exact kt7,HCn6.out.keep HB7.out,HE6.out.keep HB7.out,HRd.out,H.out.old⟩,HTC6.out.then HB7.out,HO6.out⟩
def takeK (k t D : Nat) (K : List Rw) (st : Nat) (xs : List UInt8) : List Rw := if readC k t D xs = 0 ∧ st = 0 then putK K (eqX k t xs) else K
def takeS (k t D : Nat) (K : List Rw) (st : Nat) (xs : List UInt8) : Nat := if readC k t D xs = 0 ∧ st = 0 then nextS K (eqX k t xs) k else st
theorem TTake_any (base gt be L t k D N : Nat) (M v : Value) (C : DataW Unit) (K : List Rw) (st : Nat) (p : Option Addr) (n c : Nat) (xs : List UInt8) (w : World) (h : Tkr w base gt be L t k D N M v C K st) (hT : HalfT w) (hN : N < 1000000) (hs : Sl B8 w p n c xs) (hr : Room n) :
  Calls Tryz.prog 16 #[.pointer (some ⟨gt,0,none⟩),.slice p n c] w (TkRet w base gt be L t k D (N + 1) v (bump C (readC k t D xs)) (takeK k t D K st xs) (takeS k t D K st xs) (readC k t D xs)) := by
 unfold takeK takeS
 by_cases hc : readC k t D xs = 0
 ·by_cases hst : st = 0
  ·rw [if_pos ⟨hc,hst⟩,if_pos ⟨hc,hst⟩]
   exact TTake_put base gt be L t k D N M v C K st p n c xs w h hT hN hs hr hc hst
  ·rw [if_neg (fun e => hst e.2),if_neg (fun e => hst e.2)]
   exact TTake_done base gt be L t k D N M v C K st p n c xs w h hT hN hs hr hc hst
 ·rw [if_neg (fun e => hc e.1),if_neg (fun e => hc e.1)]
  exact TTake_bad base gt be L t k D N M v C K st p n c xs w h hT hN hs hr hc
end Go.Proofs.YtccaiiigdfieoaaGreatDoor
namespace Go.Proofs.YtccaiiigdfieoaaGreatDoor
open Go.RowKit Go.By
end Go.Proofs.YtccaiiigdfieoaaGreatDoor
namespace Go.Proofs.YtccaiiigdfieoaaGreatDoor
open Go.RowKit Go.By
theorem Sl.take {α : Type} {enc : α → Value} {w : World} {p : Option Addr} {n c k c2 : Nat} {xs : List α} (h : Sl enc w p n c xs) (hk : k ≤ n) (h1 : k ≤ c2) (h2 : c2 ≤ c) : Sl enc w p k c2 (xs.take k) := by
 refine ⟨by rw [List.length_take,h.len]; omega,h1,Nat.le_trans h2 h.max,fun e => ?_,?_⟩
 ·have := h.nil e; omega
 ·intro i hi
  have hi' : i < xs.length := by rw [List.length_take] at hi; omega
  obtain ⟨b,o,hp,hc⟩ := h.rs i hi'
  exact ⟨b,o,hp,by rw [hc]; simp⟩
end Go.Proofs.YtccaiiigdfieoaaGreatDoor
namespace Go.Proofs.YtccaiiigdfieoaaGreatDoor
open Go.RowKit Go.By
end Go.Proofs.YtccaiiigdfieoaaGreatDoor
namespace Go.Proofs.YtccaiiigdfieoaaGreatDoor
open Go.RowKit Go.By
end Go.Proofs.YtccaiiigdfieoaaGreatDoor
namespace Go.By
open Go.RowKit
end Go.By
namespace Go.Proofs.YtccaiiigdfieoaaGreatDoor
open Go.RowKit Go.By
theorem info_bytesC : (Tryz.prog.info? 22).map (fun i => (i.zero,i.size,i.bytes)) = some (some (.slice none 0 0),1,24) := by kernel_rfl
end Go.Proofs.YtccaiiigdfieoaaGreatDoor
namespace Go.By
open Go.RowKit
theorem Fresh.cell {T T' B g i n c : Nat} {w : World} {q : Option Addr} {xs : List UInt8} {old : Array Value} {fr : Nat × Nat} {v : Value} (h : Fresh T B w q n c xs) (hg : w.heap[g]? = some (.cells old T' fr)) (hne : T' ≠ T) : Fresh T B (w.setCell ⟨g,i,Option.none⟩ v) q n c xs := by
 have hd : ∀ a,q = some a → a.block ≠ g := fun a ha e => by
  obtain ⟨c2,f2,e2⟩ := h.ty a ha
  rw [e,hg] at e2
  injection e2 with e2
  injection e2 with _ e3 _
  exact hne e3
 exact ⟨⟨h.sl.len,h.sl.le,h.sl.max,h.sl.nil,fun j hj => by
  obtain ⟨b,o,e,hc⟩ := h.sl.rs j hj
  exact ⟨b,o,e,(World.cell?_of_block (a := ⟨b,o + j,Option.none⟩) (Below.heap_setCell _ _ _ _ (hd _ e))).trans hc⟩⟩,h.new,fun a ha => by obtain ⟨c2,f2,e2⟩ := h.ty a ha; exact ⟨c2,f2,(Below.heap_setCell _ _ _ _ (hd a ha)).trans e2⟩⟩
end Go.By
namespace Go.Proofs.YtccaiiigdfieoaaGreatDoor
open Go.RowKit Go.By
end Go.Proofs.YtccaiiigdfieoaaGreatDoor
namespace Go.Proofs.YtccaiiigdfieoaaGreatDoor
open Go.RowKit Go.By
end Go.Proofs.YtccaiiigdfieoaaGreatDoor
