/- Arrays that the call owns,written in place; lists of parcels: cells of two. The contract of slices.Insert at rows: one more. The contract of slices.Insert at rows: one more,in the middle,where there is no room. Rows of a system in memory: one more,by slices.Insert; one in the place of another. A region that draws its order,with a call in its midst that writes: shapes ahead of it,told values behind it,and a store last. The closure of a system's Put. The contract of a system's Put: a row more. The contract of vec.Unit. The contract of a system's Known. The contract of the reference's Same of layer 7. The example of chapter 7. The law's example of chapter 8; what is told of no system. A system's Rest and Put,where the sizes don't fit,or nothing is left. What the packet layers and the plan share with the rows: IndexFunc and ContainsFunc of bytes and rows,Same and Zero of the reference,Zero of the kernel and of vectors. The contracts of the plan's functions: needed,fits,Check,Of; and of the reference's Needs and Check. The contracts of the reference's Needs and Check. A region that draws its order,whose first m operations are shapes,and whose others wait each for the one ahead of it: these are walked in their order. Plain: the sum of 32 bits,half a byte at a time and bit by bit. Plain: numbers of 32 bits as four bytes; sums of parts. Chapter 4: sum.Put,Start,Sum (under way). -/
import Derived.Test.YtccaiiigdfieoaaGreatDoorZk2
import Derived.Laws.IdiomCopy
import Derived.Deep.RegionLaw
import Derived.Lib.Overlaps
import Derived.Shelf.Spec.SlicesInsertGrow
import Derived.Lib.AppendZerosOnto
import Derived.BigQuiet
import Derived.Deep.QuietTactic
namespace Go.By
open Go.RowKit
theorem heap_setCells {g T:Nat}:∀ (vs:List Value) (o:Nat) (w:World) (cur:List Value),w.heap[g]? = some (.cells cur.toArray T (0,0))→o + vs.length≤cur.length →
  (w.setCells g o vs).heap[g]? = some (.cells (cur.take o ++ vs ++ cur.drop (o + vs.length)).toArray T (0,0))
 | [],o,w,cur,h,_=>by simpa [World.setCells] using h
 | v :: r,o,w,cur,h,hl=>by
  have hl':o + (r.length + 1)≤cur.length:=hl
  have h1:(w.setCell ⟨g,o,none⟩ v).heap[g]? = some (.cells (cur.set o v).toArray T (0,0)):=by
   rw [hss h];simp
  rw [World.setCells,heap_setCells r (o + 1) _ _ h1 (by rw [List.length_set];omega)]
  congr 3
  apply List.ext_getElem?
  intro j
  simp only [List.getElem?_append,List.length_append,List.length_take,List.length_set,List.length_cons,List.getElem?_take,List.getElem?_drop,List.getElem?_set,List.getElem?_cons,show min (o + 1) cur.length = o + 1 by omega,show min o cur.length = o by omega]
  by_cases c1:j < o
  ·simp [c1,show j < o + 1 by omega,show j < o + 1 + r.length by omega,show j < o + (r.length + 1) by omega,show ¬ o = j by omega]
  ·by_cases c2:j = o
   ·subst c2;simp [show j < j + 1 + r.length by omega,show j < cur.length by omega]
   ·by_cases c3:j < o + 1 + r.length
    ·simp [c1,c3,show ¬ j < o + 1 by omega,show j < o + (r.length + 1) by omega,show ¬ j - o = 0 by omega,show j - o - 1 = j - (o + 1) by omega]
    ·simp [c1,c3,show ¬ j < o + (r.length + 1) by omega,show ¬ o = o + 1 + r.length + (j - (o + 1 + r.length)) by omega,show o + (r.length + 1) + (j - (o + (r.length + 1))) = o + 1 + r.length + (j - (o + 1 + r.length)) by omega]
theorem grownBy_setCell (w:World) (g o:Nat) (v:Value):w.grownBy (w.setCell ⟨g,o,none⟩ v) (some g) :=
 ⟨rfl,rfl,rfl,by simp,fun i hi hne=>by
  have e:i≠g:=fun e=>hne (by rw [e])
  have:=hsc (w:=w) (a:=⟨g,o,none⟩) (v:=v) (x:=w.heap[i]) (i:=i) (Array.getElem?_eq_getElem hi) e
  rw [this,Array.getElem?_eq_getElem hi]⟩
theorem grownBy_setCells (g:Nat):∀ (vs:List Value) (o:Nat) (w:World),w.grownBy (w.setCells g o vs) (some g)
 | [],_,w=>World.grownBy.refl _ _
 | v :: r,o,w=>grown_trans (grownBy_setCell w g o v) (grownBy_setCells g r (o + 1) _)
theorem grownBy_drew (w:World) (row:Option Nat):w.grownBy w.drew row:=⟨rfl,rfl,rfl,Nat.le_refl _,fun _ _ _=>rfl⟩
def pcs (us:List (Value × Int)):List Value:=us.flatMap fun u=>[u.1,.int .i64 u.2]
theorem pcs_append (us vs:List (Value × Int)):pcs (us ++ vs) = pcs us ++ pcs vs:=by simp [pcs]
theorem owns2_shut {w:World} {base T n c g:Nat} {cur L:List Value} (hg:base≤g) (hh:w.heap[g]? = some (.cells (List.toArray cur) T (0,0))) (h1:n≤c) (h2:c≤maxLen) (h3:cur.length = c * 2) (h4:cur.take (n * 2) = L) :
  w.ownsRow base T 2 (.slice (some ⟨g,0,none⟩) n c) n L :=
 ⟨by rw [← h4,List.length_take];omega,.inr ⟨g,c,cur.toArray,rfl,hg,hh,h1,h2,by simpa using h3,by simpa using h4⟩⟩
theorem cell_arr {w:World} {g T:Nat} {cur:List Value} (h:w.heap[g]? = some (.cells (List.toArray cur) T (0,0))) (j:Nat):w.cell? ⟨g,j,none⟩ = cur[j]?:=by
 rw [cell_of_row _ _ j _ T (0,0) h];simp
theorem frozen_arr {w:World} {g T:Nat} {cur:List Value} (h:w.heap[g]? = some (.cells (List.toArray cur) T (0,0))) (j:Nat):w.frozen? ⟨g,j,none⟩ = false:=frozen_of_row _ _ j _ _ h
theorem run_copy_two {P:Program} (w:World) (dT sT ty elem:TypeId) (b o dLen dCap:Nat) (a:Addr) (sLen sCap:Nat) (cs:List Value)
  (hu:P.underlying dT = some (.slice elem)) (hs:(P.info? elem).map (·.size) = some 2) (hn:cs.length = Nat.min sLen dLen * 2)
  (hsrc:∀ j v,cs[j]? = some v→w.cell? (a.add j) = some v) (hc:∀ j,j < cs.length→(w.cell? ⟨b,o + j,none⟩).isSome = true) (hf:∀ j,j < cs.length→w.frozen? ⟨b,o + j,none⟩ = false) (h1:∀ v ∈ cs,v.oneCell' = true) :
  (Builtin.copy_ #[dT,sT] ty #[.slice (some ⟨b,o,none⟩) dLen dCap,.slice (some a) sLen sCap]).run P w = .ok (goInt (Nat.min sLen dLen)) (w.setCells b o cs):=by
 have hl:=run_loadCells_list (P:=P) w a cs hsrc
 have hst:=run_storeCells_cells (P:=P) b o cs 0 w (by simpa using hc) (by simpa using hf) h1
 cases hq:P.info? elem with
 | none=>simp [hq] at hs
 | some i =>
  have hi:i.size = 2:=by simpa [hq] using hs
  simp only [Nat.add_zero] at hst
  simp [Builtin.copy_,run_underlying hu,Builtin.lenOf,Builtin.firstCells,sizeOf,typeInfo,hq,hi,← hn,hl,hst]
end Go.By
namespace Go.By
open Go.RowKit
theorem fl2_cons (u:Value × Value) (us:List (Value × Value)):fl2 (u :: us) = u.1 :: u.2 :: fl2 us:=rfl
theorem fl2_one {us:List (Value × Value)} (h:∀ u,u ∈ us→u.1.oneCell' = true∧u.2.oneCell' = true):∀ v,v ∈ fl2 us→v.oneCell' = true:=by
 intro v hv
 obtain ⟨u,hu,hv⟩:=List.mem_flatMap.1 hv
 simp at hv
 rcases hv with rfl | rfl
 ·exact (h u hu).1
 ·exact (h u hu).2
end Go.By
namespace Go.Proofs.YtccaiiigdfieoaaGreatDoor
open Go.RowKit Go.By
theorem owns2_some {w:World} {base T n c g:Nat} {L:List Value} (h:w.ownsRow base T 2 (.slice (some ⟨g,0,none⟩) n c) n L) :
  ∃ cur,base≤g∧w.heap[g]? = some (.cells (List.toArray cur) T (0,0))∧n≤c∧c≤maxLen∧cur.length = c * 2∧cur.take (n * 2) = L:=by
 rcases h.2 with ⟨h1,_⟩ | ⟨g',cap,cur,hv,hg,hh,h1,h2,h3,h4⟩
 ·simp at h1
 ·obtain ⟨rfl,rfl⟩:g = g'∧c = cap:=by simpa using hv
  exact ⟨cur.toList,hg,by simpa using hh,h1,h2,by simpa using h3,by simpa using h4⟩
set_option maxRecDepth 100000 in
set_option maxHeartbeats 2000000 in
theorem InsRoom_any (base g n c vb:Nat) (us:List (Value × Value)) (u:Value × Value) (w:World) (h:w.ownsRow base 99 2 (.slice (some ⟨g,0,none⟩) n c) n (fl2 us)) (hroom:n + 1≤c) (hu:u.1.oneCell' = true∧u.2.oneCell' = true)
  (hv:w.heap[vb]? = some (.cells #[u.1,u.2] 99 (0,0))) :
  Calls Tryz.prog 120 #[.slice (some ⟨g,0,none⟩) n c,.int .i64 n,.slice (some ⟨vb,0,none⟩) 1 1] w fun e w' =>
   e = .returned (.slice (some ⟨g,0,none⟩) (n + 1) c)∧w'.ownsRow base 99 2 (.slice (some ⟨g,0,none⟩) (n + 1) c) (n + 1) (fl2 (us ++ [u]))∧w.grownBy w' (some g):=by
 obtain ⟨i0,hi0,hz0,hz1,hz2⟩:=info_parts info_vrow
 obtain ⟨cur,hg,hh,hnc,hcm,hcl,hct⟩:=owns2_some h
 have hr:=fun ty=>run_append_room_cells (P:=Tryz.prog) (w:=w) 44 ty 99 i0 Tryz.underlying44 hi0 g 0 n c ⟨vb,0,none⟩ 1 1 [u.1,u.2] (by rw [hz1];rfl)
  (fun j x hj=>by
   rw [Addr.add_lit,Nat.zero_add,cell_of_row _ _ j _ _ _ hv]
   match j with
   | 0=>simpa using hj
   | 1=>simpa using hj
   | j + 2=>simp at hj)
  (by intro x hx;simp at hx;rcases hx with rfl | rfl;exact hu.1;exact hu.2) hroom
  (fun j hj=>by rw [hz1,cell_arr hh,List.getElem?_eq_getElem (by simp at hj;omega)];rfl) (fun j hj=>frozen_arr hh _)
 rw [hz1,Nat.zero_add] at hr
 have HR:=Lib.hid hr
 have FIN:Hid ((w.setCells g (n * 2) [u.1,u.2]).ownsRow base 99 2 (.slice (some ⟨g,0,none⟩) (n + 1) c) (n + 1) (fl2 (us ++ [u]))∧w.grownBy (w.setCells g (n * 2) [u.1,u.2]) (some g)):=by
  refine ⟨owns2_shut hg (heap_setCells _ _ _ _ hh (by simp;omega)) hroom hcm ?_ ?_,grownBy_setCells g _ _ _⟩
  ·simp only [List.length_append,List.length_take,List.length_drop,hcl,List.length_cons,List.length_nil];omega
  ·rw [fl2_append,← hct,List.take_append_of_le_length (by simp only [List.length_append,List.length_take,List.length_cons,List.length_nil];omega),List.take_of_length_le (by simp only [List.length_append,List.length_take,List.length_cons,List.length_nil];omega)]
   rfl
 unfold maxLen at hcm
 clear h hh hct hr hv hcl hu
 go_enter Tryz.func120,Tryz.ntmps120
 go_wp2_with (at_builtin;refine Lib.wpList_append_run _ rfl _ _ _ _ rfl _ _ rfl rfl _ _ (HR.out _) ?_)
 go_ret
 exact ⟨rfl,FIN.out.1,FIN.out.2⟩
set_option maxRecDepth 100000 in
set_option maxHeartbeats 4000000 in
theorem InsLast_any (base n c vb:Nat) (q:Option Addr) (us:List (Value × Value)) (u:Value × Value) (w:World) (h:w.ownsRow base 99 2 (.slice q n c) n (fl2 us)) (hroom:c < n + 1) (hb:base≤w.heap.size) (hu:u.1.oneCell' = true∧u.2.oneCell' = true) (hn:n≤65536)
  (hv:w.heap[vb]? = some (.cells #[u.1,u.2] 99 (0,0))) :
  Calls Tryz.prog 120 #[.slice q n c,.int .i64 n,.slice (some ⟨vb,0,none⟩) 1 1] w fun e w' =>
   ∃ c',e = .returned (.slice (some ⟨w.heap.size,0,none⟩) (n + 1) c')∧w'.ownsRow base 99 2 (.slice (some ⟨w.heap.size,0,none⟩) (n + 1) c') (n + 1) (fl2 (us ++ [u]))∧w.grownBy w' none:=by
 obtain ⟨i0,hi0,hz0,hzs,hzb⟩:=info_parts info_vrow
 have hul:us.length = n:=by have:=h.1;rw [fl2_length] at this;omega
 have hnc:n≤c∧(q = none→n = 0∧c = 0)∧∀ a,q = some a→∀ j v,(fl2 us)[j]? = some v→w.cell? (a.add j) = some v:=by
  rcases h.2 with ⟨h1,h2⟩ | ⟨g,cap,cur,h1,_,hh,h3,_,h5,h6⟩
  ·have e1:q = none∧n = 0∧c = 0:=by simp at h1;exact ⟨h1.1,h1.2.1,h1.2.2⟩
   refine ⟨by omega,fun _=>⟨e1.2.1,e1.2.2⟩,fun a ha=>?_⟩
   rw [e1.1] at ha;cases ha
  ·obtain ⟨rfl,rfl⟩:q = some ⟨g,0,none⟩∧c = cap:=by simpa using h1
   refine ⟨h3,fun e=>by (cases e),fun a ha j v hj=>?_⟩
   cases ha
   rw [Addr.add_lit,Nat.zero_add,cell_of_row _ _ j _ _ _ hh]
   rw [← h6,List.getElem?_take] at hj
   split at hj
   ·simpa using hj
   ·cases hj
 obtain ⟨hnc,hnil,hcs⟩:=hnc
 have hva:∀ j x,[u.1,u.2][j]? = some x→w.cell? ((⟨vb,0,none⟩:Addr).add j) = some x:=fun j x hj=>by
  rw [Addr.add_lit,Nat.zero_add,cell_of_row _ _ j _ _ _ hv]
  match j with
  | 0=>simpa using hj
  | 1=>simpa using hj
  | j + 2=>simp at hj
 have h1v:∀ v ∈ [u.1,u.2],v.oneCell' = true:=by intro x hx;simp at hx;rcases hx with rfl | rfl;exact hu.1;exact hu.2
 have hsrc:Src Tryz.prog i0.size 44 (.slice (some ⟨vb,0,none⟩) 1 1) 1 [u.1,u.2] w:=by
  rw [hzs]
  exact Src.ofSlice w Tryz.underlying44 ⟨vb,0,none⟩ 1 1 [u.1,u.2] rfl hva h1v
 have hold:(Builtin.firstCells i0.size n (.slice q n c)).run Tryz.prog w.drew = .ok (fl2 us).toArray w.drew:=by
  rw [hzs]
  cases q with
  | none =>
   obtain ⟨rfl,-⟩:=hnil rfl
   have:us = []:=List.length_eq_zero_iff.1 hul
   rw [this]
   exact run_firstCells_none w.drew 2 0 0 c
  | some a=>exact run_firstCells_some w.drew 2 n a n c (fl2 us) (by rw [fl2_length,hul]) (fun j v hj=>hcs a rfl j v hj)
 have hrun:∀ ty,(Builtin.append_ #[44,44] ty #[.slice q n c,.slice (some ⟨vb,0,none⟩) 1 1]).run Tryz.prog w = _:=fun ty =>
  run_append_grow_src w 44 44 ty 99 i0 _ Tryz.underlying44 hi0 hz0 q n c (fl2 us) hold _ 1 [u.1,u.2] hsrc hroom (by omega) (by rw [hzb];exact growslice_fits hroom (by omega))
 obtain ⟨G,hG⟩:∃ G,G = grownCap w (n + 1) c 99:=⟨_,rfl⟩
 rw [← hG] at hrun
 obtain ⟨ROW,hROW⟩:∃ ROW:Array Value,ROW = (fl2 us ++ [u.1,u.2]).toArray ++ Builtin.zeroCells (Value.agg #[.slice none 0 0,.slice none 0 0]).cells (G - (n + 1)):=⟨_,rfl⟩
 rw [← hROW] at hrun
 have hGn:n + 1≤G:=by rw [hG];exact grownCap_ge w _ _ _
 have hGm:G≤maxLen:=by rw [hG];exact grownCap_le_maxLen w (n + 1) c 99 (by unfold maxLen;omega)
 have hz2:(Value.agg #[.slice none 0 0,.slice none 0 0]).cells = #[.slice none 0 0,.slice none 0 0]:=rfl
 have zl:∀ (a b:Value) (k:Nat),(Builtin.zeroCells #[a,b] k).size = k * 2:=fun a b k=>by simp [Builtin.zeroCells]
 have hRl:ROW.size = G * 2:=by
  rw [hROW,hz2,Array.size_append,zl,List.size_toArray,List.length_append,fl2_length,hul];simp;omega
 have FIN:Hid ((w.drew.alloc (.cells ROW 99)).ownsRow base 99 2 (.slice (some ⟨w.heap.size,0,none⟩) (n + 1) G) (n + 1) (fl2 (us ++ [u]))∧w.grownBy (w.drew.alloc (.cells ROW 99)) none):=by
  refine ⟨owns2_shut (cur:=ROW.toList) hb (hnew rfl) hGn hGm (by rw [Array.length_toList,hRl]) ?_,⟨rfl,rfl,rfl,by simp,fun b hb _=>by show (w.heap.push _)[b]? = _;rw [Array.getElem?_push_lt hb,Array.getElem?_eq_getElem hb]⟩⟩
  rw [hROW,Array.toList_append,List.toList_toArray,fl2_append]
  exact List.take_left' (by rw [List.length_append,fl2_length,hul];simp [fl2];omega)
 have HR:=Lib.hid hrun
 clear h hu hv hva h1v hsrc hold hrun hROW hRl hG hcs hul hGn hGm hb
 go_enter Tryz.func120,Tryz.ntmps120
 cases q with
 | none =>
  obtain ⟨rfl,rfl⟩:=hnil rfl
  go_wp2_with (at_builtin;refine Lib.wpList_append_run _ rfl _ _ _ _ rfl _ _ rfl rfl _ _ (HR.out _) ?_)
  go_ret
  exact ⟨_,rfl,FIN.out.1,FIN.out.2⟩
 | some a =>
  obtain ⟨ab,ao,asp⟩:=a
  go_wp2_with (at_builtin;refine Lib.wpList_append_run _ rfl _ _ _ _ rfl _ _ rfl rfl _ _ (HR.out _) ?_)
  all_goals (go_ret;exact ⟨_,rfl,FIN.out.1,FIN.out.2⟩)
theorem InsEnd_any (base n vb:Nat) (v:Value) (us:List (Value × Value)) (u:Value × Value) (w:World) (h:w.ownsRow base 99 2 v n (fl2 us)) (hb:base≤w.heap.size) (hu:u.1.oneCell' = true∧u.2.oneCell' = true) (hn:n≤65536)
  (hv:w.heap[vb]? = some (.cells #[u.1,u.2] 99 (0,0))) :
  Calls Tryz.prog 120 #[v,.int .i64 n,.slice (some ⟨vb,0,none⟩) 1 1] w fun e w' =>
   ∃ v',e = .returned v'∧w'.ownsRow base 99 2 v' (n + 1) (fl2 (us ++ [u]))∧w.grownBy w' v.ownBlock∧(v'.ownBlock = v.ownBlock∨v'.ownBlock = some w.heap.size):=by
 obtain ⟨q,c,rfl⟩:=owns_shape h
 by_cases hroom:n + 1≤c
 ·obtain ⟨g,rfl⟩:∃ g,q = some ⟨g,0,none⟩:=by
   rcases h.2 with ⟨h1,h2⟩ | ⟨g,cap,cur,h1,_⟩
   ·simp at h1;omega
   ·simp at h1;exact ⟨g,h1.1⟩
  refine (InsRoom_any base g n c vb us u w h hroom hu hv).mono ?_
  rintro e w' ⟨rfl,ho,hg⟩
  exact ⟨_,rfl,ho,by simpa [Value.ownBlock] using hg,.inl (by simp [Value.ownBlock])⟩
 ·refine (InsLast_any base n c vb q us u w h (by omega) hb hu hn hv).mono ?_
  rintro e w' ⟨c',rfl,ho,g1,g2,g3,g4,g5⟩
  exact ⟨_,rfl,ho,⟨g1,g2,g3,g4,fun b hb _=>g5 b hb (by simp)⟩,.inr (by simp [Value.ownBlock])⟩
set_option maxRecDepth 100000 in
set_option maxHeartbeats 4000000 in
theorem InsMid_any (base g n c i vb:Nat) (us:List (Value × Value)) (u:Value × Value) (w:World) (h:w.ownsRow base 99 2 (.slice (some ⟨g,0,none⟩) n c) n (fl2 us)) (hi:i < n) (hroom:n + 1≤c) (h1:∀ x,x ∈ us→x.1.oneCell' = true∧x.2.oneCell' = true) (hu:u.1.oneCell' = true∧u.2.oneCell' = true)
  (hv:w.heap[vb]? = some (.cells #[u.1,u.2] 99 (0,0))) (hvb:vb≠g) :
  Calls Tryz.prog 120 #[.slice (some ⟨g,0,none⟩) n c,.int .i64 i,.slice (some ⟨vb,0,none⟩) 1 1] w fun e w' =>
   e = .returned (.slice (some ⟨g,0,none⟩) (n + 1) c)∧w'.ownsRow base 99 2 (.slice (some ⟨g,0,none⟩) (n + 1) c) (n + 1) (fl2 (us.take i ++ u :: us.drop i))∧w.grownBy w' (some g):=by
 obtain ⟨i0,hi0,hz0,hz1,hz2⟩:=info_parts info_vrow
 have hul:us.length = n:=by have:=h.1;rw [fl2_length] at this;omega
 obtain ⟨cur,hg,hh,hnc,hcm,hcl,hct⟩:=owns2_some h
 have hsz:(Tryz.prog.info? 99).map (·.size) = some 2:=by rw [hi0];simp [hz1]
 have hov:∀ lb cb,(callFunc 183 #[.slice (some ⟨vb,0,none⟩) 1 1,.slice (some ⟨g,(i + 1) * 2,none⟩) lb cb]).run Tryz.prog w = .ok (.value (.bool false)) w:=fun lb cb=>by
  rw [run_callFunc_extern Tryz.func183 (by kernel_rfl) (by kernel_rfl) (by kernel_rfl) (e:=Extern.SlicesOverlaps.overlaps #[44,44] #[4]) (by kernel_rfl),
   Lib.run_overlaps_apart w 44 4 99 Tryz.underlying44 2 (fun w=>by simp [Go.sizeOf,typeInfo,hi0,hz1]) ⟨vb,0,none⟩ ⟨g,(i + 1) * 2,none⟩ 1 1 lb cb hvb 99 99 2 (c * 2)
    (by simp [World.shape?,hv]) (by simp [World.shape?,hh,hcl]) (by omega) (frozen_of_row _ _ 0 _ _ hv) (frozen_of_row _ _ 2 _ _ hv)]
  rfl
 have hw1:IntKind.i64.wrap ((i:Int) + 1) = (i:Int) + 1:=by rw [IntKind.wrap_i64];unfold maxLen at hcm;omega
 have hb1:(0:Int)≤(i:Int) + 1:=by omega
 have htn:((i:Int) + 1).toNat = i + 1:=by omega
 have hb2:¬ (c = i + 1):=by omega
 have hb4:¬ (c = i):=by omega
 have hb5:(i:Int) + 1≤(n:Int) + 1:=by omega
 have hb6:(i:Int)≤(n:Int) + 1:=by omega
 have hb7:i + 1≤n + 1:=by omega
 have hb8:i≤n + 1:=by omega
 have hz2':((i:Int) == (n:Int)) = false:=by simp;omega
 obtain ⟨mv,hmv⟩:∃ mv,mv = fl2 (us.drop i):=⟨_,rfl⟩
 have hml:mv.length = (n - i) * 2:=by rw [hmv,fl2_length,List.length_drop,hul]
 have hmc:∀ j v,mv[j]? = some v→cur[i * 2 + j]? = some v:=by
  intro j v hj
  rw [hmv,fl2_drop,← hct,List.getElem?_drop,List.getElem?_take] at hj
  split at hj
  ·exact hj
  ·cases hj
 have hcp1:∀ ty dc sc,(Builtin.copy_ #[44,44] ty #[.slice (some ⟨g,(i + 1) * 2,none⟩) (n - i) dc,.slice (some ⟨g,i * 2,none⟩) (n + 1 - i) sc]).run Tryz.prog w.drew = .ok (goInt ((n - i:Nat):Int)) (w.drew.setCells g ((i + 1) * 2) mv):=fun ty dc sc=>by
  have hmin:Nat.min (n + 1 - i) (n - i) = n - i:=by simp only [Nat.min_def];split <;> omega
  have:=run_copy_two (P:=Tryz.prog) w.drew 44 44 ty 99 g ((i + 1) * 2) (n - i) dc ⟨g,i * 2,none⟩ (n + 1 - i) sc mv Tryz.underlying44 hsz (by rw [hmin];exact hml)
   (fun j v hj=>by rw [Addr.add_lit];show w.cell? _ = _;rw [cell_arr hh];exact hmc j v hj)
   (fun j hj=>by show (w.cell? _).isSome = true;rw [cell_arr hh,List.getElem?_eq_getElem (by omega)];rfl) (fun j hj=>frozen_arr (w:=w) hh _)
   (by rw [hmv];exact fl2_one (fun x hx=>h1 x (List.mem_of_mem_drop hx)))
  rw [hmin] at this
  exact this
 obtain ⟨W1,hW1⟩:∃ W1,W1 = w.drew.setCells g ((i + 1) * 2) mv:=⟨_,rfl⟩
 have hh1:W1.heap[g]? = some (.cells (cur.take ((i + 1) * 2) ++ mv ++ cur.drop ((i + 1) * 2 + mv.length)).toArray 99 (0,0)):=by
  rw [hW1];exact heap_setCells mv ((i + 1) * 2) w.drew cur hh (by omega)
 have hgr1:w.grownBy W1 (some g):=by rw [hW1];exact grown_trans (grownBy_drew w _) (grownBy_setCells g _ _ _)
 have hvw:W1.heap[vb]? = some (.cells #[u.1,u.2] 99 (0,0)):=by
  rw [hgr1.block vb (lt_of_cell (cell_of_row _ _ 0 _ _ _ hv)) (by simpa using hvb)];exact hv
 have hlen1:(cur.take ((i + 1) * 2) ++ mv ++ cur.drop ((i + 1) * 2 + mv.length)).length = c * 2:=by
  simp only [List.length_append,List.length_take,List.length_drop];omega
 obtain ⟨cur1,hcur1⟩:∃ cur1,cur1 = cur.take ((i + 1) * 2) ++ mv ++ cur.drop ((i + 1) * 2 + mv.length):=⟨_,rfl⟩
 rw [← hcur1] at hh1 hlen1
 have hcp2:∀ ty dc,(Builtin.copy_ #[44,44] ty #[.slice (some ⟨g,i * 2,none⟩) (n + 1 - i) dc,.slice (some ⟨vb,0,none⟩) 1 1]).run Tryz.prog W1 = .ok (goInt 1) (W1.setCells g (i * 2) [u.1,u.2]):=fun ty dc=>by
  have hmin:Nat.min 1 (n + 1 - i) = 1:=by simp only [Nat.min_def];split <;> omega
  have:=run_copy_two (P:=Tryz.prog) W1 44 44 ty 99 g (i * 2) (n + 1 - i) dc ⟨vb,0,none⟩ 1 1 [u.1,u.2] Tryz.underlying44 hsz (by rw [hmin];rfl)
   (fun j x hj=>by
    rw [Addr.add_lit,Nat.zero_add,cell_of_row _ _ j _ _ _ hvw]
    match j with
    | 0=>simpa using hj
    | 1=>simpa using hj
    | j + 2=>simp at hj)
   (fun j hj=>by rw [cell_arr hh1,List.getElem?_eq_getElem (by simp at hj;omega)];rfl) (fun j hj=>frozen_arr hh1 _)
   (by intro x hx;simp at hx;rcases hx with rfl | rfl;exact hu.1;exact hu.2)
  rw [hmin] at this
  exact this
 rw [← hW1] at hcp1
 have FIN:Hid ((W1.setCells g (i * 2) [u.1,u.2]).ownsRow base 99 2 (.slice (some ⟨g,0,none⟩) (n + 1) c) (n + 1) (fl2 (us.take i ++ u :: us.drop i))∧w.grownBy (W1.setCells g (i * 2) [u.1,u.2]) (some g)):=by
  refine ⟨owns2_shut hg (heap_setCells _ _ _ _ hh1 (by rw [hlen1];simp;omega)) hroom hcm ?_ ?_,grown_trans hgr1 (grownBy_setCells g _ _ _)⟩
  ·simp only [List.length_append,List.length_take,List.length_drop,hlen1,List.length_cons,List.length_nil];omega
  ·have e1:cur1.take (i * 2) = cur.take (i * 2):=by
    rw [hcur1,List.append_assoc,List.take_append_of_le_length (by rw [List.length_take];omega),List.take_take,show min (i * 2) ((i + 1) * 2) = i * 2 by omega]
   have e2:cur1.drop (i * 2 + [u.1,u.2].length) = mv ++ cur.drop ((i + 1) * 2 + mv.length):=by
    rw [hcur1,List.append_assoc]
    exact List.drop_left' (by rw [List.length_take,List.length_cons,List.length_cons,List.length_nil];omega)
   rw [e1,e2,← List.append_assoc,List.take_left' (by simp only [List.length_append,List.length_take,List.length_cons,List.length_nil,hml];omega),fl2_append,fl2_cons,fl2_take,← hmv,← hct,List.take_take,show min (i * 2) (n * 2) = i * 2 by omega]
   simp
 unfold maxLen at hcm
 have HC1:=Lib.hid hcp1;have HC2:=Lib.hid hcp2
 clear h hh hct hv hcl hu hcp1 hcp2 hh1 hgr1 hvw hcur1 hlen1 hW1 hmv hml hmc h1 hul hg
 go_enter Tryz.func120,Tryz.ntmps120
 go_wp2_with (simp only [hov])
 go_region_law (refine step_copy_runI rfl _ _ 44 44 rfl _ _ (by simp [Act.eval,Act.put]) (by simp [Act.eval,Act.put]) (HC1.out _ (c - (i + 1)) (c - i)) ?_)
 have hc2:=HC2.out 3 (c - i)
 go_wp2
 go_ret
 exact ⟨rfl,FIN.out.1,FIN.out.2⟩
end Go.Proofs.YtccaiiigdfieoaaGreatDoor
namespace Go.Proofs.YtccaiiigdfieoaaGreatDoor
open Go.RowKit Go.By
theorem drew_setCell (w:World) (a:Addr) (v:Value):w.drew.setCell a v = (w.setCell a v).drew:=rfl
theorem drew_setCells (g:Nat):∀ (vs:List Value) (o:Nat) (w:World),w.drew.setCells g o vs = (w.setCells g o vs).drew
 | [],_,_=>rfl
 | v :: r,o,w=>by rw [World.setCells,World.setCells,drew_setCell,drew_setCells g r]
theorem zero_len (a b:Value) (k:Nat):(Builtin.zeroCells #[a,b] k).size = k * 2:=by simp [Builtin.zeroCells]
set_option maxRecDepth 100000 in
set_option maxHeartbeats 4000000 in
theorem InsGrow_any (base g n c i vb:Nat) (us:List (Value × Value)) (u:Value × Value) (w:World) (h:w.ownsRow base 99 2 (.slice (some ⟨g,0,none⟩) n c) n (fl2 us)) (hi:i < n) (hroom:c < n + 1) (hu:u.1.oneCell' = true∧u.2.oneCell' = true)
  (h1:∀ x,x ∈ us→x.1.oneCell' = true∧x.2.oneCell' = true) (hn:n≤65536) (hv:w.heap[vb]? = some (.cells #[u.1,u.2] 99 (0,0))) (hb:base≤w.heap.size) :
  Calls Tryz.prog 120 #[.slice (some ⟨g,0,none⟩) n c,.int .i64 i,.slice (some ⟨vb,0,none⟩) 1 1] w fun e w' =>
   ∃ v',e = .returned v'∧w'.ownsRow base 99 2 v' (n + 1) (fl2 (us.take i ++ u :: us.drop i))∧w.grownBy w' none∧v'.ownBlock = some w.heap.size:=by
 obtain ⟨i0,hi0,hz0,hzs,hzb⟩:=info_parts info_vrow
 have hul:us.length = n:=by have:=h.1;rw [fl2_length] at this;omega
 obtain ⟨cur,hg,hh,hnc,hcm,hcl,hct⟩:=owns2_some h
 have hsz:(Tryz.prog.info? 99).map (·.size) = some 2:=by rw [hi0];simp [hzs]
 have hbw:g < w.heap.size:=blk_lt hh
 have hvw:vb < w.heap.size:=blk_lt hv
 have hat:∀ j x,(fl2 us)[j]? = some x→w.cell? ⟨g,j,none⟩ = some x:=fun j x hj=>by
  rw [cell_arr hh]
  rw [← hct,List.getElem?_take] at hj
  split at hj
  ·exact hj
  ·cases hj
 have hva:∀ j x,[u.1,u.2][j]? = some x→w.cell? ⟨vb,j,none⟩ = some x:=fun j x hj=>by
  rw [cell_of_row _ _ j _ _ _ hv]
  match j with
  | 0=>simpa using hj
  | 1=>simpa using hj
  | j + 2=>simp at hj
 have hold:(Builtin.firstCells i0.size i (.slice (some ⟨g,0,none⟩) i c)).run Tryz.prog w.drew = .ok (fl2 (us.take i)).toArray w.drew:=by
  rw [hzs]
  exact run_firstCells_some w.drew 2 i ⟨g,0,none⟩ i c (fl2 (us.take i)) (by rw [fl2_length,List.length_take];omega) (fun j v hj=>by
   rw [Addr.add_lit,Nat.zero_add]
   rw [fl2_take,List.getElem?_take] at hj
   split at hj
   ·exact hat j v hj
   ·cases hj)
 have hik:i + (n + 1 - i) = n + 1:=by omega
 have hkk:(n:Int) + 1 - (i:Int) = ((n + 1 - i:Nat):Int):=by omega
 obtain ⟨G,hG⟩:∃ G,G = grownCap w (n + 1) c 99:=⟨_,rfl⟩
 obtain ⟨ROW,hROW⟩:∃ ROW:Array Value,ROW = (fl2 (us.take i)).toArray ++ Builtin.zeroCells (Value.agg #[.slice none 0 0,.slice none 0 0]).cells (n + 1 - i) ++ Builtin.zeroCells (Value.agg #[.slice none 0 0,.slice none 0 0]).cells (G - (n + 1)):=⟨_,rfl⟩
 have hrz:∀ ty,(Builtin.append_ #[44,3] ty #[.slice (some ⟨g,0,none⟩) i c,.int .i64 ((n:Int) + 1 - (i:Int))]).run Tryz.prog w = .ok (.slice (some ⟨w.heap.size,0,none⟩) (n + 1) G) (w.drew.alloc (.cells ROW 99)):=fun ty=>by
  have h:=Lib.run_append_grow_zeros w 44 3 ty 99 i0 _ .i64 .i64 Tryz.underlying44 Tryz.underlying3 hi0 hz0 (some ⟨g,0,none⟩) i c (fl2 (us.take i)) hold (n + 1 - i) (by omega) (by omega) (by omega) (by omega) (by rw [hzb];omega) (by rw [hzb,hik];exact growslice_fits hroom (by omega))
  rw [hik,← hG] at h
  rw [hkk,hROW]
  exact h
 have hGn:n + 1≤G:=by rw [hG];exact grownCap_ge w _ _ _
 have hGm:G≤maxLen:=by rw [hG];exact grownCap_le_maxLen w (n + 1) c 99 (by unfold maxLen;omega)
 have hz2:(Value.agg #[.slice none 0 0,.slice none 0 0]).cells = #[.slice none 0 0,.slice none 0 0]:=rfl
 have hRl:ROW.size = G * 2:=by
  rw [hROW,hz2,Array.size_append,Array.size_append,zero_len,zero_len,List.size_toArray,fl2_length,List.length_take];omega
 obtain ⟨W1,hW1⟩:∃ W1,W1 = w.drew.alloc (.cells ROW 99):=⟨_,rfl⟩
 have hh1:W1.heap[w.heap.size]? = some (.cells (ROW.toList).toArray 99 (0,0)):=by rw [hW1];exact hnew rfl
 have hN:∀ j,j < (n + 1) * 2→(W1.cell? ⟨w.heap.size,j,none⟩).isSome = true:=fun j hj=>by
  rw [cell_arr hh1,List.getElem?_eq_getElem (by simp;omega)];rfl
 have hNf:∀ j,W1.frozen? ⟨w.heap.size,j,none⟩ = false:=fun j=>frozen_arr hh1 j
 have hOb:∀ b j v,b < w.heap.size→w.cell? ⟨b,j,none⟩ = some v→W1.cell? ⟨b,j,none⟩ = some v:=fun b j v hb h=>by rw [hW1,World.cell?_alloc_past (w:=w.drew) _ b j hb];exact h
 have hcpA:∀ (W:World),(∀ x,W.cell? x = W1.cell? x)→(∀ x,W.frozen? x = W1.frozen? x)→∀ ty dc,(Builtin.copy_ #[44,44] ty #[.slice (some ⟨w.heap.size,i * 2,none⟩) (n + 1 - i) dc,.slice (some ⟨vb,0,none⟩) 1 1]).run Tryz.prog W = .ok (goInt 1) (W.setCells w.heap.size (i * 2) [u.1,u.2]):=fun W hWc hWf ty dc=>by
  have hmin:Nat.min 1 (n + 1 - i) = 1:=by simp only [Nat.min_def];split <;> omega
  have:=run_copy_two (P:=Tryz.prog) W 44 44 ty 99 w.heap.size (i * 2) (n + 1 - i) dc ⟨vb,0,none⟩ 1 1 [u.1,u.2] Tryz.underlying44 hsz (by rw [hmin];rfl)
   (fun j x hj=>by rw [Addr.add_lit,Nat.zero_add,hWc];exact hOb vb j x hvw (hva j x hj))
   (fun j hj=>by rw [hWc];exact hN _ (by simp at hj;omega)) (fun j hj=>by rw [hWf];exact hNf _) (by intro x hx;simp at hx;rcases hx with rfl | rfl;exact hu.1;exact hu.2)
  rw [hmin] at this
  exact this
 have hdl:(fl2 (us.drop i)).length = (n - i) * 2:=by rw [fl2_length,List.length_drop,hul]
 have hcpB:∀ (W:World),(∀ x,W.cell? x = (W1.setCells w.heap.size (i * 2) [u.1,u.2]).cell? x)→(∀ x,W.frozen? x = (W1.setCells w.heap.size (i * 2) [u.1,u.2]).frozen? x)→∀ ty dc sc,
   (Builtin.copy_ #[44,44] ty #[.slice (some ⟨w.heap.size,(i + 1) * 2,none⟩) (n + 1 - (i + 1)) dc,.slice (some ⟨g,i * 2,none⟩) (n - i) sc]).run Tryz.prog W = .ok (goInt ((n - i:Nat):Int)) (W.setCells w.heap.size ((i + 1) * 2) (fl2 (us.drop i))):=fun W hWc hWf ty dc sc=>by
  have hmin:Nat.min (n - i) (n + 1 - (i + 1)) = n - i:=by simp only [Nat.min_def];split <;> omega
  have:=run_copy_two (P:=Tryz.prog) W 44 44 ty 99 w.heap.size ((i + 1) * 2) (n + 1 - (i + 1)) dc ⟨g,i * 2,none⟩ (n - i) sc (fl2 (us.drop i)) Tryz.underlying44 hsz (by rw [hmin];exact hdl)
   (fun j v hj=>by
    rw [Addr.add_lit,hWc,World.cell?_setCells_out _ _ _ _ _ (fun h _=>absurd h (by show g≠w.heap.size;omega))]
    refine hOb g _ v hbw (hat _ v ?_)
    rw [fl2_drop,List.getElem?_drop] at hj;exact hj)
   (fun j hj=>by rw [hWc];exact isSome_setCells _ _ _ _ (fun t ht=>hN _ (by simp at ht;omega)) _ (hN _ (by omega)))
   (fun j hj=>by rw [hWf,World.frozen?_setCells];exact hNf _) (fl2_one fun x hx=>h1 x (List.mem_of_mem_drop hx))
  rw [hmin] at this
  exact this
 have hFIN:Hid (∀ W:World,W.heap = ((W1.setCells w.heap.size (i * 2) [u.1,u.2]).setCells w.heap.size ((i + 1) * 2) (fl2 (us.drop i))).heap→W.ownsRow base 99 2 (.slice (some ⟨w.heap.size,0,none⟩) (n + 1) G) (n + 1) (fl2 (us.take i ++ u :: us.drop i))):=by
  intro W hW
  have k1:=heap_setCells [u.1,u.2] (i * 2) W1 ROW.toList hh1 (by simp;omega)
  have k2:=heap_setCells (fl2 (us.drop i)) ((i + 1) * 2) _ _ k1 (by
   simp only [List.length_append,List.length_take,List.length_drop,List.length_cons,List.length_nil,Array.length_toList,hRl,hdl];omega)
  refine owns2_shut hb (by rw [hW];exact k2) hGn hGm ?_ ?_
  ·simp only [List.length_append,List.length_take,List.length_drop,List.length_cons,List.length_nil,Array.length_toList,hRl,hdl];omega
  ·have hR:ROW.toList.take (i * 2) = fl2 (us.take i):=by
    rw [hROW,Array.toList_append,Array.toList_append,List.append_assoc,List.toList_toArray]
    exact List.take_left' (by rw [fl2_length,List.length_take];omega)
   have e1:(ROW.toList.take (i * 2) ++ [u.1,u.2] ++ ROW.toList.drop (i * 2 + [u.1,u.2].length)).take ((i + 1) * 2) = fl2 (us.take i) ++ [u.1,u.2]:=by
    rw [List.take_left' (by simp only [List.length_append,List.length_take,List.length_cons,List.length_nil,Array.length_toList,hRl];omega),hR]
   rw [e1,List.take_left' (by
    simp only [List.length_append,List.length_cons,List.length_nil,fl2_length,List.length_take,List.length_drop,hul];omega),fl2_append,fl2_cons]
   simp
 have hGR:Hid (w.grownBy W1 none):=by rw [hW1];exact ⟨rfl,rfl,rfl,by simp,fun b hb _=>by show (w.heap.push _)[b]? = _;rw [Array.getElem?_push_lt hb,Array.getElem?_eq_getElem hb]⟩
 have hGi:¬ (G = i):=by omega
 have hGim:¬ (G = i + 1):=by omega
 have hci:¬ (c = i):=by omega
 subst hW1
 have hE1:∀ x,((w.alloc (.cells ROW 99)).drew).cell? x = (w.drew.alloc (.cells ROW 99)).cell? x:=fun x=>rfl
 have hE2:∀ x,((w.alloc (.cells ROW 99)).drew).frozen? x = (w.drew.alloc (.cells ROW 99)).frozen? x:=fun x=>rfl
 have hF1:∀ x,(((w.alloc (.cells ROW 99)).drew.setCells w.heap.size (i * 2) [u.1,u.2]).drew).cell? x = ((w.drew.alloc (.cells ROW 99)).setCells w.heap.size (i * 2) [u.1,u.2]).cell? x:=fun x=>rfl
 have hF2:∀ x,(((w.alloc (.cells ROW 99)).drew.setCells w.heap.size (i * 2) [u.1,u.2]).drew).frozen? x = ((w.drew.alloc (.cells ROW 99)).setCells w.heap.size (i * 2) [u.1,u.2]).frozen? x:=fun x=>rfl
 have hw1:IntKind.i64.wrap ((i:Int) + 1) = (i:Int) + 1:=by rw [IntKind.wrap_i64];omega
 have hw2:IntKind.i64.wrap ((n:Int) + 1) = (n:Int) + 1:=by rw [IntKind.wrap_i64];omega
 have hw3:IntKind.i64.wrap ((n:Int) + 1 - (i:Int)) = (n:Int) + 1 - (i:Int):=by rw [IntKind.wrap_i64];omega
 have hb1:(0:Int)≤(i:Int) + 1:=by omega
 have hin:i≤n:=by omega
 have htn:((i:Int) + 1).toNat = i + 1:=by omega
 have hb3:(i:Int)≤(n:Int):=by omega
 have hz1:((i:Int) == (n:Int)) = false:=by simp;omega
 have hz3:(c:Int) < (n:Int) + 1:=by omega
 unfold maxLen at hcm hGm
 have HA:=Lib.hid hcpA;have HB:=Lib.hid hcpB;have HZ:=Lib.hid hrz
 clear hkk hik hold hROW hG hRl hh hct hcl hv hu h1 hat hva hN hNf hOb hh1 hcpA hcpB hrz hdl hul h
 have mixed:Tryz.prog.follows .mixedOrders = true:=by kernel_rfl
 go_enter Tryz.func120,Tryz.ntmps120
 have hcA:=HA.out _ hE1 hE2 3 (G - i)
 go_wp2_with (at_builtin;refine Lib.wpList_append_run _ rfl _ _ _ _ rfl _ _ rfl rfl _ _ (HZ.out _) ?_)
 go_region_law_o (refine step_copy_runI rfl _ _ 44 44 rfl (.slice (some ⟨w.heap.size,(i + 1) * 2,none⟩) (n + 1 - (i + 1)) (G - (i + 1))) (.slice (some ⟨g,i * 2,none⟩) (n - i) (c - i)) (by simp [Act.eval,Act.put]) (by simp [Act.eval,Act.put]) (HB.out _ hF1 hF2 3 (G - (i + 1)) (c - i)) ?_)
 clear hcA
 go_wp2
 go_ret
 have hdr:(((w.alloc (.cells ROW 99)).drew.setCells w.heap.size (i * 2) [u.1,u.2]).drew.setCells w.heap.size ((i + 1) * 2) (fl2 (us.drop i))).heap = (((w.drew.alloc (.cells ROW 99)).setCells w.heap.size (i * 2) [u.1,u.2]).setCells w.heap.size ((i + 1) * 2) (fl2 (us.drop i))).heap:=by
  have e:(w.alloc (.cells ROW 99)).drew = w.drew.alloc (.cells ROW 99):=rfl
  rw [e,drew_setCells];rfl
 refine ⟨_,rfl,hFIN.out _ hdr,?_⟩
 obtain ⟨a1,a2,a3,a4,a5⟩:=hGR.out
 obtain ⟨s1,s2,s3,s4,s5⟩:=grown_trans (grown_trans (grownBy_setCells w.heap.size [u.1,u.2] (i * 2) (w.alloc (.cells ROW 99)).drew) (grownBy_drew _ _)) (grownBy_setCells w.heap.size (fl2 (us.drop i)) ((i + 1) * 2) _)
 exact ⟨⟨s1.trans a1,s2.trans a2,s3.trans a3,Nat.le_trans a4 s4,fun b hb hne=>(s5 b (Nat.lt_of_lt_of_le hb a4) (fun e=>by injection e;omega)).trans (a5 b hb hne)⟩,by simp [Value.ownBlock]⟩
end Go.Proofs.YtccaiiigdfieoaaGreatDoor
namespace Go.By
open Go.RowKit
section
variable {T2 T1:TypeId} {w w':World} {base n:Nat} {v:Value} {K:List (List UInt8 × List UInt8)}
theorem Bw.one {xs:List UInt8} (h:Bw T1 w base v xs):v.oneCell' = true:=by obtain ⟨q,m,c,rfl,_⟩:=h;rfl
theorem RwL.mid {v':Value} {i:Nat} {u:Value × Value} {k:List UInt8 × List UInt8} {vs:List (Value × Value)} (a:vs.length = n) (b:K.length = n) (o:w.ownsRow base T2 2 v n (fl2 vs))
  (r:∀ (j:Nat) (u:Value × Value),vs[j]? = some u→∃ k,K[j]? = some k∧Bw T1 w base u.1 k.1∧Bw T1 w base u.2 k.2) (hT:T1≠T2) (h1:Bw T1 w base u.1 k.1) (h2:Bw T1 w base u.2 k.2) (hi:i≤n)
  (ho:w'.ownsRow base T2 2 v' (n + 1) (fl2 (vs.take i ++ u :: vs.drop i))) (hg:w.grownBy w' v.ownBlock):RwL T2 T1 w' base v' (n + 1) (K.take i ++ k :: K.drop i):=by
 refine ⟨vs.take i ++ u :: vs.drop i,by simp [a];omega,by simp [b];omega,ho,?_⟩
 intro j x hj
 have lv:(vs.take i).length = i:=by rw [List.length_take];omega
 have lk:(K.take i).length = i:=by rw [List.length_take];omega
 by_cases hji:j < i
 ·rw [List.getElem?_append_left (by omega),List.getElem?_take,if_pos hji] at hj
  obtain ⟨k',hk,g1,g2⟩:=r j x hj
  exact ⟨k',by rw [List.getElem?_append_left (by omega),List.getElem?_take,if_pos hji];exact hk,g1.grown hT o hg,g2.grown hT o hg⟩
 ·rw [List.getElem?_append_right (by omega),lv] at hj
  by_cases hje:j = i
  ·subst hje
   rw [Nat.sub_self] at hj
   have:u = x:=by simpa using hj
   subst this
   exact ⟨k,by rw [List.getElem?_append_right (by omega),lk,Nat.sub_self];rfl,h1.grown hT o hg,h2.grown hT o hg⟩
  ·rw [show j - i = (j - 1 - i) + 1 by omega,List.getElem?_cons_succ,List.getElem?_drop,show i + (j - 1 - i) = j - 1 by omega] at hj
   obtain ⟨k',hk,g1,g2⟩:=r (j - 1) x hj
   exact ⟨k',by rw [List.getElem?_append_right (by omega),lk,show j - i = (j - 1 - i) + 1 by omega,List.getElem?_cons_succ,List.getElem?_drop,show i + (j - 1 - i) = j - 1 by omega];exact hk,g1.grown hT o hg,g2.grown hT o hg⟩
theorem fl2_set (us:List (Value × Value)):∀ (i:Nat) (u:Value × Value),fl2 (us.set i u) = ((fl2 us).set (i * 2) u.1).set (i * 2 + 1) u.2:=by
 induction us with
 | nil=>intro i u;simp [fl2]
 | cons x us ih =>
  intro i u
  cases i with
  | zero=>rfl
  | succ i =>
   rw [List.set_cons_succ,fl2_cons,fl2_cons,ih,show (i + 1) * 2 = i * 2 + 1 + 1 by omega]
   rfl
theorem RwL.put {g c i:Nat} {u1 u2:Value} {k:List UInt8 × List UInt8} (h:RwL T2 T1 w base (.slice (some ⟨g,0,none⟩) n c) n K) (hT:T1≠T2) (hi:i < n) (h1:Bw T1 w base u1 k.1) (h2:Bw T1 w base u2 k.2) :
  RwL T2 T1 ((w.setCell ⟨g,i * 2,none⟩ u1).setCell ⟨g,i * 2 + 1,none⟩ u2) base (.slice (some ⟨g,0,none⟩) n c) n (K.set i k):=by
 obtain ⟨vs,a,b,o,r⟩:=h
 have hg:w.grownBy ((w.setCell ⟨g,i * 2,none⟩ u1).setCell ⟨g,i * 2 + 1,none⟩ u2) (Value.slice (some ⟨g,0,none⟩) n c).ownBlock:=by
  have:=grown_trans (grownBy_setCell w g (i * 2) u1) (grownBy_setCell (w.setCell ⟨g,i * 2,none⟩ u1) g (i * 2 + 1) u2)
  simpa [Value.ownBlock] using this
 refine ⟨vs.set i (u1,u2),by simp [a],by simp [b],?_,?_⟩
 ·refine ⟨by rw [fl2_length,List.length_set,a],.inr ?_⟩
  rcases o.2 with ⟨hv,_⟩ | ⟨g',cap,cur,hv,hb,hh,e1,e2,e3,e4⟩
  ·simp at hv
  ·obtain ⟨rfl,rfl⟩:g = g'∧c = cap:=by simpa using hv
   refine ⟨g,c,_,rfl,hb,hss (hss hh),e1,e2,by simp [e3],?_⟩
   rw [fl2_set,← e4,Array.toList_setIfInBounds,Array.toList_setIfInBounds,List.take_set,List.take_set]
 ·intro j x hj
  rw [List.getElem?_set] at hj
  by_cases e:i = j
  ·subst e
   rw [if_pos rfl,if_pos (by omega)] at hj
   cases hj
   exact ⟨k,by rw [List.getElem?_set,if_pos rfl,if_pos (by omega)],h1.grown hT o hg,h2.grown hT o hg⟩
  ·rw [if_neg e] at hj
   obtain ⟨k',hk,g1,g2⟩:=r j x hj
   exact ⟨k',by rw [List.getElem?_set,if_neg e];exact hk,g1.grown hT o hg,g2.grown hT o hg⟩
end
end Go.By
namespace Go.Proofs.YtccaiiigdfieoaaGreatDoor
open Go.RowKit Go.By
theorem InsRow_any (base n i vb:Nat) (v u1 u2:Value) (K:List Rw) (k:Rw) (w:World) (h:RwL 99 5 w base v n K) (hi:i≤n) (hn:n≤65536) (hb:base≤w.heap.size)
  (hv:w.heap[vb]? = some (.cells #[u1,u2] 99 (0,0))) (hvb:v.ownBlock≠some vb) (h1:Bw 5 w base u1 k.1) (h2:Bw 5 w base u2 k.2) :
  Calls Tryz.prog 120 #[v,.int .i64 i,.slice (some ⟨vb,0,none⟩) 1 1] w fun e w' =>
   ∃ v',e = .returned v'∧RwL 99 5 w' base v' (n + 1) (K.take i ++ k :: K.drop i)∧w.grownBy w' v.ownBlock∧(v'.ownBlock = v.ownBlock∨v'.ownBlock = some w.heap.size):=by
 obtain ⟨vs,a,b,o,r⟩:=h
 have hu:u1.oneCell' = true∧u2.oneCell' = true:=⟨h1.one,h2.one⟩
 have hus:∀ x,x ∈ vs→x.1.oneCell' = true∧x.2.oneCell' = true:=fun x hx=>by
  obtain ⟨j,hj,rfl⟩:=List.getElem_of_mem hx
  obtain ⟨k',-,g1,g2⟩:=r j _ (List.getElem?_eq_getElem hj)
  exact ⟨g1.one,g2.one⟩
 by_cases hin:i = n
 ·subst hin
  refine (InsEnd_any base i vb v vs (u1,u2) w o hb hu hn hv).mono ?_
  rintro e w' ⟨v',rfl,ho,hg,hbk⟩
  refine ⟨v',rfl,RwL.mid (u:=(u1,u2)) a b o r (by decide) h1 h2 hi ?_ hg,hg,hbk⟩
  rw [List.take_of_length_le (by omega),List.drop_eq_nil_of_le (by omega)];exact ho
 ·obtain ⟨q,c,rfl⟩:=owns_shape o
  obtain ⟨g,rfl,-⟩:∃ g,q = some ⟨g,0,none⟩∧True:=by
   rcases o.2 with ⟨hv,_⟩ | ⟨g,cap,cur,hv,_⟩
   ·simp at hv;omega
   ·simp at hv;exact ⟨g,hv.1,trivial⟩
  have hgv:vb≠g:=fun e=>hvb (by simp [Value.ownBlock,e])
  by_cases hroom:n + 1≤c
  ·refine (InsMid_any base g n c i vb vs (u1,u2) w o (by omega) hroom hus hu hv hgv).mono ?_
   rintro e w' ⟨rfl,ho,hg⟩
   have hg2:w.grownBy w' (Value.slice (some ⟨g,0,none⟩) n c).ownBlock:=by simpa [Value.ownBlock] using hg
   exact ⟨_,rfl,RwL.mid (u:=(u1,u2)) a b o r (by decide) h1 h2 hi ho hg2,hg2,.inl (by simp [Value.ownBlock])⟩
  ·refine (InsGrow_any base g n c i vb vs (u1,u2) w o (by omega) (by omega) hu hus hn hv hb).mono ?_
   rintro e w' ⟨v',rfl,ho,⟨g1,g2,g3,g4,g5⟩,hbk⟩
   have hg2:w.grownBy w' (Value.slice (some ⟨g,0,none⟩) n c).ownBlock:=⟨g1,g2,g3,g4,fun b hb _=>g5 b hb (by simp)⟩
   exact ⟨v',rfl,RwL.mid (u:=(u1,u2)) a b o r (by decide) h1 h2 hi ho hg2,hg2,.inr hbk⟩
end Go.Proofs.YtccaiiigdfieoaaGreatDoor
namespace Go.By
open Go.RowKit
def LV (ops:Array Oper) (lv:Nat→Option Value) (k:Nat) (σ:Nat→Value):Prop:=∀ u d,lv k = some u→dstOf ops k = some d→σ d = u
def midB (ops:Array Oper) (n m s ds:Nat):Bool:=decide (ops.size = m + 1) && decide (s < m) && decide (ds < n) && (match ops[m]? with
 | some o=>o.guard.isNone && o.dst.isNone
 | none=>false) && (match ops[s]? with
 | some o=>o.guard.isNone && o.dst == some ds
 | none=>false) && ((List.range m).all fun i=>match ops[i]? with
 | some o=>o.guard.isNone && match o.dst with
  | some d=>decide (d < n)
  | none=>false
 | none=>false) && (List.range m).all fun i=>(List.range (m + 1)).any fun j=>decide (i < j) && match ops[j]? with
 | some o=>(preds o).contains i
 | none=>false
theorem wp_region_mid {P:Program} {ops:Array Oper} {Q:Exit→Act→World→Prop} {id:Nat} {a0:Act} {w0:World} (sh:Nat→Shp) (lv:Nat→Option Value) (n m s ds:Nat) (P1:Value→World→Prop) (hn:a0.tmps.size = n) (hm:P.follows .mixedOrders = true) (hback:backB ops = true) (hdist:distB ops = true)
  (hmid:midB ops n m s ds = true) (hlv:∀ j u,lv j = some u→sh j = Shp.val u) (os:Oper) (hos:ops[s]? = some os)
  (eachA:∀ i o,i < m→i≠s→ops[i]? = some o→(preds o).contains s = false→StepS P ops Q a0 w0.drew sh i o)
  (stepS:∀ a w,Below w0.heap.size w0 w→a.tmps.size = a0.tmps.size→(∀ k,k ∈ preds os→InvS ops sh k (sl a) w)→os.wp P a w (fun a' w'=>∃ v,a' = a.put (some ds) v∧P1 v w') Q)
  (eachB:∀ i o,i < m→i≠s→ops[i]? = some o→(preds os).contains i = false→∀ a w v,P1 v w→a.tmps.size = a0.tmps.size→sl a ds = v→(∀ k,k ∈ preds o→k≠s→LV ops lv k (sl a))→(∀ t,initAt ops i t = true→sl a t = sl a0 t)→∃ u,lv i = some u∧(execOp a.eval o).run P w = .ok (.value u) w)
  (fin:∀ a w v o,ops[m]? = some o→P1 v w→a.tmps.size = a0.tmps.size→a.defers = a0.defers→sl a ds = v→(∀ j,j < m→j≠s→LV ops lv j (sl a))→(∀ t,(ops.toList.all fun o=>o.dst != some t) = true→sl a t = sl a0 t)→o.wp P a w (fun a' w'=>Q .normal a' w') Q) :
  (Code.region id ops true).wp P Q a0 w0:=by
 unfold midB at hmid
 simp only [Bool.and_eq_true,decide_eq_true_eq] at hmid
 obtain ⟨⟨⟨⟨⟨⟨hsz,hsm⟩,hdsn⟩,hl2⟩,hs2⟩,hall2⟩,hpl2⟩:=hmid
 have hm':m < ops.size:=by omega
 obtain ⟨ol,hol⟩:∃ ol,ops[m]? = some ol:=⟨_,Array.getElem?_eq_getElem hm'⟩
 rw [hol] at hl2
 simp only [Bool.and_eq_true] at hl2
 have hguard:ol.guard = none:=by cases hg:ol.guard <;> simp [hg] at hl2 ⊢
 rw [hos] at hs2
 simp only [Bool.and_eq_true,beq_iff_eq] at hs2
 have hgs:os.guard = none:=by cases hg:os.guard <;> simp [hg] at hs2 ⊢
 have hds:os.dst = some ds:=hs2.2
 have hops:∀ i o,i < m→ops[i]? = some o→o.guard = none∧∃ d,o.dst = some d∧d < n:=fun i o hi ho=>by
  have:=List.all_eq_true.1 hall2 i (List.mem_range.2 hi)
  rw [ho] at this
  simp only [Bool.and_eq_true] at this
  refine ⟨by cases hg:o.guard <;> simp [hg] at this ⊢,?_⟩
  cases hd:o.dst with
  | none=>have h2:=this.2;rw [hd] at h2;simp at h2
  | some d=>have h2:=this.2;rw [hd] at h2;exact ⟨d,rfl,by simpa using h2⟩
 have hpl:∀ i,i < m→∃ (j:Nat) (o:Oper),i < j∧j≤m∧ops[j]? = some o∧i ∈ preds o:=fun i hi=>by
  obtain ⟨j,hj,h⟩:=List.any_eq_true.1 (List.all_eq_true.1 hpl2 i (List.mem_range.2 hi))
  have hjm:=List.mem_range.1 hj
  rw [Bool.and_eq_true] at h
  obtain ⟨oj,hoj⟩:∃ oj,ops[j]? = some oj:=⟨_,Array.getElem?_eq_getElem (by omega)⟩
  have h2:=h.2
  rw [hoj] at h2
  exact ⟨j,oj,of_decide_eq_true h.1,by omega,hoj,by simpa using h2⟩
 have hne:∀ (i j:Nat) (oi oj:Oper) (d:Nat),i≠j→ops[i]? = some oi→ops[j]? = some oj→oj.dst = some d→oi.dst≠some d:=by
  intro i j oi oj d hij hoi hoj hdj e
  have hi':i < ops.size:=(Array.getElem?_eq_some_iff.1 hoi).1
  have hj':j < ops.size:=(Array.getElem?_eq_some_iff.1 hoj).1
  have:=List.all_eq_true.1 (List.all_eq_true.1 hdist i (List.mem_range.2 hi')) j (List.mem_range.2 hj')
  rw [hoi,hoj] at this
  simp [e,hdj,hij] at this
 have dst_of:∀ {j:Nat} {oj:Oper} {d:Nat},ops[j]? = some oj→dstOf ops j = some d→oj.dst = some d:=fun {_ _ _} hoj h=>by simpa [dstOf,hoj] using h
 refine wp_region_any hm ?_
 show wpAny P .any ops Q ops.size (Array.replicate ops.size false) a0 w0.drew
 have main:∀ (fuel:Nat) (listed:Array Bool) (a:Act) (w:World),unl ops.size listed≤fuel→listed.getD m true = false→a.tmps.size = a0.tmps.size→a.defers = a0.defers →
   (listed.getD s false = false→Below w0.heap.size w0 w∧∀ j,j < m→listed.getD j false = true→InvS ops sh j (sl a) w) →
   (listed.getD s false = true→P1 (sl a ds) w∧∀ j,j < m→j≠s→listed.getD j false = true→LV ops lv j (sl a)) →
   (∀ j o,listed.getD j false = true→ops[j]? = some o→∀ k,k ∈ preds o→listed.getD k false = true) →
   (∀ j,j < ops.size→listed.getD j true = true→listed.getD j false = true) →
   (∀ t,(∀ j o,j < m→listed.getD j false = true→ops[j]? = some o→o.dst≠some t)→sl a t = sl a0 t)→wpAny P .any ops Q fuel listed a w:=by
  intro fuel
  induction fuel with
  | zero =>
   intro listed a w hu hlm
   exfalso
   have h0:unl ops.size listed = 0:=by omega
   unfold unl at h0
   have:=List.countP_eq_zero.1 h0 m (List.mem_range.2 hm')
   simp [hlm] at this
  | succ fuel ih =>
   intro listed a w hu hlm hs hd hA hB hcl hlt ht
   refine ⟨fun hr=>?_,fun i hi=>?_⟩
   ·exfalso
    have hall:∀ k j,j < k→j < ops.size→listed.getD j false = true:=by
     intro k
     induction k with
     | zero=>intro j hj;omega
     | succ k ihk =>
      intro j hj hjs
      refine hlt j hjs ?_
      cases hb:listed.getD j true with
      | true=>rfl
      | false =>
       exfalso
       have ho:ops[j]? = some ops[j]:=Array.getElem?_eq_getElem hjs
       have:j ∈ Region.ready .any ops listed:=mem_ready.2 ⟨hjs,hb,_,ho,fun q hq=>by
        have hbk:=List.all_eq_true.1 hback j (List.mem_range.2 hjs)
        rw [ho] at hbk
        have hkj:=of_decide_eq_true (List.all_eq_true.1 hbk q hq)
        exact ihk q (by omega) (by omega)⟩
       rw [hr] at this;cases this
    exact (getD_tf hlm).1 (hall (m + 1) m (by omega) hm')
   ·obtain ⟨h1,h2,o,ho,h3⟩:=mem_ready.1 hi
    obtain ⟨hnl,his⟩:=getD_tf h2
    have gset:∀ j (d:Bool),(listed.setIfInBounds i true).getD j d = if i = j then true else listed.getD j d:=by
     intro j d
     simp only [Array.getD_eq_getD_getElem?,Array.getElem?_setIfInBounds]
     by_cases e:i = j
     ·subst e;simp [his]
     ·simp [e]
    by_cases him:i = m
    ·subst him
     rw [hol] at ho;cases ho
     have hdown:∀ d j,i - j≤d→j < i→listed.getD j false = true:=by
      intro d
      induction d with
      | zero=>intro j h4 h5;omega
      | succ d ihd =>
       intro j h4 h5
       obtain ⟨j2,o2,g1,g2,g3,g4⟩:=hpl j h5
       by_cases e:j2 = i
       ·subst e;rw [hol] at g3;cases g3;exact h3 j g4
       ·exact hcl j2 o2 (ihd j2 (by omega) (by omega)) g3 j g4
     have hdn:∀ j,j < i→listed.getD j false = true:=fun j hj=>hdown i j (by omega) hj
     obtain ⟨hP1,hLV⟩:=hB (hdn s hsm)
     have hf:=fin a w _ ol hol hP1 hs hd rfl (fun j hj hjs=>hLV j hj hjs (hdn j hj)) (fun t htt=>ht t (fun j oj hj _ hoj=>by
      have:=List.all_eq_true.1 htt oj (by rw [Array.mem_toList_iff];exact Array.mem_of_getElem? hoj)
      simpa using this))
     unfold wpOp
     rw [hol]
     show if Region.wanted ol (yielded ops a.tmps) = true then _ else _
     rw [if_pos (by simp [Region.wanted,hguard])]
     refine .inl (Oper.wp_mono (fun a' w' hq=>wpAny_done _ (fun j hj=>?_) hq) hf)
     rw [gset]
     by_cases e2:i = j
     ·rw [if_pos e2]
     ·rw [if_neg e2];exact getD_ft (hdn j (by omega))
    ·have him':i < m:=by omega
     have hpm:∀ k,k ∈ preds o→k < m:=fun k hk=>by
      have hbk:=List.all_eq_true.1 hback i (List.mem_range.2 h1)
      rw [ho] at hbk
      have:=of_decide_eq_true (List.all_eq_true.1 hbk k hk);omega
     obtain ⟨hg,d,hdd,hdn⟩:=hops i o him' ho
     have hda:d < a.tmps.size:=by rw [hs,hn];exact hdn
     have next:∀ (v:Value) (w':World),
       ((listed.setIfInBounds i true).getD s false = false→Below w0.heap.size w0 w'∧∀ j,j < m→(listed.setIfInBounds i true).getD j false = true→InvS ops sh j (sl (a.put o.dst v)) w') →
       ((listed.setIfInBounds i true).getD s false = true→P1 (sl (a.put o.dst v) ds) w'∧∀ j,j < m→j≠s→(listed.setIfInBounds i true).getD j false = true→LV ops lv j (sl (a.put o.dst v))) →
       wpAny P .any ops Q fuel (listed.setIfInBounds i true) (a.put o.dst v) w':=by
      intro v w' gA gB
      refine ih _ _ _ (by have:=unl_set (n:=ops.size) h1 h2;omega) (by rw [gset,if_neg him];exact hlm) ((put_size _ _ _).trans hs) ((put_defers _ _ _).trans hd) gA gB ?_ ?_ ?_
      ·intro j oj hj hoj k hk
       rw [gset] at hj ⊢
       by_cases e:i = k
       ·rw [if_pos e]
       ·rw [if_neg e]
        by_cases e':i = j
        ·subst e';rw [ho] at hoj;cases hoj;exact h3 k hk
        ·rw [if_neg e'] at hj;exact hcl j oj hj hoj k hk
      ·intro j hj hl
       rw [gset] at hl ⊢
       by_cases e:i = j
       ·rw [if_pos e]
       ·rw [if_neg e] at hl ⊢;exact hlt j hj hl
      ·intro t htt
       have hdt:o.dst≠some t:=htt i o him' (by rw [gset,if_pos rfl]) ho
       rw [put_sl _ _ _ _ hdt]
       exact ht t (fun j oj hj hl hoj=>htt j oj hj (by rw [gset];split <;> simp [hl]) hoj)
     have hti:∀ t,initAt ops i t = true→sl a t = sl a0 t:=fun t hti=>by
      refine ht t (fun j oj hj hlj hoj hdj=>?_)
      have:=List.all_eq_true.1 hti j (List.mem_range.2 (by omega))
      rw [hoj] at this
      by_cases e:j = i
      ·subst e;exact hnl hlj
      ·simp [e,hdj] at this
       exact hnl (hcl j oj hlj hoj i this)
     unfold wpOp
     rw [ho]
     show if Region.wanted o (yielded ops a.tmps) = true then _ else _
     rw [if_pos (by simp [Region.wanted,hg])]
     left
     by_cases hes:i = s
     ·subst hes
      rw [hos] at ho;cases ho
      have hsl:listed.getD i false = false:=by cases h:listed.getD i false <;> simp_all
      obtain ⟨hbw,hI⟩:=hA hsl
      refine Oper.wp_mono ?_ (stepS a w hbw hs (fun k hk=>hI k (hpm k hk) (h3 k hk)))
      rintro a' w' ⟨v,rfl,hP⟩
      have ed:a.put (some ds) v = a.put os.dst v:=by rw [hds]
      rw [ed]
      refine next v w' (fun h=>?_) (fun _=>⟨?_,fun j hj hjs hl=>?_⟩)
      ·rw [gset,if_pos rfl] at h;cases h
      ·rw [hds,put_same _ _ _ (by rw [hs,hn];exact hdsn)];exact hP
      ·rw [gset,if_neg (fun e=>hjs e.symm)] at hl
       intro u d' hu hd'
       obtain ⟨oj,hoj⟩:∃ oj,ops[j]? = some oj:=⟨_,Array.getElem?_eq_getElem (by omega)⟩
       have hdj:=dst_of hoj hd'
       rw [put_sl _ _ _ _ (hne i j os oj d' (fun e=>hjs e.symm) hos hoj hdj)]
       have:=hI j hj hl
       unfold InvS at this
       rw [hd',hlv j u hu] at this
       exact this
     ·cases hsl:listed.getD s false with
      | false =>
       obtain ⟨hbw,hI⟩:=hA hsl
       have hns:(preds o).contains s = false:=by
        cases hc:(preds o).contains s with
        | false=>rfl
        | true=>have:=h3 s (by simpa using hc);rw [hsl] at this;cases this
       have hst:=eachA i o him' hes ho hns a w ⟨hbw.os,hbw.tape,hbw.output,hbw.size,hbw.block⟩ hs (fun k hk=>hI k (hpm k hk) (h3 k hk)) hti
       rw [if_pos (by simp [Region.wanted,hg])] at hst
       refine Oper.wp_mono ?_ hst
       rintro a' w' ⟨v,rfl,hb,hok⟩
       refine next v w' (fun _=>⟨hbw.trans (hb.mono hbw.size),fun j hj hl=>?_⟩) (fun h=>?_)
       ·rw [gset] at hl
        unfold InvS
        by_cases e:i = j
        ·subst e
         have:dstOf ops i = some d:=by simp [dstOf,ho,hdd]
         rw [this,hdd]
         show (sh i).ok (sl (a.put (some d) v) d) w'
         rw [put_same _ _ _ hda];exact hok
        ·rw [if_neg e] at hl
         have hIj:=hI j hj hl
         unfold InvS at hIj
         obtain ⟨oj,hoj⟩:∃ oj,ops[j]? = some oj:=⟨_,Array.getElem?_eq_getElem (by omega)⟩
         cases hdj:dstOf ops j with
         | none=>trivial
         | some d' =>
          rw [hdj] at hIj
          show (sh j).ok (sl (a.put o.dst v) d') w'
          rw [put_sl _ _ _ _ (hne i j o oj d' e ho hoj (dst_of hoj hdj))]
          exact (sh j).keep _ _ _ hIj hb
       ·rw [gset,if_neg hes,hsl] at h;cases h
      | true =>
       obtain ⟨hP1,hLV⟩:=hB hsl
       have hns:(preds os).contains i = false:=by
        cases hc:(preds os).contains i with
        | false=>rfl
        | true=>exact absurd (hcl s os hsl hos i (by simpa using hc)) hnl
       obtain ⟨u,hu,hrun⟩:=eachB i o him' hes ho hns a w _ hP1 hs rfl (fun k hk hks=>hLV k (hpm k hk) hks (h3 k hk)) hti
       refine wp_val u hrun (next u w (fun h=>?_) (fun _=>⟨?_,fun j hj hjs hl=>?_⟩))
       ·rw [gset,if_neg hes,hsl] at h;cases h
       ·rw [put_sl _ _ _ _ (hne i s o os ds hes ho hos hds)];exact hP1
       ·rw [gset] at hl
        intro u' d' hu' hd'
        by_cases e:i = j
        ·subst e
         rw [hu] at hu';cases hu'
         have:dstOf ops i = some d:=by simp [dstOf,ho,hdd]
         rw [this] at hd';cases hd'
         rw [hdd,put_same _ _ _ hda]
        ·rw [if_neg e] at hl
         obtain ⟨oj,hoj⟩:∃ oj,ops[j]? = some oj:=⟨_,Array.getElem?_eq_getElem (by omega)⟩
         rw [put_sl _ _ _ _ (hne i j o oj d' e ho hoj (dst_of hoj hd'))]
         exact hLV j hj hjs hl u' d' hu' hd'
 have rep:∀ j,(Array.replicate ops.size false).getD j false = false:=fun j=>by
  simp [Array.getD_eq_getD_getElem?,Array.getElem?_replicate];split <;> rfl
 refine main ops.size _ a0 w0.drew ?_ ?_ rfl rfl (fun _=>⟨⟨rfl,rfl,rfl,Nat.le_refl _,fun _ _=>rfl⟩,fun j _ hl=>?_⟩) (fun h=>?_) ?_ ?_ ?_
 ·unfold unl;exact Nat.le_trans List.countP_le_length (by simp)
 ·simp [Array.getD_eq_getD_getElem?,Array.getElem?_replicate,hm']
 ·rw [rep] at hl;cases hl
 ·rw [rep] at h;cases h
 ·intro j o hj;rw [rep] at hj;cases hj
 ·intro j hj hl;simp [Array.getD_eq_getD_getElem?,Array.getElem?_replicate,hj] at hl
 ·intro t _;rfl
end Go.By
namespace Go.Proofs.YtccaiiigdfieoaaGreatDoor
open Go.RowKit Go.By
theorem enters_behind:Enters Tryz.prog 118:=enters_of Tryz.func118 (by kernel_rfl) rfl
set_option maxRecDepth 100000 in
set_option maxHeartbeats 4000000 in
theorem Behind_any (base be k t n:Nat) (v:Value) (K:List Rw) (b2 b8 i:Nat) (at_:Int) (y:Rw) (w:World) (hE:Elm w base be k t v n K) (h2:w.cell? ⟨b2,0,none⟩ = some (.pointer (some ⟨be,0,none⟩))) (h8:w.cell? ⟨b8,0,none⟩ = some (.int .i64 at_)) (hi:i < n) (hy:K[i]? = some y) :
  Calls Tryz.prog 118 (#[.int .i64 i] ++ #[.pointer (some ⟨b2,0,none⟩),.pointer (some ⟨b8,0,none⟩)]) w fun e w'=>e = .returned (.bool (decide (at_ < leadS y.1)))∧Below w.heap.size w w':=by
 obtain ⟨q,c,rfl⟩:=hE.rows.shape
 obtain ⟨g,kk,q1,m1,c1,q2,m2,c2,rfl,e1,e2,hkk,t1,t2⟩:=hE.rows.at hi
 have hyk:kk = y:=by have h:=hkk.out;rw [hy] at h;cases h;rfl
 subst hyk
 obtain ⟨f0,f1,f2⟩:=cells3 hE.box
 have T1:=Lib.hid t1
 have hin:(i:Int) < (n:Int):=by omega
 clear hE t1 t2 hkk hy e2
 go_enter Tryz.func118,Tryz.ntmps118
 go_wp2
 refine wp_region_shapes (fun ix=>([.val (.pointer (some ⟨be,0,none⟩)),.val (.pointer (some ⟨be,0,none⟩)),.val (.pointer (some ⟨be,2,none⟩)),.val (.slice (some ⟨g,0,none⟩) n c),.val (.int .i64 i),.val (.pointer (some ⟨g,i * 2,none⟩)),.val (.pointer (some ⟨g,i * 2,none⟩)),.val (.slice q1 m1 c1),.val (.int .i64 (leadS kk.1)),.val (.int .i64 at_),.val (.bool (decide (at_ < leadS kk.1))),.val (.bool (decide (at_ < leadS kk.1)))][ix]?).getD (.any)) 16 rfl (by kernel_rfl) (by decide) (by decide) (by decide) ?_ ?_
 ·refine ⟨?_,?_,?_,?_,?_,?_,?_,?_,?_,?_,?_,?_,trivial⟩
  ·intro a W hb0 hs hp hi;have hb:=undrew hb0;clear hb0
   have tt:sl a 1 = .pointer (some ⟨b2,0,none⟩):=hi 1 (by decide)
   have dd0:=(hb.cell (p:=⟨b2,0,none⟩) (lt_of_cell h2)).trans h2
   refine ite_y rfl (wp_val (.pointer (some ⟨be,0,none⟩)) ?_ ?_)
   ·simp only [execOp,eval_tmp,tt];simp [go_sem,dd0]
   ·exact ⟨_,rfl,Below.refl _ _,rfl⟩
  ·intro a W hb0 hs hp hi;have hb:=undrew hb0;clear hb0
   have tt:sl a 5 = .pointer (some ⟨be,0,none⟩):=hp 0 (by decide)
   refine ite_y rfl (wp_val (.pointer (some ⟨be,0,none⟩)) ?_ ?_)
   ·simp only [execOp,eval_tmp,tt];simp [go_sem]
   ·exact ⟨_,rfl,Below.refl _ _,rfl⟩
  ·intro a W hb0 hs hp hi;have hb:=undrew hb0;clear hb0
   have t6:sl a 6 = .pointer (some ⟨be,0,none⟩):=hp 1 (by decide)
   refine ite_y rfl (wp_val (.pointer (some ⟨be,2,none⟩)) ?_ ?_)
   ·simp only [execOp,eval_tmp,eval_const,t6];simp [go_sem]
   ·exact ⟨_,rfl,Below.refl _ _,rfl⟩
  ·intro a W hb0 hs hp hi;have hb:=undrew hb0;clear hb0
   have tt:sl a 7 = .pointer (some ⟨be,2,none⟩):=hp 2 (by decide)
   have dd:=(hb.cell (p:=⟨be,2,none⟩) (lt_of_cell f2)).trans f2
   refine ite_y rfl (wp_val (.slice (some ⟨g,0,none⟩) n c) ?_ ?_)
   ·simp only [execOp,eval_tmp,tt];simp [go_sem,dd]
   ·exact ⟨_,rfl,Below.refl _ _,rfl⟩
  ·intro a W hb0 hs hp hi;have hb:=undrew hb0;clear hb0
   have t0:sl a 0 = .int .i64 i:=hi 0 (by decide)
   exact ite_y rfl (wp_val (sl a 0) rfl ⟨_,rfl,Below.refl _ _,t0⟩)
  ·intro a W hb0 hs hp hi;have hb:=undrew hb0;clear hb0
   have t8:sl a 8 = .slice (some ⟨g,0,none⟩) n c:=hp 3 (by decide)
   have t9:sl a 9 = .int .i64 i:=hp 4 (by decide)
   refine ite_y rfl (wp_val (.pointer (some ⟨g,i * 2,none⟩)) ?_ ?_)
   ·simp only [execOp,eval_tmp,eval_const,t8,t9];simp [go_sem,hin,hi]
   ·exact ⟨_,rfl,Below.refl _ _,rfl⟩
  ·intro a W hb0 hs hp hi;have hb:=undrew hb0;clear hb0
   have t10:sl a 10 = .pointer (some ⟨g,i * 2,none⟩):=hp 5 (by decide)
   refine ite_y rfl (wp_val (.pointer (some ⟨g,i * 2,none⟩)) ?_ ?_)
   ·simp only [execOp,eval_tmp,eval_const,t10];simp [go_sem]
   ·exact ⟨_,rfl,Below.refl _ _,rfl⟩
  ·intro a W hb0 hs hp hi;have hb:=undrew hb0;clear hb0
   have tt:sl a 11 = .pointer (some ⟨g,i * 2,none⟩):=hp 6 (by decide)
   have dd0:=(hb.cell (p:=⟨g,i * 2,none⟩) (lt_of_cell e1)).trans e1
   refine ite_y rfl (wp_val (.slice q1 m1 c1) ?_ ?_)
   ·simp only [execOp,eval_tmp,tt];simp [go_sem,dd0]
   ·exact ⟨_,rfl,Below.refl _ _,rfl⟩
  ·intro a W hb0 hs hp hi;have hb:=undrew hb0;clear hb0
   have t12:sl a 12 = .slice q1 m1 c1:=hp 7 (by decide)
   refine ite_y rfl (wp_enter 115 #[.slice q1 m1 c1] ?_ (Lead_any q1 m1 c1 kk.1 W (T1.out.keep hb)) ?_)
   ·simp only [execOp,resolve,List.map_toArray,List.map,eval_tmp,eval_func,eval_const,t12];simp [go_sem]
   ·rintro e W' ⟨rfl,rfl⟩;exact ⟨_,rfl,_,rfl,Below.refl _ _,rfl⟩
  ·intro a W hb0 hs hp hi;have hb:=undrew hb0;clear hb0
   have tt:sl a 2 = .pointer (some ⟨b8,0,none⟩):=hi 2 (by decide)
   have dd0:=(hb.cell (p:=⟨b8,0,none⟩) (lt_of_cell h8)).trans h8
   refine ite_y rfl (wp_val (.int .i64 at_) ?_ ?_)
   ·simp only [execOp,eval_tmp,tt];simp [go_sem,dd0]
   ·exact ⟨_,rfl,Below.refl _ _,rfl⟩
  ·intro a W hb0 hs hp hi;have hb:=undrew hb0;clear hb0
   have t13:sl a 13 = .int .i64 (leadS kk.1):=hp 8 (by decide)
   have t14:sl a 14 = .int .i64 at_:=hp 9 (by decide)
   refine ite_y rfl (wp_val (.bool (decide (at_ < leadS kk.1))) ?_ ?_)
   ·simp only [execOp,eval_tmp,eval_const,t13,t14];simp [go_sem]
   ·exact ⟨_,rfl,Below.refl _ _,rfl⟩
  ·intro a W hb0 hs hp hi;have hb:=undrew hb0;clear hb0
   have t15:sl a 15 = .bool (decide (at_ < leadS kk.1)):=hp 10 (by decide)
   exact ite_y rfl (wp_val (sl a 15) rfl ⟨_,rfl,Below.refl _ _,t15⟩)
 intro a w2 hb hs hd hI ht
 have ha:=act_is [5,6,7,8,9,10,11,12,13,14,15,4] hs hd ht (by decide)
 have t4:sl a 4 = .bool (decide (at_ < leadS kk.1)):=hI 11 (by decide)
 simp only [List.foldl,t4] at ha
 generalize sl a 5 = u5 at ha
 generalize sl a 6 = u6 at ha
 generalize sl a 7 = u7 at ha
 generalize sl a 8 = u8 at ha
 generalize sl a 9 = u9 at ha
 generalize sl a 10 = u10 at ha
 generalize sl a 11 = u11 at ha
 generalize sl a 12 = u12 at ha
 generalize sl a 13 = u13 at ha
 generalize sl a 14 = u14 at ha
 generalize sl a 15 = u15 at ha
 simp only [Act.put,List.setIfInBounds_toArray,List.set_cons_zero,List.set_cons_succ] at ha
 rw [ha]
 clear ha hI ht
 clear f0 f1 f2 e1 h2 h8
 have HB:=Lib.hid hb
 clear hb
 go_wp2
 go_ret
 exact ⟨rfl,HB.out⟩
end Go.Proofs.YtccaiiigdfieoaaGreatDoor
namespace Go.By
open Go.RowKit
structure Chg (w w':World) (be:Nat) (v:Value):Prop where
 os:w'.os = w.os
 tape:w'.tape = w.tape
 output:w'.output = w.output
 size:w.heap.size≤w'.heap.size
 block:∀ b,b < w.heap.size→b≠be→v.ownBlock≠some b→w'.heap[b]? = w.heap[b]?
theorem Chg.of {w w':World} (be:Nat) (v:Value) (h:Below w.heap.size w w'):Chg w w' be v:=⟨h.os,h.tape,h.output,h.size,fun b hb _ _=>h.block b hb⟩
theorem Chg.below {w a b:World} {be:Nat} {v:Value} (h:Chg w a be v) (g:Below a.heap.size a b):Chg w b be v:=⟨g.os.trans h.os,g.tape.trans h.tape,g.output.trans h.output,Nat.le_trans h.size g.size,fun k hk h1 h2=>(g.block k (Nat.lt_of_lt_of_le hk h.size)).trans (h.block k hk h1 h2)⟩
theorem Chg.grown {w a b:World} {be:Nat} {v:Value} (h:Chg w a be v) (g:a.grownBy b v.ownBlock):Chg w b be v:=⟨g.os.trans h.os,g.tape.trans h.tape,g.output.trans h.output,Nat.le_trans h.size g.size,fun k hk h1 h2=>(g.block k (Nat.lt_of_lt_of_le hk h.size) (fun e=>h2 e.symm)).trans (h.block k hk h1 h2)⟩
theorem Chg.box {w a:World} {be:Nat} {v:Value} (h:Chg w a be v) (o:Nat) (u:Value):Chg w (a.setCell ⟨be,o,none⟩ u) be v:=⟨h.os,h.tape,h.output,by simpa using h.size,fun k hk h1 h2=>(Below.heap_setCell _ _ _ _ h1).trans (h.block k hk h1 h2)⟩
theorem take_while {α:Type} (p:α→Bool):∀ (M:List α) (r:Nat),r≤M.length→(∀ j x,j < r→M[j]? = some x→p x = true)→(∀ x,M[r]? = some x→p x = false)→M.takeWhile p = M.take r∧M.dropWhile p = M.drop r
 | [],r,h,_,_=>by simp at h;subst h;exact ⟨rfl,rfl⟩
 | a :: M,0,_,_,h2=>by
  have:=h2 a rfl
  rw [List.takeWhile_cons,List.dropWhile_cons,this];exact ⟨rfl,rfl⟩
 | a :: M,r + 1,h,h1,h2=>by
  have:=h1 0 a (by omega) rfl
  obtain ⟨e1,e2⟩:=take_while p M r (by simpa using h) (fun j x hj hx=>h1 (j + 1) x (by omega) (by simpa using hx)) (fun x hx=>h2 x (by simpa using hx))
  rw [List.takeWhile_cons,List.dropWhile_cons,this,if_pos rfl,if_pos rfl,e1,e2];exact ⟨rfl,rfl⟩
theorem RwL.ne_box {T2 T1 TX g n base:Nat} {w:World} {v:Value} {K:List (List UInt8 × List UInt8)} {cs:Array Value} {fr:Nat × Nat} (h:RwL T2 T1 w base v n K) (hX:w.heap[g]? = some (.cells cs TX fr)) (hT:T2≠TX):v.ownBlock≠some g:=by
 obtain ⟨vs,a,b,o,r⟩:=h
 intro e
 rcases o.2 with ⟨hv,_⟩ | ⟨g',cap,cur,hv,_,hh,_⟩
 ·rw [hv] at e;simp [Value.ownBlock] at e
 ·rw [hv] at e;simp [Value.ownBlock] at e
  rw [e,hX] at hh
  injection hh with hh;injection hh with _ hh _;exact hT hh.symm
def shpOne (T B:Nat) (u1 u2:Value):Shp:=⟨fun v W=>∃ vb,v = .slice (some ⟨vb,0,none⟩) 1 1∧W.heap[vb]? = some (.cells #[u1,u2] T (0,0))∧B≤vb,fun _ _ _ ⟨vb,e,h,g⟩ hb=>⟨vb,e,(hb.block _ (blk_lt h)).trans h,g⟩⟩
def shpRowO (T B:Nat) (r:List UInt8 × List UInt8):Shp:=⟨fun v W=>∃ u1 u2,v = .agg #[u1,u2]∧Bw T W B u1 r.1∧Bw T W B u2 r.2,fun _ _ _ ⟨u1,u2,e,h1,h2⟩ hb=>⟨u1,u2,e,h1.keep hb,h2.keep hb⟩⟩
def shpRowTO (T B:Nat) (r:List UInt8 × List UInt8) (code:Int):Shp:=⟨fun v W=>∃ u,v = .tuple #[u,.int .i64 code]∧(shpRowO T B r).ok u W,fun _ _ _ ⟨u,e,h⟩ hb=>⟨u,e,(shpRowO T B r).keep _ _ _ h hb⟩⟩
theorem RwL.blk {T2 T1 base n c g:Nat} {w:World} {K:List (List UInt8 × List UInt8)} (h:RwL T2 T1 w base (.slice (some ⟨g,0,none⟩) n c) n K):∃ cur:Array Value,w.heap[g]? = some (.cells cur T2 (0,0)):=by
 obtain ⟨vs,a,b,o,r⟩:=h
 rcases o.2 with ⟨hv,_⟩ | ⟨g',cap,cur,hv,_,hh,_⟩
 ·simp at hv
 ·obtain ⟨rfl,rfl⟩:g = g'∧c = cap:=by simpa using hv
  exact ⟨cur,hh⟩
theorem Bw.sl' {T1 base m c:Nat} {w:World} {q:Option Addr} {xs:List UInt8} (h:Bw T1 w base (.slice q m c) xs):Sl B8 w q m c xs:=by
 obtain ⟨q',m',c',e,l,o⟩:=h;cases e;exact Sl.of_owns o
theorem Bw.mk {T1 base m c:Nat} {w:World} {q:Option Addr} {xs:List UInt8} (o:w.ownsRow base T1 1 (.slice q m c) m (xs.map B8)) (l:xs.length = m):Bw T1 w base (.slice q m c) xs:=⟨q,m,c,rfl,l,o⟩
theorem Bw.mono {T1 base b2:Nat} {w:World} {v:Value} {xs:List UInt8} (h:Bw T1 w base v xs) (hb:b2≤base):Bw T1 w b2 v xs:=by
 obtain ⟨q',m',c',e,l,o⟩:=h;exact ⟨q',m',c',e,l,owns_mono o hb⟩
end Go.By
namespace Go.Proofs.YtccaiiigdfieoaaGreatDoor
open Go.RowKit Go.By
theorem zero_lead {v:List UInt8} (h:¬ leadS v < 0):zeroS v = false:=by
 unfold zeroS
 cases e:v.all (fun x=>decide (x = 0)) with
 | false=>rfl
 | true =>
  refine absurd ?_ h
  have hz:∀ x,x ∈ v→x = 0:=fun x hx=>by simpa using List.all_eq_true.1 e x hx
  have:leadS v = -1:=idxf_none (k:=v.length) rfl fun j y _ hy=>by rw [hz y (List.mem_of_getElem? hy)];rfl
  rw [this];decide
set_option maxRecDepth 100000 in
set_option maxHeartbeats 8000000 in
theorem EPut_grown (base be k t n:Nat) (v:Value) (K:List Rw) (p1 p2:Option Addr) (c1 c2:Nat) (x:Rw) (w:World) (hE:Elm w base be k t v n K) (s1:Sl B8 w p1 k c1 x.1) (s2:Sl B8 w p2 t c2 x.2) (hR:Red k t K) (hk:k≤4096) (ht:t≤65535) (hn:¬ leadS (restF K x).1 < 0) (hnn:n≤4096) :
  Calls Tryz.prog 64 #[.pointer (some ⟨be,0,none⟩),.agg #[.slice p1 k c1,.slice p2 t c2]] w fun e w'=>e = .returned (.tuple #[.int .i64 0,.int .i64 0]) ∧
   ∃ v',Elm w' base be k t v' (n + 1) (putF K x)∧Chg w w' be v∧(v'.ownBlock = v.ownBlock∨∀ b,v'.ownBlock = some b→w.heap.size≤b):=by
 have hx:Fit k t x:=⟨s1.len,s2.len⟩
 obtain ⟨q,c,rfl⟩:=hE.rows.shape
 obtain ⟨l,hL,hF,h0,-,-⟩:=rest_norm hR.kept hx hn
 obtain ⟨Y,hY⟩:∃ Y,Y = normS (restF K x):=⟨_,rfl⟩
 have hput:Hid (putF K x = putAt (K.map (clrF Y)) Y):=by rw [hY];rfl
 rw [← hY] at hL hF h0
 have hKn:=hE.rows.len
 have hclr:Hid (∀ r,r ∈ K→Fit k t (clrF Y r)∧LeadAt (clrF Y r) (leadN r)):=fun r hr=>by
  have h:=clr_row hL hF (hR.kept.rows r hr).1 (hR.kept.rows r hr).2 (h0 r hr)
  exact ⟨h.1,h.2.1⟩
 obtain ⟨f,hf⟩:∃ f:Nat→Bool,f = fun i=>decide ((l:Int) < leadS ((K.map (clrF Y)).getD i ([],[])).1):=⟨_,rfl⟩
 have hfat:Hid (∀ i a,K[i]? = some a→f i = decide ((l:Int) < (leadN a:Int))):=fun i a ha=>by
  rw [hf]
  show decide ((l:Int) < leadS ((K.map (clrF Y)).getD i ([],[])).1) = _
  rw [List.getD_eq_getElem?_getD,List.getElem?_map,ha]
  show decide ((l:Int) < leadS (clrF Y a).1) = _
  rw [(hclr.out a (List.mem_of_getElem? ha)).2.1]
 have hmono:Hid (∀ i j,i≤j→j < n→f i = true→f j = true):=fun i j hij hj hfi=>by
  obtain ⟨a,ha⟩:∃ a,K[i]? = some a:=⟨_,List.getElem?_eq_getElem (by omega)⟩
  obtain ⟨b,hb⟩:∃ b,K[j]? = some b:=⟨_,List.getElem?_eq_getElem (by omega)⟩
  rw [hfat.out i a ha] at hfi
  rw [hfat.out j b hb]
  rcases Nat.lt_or_ge i j with g | g
  ·have h1:=List.pairwise_iff_getElem.1 hR.kept.sorted i j (by omega) (by omega) g
   have ea:K[i]'(by omega) = a:=by rw [List.getElem?_eq_getElem (by omega)] at ha;injection ha
   have eb:K[j]'(by omega) = b:=by rw [List.getElem?_eq_getElem (by omega)] at hb;injection hb
   rw [ea,eb] at h1
   have h2:=of_decide_eq_true hfi
   exact decide_eq_true (by omega)
  ·have e:i = j:=by omega
   subst e;rw [ha] at hb;cases hb;exact hfi
 have hfin:Hid (∀ r,r≤n→(∀ i,i < r→f i = false)→(∀ i,r≤i→i < n→f i = true)→(K.map (clrF Y)).take r ++ Y :: (K.map (clrF Y)).drop r = putF K x):=fun r hr h1 h2=>by
  rw [hput.out]
  unfold putAt
  rw [hL.1]
  obtain ⟨e1,e2⟩:=take_while (fun r:Rw=>decide (leadS r.1≤(l:Int))) (K.map (clrF Y)) r (by rw [List.length_map];omega) (fun j z hj hz=>by
   have h3:=h1 j hj
   rw [hf] at h3
   have h4:(K.map (clrF Y)).getD j ([],[]) = z:=by rw [List.getD_eq_getElem?_getD,hz];rfl
   simp only [h4] at h3
   have h5:=of_decide_eq_false h3
   exact decide_eq_true (by omega)) (fun z hz=>by
   have hrn:r < n:=by have:=(List.getElem?_eq_some_iff.1 hz).1;rw [List.length_map] at this;omega
   have h3:=h2 r (Nat.le_refl _) hrn
   rw [hf] at h3
   have h4:(K.map (clrF Y)).getD r ([],[]) = z:=by rw [List.getD_eq_getElem?_getD,hz];rfl
   simp only [h4] at h3
   have h5:=of_decide_eq_true h3
   exact decide_eq_false (by omega))
  rw [e1,e2]
 have hbe:=hE.old
 have HE:=Lib.hid hE;have S1:=Lib.hid s1;have S2:=Lib.hid s2;have HLY:=Lib.hid hL.1;have HFY:=Lib.hid hF;have HKL:=Lib.hid hR.kept.rows;have HKN:=Lib.hid hKn;have HYE:=Lib.hid hY
 have HZ:Hid (zeroS (restF K x).1 = false):=zero_lead hn
 have HBE:Hid (be < w.heap.size):=blk_lt hE.box
 have hlk:l < k:=hL.lt hF
 have HFF:=Lib.hid hf
 have HRF:Hid (Fit k t (restF K x)):=hx.rest (fun a ha=>(hR.kept.rows a ha).1)
 have hbw:base≤w.heap.size:=by have h1:=blk_lt hE.box;omega
 clear hE s1 s2 hR hn hx hL hF h0 hY hKn hf
 go_enter Tryz.func64,Tryz.ntmps64
 go_wp2_with fail
 refine use_w1 (fun W=>Below w.heap.size w W∧W.heap[w.heap.size]? = some (.cells #[.pointer (some ⟨be,0,none⟩)] 114 (0,0))∧w.heap.size + 2≤W.heap.size) ⟨al (al (Below.refl _ _) (Nat.le_refl _)) (by simp),hal (hnew rfl),by simp⟩ ?_
 rintro w2 ⟨b0,x0,z0⟩
 refine Calls.mono (ERest_any base be k t n _ K p1 p2 c1 c2 x w2 (HE.out.keep b0) (S1.out.keep b0) (S2.out.keep b0) HKL.out hk ht) ?_
 rintro e w3 ⟨q1,m1,g1,q2,m2,g2,l1,l2,rfl,o1,o2,hb⟩
 have B3:=Lib.hid (bl b0 hb b0.size)
 have X3:=Lib.hid ((hb.block _ (blk_lt x0)).trans x0)
 have L1:=Lib.hid (Sl.of_owns o1);have L2:=Lib.hid (Sl.of_owns o2)
 clear b0 x0 z0 o1 o2 hb l1 l2 S1 S2
 go_wp2_with fail
 refine use_w1 (fun W=>Below w3.heap.size w3 W∧W.heap[w3.heap.size]? = some (.cells #[.slice q1 m1 g1,.slice q2 m2 g2] 99 (0,0))) ⟨al (Below.refl _ _) (Nat.le_refl _),hnew rfl⟩ ?_
 rintro w4 ⟨b4,x4⟩
 obtain ⟨b6,h6⟩:∃ b6,b6 = w3.heap.size:=⟨_,rfl⟩
 rw [← h6] at x4 ⊢
 have hb6:w.heap.size < b6:=by rw [h6];exact blk_lt X3.out
 have hb64:b6 < w4.heap.size:=blk_lt x4
 refine Calls.mono (VZero_any q1 m1 g1 (restF K x).1 w4 (L1.out.keep b4)) ?_
 rintro e w' ⟨rfl,rfl⟩
 rw [HZ.out]
 have B4:=Lib.hid (bl B3.out b4 B3.out.size)
 have X24:=Lib.hid ((b4.block _ (blk_lt X3.out)).trans X3.out)
 have X64:=Lib.hid x4
 have L14:=Lib.hid (L1.out.keep b4);have L24:=Lib.hid (L2.out.keep b4)
 have hr1:m1≤4096:=by have h1:=L1.out.len;have h2:=HRF.out.1;omega
 have hr2:m2≤65535:=by have h1:=L2.out.len;have h2:=HRF.out.2;omega
 clear b4 x4 B3 X3 L1 L2 h6
 obtain ⟨y0,y1⟩:=cells2 X64.out
 go_wp2_with fail
 refine Calls.mono (Norm_any q1 q2 m1 g1 m2 g2 (restF K x).1 (restF K x).2 w4 L14.out L24.out (by unfold Room;omega) (by unfold Room;omega)) ?_
 rintro e w5 ⟨q5,m5,g5,q6,m6,g6,l5,l6,rfl,o5,o6,hb⟩
 rw [← show Y = normS ((restF K x).1,(restF K x).2) from HYE.out] at l5 l6 o5 o6
 have B5:=Lib.hid (bl B4.out hb B4.out.size)
 have X25:=Lib.hid ((hb.block _ (blk_lt X24.out)).trans X24.out)
 have X65:=Lib.hid ((hb.block _ (blk_lt X64.out)).trans X64.out)
 have ne1:w.heap.size≠b6:=by omega
 have N6:Hid (Below w.heap.size w ((w5.setCell ⟨b6,0,none⟩ (.slice q5 m5 g5)).setCell ⟨b6,1,none⟩ (.slice q6 m6 g6))∧((w5.setCell ⟨b6,0,none⟩ (.slice q5 m5 g5)).setCell ⟨b6,1,none⟩ (.slice q6 m6 g6)).heap[w.heap.size]? = some (.cells #[.pointer (some ⟨be,0,none⟩)] 114 (0,0)) ∧
   ((w5.setCell ⟨b6,0,none⟩ (.slice q5 m5 g5)).setCell ⟨b6,1,none⟩ (.slice q6 m6 g6)).heap[b6]? = some (.cells #[.slice q5 m5 g5,.slice q6 m6 g6] 99 (0,0)) ∧
   Bw 5 ((w5.setCell ⟨b6,0,none⟩ (.slice q5 m5 g5)).setCell ⟨b6,1,none⟩ (.slice q6 m6 g6)) w.heap.size (.slice q5 m5 g5) Y.1∧Bw 5 ((w5.setCell ⟨b6,0,none⟩ (.slice q5 m5 g5)).setCell ⟨b6,1,none⟩ (.slice q6 m6 g6)) w.heap.size (.slice q6 m6 g6) Y.2) :=
  ⟨(B5.out.setCell (by show w.heap.size≤b6;omega) _).setCell (by show w.heap.size≤b6;omega) _,hsc (hsc X25.out ne1) ne1,hss (hss X65.out),Bw.mk (owns_mono (owns_set (owns_set o5 hb64) hb64) (by omega)) l5.out,Bw.mk (owns_mono (owns_set (owns_set o6 hb64) hb64) (by omega)) l6.out⟩
 obtain ⟨y0',y1'⟩:=cells2 X65.out
 have z0:=frozen_of_row _ _ 0 _ _ X65.out
 have z1:=frozen_of_row _ _ 1 _ _ X65.out
 clear y0 y1 o5 o6 hb B4 X24 X64 L14 L24 B5 X25 X65 l5 l6
 go_wp2_with fail
 clear y0' y1' z0 z1
 refine use_w1 (fun W=>Below w.heap.size w W∧W.heap[w.heap.size]? = some (.cells #[.pointer (some ⟨be,0,none⟩)] 114 (0,0))∧W.heap[b6]? = some (.cells #[.slice q5 m5 g5,.slice q6 m6 g6] 99 (0,0))∧Bw 5 W w.heap.size (.slice q5 m5 g5) Y.1∧Bw 5 W w.heap.size (.slice q6 m6 g6) Y.2) N6.out ?_
 rintro w6 ⟨b6',x26,x66,yb1,yb2⟩
 clear N6
 refine Calls.mono (Lead_any q5 m5 g5 Y.1 w6 yb1.sl') ?_
 rintro e w' ⟨rfl,rfl⟩
 rw [HLY.out]
 have B6:=Lib.hid b6';have X26:=Lib.hid x26;have X66:=Lib.hid x66;have Y1:=Lib.hid yb1;have Y2:=Lib.hid yb2
 have E6:=Lib.hid (HE.out.keep b6')
 clear b6' x26 x66 yb1 yb2
 obtain ⟨f0,f1,f2⟩:=cells3 (hal (o:=.cells #[.int .i64 l] 3) E6.out.box)
 have p0:(w6.alloc (.cells #[.int .i64 l] 3)).cell? ⟨w.heap.size,0,none⟩ = some (.pointer (some ⟨be,0,none⟩)):=cell_of_row _ _ 0 _ _ _ (hal X26.out)
 obtain ⟨b8,h8⟩:∃ b8,b8 = w6.heap.size:=⟨_,rfl⟩
 have hb8:b6 < b8:=by rw [h8];exact blk_lt X66.out
 have NA:Hid (∀ o,Below w6.heap.size w6 (w6.alloc o)):=fun o=>al (Below.refl _ _) (Nat.le_refl _)
 obtain ⟨b2,hb2⟩:∃ b2,b2 = w.heap.size:=⟨_,rfl⟩
 go_wp2
 clear f0 f1 f2 p0
 rw [← h8]
 have H8:=Lib.hid h8
 clear h8
 go_loopw [39] (fun i wr=>∃ j:Nat,j≤n∧i = .int .i64 j∧Hid (RwL 99 5 wr base (.slice q n c) n ((K.take j).map (clrF Y) ++ K.drop j))∧Hid (wr.heap[be]? = some (.cells #[.int .i64 k,.int .i64 t,.slice q n c] 191 (0,0))) ∧
  Hid (wr.heap[w.heap.size]? = some (.cells #[.pointer (some ⟨be,0,none⟩)] 114 (0,0)))∧Hid (wr.heap[b6]? = some (.cells #[.slice q5 m5 g5,.slice q6 m6 g6] 99 (0,0)))∧Hid (wr.heap[b8]? = some (.cells #[.int .i64 l] 3 (0,0))) ∧
  Hid (Bw 5 wr w.heap.size (.slice q5 m5 g5) Y.1)∧Hid (Bw 5 wr w.heap.size (.slice q6 m6 g6) Y.2)∧Hid (Chg w wr be (.slice q n c))) (fun i _=>n - (intOf i).toNat)
 case atStart=>exact ⟨0,Nat.zero_le _,rfl,by show RwL _ _ _ _ _ _ _;simpa using (E6.out.keep (NA.out _)).rows,(E6.out.keep (NA.out _)).box,hal X26.out,hal X66.out,hnew H8.out,Y1.out.keep (NA.out _),Y2.out.keep (NA.out _),(Chg.of be _ B6.out).below (NA.out _)⟩
 case round =>
  clear B6 X26 X66 Y1 Y2 E6 NA
  obtain ⟨j,hj,rfl,hR,hX,h2,hX6,hX8,hY1,hY2,hC⟩:=hrel
  have HKJ:Hid (∀ a,K[j]? = some a→((K.take j).map (clrF Y) ++ K.drop j)[j]? = some a):=fun a ha=>by
   have lj:((K.take j).map (clrF Y)).length = j:=by rw [List.length_map,List.length_take,HKN.out];omega
   rw [List.getElem?_append_right (by omega),lj,Nat.sub_self,List.getElem?_drop];simpa using ha
  by_cases hjl:j < n
  ·have jn:(j:Int) < (n:Int):=by omega
   obtain ⟨A,hA⟩:∃ A,K[j]? = some A:=⟨_,List.getElem?_eq_getElem (by rw [HKN.out];exact hjl)⟩
   obtain ⟨g,kk,a1,b1,d1,a2,b2',d2,rfl,e1,e2,hkk,t1,t2⟩:=hR.out.at hjl
   have hkA:kk = A:=by have h:=hkk.out;rw [HKJ.out A hA] at h;cases h;rfl
   subst hkA
   have fA:=(HKL.out kk (List.mem_of_getElem? hA))
   have HA:=Lib.hid hA;have T1:=Lib.hid t1;have T2:=Lib.hid t2
   have HE1:=Lib.hid e1;have HE2:=Lib.hid e2
   obtain ⟨CJ,hCJ⟩:∃ CJ,CJ = atS kk.1 (l:Int):=⟨_,rfl⟩
   have HYJ:Hid (clrF Y kk = lessF kk CJ Y):=by show _ = _;unfold clrF;rw [HLY.out,hCJ]
   have HFA:=Lib.hid fA
   have HAT:Hid (∀ W,Sl B8 W a1 b1 d1 kk.1→Calls Tryz.prog 116 #[.slice a1 b1 d1,.int .i64 l] W fun e w'=>e = .returned (B8 CJ)∧W = w'):=fun W h=>by rw [hCJ];exact At_any _ _ _ _ l W h
   have c8:(wr.alloc (.cells #[.slice a1 b1 d1,.slice a2 b2' d2] 99)).cell? ⟨b8,0,none⟩ = some (.int .i64 l):=cell_of_row _ _ 0 _ _ _ (hal hX8.out)
   clear t1 t2 hkk hA fA hCJ
   go_wp2_with fail
   clear e1 e2 c8
   refine use_w1 (fun W=>Below wr.heap.size wr W∧W.heap[wr.heap.size]? = some (.cells #[.slice a1 b1 d1,.slice a2 b2' d2] 99 (0,0))) ⟨al (Below.refl _ _) (Nat.le_refl _),hnew rfl⟩ ?_
   rintro w7 ⟨b7,x7⟩
   refine Calls.mono (HAT.out w7 (T1.out.keep b7)) ?_
   rintro e w' ⟨rfl,rfl⟩
   have B7:=Lib.hid b7;have X7:=Lib.hid x7
   have R7:=Lib.hid (hR.out.keep b7);have E7:=Lib.hid ((b7.block _ (blk_lt hX.out)).trans hX.out);have P7:=Lib.hid ((b7.block _ (blk_lt h2.out)).trans h2.out)
   have X67:=Lib.hid ((b7.block _ (blk_lt hX6.out)).trans hX6.out);have X87:=Lib.hid ((b7.block _ (blk_lt hX8.out)).trans hX8.out)
   have Y17:=Lib.hid (hY1.out.keep b7);have Y27:=Lib.hid (hY2.out.keep b7);have C7:=Lib.hid (hC.out.below b7)
   have T17:=Lib.hid (T1.out.keep b7);have T27:=Lib.hid (T2.out.keep b7)
   clear b7 x7 HAT hR hX h2 hX6 hX8 hY1 hY2 hC T1 T2 HE1 HE2 HKJ
   have HKS:Hid ((K.take (j + 1)).map (clrF Y) ++ K.drop (j + 1) = ((K.take j).map (clrF Y) ++ K.drop j).set j (clrF Y kk)):=by
    show _ = _
    have lj:((K.take j).map (clrF Y)).length = j:=by rw [List.length_map,List.length_take,HKN.out];omega
    rw [List.set_append_right _ _ (by omega),lj,Nat.sub_self,List.take_add_one,HA.out,List.map_append]
    have:K.drop j = kk :: K.drop (j + 1):=by
     obtain ⟨hl,e⟩:=List.getElem?_eq_some_iff.1 HA.out
     rw [List.drop_eq_getElem_cons hl,e]
    rw [this];simp
   by_cases hc:CJ = 0
   ·have hz:((CJ.toNat:Int) != 0) = false:=by rw [hc];rfl
    have HKZ:Hid ((K.take (j + 1)).map (clrF Y) ++ K.drop (j + 1) = (K.take j).map (clrF Y) ++ K.drop j):=by
     show _ = _
     rw [HKS.out,HYJ.out,hc,less_zero HFA.out.1 HFY.out]
     refine List.ext_getElem? fun i=>?_
     rw [List.getElem?_set]
     by_cases e:j = i
     ·subst e
      have lj:((K.take j).map (clrF Y)).length = j:=by rw [List.length_map,List.length_take,HKN.out];omega
      rw [if_pos rfl,if_pos (by rw [List.length_append,lj,List.length_drop,HKN.out];omega),List.getElem?_append_right (by omega),lj,Nat.sub_self,List.getElem?_drop]
      have:=HA.out;simpa using this.symm
     ·rw [if_neg e]
    have R8:=Lib.hid R7.out
    rw [← HKZ.out] at R8
    clear hc HKZ HKS HYJ R7 HA T17 T27 HFA B7 X7
    go_wp2
    go_roundw
    case rel=>exact ⟨j + 1,by omega,by go_num,R8.out,E7.out,P7.out,X67.out,X87.out,Y17.out,Y27.out,C7.out⟩
    case measure=>simp [intOf];omega
   ·have hz:((CJ.toNat:Int) != 0) = true:=by simp;exact fun h=>hc (UInt8.toNat_inj.1 (by simpa using h))
    obtain ⟨YJ,hYJ⟩:∃ YJ,YJ = lessF kk CJ Y:=⟨_,rfl⟩
    have HLS:Hid (∀ W,Sl B8 W a1 b1 d1 kk.1→Sl B8 W a2 b2' d2 kk.2→Sl B8 W q5 m5 g5 Y.1→Sl B8 W q6 m6 g6 Y.2→Calls Tryz.prog 117 #[.agg #[.slice a1 b1 d1,.slice a2 b2' d2],B8 CJ,.agg #[.slice q5 m5 g5,.slice q6 m6 g6]] W (RetR2 5 W YJ 0)):=fun W g1 g2 g3 g4=>by
     have:=Less_any a1 a2 q5 q6 b1 d1 b2' d2 m5 g5 m6 g6 kk.1 kk.2 Y.1 Y.2 CJ W g1 g2 g3 g4 (by have h1:=g1.len;have h2:=HFA.out.1.1;unfold Room;omega) (by have h1:=g2.len;have h2:=HFA.out.1.2;unfold Room;omega)
     rw [lessS_fit (n:=k) (t:=t) (x:=kk) (k:=Y) HFA.out.1 HFY.out,← hYJ] at this
     exact this
    rw [HYJ.out,← hYJ] at HKS
    have hgw:g < w.heap.size:=(HE.out.rows.lt g (by simp [Value.ownBlock])).2
    have hgbe:g≠be:=fun e=>HE.out.rows.ne_box HE.out.box (by decide) (by simp [Value.ownBlock,e])
    have hbw7:base≤w7.heap.size:=by have:=C7.out.size;omega
    obtain ⟨u0,u1⟩:=cells2 X7.out
    obtain ⟨y0,y1⟩:=cells2 X67.out
    obtain ⟨f0,f1,f2⟩:=cells3 E7.out
    have p2:w7.cell? ⟨w.heap.size,0,none⟩ = some (.pointer (some ⟨be,0,none⟩)):=cell_of_row _ _ 0 _ _ _ P7.out
    clear hc hYJ HYJ HA HFA
    go_wp2
    refine wp_region_late (fun ix=>([.val (.pointer (some ⟨be,0,none⟩)),.val (.pointer (some ⟨be,0,none⟩)),.val (.pointer (some ⟨be,2,none⟩)),.val (.slice (some ⟨g,0,none⟩) n c),.val (.int .i64 j),.val (.agg #[.slice a1 b1 d1,.slice a2 b2' d2]),.val (B8 CJ),.val (.agg #[.slice q5 m5 g5,.slice q6 m6 g6]),(shpRowTO 5 base YJ 0),(shpRowTO 5 base YJ 0),(shpRowO 5 base YJ),.val (.int .i64 0),.val (.pointer (some ⟨g,j * 2,none⟩)),.any][ix]?).getD (.any)) 83 13 11 50 61 rfl (by kernel_rfl) (by decide) (by decide) (by decide) _ rfl rfl rfl (by decide) (fun a u x w h=>run_extract1 _ rfl h) (by decide) ?_ ?_
    ·refine ⟨?_,?_,?_,?_,?_,?_,?_,?_,?_,?_,?_,?_,?_,trivial⟩
     ·intro a W hb0 hs hp hi;have hb:=undrew hb0;clear hb0
      have tt:sl a 2 = .pointer (some ⟨w.heap.size,0,none⟩):=hi 2 (by decide)
      have dd0:=(hb.cell (p:=⟨w.heap.size,0,none⟩) (lt_of_cell p2)).trans p2
      refine ite_y rfl (wp_val (.pointer (some ⟨be,0,none⟩)) ?_ ?_)
      ·simp only [execOp,eval_tmp,tt];simp [go_sem,dd0]
      ·exact ⟨_,rfl,Below.refl _ _,rfl⟩
     ·intro a W hb0 hs hp hi;have hb:=undrew hb0;clear hb0
      have tt:sl a 51 = .pointer (some ⟨be,0,none⟩):=hp 0 (by decide)
      refine ite_y rfl (wp_val (.pointer (some ⟨be,0,none⟩)) ?_ ?_)
      ·simp only [execOp,eval_tmp,tt];simp [go_sem]
      ·exact ⟨_,rfl,Below.refl _ _,rfl⟩
     ·intro a W hb0 hs hp hi;have hb:=undrew hb0;clear hb0
      have t52:sl a 52 = .pointer (some ⟨be,0,none⟩):=hp 1 (by decide)
      refine ite_y rfl (wp_val (.pointer (some ⟨be,2,none⟩)) ?_ ?_)
      ·simp only [execOp,eval_tmp,eval_const,t52];simp [go_sem]
      ·exact ⟨_,rfl,Below.refl _ _,rfl⟩
     ·intro a W hb0 hs hp hi;have hb:=undrew hb0;clear hb0
      have tt:sl a 53 = .pointer (some ⟨be,2,none⟩):=hp 2 (by decide)
      have dd0:=(hb.cell (p:=⟨be,2,none⟩) (lt_of_cell f2)).trans f2
      refine ite_y rfl (wp_val (.slice (some ⟨g,0,none⟩) n c) ?_ ?_)
      ·simp only [execOp,eval_tmp,tt];simp [go_sem,dd0]
      ·exact ⟨_,rfl,Below.refl _ _,rfl⟩
     ·intro a W hb0 hs hp hi;have hb:=undrew hb0;clear hb0
      have t9:sl a 9 = .int .i64 j:=hi 9 (by decide)
      exact ite_y rfl (wp_val (sl a 9) rfl ⟨_,rfl,Below.refl _ _,t9⟩)
     ·intro a W hb0 hs hp hi;have hb:=undrew hb0;clear hb0
      have tt:sl a 10 = .pointer (some ⟨wr.heap.size,0,none⟩):=hi 10 (by decide)
      have dd0:=(hb.cell (p:=⟨wr.heap.size,0,none⟩) (lt_of_cell u0)).trans u0
      have dd1:=(hb.cell (p:=⟨wr.heap.size,1,none⟩) (lt_of_cell u1)).trans u1
      refine ite_y rfl (wp_val (.agg #[.slice a1 b1 d1,.slice a2 b2' d2]) ?_ ?_)
      ·simp only [execOp,eval_tmp,tt];simp [go_sem,dd0,dd1]
      ·exact ⟨_,rfl,Below.refl _ _,rfl⟩
     ·intro a W hb0 hs hp hi;have hb:=undrew hb0;clear hb0
      have t11:sl a 11 = B8 CJ:=hi 11 (by decide)
      exact ite_y rfl (wp_val (sl a 11) rfl ⟨_,rfl,Below.refl _ _,t11⟩)
     ·intro a W hb0 hs hp hi;have hb:=undrew hb0;clear hb0
      have tt:sl a 6 = .pointer (some ⟨b6,0,none⟩):=hi 6 (by decide)
      have dd0:=(hb.cell (p:=⟨b6,0,none⟩) (lt_of_cell y0)).trans y0
      have dd1:=(hb.cell (p:=⟨b6,1,none⟩) (lt_of_cell y1)).trans y1
      refine ite_y rfl (wp_val (.agg #[.slice q5 m5 g5,.slice q6 m6 g6]) ?_ ?_)
      ·simp only [execOp,eval_tmp,tt];simp [go_sem,dd0,dd1]
      ·exact ⟨_,rfl,Below.refl _ _,rfl⟩
     ·intro a W hb0 hs hp hi;have hb:=undrew hb0;clear hb0
      have t56:sl a 56 = .agg #[.slice a1 b1 d1,.slice a2 b2' d2]:=hp 5 (by decide)
      have t57:sl a 57 = B8 CJ:=hp 6 (by decide)
      have t58:sl a 58 = .agg #[.slice q5 m5 g5,.slice q6 m6 g6]:=hp 7 (by decide)
      refine ite_y rfl (wp_enter 117 #[.agg #[.slice a1 b1 d1,.slice a2 b2' d2],B8 CJ,.agg #[.slice q5 m5 g5,.slice q6 m6 g6]] ?_ (HLS.out W (T17.out.keep hb) (T27.out.keep hb) (Y17.out.keep hb).sl' (Y27.out.keep hb).sl') ?_)
      ·simp only [execOp,resolve,List.map_toArray,List.map,eval_tmp,eval_func,eval_const,t56,t57,t58];simp [go_sem]
      ·rintro e W' ⟨q7,m7,k7,q8,m8,k8,e7,e8,rfl,o7,o8,hw⟩;have hbs:=hb.size;exact ⟨_,rfl,_,rfl,hw,_,rfl,_,_,rfl,(Bw.mk o7 e7.out).mono (by omega),(Bw.mk o8 e8.out).mono (by omega)⟩
     ·intro a W hb0 hs hp hi;have hb:=undrew hb0;clear hb0
      have tt:(shpRowTO 5 base YJ 0).ok (sl a 59) W:=hp 8 (by decide)
      exact ite_y rfl (wp_val (sl a 59) rfl ⟨_,rfl,Below.refl _ _,tt⟩)
     ·intro a W hb0 hs hp hi;have hb:=undrew hb0;clear hb0
      have tt:(shpRowTO 5 base YJ 0).ok (sl a 50) W:=hp 9 (by decide)
      obtain ⟨u,tt,hr⟩:=tt
      exact ite_y rfl (wp_val u (by simp only [execOp,eval_tmp,tt];rfl) ⟨_,rfl,Below.refl _ _,hr⟩)
     ·intro a W hb0 hs hp hi;have hb:=undrew hb0;clear hb0
      have tt:(shpRowTO 5 base YJ 0).ok (sl a 50) W:=hp 9 (by decide)
      obtain ⟨u,tt,hr⟩:=tt
      exact ite_y rfl (wp_val (.int .i64 0) (by simp only [execOp,eval_tmp,tt];rfl) ⟨_,rfl,Below.refl _ _,rfl⟩)
     ·intro a W hb0 hs hp hi;have hb:=undrew hb0;clear hb0
      have t54:sl a 54 = .slice (some ⟨g,0,none⟩) n c:=hp 3 (by decide)
      have t55:sl a 55 = .int .i64 j:=hp 4 (by decide)
      refine ite_y rfl (wp_val (.pointer (some ⟨g,j * 2,none⟩)) ?_ ?_)
      ·simp only [execOp,eval_tmp,eval_const,t54,t55];simp [go_sem,jn,hjl]
      ·exact ⟨_,rfl,Below.refl _ _,rfl⟩
    ·intro a w9 o ho hb hs hd hI ht
     simp at ho;subst ho
     have t62:sl a 62 = .pointer (some ⟨g,j * 2,none⟩):=hI 12 (by decide) (by decide)
     have t50:(shpRowTO 5 base YJ 0).ok (sl a 50) w9:=hI 9 (by decide) (by decide)
     have t60:(shpRowO 5 base YJ).ok (sl a 60) w9:=hI 10 (by decide) (by decide)
     obtain ⟨uu,t50,-⟩:=t50
     obtain ⟨v1,v2,t60,hv1,hv2⟩:=t60
     have R9:=R7.out.keep hb
     obtain ⟨cur9,hcur⟩:=R9.blk
     obtain ⟨g',kx,x1,y1',z1',x2,y2',z2',eg,d0,d1,-⟩:=R9.at hjl
     cases eg
     have z0:w9.frozen? ⟨g,j * 2,none⟩ = false:=frozen_of_row _ _ _ _ _ hcur
     have z1:w9.frozen? ⟨g,j * 2 + 1,none⟩ = false:=frozen_of_row _ _ _ _ _ hcur
     have o1:=hv1.one
     have o2:=hv2.one
     obtain ⟨xq1,xm1,xc1,rfl,-⟩:=id hv1
     obtain ⟨xq2,xm2,xc2,rfl,-⟩:=id hv2
     refine ⟨⟨_,_,t50⟩,wp_skipX (w':=((w9.setCell ⟨g,j * 2,none⟩ (.slice xq1 xm1 xc1)).setCell ⟨g,j * 2 + 1,none⟩ (.slice xq2 xm2 xc2))) ?_ ⟨rfl,fun b hbs hbd hbt=>?_⟩⟩
     ·simp only [execOp,eval_tmp,t60,t62];simp [go_sem,d0,d1,z0,z1]
     have ha:=act_is [51,52,53,54,55,56,57,58,59,50,60,61,62] hbs hbd (fun t h=>(hbt t (fun e=>by subst e;revert h;decide)).trans (ht t h)) (by decide)
     simp only [List.foldl] at ha
     generalize sl b 51 = u51 at ha
     generalize sl b 52 = u52 at ha
     generalize sl b 53 = u53 at ha
     generalize sl b 54 = u54 at ha
     generalize sl b 55 = u55 at ha
     generalize sl b 56 = u56 at ha
     generalize sl b 57 = u57 at ha
     generalize sl b 58 = u58 at ha
     generalize sl b 59 = u59 at ha
     generalize sl b 50 = u50 at ha
     generalize sl b 60 = u60 at ha
     generalize sl b 61 = u61 at ha
     generalize sl b 62 = u62 at ha
     simp only [Act.put,List.setIfInBounds_toArray,List.set_cons_zero,List.set_cons_succ] at ha
     rw [ha];clear ha
     have RN:=R9.put (k:=YJ) (by decide) hjl hv1 hv2
     rw [← HKS.out] at RN
     have gb:=grown_trans (grownBy_setCell w9 g (j * 2) (.slice xq1 xm1 xc1)) (grownBy_setCell (w9.setCell ⟨g,j * 2,none⟩ (.slice xq1 xm1 xc1)) g (j * 2 + 1) (.slice xq2 xm2 xc2))
     have ne0:be≠g:=fun e=>hgbe e.symm
     have ne2:w.heap.size≠g:=by omega
     have ne6:b6≠g:=by omega
     have ne8:b8≠g:=by omega
     have yo:∀ (u:Value) (xs:List UInt8),Bw 5 w9 w.heap.size u xs→Bw 5 ((w9.setCell ⟨g,j * 2,none⟩ (.slice xq1 xm1 xc1)).setCell ⟨g,j * 2 + 1,none⟩ (.slice xq2 xm2 xc2)) w.heap.size u xs:=fun u xs h=>h.set (g:=g) (o:=0) (u:=u) (fun kx hkx=>by
      obtain ⟨q',m',c',e',l',o'⟩:=h
      rw [e'] at hkx
      have:=(o'.lt kx hkx).1
      omega) gb
     have NX:((w9.setCell ⟨g,j * 2,none⟩ (.slice xq1 xm1 xc1)).setCell ⟨g,j * 2 + 1,none⟩ (.slice xq2 xm2 xc2)).heap[be]? = some (.cells #[.int .i64 k,.int .i64 t,.slice (some ⟨g,0,none⟩) n c] 191 (0,0))∧((w9.setCell ⟨g,j * 2,none⟩ (.slice xq1 xm1 xc1)).setCell ⟨g,j * 2 + 1,none⟩ (.slice xq2 xm2 xc2)).heap[w.heap.size]? = some (.cells #[.pointer (some ⟨be,0,none⟩)] 114 (0,0))∧((w9.setCell ⟨g,j * 2,none⟩ (.slice xq1 xm1 xc1)).setCell ⟨g,j * 2 + 1,none⟩ (.slice xq2 xm2 xc2)).heap[b6]? = some (.cells #[.slice q5 m5 g5,.slice q6 m6 g6] 99 (0,0))∧((w9.setCell ⟨g,j * 2,none⟩ (.slice xq1 xm1 xc1)).setCell ⟨g,j * 2 + 1,none⟩ (.slice xq2 xm2 xc2)).heap[b8]? = some (.cells #[.int .i64 l] 3 (0,0)) ∧
       Bw 5 ((w9.setCell ⟨g,j * 2,none⟩ (.slice xq1 xm1 xc1)).setCell ⟨g,j * 2 + 1,none⟩ (.slice xq2 xm2 xc2)) w.heap.size (.slice q5 m5 g5) Y.1∧Bw 5 ((w9.setCell ⟨g,j * 2,none⟩ (.slice xq1 xm1 xc1)).setCell ⟨g,j * 2 + 1,none⟩ (.slice xq2 xm2 xc2)) w.heap.size (.slice q6 m6 g6) Y.2∧Chg w ((w9.setCell ⟨g,j * 2,none⟩ (.slice xq1 xm1 xc1)).setCell ⟨g,j * 2 + 1,none⟩ (.slice xq2 xm2 xc2)) be (.slice (some ⟨g,0,none⟩) n c) :=
      ⟨hsc (hsc ((hb.block _ (blk_lt E7.out)).trans E7.out) ne0) ne0,hsc (hsc ((hb.block _ (blk_lt P7.out)).trans P7.out) ne2) ne2,hsc (hsc ((hb.block _ (blk_lt X67.out)).trans X67.out) ne6) ne6,hsc (hsc ((hb.block _ (blk_lt X87.out)).trans X87.out) ne8) ne8,
       yo _ _ (Y17.out.keep hb),yo _ _ (Y27.out.keep hb),(C7.out.below hb).grown (by simpa [Value.ownBlock] using gb)⟩
     generalize ((w9.setCell ⟨g,j * 2,none⟩ (.slice xq1 xm1 xc1)).setCell ⟨g,j * 2 + 1,none⟩ (.slice xq2 xm2 xc2)) = wn at NX RN ⊢
     have NXH:=Lib.hid NX;have RNH:=Lib.hid RN
     clear NX RN R9 hcur d0 d1 z0 z1 hv1 hv2 hI ht hb hbt gb yo u0 u1 y0 y1 f0 f1 f2 p2 R7 E7 P7 X67 X87 Y17 Y27 C7 B7 X7 T17 T27 HLS
     go_wp2
     go_roundw
     case rel=>exact ⟨j + 1,by omega,by go_num,RNH.out,NXH.out.1,NXH.out.2.1,NXH.out.2.2.1,NXH.out.2.2.2.1,NXH.out.2.2.2.2.1,NXH.out.2.2.2.2.2.1,NXH.out.2.2.2.2.2.2⟩
     case measure=>simp [intOf];omega
  ·have hjn:j = n:=by omega
   have hge:(n:Int)≤(j:Int):=by omega
   have RM:Hid (RwL 99 5 wr base (.slice q n c) n (K.map (clrF Y))):=by
    have h:=hR.out
    rw [hjn,List.take_of_length_le (by rw [HKN.out];exact Nat.le_refl _),List.drop_eq_nil_of_le (by rw [HKN.out];exact Nat.le_refl _),List.append_nil] at h;exact h
   have EM:Hid (Elm wr base be k t (.slice q n c) n (K.map (clrF Y))):=⟨hX.out,RM.out,hbe⟩
   obtain ⟨f0,f1,f2⟩:=cells3 hX.out
   have p2:wr.cell? ⟨w.heap.size,0,none⟩ = some (.pointer (some ⟨be,0,none⟩)):=cell_of_row _ _ 0 _ _ _ h2.out
   clear hjn hR HKJ
   go_wp2_with fail
   refine Calls.mono (Search_any f 118 #[.pointer (some ⟨w.heap.size,0,none⟩),.pointer (some ⟨b8,0,none⟩)] enters_behind n wr (by omega) (fun W i hW hi=>?_) hmono.out) ?_
   ·obtain ⟨z,hz⟩:∃ z,(K.map (clrF Y))[i]? = some z:=⟨_,List.getElem?_eq_getElem (by rw [List.length_map,HKN.out];exact hi)⟩
    have h:=Behind_any base be k t n (.slice q n c) (K.map (clrF Y)) w.heap.size b8 i (l:Int) z W (EM.out.keep hW) (cell_of_row _ _ 0 _ _ _ ((hW.block _ (blk_lt h2.out)).trans h2.out)) (cell_of_row _ _ 0 _ _ _ ((hW.block _ (blk_lt hX8.out)).trans hX8.out)) hi hz
    have e:decide ((l:Int) < leadS z.1) = f i:=by
     rw [HFF.out]
     show _ = decide ((l:Int) < leadS ((K.map (clrF Y)).getD i ([],[])).1)
     rw [List.getD_eq_getElem?_getD,hz];rfl
    rw [e] at h;exact h
   rintro e w10 ⟨r,hr,rfl,hlo,hhi,hb⟩
   have HFIN:=Lib.hid (hfin.out r hr hlo hhi)
   have E10:=Lib.hid (EM.out.keep hb);have P10:=Lib.hid ((hb.block _ (blk_lt h2.out)).trans h2.out);have X610:=Lib.hid ((hb.block _ (blk_lt hX6.out)).trans hX6.out)
   have Y110:=Lib.hid (hY1.out.keep hb);have Y210:=Lib.hid (hY2.out.keep hb);have C10:=Lib.hid (hC.out.below hb)
   have hb10:base≤w10.heap.size:=by have:=C10.out.size;omega
   clear hlo hhi hb EM RM hX h2 hX6 hX8 hY1 hY2 hC f0 f1 f2 p2
   obtain ⟨f0,f1,f2⟩:=cells3 E10.out.box
   obtain ⟨y0,y1⟩:=cells2 X610.out
   have p2:w10.cell? ⟨w.heap.size,0,none⟩ = some (.pointer (some ⟨be,0,none⟩)):=cell_of_row _ _ 0 _ _ _ P10.out
   go_wp2
   refine wp_region_mid (fun ix=>([.val (.pointer (some ⟨be,0,none⟩)),.val (.pointer (some ⟨be,0,none⟩)),.val (.pointer (some ⟨be,0,none⟩)),.val (.pointer (some ⟨be,2,none⟩)),.val (.slice q n c),.val (.int .i64 r),.val (.agg #[.slice q5 m5 g5,.slice q6 m6 g6]),(shpOne 99 w10.heap.size (.slice q5 m5 g5) (.slice q6 m6 g6)),.any,.val (.pointer (some ⟨be,0,none⟩)),.val (.pointer (some ⟨be,2,none⟩)),.any][ix]?).getD (.any)) (fun ix=>(([some (.pointer (some ⟨be,0,none⟩)),some (.pointer (some ⟨be,0,none⟩)),some (.pointer (some ⟨be,0,none⟩)),some (.pointer (some ⟨be,2,none⟩)),none,none,some (.agg #[.slice q5 m5 g5,.slice q6 m6 g6]),none,none,some (.pointer (some ⟨be,0,none⟩)),some (.pointer (some ⟨be,2,none⟩))]:List (Option Value))[ix]?).getD none) 83 11 8 80 (fun u W=>RwL 99 5 W base u (n + 1) (putF K x)∧W.heap[be]? = some (.cells #[.int .i64 k,.int .i64 t,.slice q n c] 191 (0,0))∧W.heap[w.heap.size]? = some (.cells #[.pointer (some ⟨be,0,none⟩)] 114 (0,0))∧W.heap[b6]? = some (.cells #[.slice q5 m5 g5,.slice q6 m6 g6] 99 (0,0))∧Chg w W be (.slice q n c)∧(u.ownBlock = (Value.slice q n c).ownBlock∨∀ b,u.ownBlock = some b→w.heap.size≤b)) rfl (by kernel_rfl) (by decide) (by decide) (by decide) ?_ _ rfl ?_ ?_ ?_ ?_
   ·intro j u hj
    have hj11:j < 11:=by
     rcases Nat.lt_or_ge j 11 with h | h
     ·exact h
     ·simp [List.getElem?_eq_none (show ([_,_,_,_,_,_,_,_,_,_,_]:List (Option Value)).length≤j from h)] at hj
    rcases (show j = 0∨j = 1∨j = 2∨j = 3∨j = 4∨j = 5∨j = 6∨j = 7∨j = 8∨j = 9∨j = 10 by omega) with rfl | rfl | rfl | rfl | rfl | rfl | rfl | rfl | rfl | rfl | rfl
    all_goals (simp at hj <;> (subst hj;rfl))
   ·intro i o him his ho hps
    rcases (show i = 0∨i = 1∨i = 2∨i = 3∨i = 4∨i = 5∨i = 6∨i = 7∨i = 8∨i = 9∨i = 10 by omega) with rfl | rfl | rfl | rfl | rfl | rfl | rfl | rfl | rfl | rfl | rfl
    ·simp at ho;subst ho
     intro a W hb0 hs hp hi;have hb:=undrew hb0;clear hb0
     have tt:sl a 2 = .pointer (some ⟨w.heap.size,0,none⟩):=hi 2 (by decide)
     have dd0:=(hb.cell (p:=⟨w.heap.size,0,none⟩) (lt_of_cell p2)).trans p2
     refine ite_y rfl (wp_val (.pointer (some ⟨be,0,none⟩)) ?_ ?_)
     ·simp only [execOp,eval_tmp,tt];simp [go_sem,dd0]
     ·exact ⟨_,rfl,Below.refl _ _,rfl⟩
    ·simp at ho;subst ho
     intro a W hb0 hs hp hi;have hb:=undrew hb0;clear hb0
     have tt:sl a 2 = .pointer (some ⟨w.heap.size,0,none⟩):=hi 2 (by decide)
     have dd0:=(hb.cell (p:=⟨w.heap.size,0,none⟩) (lt_of_cell p2)).trans p2
     refine ite_y rfl (wp_val (.pointer (some ⟨be,0,none⟩)) ?_ ?_)
     ·simp only [execOp,eval_tmp,tt];simp [go_sem,dd0]
     ·exact ⟨_,rfl,Below.refl _ _,rfl⟩
    ·simp at ho;subst ho
     intro a W hb0 hs hp hi;have hb:=undrew hb0;clear hb0
     have tt:sl a 73 = .pointer (some ⟨be,0,none⟩):=hp 1 (by decide)
     refine ite_y rfl (wp_val (.pointer (some ⟨be,0,none⟩)) ?_ ?_)
     ·simp only [execOp,eval_tmp,tt];simp [go_sem]
     ·exact ⟨_,rfl,Below.refl _ _,rfl⟩
    ·simp at ho;subst ho
     intro a W hb0 hs hp hi;have hb:=undrew hb0;clear hb0
     have t74:sl a 74 = .pointer (some ⟨be,0,none⟩):=hp 2 (by decide)
     refine ite_y rfl (wp_val (.pointer (some ⟨be,2,none⟩)) ?_ ?_)
     ·simp only [execOp,eval_tmp,eval_const,t74];simp [go_sem]
     ·exact ⟨_,rfl,Below.refl _ _,rfl⟩
    ·simp at ho;subst ho
     intro a W hb0 hs hp hi;have hb:=undrew hb0;clear hb0
     have tt:sl a 75 = .pointer (some ⟨be,2,none⟩):=hp 3 (by decide)
     have dd0:=(hb.cell (p:=⟨be,2,none⟩) (lt_of_cell f2)).trans f2
     refine ite_y rfl (wp_val (.slice q n c) ?_ ?_)
     ·simp only [execOp,eval_tmp,tt];simp [go_sem,dd0]
     ·exact ⟨_,rfl,Below.refl _ _,rfl⟩
    ·simp at ho;subst ho
     intro a W hb0 hs hp hi;have hb:=undrew hb0;clear hb0
     have t13:sl a 13 = .int .i64 r:=hi 13 (by decide)
     exact ite_y rfl (wp_val (sl a 13) rfl ⟨_,rfl,Below.refl _ _,t13⟩)
    ·simp at ho;subst ho
     intro a W hb0 hs hp hi;have hb:=undrew hb0;clear hb0
     have tt:sl a 6 = .pointer (some ⟨b6,0,none⟩):=hi 6 (by decide)
     have dd0:=(hb.cell (p:=⟨b6,0,none⟩) (lt_of_cell y0)).trans y0
     have dd1:=(hb.cell (p:=⟨b6,1,none⟩) (lt_of_cell y1)).trans y1
     refine ite_y rfl (wp_val (.agg #[.slice q5 m5 g5,.slice q6 m6 g6]) ?_ ?_)
     ·simp only [execOp,eval_tmp,tt];simp [go_sem,dd0,dd1]
     ·exact ⟨_,rfl,Below.refl _ _,rfl⟩
    ·simp at ho;subst ho
     intro a W hb0 hs hp hi;have hb:=undrew hb0;clear hb0
     have tt:sl a 78 = .agg #[.slice q5 m5 g5,.slice q6 m6 g6]:=hp 6 (by decide)
     have v78:a.tmps[78]?.getD undef = .agg #[.slice q5 m5 g5,.slice q6 m6 g6]:=by simpa [sl] using tt
     refine ite_y rfl (wp_val' (w':=W.alloc (.cells #[.slice q5 m5 g5,.slice q6 m6 g6] 99)) (.slice (some ⟨W.heap.size,0,none⟩) 1 1) ?_ ?_)
     ·simp only [execOp,eval_tmp,tt];simp [go_sem,tt,v78]
     ·exact ⟨_,rfl,al (Below.refl _ _) (Nat.le_refl _),W.heap.size,rfl,hnew rfl,hb.size⟩
    ·exact absurd rfl his
    ·simp at ho;subst ho;exact absurd hps (by decide)
    ·simp at ho;subst ho;exact absurd hps (by decide)
   ·intro a W hb hs hp
    have t76:sl a 76 = .slice q n c:=hp 4 (by decide)
    have t77:sl a 77 = .int .i64 r:=hp 5 (by decide)
    obtain ⟨vb,t79,hvb,hvb2⟩:∃ vb,sl a 79 = .slice (some ⟨vb,0,none⟩) 1 1∧W.heap[vb]? = some (.cells #[.slice q5 m5 g5,.slice q6 m6 g6] 99 (0,0))∧w10.heap.size≤vb:=hp 7 (by decide)
    have EW:=E10.out.keep hb
    have hvo:(Value.slice q n c).ownBlock≠some vb:=fun e=>by have:=(E10.out.rows.lt vb e).2;omega
    refine wp_enter 120 #[.slice q n c,.int .i64 r,.slice (some ⟨vb,0,none⟩) 1 1] ?_ (InsRow_any base n r vb _ (.slice q5 m5 g5) (.slice q6 m6 g6) (K.map (clrF Y)) Y W EW.rows hr (by omega) (by have:=hb.size;omega) hvb hvo ((Y110.out.keep hb).mono hbw) ((Y210.out.keep hb).mono hbw)) ?_
    ·simp [execOp,resolve,show a.tmps[76]?.getD undef = .slice q n c by simpa [sl] using t76,show a.tmps[77]?.getD undef = .int .i64 r by simpa [sl] using t77,show a.tmps[79]?.getD undef = .slice (some ⟨vb,0,none⟩) 1 1 by simpa [sl] using t79,go_sem]
    ·rintro e W' ⟨u,rfl,hRw,hg,hbk⟩
     rw [HFIN.out] at hRw
     have hCW:=C10.out.below hb
     have ko:∀ b,b < W.heap.size→(Value.slice q n c).ownBlock≠some b→W'.heap[b]? = W.heap[b]?:=fun b h1 h2=>hg.block b h1 (fun e=>h2 e.symm)
     have n1:(Value.slice q n c).ownBlock≠some be:=EW.rows.ne_box EW.box (by decide)
     have lt1:∀ b,(Value.slice q n c).ownBlock = some b→b < w.heap.size:=fun b e=>(HE.out.rows.lt b e).2
     have P10W:=(hb.block _ (blk_lt P10.out)).trans P10.out;have X610W:=(hb.block _ (blk_lt X610.out)).trans X610.out
     refine ⟨u,rfl,u,rfl,hRw,(ko be (blk_lt EW.box) n1).trans EW.box,(ko _ (blk_lt P10W) (fun e=>by have:=lt1 _ e;omega)).trans P10W,(ko _ (blk_lt X610W) (fun e=>by have:=lt1 _ e;omega)).trans X610W,hCW.grown hg,?_⟩
     rcases hbk with e | e
     ·exact .inl e
     ·refine .inr fun b hb'=>?_
      rw [e] at hb';cases hb'
      exact hCW.size
   ·intro i o him his ho hpo a W u hP hs hu hk hi
    obtain ⟨-,hPb,hP2,hP6,-,-⟩:=hP
    obtain ⟨F0,F1,F2⟩:=cells3 hPb
    obtain ⟨G0,G1⟩:=cells2 hP6
    have Q2:W.cell? ⟨w.heap.size,0,none⟩ = some (.pointer (some ⟨be,0,none⟩)):=cell_of_row _ _ 0 _ _ _ hP2
    rcases (show i = 0∨i = 1∨i = 2∨i = 3∨i = 4∨i = 5∨i = 6∨i = 7∨i = 8∨i = 9∨i = 10 by omega) with rfl | rfl | rfl | rfl | rfl | rfl | rfl | rfl | rfl | rfl | rfl
    ·simp at ho;subst ho
     have tt:sl a 2 = .pointer (some ⟨w.heap.size,0,none⟩):=hi 2 (by decide)
     refine ⟨_,rfl,?_⟩
     simp only [execOp,eval_tmp,tt];simp [go_sem,Q2]
    ·simp at ho;subst ho
     have tt:sl a 2 = .pointer (some ⟨w.heap.size,0,none⟩):=hi 2 (by decide)
     refine ⟨_,rfl,?_⟩
     simp only [execOp,eval_tmp,tt];simp [go_sem,Q2]
    ·simp at ho;subst ho
     have tt:sl a 73 = .pointer (some ⟨be,0,none⟩):=hk 1 (by decide) (by decide) _ 73 rfl rfl
     refine ⟨_,rfl,?_⟩
     simp only [execOp,eval_tmp,tt];simp [go_sem]
    ·simp at ho;subst ho
     have tt:sl a 74 = .pointer (some ⟨be,0,none⟩):=hk 2 (by decide) (by decide) _ 74 rfl rfl
     refine ⟨_,rfl,?_⟩
     simp only [execOp,eval_tmp,tt];simp [go_sem]
    ·exact absurd hpo (by decide)
    ·exact absurd hpo (by decide)
    ·simp at ho;subst ho
     have tt:sl a 6 = .pointer (some ⟨b6,0,none⟩):=hi 6 (by decide)
     refine ⟨_,rfl,?_⟩
     simp only [execOp,eval_tmp,tt];simp [go_sem,G0,G1]
    ·exact absurd hpo (by decide)
    ·exact absurd rfl his
    ·simp at ho;subst ho
     have tt:sl a 72 = .pointer (some ⟨be,0,none⟩):=hk 0 (by decide) (by decide) _ 72 rfl rfl
     refine ⟨_,rfl,?_⟩
     simp only [execOp,eval_tmp,tt];simp [go_sem]
    ·simp at ho;subst ho
     have tt:sl a 81 = .pointer (some ⟨be,0,none⟩):=hk 9 (by decide) (by decide) _ 81 rfl rfl
     refine ⟨_,rfl,?_⟩
     simp only [execOp,eval_tmp,tt];simp [go_sem]
   ·intro a W u o ho hP hs hd hu hlvs ht
    have ha:=act_is [72,73,74,75,76,77,78,79,80,81,82] hs hd ht (by decide)
    simp at ho;subst ho
    have t82:sl a 82 = .pointer (some ⟨be,2,none⟩):=hlvs 10 (by decide) (by decide) _ 82 rfl rfl
    obtain ⟨hRw,hPb,-,-,hCW,hbk⟩:=hP
    obtain ⟨F0,F1,F2⟩:=cells3 hPb
    have z2:=frozen_of_row _ _ 2 _ _ hPb
    obtain ⟨uq,uc,rfl⟩:=hRw.shape
    refine wp_skip_none rfl (w':=W.setCell ⟨be,2,none⟩ (.slice uq (n + 1) uc)) ?_ ?_
    ·simp only [execOp,eval_tmp,t82,hu];simp [go_sem,F2,z2]
    simp only [List.foldl,t82,hu] at ha
    generalize sl a 72 = u72 at ha
    generalize sl a 73 = u73 at ha
    generalize sl a 74 = u74 at ha
    generalize sl a 75 = u75 at ha
    generalize sl a 76 = u76 at ha
    generalize sl a 77 = u77 at ha
    generalize sl a 78 = u78 at ha
    generalize sl a 79 = u79 at ha
    generalize sl a 81 = u81 at ha
    simp only [Act.put,List.setIfInBounds_toArray,List.set_cons_zero,List.set_cons_succ] at ha
    rw [ha];clear ha
    have hne2:=hRw.ne_box hPb (by decide)
    have NX:Hid (Elm (W.setCell ⟨be,2,none⟩ (.slice uq (n + 1) uc)) base be k t (.slice uq (n + 1) uc) (n + 1) (putF K x)∧Chg w (W.setCell ⟨be,2,none⟩ (.slice uq (n + 1) uc)) be (.slice q n c)) :=
     ⟨⟨hss hPb,hRw.set hPb (by decide) hne2 (grownBy_setCell W be 2 _),hbe⟩,hCW.box 2 _⟩
    have HBK:=Lib.hid hbk
    clear hRw hPb hCW hbk F0 F1 F2 z2 ht hlvs
    go_wp2
    go_ret2
    exact ⟨rfl,_,NX.out.1,NX.out.2,HBK.out⟩
end Go.Proofs.YtccaiiigdfieoaaGreatDoor
namespace Go.Proofs.YtccaiiigdfieoaaGreatDoor
open Go.RowKit Go.By
def unitS (n i:Int):List UInt8 × Int:=if n < 0∨65536 < n∨i < 0∨n≤i then ([],2) else ((List.replicate n.toNat 0).set i.toNat 1,0)
end Go.Proofs.YtccaiiigdfieoaaGreatDoor
namespace Go.By
open Go.RowKit
theorem RwL.rwS {T2 T1 base n c:Nat} {w:World} {q:Option Addr} {K:List (List UInt8 × List UInt8)} (h:RwL T2 T1 w base (.slice q n c) n K):RwS w q n c K:=by
 have hl:=h.len
 have hs:n≤c∧c≤maxLen∧(q = none→n = 0∧c = 0):=by
  obtain ⟨vs,a,b,o,r⟩:=h
  rcases o.2 with ⟨hv,hn⟩ | ⟨g,cap,cur,hv,_,_,h1,h2,_⟩
  ·simp at hv;exact ⟨by omega,by unfold maxLen;omega,fun _=>⟨by omega,by omega⟩⟩
  ·simp at hv;exact ⟨by omega,by omega,fun e=>by rw [hv.1] at e;cases e⟩
 refine ⟨hl,hs.1,hs.2.1,hs.2.2,fun j k hj=>?_⟩
 have hjn:j < n:=by rw [← hl];exact (List.getElem?_eq_some_iff.1 hj).1
 obtain ⟨g,k',q1,m1,c1,q2,m2,c2,e,d1,d2,hk,s1,s2⟩:=h.at hjn
 have:k' = k:=by have h:=hk.out;rw [hj] at h;cases h;rfl
 subst this
 exact ⟨g,0,q1,m1,c1,q2,m2,c2,e,by rw [Nat.zero_add];exact d1,by rw [Nat.zero_add];exact d2,s1,s2⟩
end Go.By
namespace Go.Proofs.YtccaiiigdfieoaaGreatDoor
open Go.RowKit Go.By
def knownS (k:Int) (K:List Rw) (i:Int):List UInt8 × Bool :=
 if (unitS k i).2≠0 then ([],false) else match K.find? (fun r=>decide (r.1 = (unitS k i).1)) with
  | some r=>(r.2,true)
  | none=>([],false)
end Go.Proofs.YtccaiiigdfieoaaGreatDoor
namespace Go.Proofs.YtccaiiigdfieoaaGreatDoor
open Go.RowKit Go.By
end Go.Proofs.YtccaiiigdfieoaaGreatDoor
namespace Go.Proofs.YtccaiiigdfieoaaGreatDoor
open Go.RowKit Go.By
end Go.Proofs.YtccaiiigdfieoaaGreatDoor
namespace Go.Proofs.YtccaiiigdfieoaaGreatDoor
open Go.RowKit Go.By
end Go.Proofs.YtccaiiigdfieoaaGreatDoor
namespace Go.Proofs.YtccaiiigdfieoaaGreatDoor
open Go.RowKit Go.By
theorem lead_zero {v:List UInt8} (h:leadS v < 0):zeroS v = true:=by
 unfold zeroS
 exact List.all_eq_true.2 fun x hx=>by simpa using leadS_neg h x hx
set_option maxRecDepth 100000 in
set_option maxHeartbeats 4000000 in
theorem EPut_zero (base be k t n:Nat) (v:Value) (K:List Rw) (p1 p2:Option Addr) (c1 c2:Nat) (x:Rw) (w:World) (hE:Elm w base be k t v n K) (s1:Sl B8 w p1 k c1 x.1) (s2:Sl B8 w p2 t c2 x.2) (hK:∀ r,r ∈ K→Fit k t r∧Led r) (hk:k≤4096) (ht:t≤65535) (hn:leadS (restF K x).1 < 0) :
  Calls Tryz.prog 64 #[.pointer (some ⟨be,0,none⟩),.agg #[.slice p1 k c1,.slice p2 t c2]] w fun e w'=>e = .returned (.tuple #[.int .i64 (if zeroS (restF K x).2 = true then 1 else 2),.int .i64 0])∧Below w.heap.size w w':=by
 have HB:Hid (∀ o1 o2,Below w.heap.size w ((w.alloc o1).alloc o2)):=fun o1 o2=>al (al (Below.refl _ _) (Nat.le_refl _)) (by simp)
 have HZ:Hid (zeroS (restF K x).1 = true):=lead_zero hn
 have HE:=Lib.hid hE;have S1:=Lib.hid s1;have S2:=Lib.hid s2;have HK:=Lib.hid hK
 clear hE s1 s2 hK hn
 obtain ⟨u,hu⟩:∃ u:Int,u = if zeroS (restF K x).2 = true then 1 else 2:=⟨_,rfl⟩
 rw [← hu]
 have HU:=Lib.hid hu
 clear hu
 go_enter Tryz.func64,Tryz.ntmps64
 go_wp2_with fail
 refine Calls.mono (ERest_any base be k t n v K p1 p2 c1 c2 x _ (HE.out.keep (HB.out _ _)) (S1.out.keep (HB.out _ _)) (S2.out.keep (HB.out _ _)) HK.out hk ht) ?_
 rintro e w3 ⟨q1,m1,g1,q2,m2,g2,l1,l2,rfl,o1,o2,hb⟩
 have B3:Hid (Below w.heap.size w w3):=bl (HB.out _ _) hb (by simp;omega)
 have L1:=Lib.hid (Sl.of_owns o1);have L2:=Lib.hid (Sl.of_owns o2)
 clear hb o1 o2 l1 l2 S1 S2 HE HB
 go_wp2_with fail
 refine use_w1 (fun W=>Below w3.heap.size w3 W∧W.heap[w3.heap.size]? = some (.cells #[.slice q1 m1 g1,.slice q2 m2 g2] 99 (0,0))) ⟨al (Below.refl _ _) (Nat.le_refl _),hnew rfl⟩ ?_
 rintro w4 ⟨b4,x4⟩
 refine Calls.mono (VZero_any q1 m1 g1 (restF K x).1 w4 (L1.out.keep b4)) ?_
 rintro e w' ⟨rfl,rfl⟩
 rw [HZ.out]
 have L24:=Lib.hid (L2.out.keep b4);have B4:=Lib.hid (bl B3.out b4 B3.out.size)
 obtain ⟨y0,y1⟩:=cells2 x4
 clear b4 x4
 go_wp2_with fail
 refine Calls.mono (VZero_any q2 m2 g2 (restF K x).2 w4 L24.out) ?_
 rintro e w' ⟨rfl,rfl⟩
 clear y0 y1
 cases hz:zeroS (restF K x).2 with
 | true =>
  go_wp2
  go_ret2
  have e1:=HU.out.trans (if_pos hz)
  exact ⟨by rw [e1];rfl,B4.out⟩
 | false =>
  go_wp2
  go_ret2
  have e1:=HU.out.trans (if_neg (by rw [hz];decide))
  exact ⟨by rw [e1];rfl,B4.out⟩
end Go.Proofs.YtccaiiigdfieoaaGreatDoor
namespace Go.Proofs.YtccaiiigdfieoaaGreatDoor
end Go.Proofs.YtccaiiigdfieoaaGreatDoor
namespace Go.Proofs.YtccaiiigdfieoaaGreatDoor
open Go.RowKit Go.By
def needS (l s:Int):Int:=if l = 0 then 1 else (l - 1) / s + 1
def fitS (l s:Int):Int:=if l < 0 then 2 else if s < 1∨65535 < s then 4 else if 4096 < needS l s then 5 else 0
def checkS (l s n:Int):Int:=if fitS l s = 0 then (if n = needS l s then 0 else 14) else fitS l s
def ofS (l s:Int) (d:Int):Value:=if fitS l s = 0 then .tuple #[.agg #[.int .i64 l,.int .i64 s,.int .i64 (needS l s),.int .u32 d],.int .i64 0] else .tuple #[.agg #[.int .i64 0,.int .i64 0,.int .i64 0,.int .u32 0],.int .i64 (fitS l s)]
theorem needS_pos {l s:Int} (hl:0≤l) (hs:1≤s):1≤needS l s∧(l≠0→needS l s≤l):=by
 unfold needS
 split
 ·omega
 ·rename_i h0
  have h1:0≤(l - 1) / s:=Int.ediv_nonneg (by omega) (by omega)
  have h2:(l - 1) / s≤l - 1:=Int.ediv_le_self _ (by omega)
  omega
theorem needS_spec {l s:Int} (hl:0 < l) (hs:1≤s):(needS l s - 1) * s < l∧l≤needS l s * s:=by
 unfold needS
 rw [if_neg (by omega)]
 have h:=Int.emod_add_mul_ediv (l - 1) s
 have h1:=Int.emod_nonneg (l - 1) (show s≠0 by omega)
 have h2:=Int.emod_lt_of_pos (l - 1) (show 0 < s by omega)
 generalize (l - 1) / s = q at *
 have e1:(q + 1 - 1) * s = s * q:=by rw [Int.mul_comm];congr 1;omega
 have e2:(q + 1) * s = s * q + s:=by rw [Int.add_mul,Int.mul_comm];omega
 omega
set_option maxHeartbeats 400000 in
theorem needed_any (l s:Int) (w:World) (hl:0≤l) (hl2:l≤9223372036854775807) (hs:1≤s) :
  Calls Tryz.prog 95 #[.int .i64 l,.int .i64 s] w fun e w'=>e = .returned (.int .i64 (needS l s))∧w = w':=by
 by_cases h0:l = 0
 ·subst h0
  go_enter Tryz.func95,Tryz.ntmps95
  go_wp2
  go_ret
  exact ⟨rfl,rfl⟩
 ·have hz:(l == 0) = false:=by simpa using h0
  have hs0:(s == 0) = false:=by simp;omega
  obtain ⟨hn,hn'⟩:=needS_pos hl hs
  have hn2:=hn' h0
  clear hn'
  have e0:needS l s = (l - 1) / s + 1:=if_neg h0
  have hw:wrap64 ((l - 1) / s + 1) = needS l s:=by
   rw [← e0];unfold wrap64
   generalize needS l s = y at *
   clear e0
   omega
  clear e0
  go_enter Tryz.func95,Tryz.ntmps95
  go_wp2
  go_ret
  exact ⟨by rw [hw];rfl,rfl⟩
set_option maxHeartbeats 400000 in
theorem fits_any (l s:Int) (w:World) (hl2:l≤9223372036854775807) :
  Calls Tryz.prog 94 #[.int .i64 l,.int .i64 s] w fun e w'=>e = .returned (.int .i64 (fitS l s))∧w = w':=by
 by_cases h0:l < 0
 ·have HR:Hid (fitS l s = 2):=if_pos h0
  go_enter Tryz.func94,Tryz.ntmps94
  go_wp2
  go_ret
  exact ⟨by rw [HR.out];rfl,rfl⟩
 ·by_cases h1:s < 1
  ·have HR:Hid (fitS l s = 4):=by unfold fitS;rw [Hid,if_neg h0,if_pos (Or.inl h1)]
   go_enter Tryz.func94,Tryz.ntmps94
   go_wp2
   go_ret
   exact ⟨by rw [HR.out];rfl,rfl⟩
  ·by_cases h2:65535 < s
   ·have HR:Hid (fitS l s = 4):=by unfold fitS;rw [Hid,if_neg h0,if_pos (Or.inr h2)]
    go_enter Tryz.func94,Tryz.ntmps94
    go_wp2
    go_ret
    exact ⟨by rw [HR.out];rfl,rfl⟩
   ·have HN:=Lib.hid (fun w=>needed_any l s w (by omega) hl2 (by omega))
    by_cases h3:4096 < needS l s
    ·have HR:Hid (fitS l s = 5):=by unfold fitS;rw [Hid,if_neg h0,if_neg (by omega),if_pos h3]
     go_enter Tryz.func94,Tryz.ntmps94
     go_wp2_with fail
     refine (HN.out _).mono ?_;rintro e w' ⟨rfl,rfl⟩
     go_wp2
     go_ret
     exact ⟨by rw [HR.out];rfl,rfl⟩
    ·have HR:Hid (fitS l s = 0):=by unfold fitS;rw [Hid,if_neg h0,if_neg (by omega),if_neg h3]
     go_enter Tryz.func94,Tryz.ntmps94
     go_wp2_with fail
     refine (HN.out _).mono ?_;rintro e w' ⟨rfl,rfl⟩
     go_wp2
     go_ret
     exact ⟨by rw [HR.out];rfl,rfl⟩
theorem fitS_cases (l s:Int):(fitS l s≠0∧(fitS l s = 2∨fitS l s = 4∨fitS l s = 5))∨(fitS l s = 0∧0≤l∧1≤s∧s≤65535∧needS l s≤4096):=by
 unfold fitS
 split
 ·simp
 ·split
  ·simp
  ·split
   ·simp
   ·right;omega
theorem cell4 (w:World) (a b c d:Value) (T:TypeId):∀ i:Nat,(w.alloc (.cells #[a,b,c,d] T)).cell? ⟨w.heap.size,i,none⟩ = #[a,b,c,d][i]?:=fun i=>cell_of_row _ _ _ _ _ _ (hnew rfl)
set_option maxRecDepth 100000 in
set_option maxHeartbeats 1000000 in
theorem Check_any (l s n d:Int) (w:World) (hl2:l≤9223372036854775807) :
  Calls Tryz.prog 79 #[.agg #[.int .i64 l,.int .i64 s,.int .i64 n,.int .u32 d]] w fun e w'=>e = .returned (.int .i64 (checkS l s n))∧Below w.heap.size w w':=by
 have HF:=Lib.hid (fun w=>fits_any l s w hl2)
 rcases fitS_cases l s with ⟨h0,h1⟩ | ⟨h0,h1,h2,h3,h4⟩
 ·have HR:Hid (checkS l s n = fitS l s):=if_neg h0
  have hb:(fitS l s != 0) = true:=by simpa using h0
  clear h1
  generalize fitS l s = f at *
  clear h0
  go_enter Tryz.func79,Tryz.ntmps79
  go_wp2_with fail
  refine (HF.out _).mono ?_;rintro e w' ⟨rfl,rfl⟩
  go_wp2
  go_ret
  exact ⟨by rw [HR.out];rfl,al (Below.refl _ _) (Nat.le_refl _)⟩
 ·rw [h0] at HF
  have HN:=Lib.hid (fun w=>needed_any l s w h1 hl2 h2)
  have HR:Hid (checkS l s n = if n = needS l s then 0 else 14):=by unfold checkS;rw [Hid,if_pos h0]
  generalize needS l s = k at *
  by_cases e:n = k
  ·subst e
   have hb:(n != n) = false:=by simp
   rw [if_pos rfl] at HR
   clear h0 h1 h2 h3 h4
   go_enter Tryz.func79,Tryz.ntmps79
   go_wp2_with fail
   refine (HF.out _).mono ?_;rintro e w' ⟨rfl,rfl⟩
   go_wp2
   have C0:=cell4 w (.int .i64 l) (.int .i64 s) (.int .i64 n) (.int .u32 d) 27 0
   have C1:=cell4 w (.int .i64 l) (.int .i64 s) (.int .i64 n) (.int .u32 d) 27 1
   have C2:=cell4 w (.int .i64 l) (.int .i64 s) (.int .i64 n) (.int .u32 d) 27 2
   go_quiet ((go_at_call 95;exact Calls.quiet_of_same ((HN.out _).mono fun e w' hh=>⟨hh.1,hh.2.symm⟩)))
   go_wp2
   go_ret
   exact ⟨by rw [HR.out];rfl,bdn (al (Below.refl _ _) (Nat.le_refl _))⟩
  ·have hb:(n != k) = true:=by simpa using e
   rw [if_neg e] at HR
   clear h0 h1 h2 h3 h4 e
   go_enter Tryz.func79,Tryz.ntmps79
   go_wp2_with fail
   refine (HF.out _).mono ?_;rintro e w' ⟨rfl,rfl⟩
   go_wp2
   have C0:=cell4 w (.int .i64 l) (.int .i64 s) (.int .i64 n) (.int .u32 d) 27 0
   have C1:=cell4 w (.int .i64 l) (.int .i64 s) (.int .i64 n) (.int .u32 d) 27 1
   have C2:=cell4 w (.int .i64 l) (.int .i64 s) (.int .i64 n) (.int .u32 d) 27 2
   go_quiet ((go_at_call 95;exact Calls.quiet_of_same ((HN.out _).mono fun e w' hh=>⟨hh.1,hh.2.symm⟩)))
   go_wp2
   go_ret
   exact ⟨by rw [HR.out];rfl,bdn (al (Below.refl _ _) (Nat.le_refl _))⟩
theorem results_ct {P:Program} {fn:Func} {p u:Tmp} {ty:TypeId} (h:fn.results = #[.cell p ty,.tmp u]) (tmps:Array Value) (w:World) (g:Nat) (t:TypeId) (cs:Array Value) (fr:Nat × Nat) (d:TypeDesc) (v:Value)
  (hp:tmps.getD p undef = .pointer (some ⟨g,0,none⟩)) (hg:w.heap[g]? = some (.cells cs t fr)) (hv:tmps.getD u undef = v)
  (hu:P.underlying ty = some d) (hd:(match d with | .struct _ | .array _ _=>true | _=>false) = true) (hi:(P.info? ty).map (·.size) = some cs.size) :
  (results fn tmps).run P w = .ok (.tuple #[.agg cs,v]) w:=by
 have hp':tmps[p]?.getD undef = .pointer (some ⟨g,0,none⟩):=by simpa using hp
 have hv':tmps[u]?.getD undef = v:=by simpa using hv
 simp [results,h,hp',hv',asAddr,run_loadVar_row w g t ty cs fr d hg hu hd hi]
theorem info_plan:(Tryz.prog.info? 27).map (·.size) = some 4:=by kernel_rfl
set_option maxRecDepth 100000 in
set_option maxHeartbeats 1000000 in
theorem POf_any (l s d:Int) (w:World) (hl2:l≤9223372036854775807) :
  Calls Tryz.prog 44 #[.int .i64 l,.int .i64 s,.int .u32 d] w fun e w'=>e = .returned (ofS l s d)∧Below w.heap.size w w':=by
 have HF:=Lib.hid (fun w=>fits_any l s w hl2)
 rcases fitS_cases l s with ⟨h0,h1⟩ | ⟨h0,h1,h2,h3,h4⟩
 ·have HR:Hid (ofS l s d = .tuple #[.agg #[.int .i64 0,.int .i64 0,.int .i64 0,.int .u32 0],.int .i64 (fitS l s)]):=if_neg h0
  have hb:(fitS l s != 0) = true:=by simpa using h0
  clear h1
  generalize fitS l s = f at *
  clear h0
  have hi:=info_plan
  go_enter Tryz.func44,Tryz.ntmps44
  go_wp2_with fail
  refine (HF.out _).mono ?_;rintro e w' ⟨rfl,rfl⟩
  go_wp2
  refine bodyPost_ret (results_ct rfl _ _ _ 27 #[.int .i64 0,.int .i64 0,.int .i64 0,.int .u32 0] (0,0) _ (.int .i64 f) rfl (hnew rfl) rfl Tryz.underlying27 rfl hi) rfl ⟨by rw [HR.out],al (Below.refl _ _) (Nat.le_refl _)⟩
 ·rw [h0] at HF
  have HN:=Lib.hid (fun w=>needed_any l s w h1 hl2 h2)
  have HR:Hid (ofS l s d = .tuple #[.agg #[.int .i64 l,.int .i64 s,.int .i64 (needS l s),.int .u32 d],.int .i64 0]):=if_pos h0
  generalize needS l s = k at *
  clear h0 h1 h2 h3 h4
  have hi:=info_plan
  go_enter Tryz.func44,Tryz.ntmps44
  go_wp2_with fail
  refine (HF.out _).mono ?_;rintro e w' ⟨rfl,rfl⟩
  go_wp2_with fail
  refine (HN.out _).mono ?_;rintro e w' ⟨rfl,rfl⟩
  go_wp2
  refine bodyPost_ret (results_ct rfl _ _ _ 27 #[.int .i64 l,.int .i64 s,.int .i64 k,.int .u32 d] (0,0) _ (.int .i64 0) rfl (hnew rfl) rfl Tryz.underlying27 rfl hi) rfl ⟨by rw [HR.out],al (Below.refl _ _) (Nat.le_refl _)⟩
end Go.Proofs.YtccaiiigdfieoaaGreatDoor
namespace Go.Proofs.YtccaiiigdfieoaaGreatDoor
open Go.RowKit Go.By
end Go.Proofs.YtccaiiigdfieoaaGreatDoor
namespace Go.By
open Go.RowKit
def tailB (ops:Array Oper) (m:Nat):Bool:=decide (m < ops.size) && ((List.range m).all fun i=>(List.range (m + 1)).any fun j=>decide (i < j) && match ops[j]? with
 | some o=>(preds o).contains i
 | none=>false) && (List.range ops.size).all fun j=>!decide (m < j) || match ops[j]? with
 | some o=>(preds o).contains (j - 1)
 | none=>false
theorem wpOp_of_list {P:Program} {ops:Array Oper} {Q:Exit→Act→World→Prop} {k:Nat} {a:Act} {w:World} {K:Act→World→Prop} (hk:k < ops.size) (h:wpList P ops Q (ops.toList.drop k) a w) (hK:∀ a w,wpList P ops Q (ops.toList.drop (k + 1)) a w→K a w):wpOp P ops Q k K a w:=by
 have e:ops.toList.drop k = ops[k] :: ops.toList.drop (k + 1):=by
  rw [List.drop_eq_getElem_cons (by simpa using hk)];simp
 rw [e] at h
 unfold wpOp
 rw [Array.getElem?_eq_getElem hk]
 show if Region.wanted ops[k] (yielded ops a.tmps) = true then _ else _
 unfold wpList at h
 split at h
 ·rename_i hw;rw [if_pos hw];exact h.imp (Oper.wp_mono hK) id
 ·rename_i hw;rw [if_neg hw];exact hK _ _ h
theorem getD_both {listed:Array Bool} {i:Nat} (h2:listed.getD i true = false):listed.getD i false≠true∧i < listed.size:=by
 rcases Nat.lt_or_ge i listed.size with h | h
 ·refine ⟨fun hx=>?_,h⟩
  simp [Array.getD_eq_getD_getElem?,h] at h2 hx;rw [h2] at hx;cases hx
 ·simp [Array.getD_eq_getD_getElem?,Array.getElem?_eq_none h] at h2
theorem wpAny_tail {P:Program} {ops:Array Oper} {Q:Exit→Act→World→Prop} {m:Nat} (hback:backB ops = true)
  (hchain:∀ j o,m < j→ops[j]? = some o→(preds o).contains (j - 1) = true) :
  ∀ (fuel k:Nat) (listed:Array Bool) (a:Act) (w:World),m≤k→unl ops.size listed≤fuel→(∀ j,j < k→j < ops.size→listed.getD j false = true∧listed.getD j true = true)→(∀ j,k≤j→j < ops.size→listed.getD j true = false) →
   wpList P ops Q (ops.toList.drop k) a w→wpAny P .any ops Q fuel listed a w:=by
 intro fuel
 induction fuel with
 | zero =>
  intro k listed a w hmk hu hlo hhi h
  rcases Nat.lt_or_ge k ops.size with hk | hk
  ·exfalso
   have h0:unl ops.size listed = 0:=by omega
   unfold unl at h0
   have:=List.countP_eq_zero.1 h0 k (List.mem_range.2 hk)
   simp [hhi k (Nat.le_refl _) hk] at this
  ·rw [List.drop_eq_nil_of_le (by simpa using hk)] at h
   exact wpAny_done _ (fun j hj=>(hlo j (by omega) hj).2) h
 | succ fuel ih =>
  intro k listed a w hmk hu hlo hhi h
  rcases Nat.lt_or_ge k ops.size with hk | hk
  ·refine ⟨fun hr=>?_,fun i hi=>?_⟩
   ·exfalso
    have:k ∈ Region.ready .any ops listed:=mem_ready.2 ⟨hk,hhi k (Nat.le_refl _) hk,_,Array.getElem?_eq_getElem hk,fun q hq=>by
     have hbk:=List.all_eq_true.1 hback k (List.mem_range.2 hk)
     rw [Array.getElem?_eq_getElem hk] at hbk
     have hkj:=of_decide_eq_true (List.all_eq_true.1 hbk q hq)
     exact (hlo q (by omega) (by omega)).1⟩
    rw [hr] at this;cases this
   ·obtain ⟨h1,h2,o,ho,h3⟩:=mem_ready.1 hi
    obtain ⟨hnl,his⟩:=getD_both h2
    have hki:k≤i:=by
     rcases Nat.lt_or_ge i k with hx | hx
     ·exact absurd (hlo i hx h1).1 hnl
     ·exact hx
    have hik:i = k:=by
     rcases Nat.eq_or_lt_of_le hki with hx | hx
     ·exact hx.symm
     ·exfalso
      have:=h3 (i - 1) (by simpa using hchain i o (by omega) ho)
      have h5:=hhi (i - 1) (by omega) (by omega)
      exact (getD_both h5).1 this
    subst hik
    have gset:∀ j (d:Bool),(listed.setIfInBounds i true).getD j d = if i = j then true else listed.getD j d:=by
     intro j d
     simp only [Array.getD_eq_getD_getElem?,Array.getElem?_setIfInBounds]
     by_cases e:i = j
     ·subst e;simp [his]
     ·simp [e]
    refine wpOp_of_list h1 h fun a' w' h'=>ih (i + 1) _ a' w' (by omega) (by have:=unl_set (n:=ops.size) h1 h2;omega) (fun j hj hjs=>?_) (fun j hj hjs=>?_) h'
    ·rw [gset,gset]
     by_cases e:i = j
     ·rw [if_pos e,if_pos e];exact ⟨rfl,rfl⟩
     ·rw [if_neg e,if_neg e];exact hlo j (by omega) hjs
    ·rw [gset,if_neg (by omega)];exact hhi j (by omega) hjs
  ·rw [List.drop_eq_nil_of_le (by simpa using hk)] at h
   exact wpAny_done _ (fun j hj=>(hlo j (by omega) hj).2) h
theorem wp_region_tail {P:Program} {ops:Array Oper} {Q:Exit→Act→World→Prop} {id:Nat} {a0:Act} {w0:World} (sh:Nat→Shp) (n m:Nat) (hn:a0.tmps.size = n) (hm:P.follows .mixedOrders = true) (hback:backB ops = true) (hdist:distB ops = true)
  (htail:tailB ops m = true) (hdsts:dstsB (ops.extract 0 m) n = true)
  (each:EachS P ops Q a0 w0.drew sh (ops.toList.take m) 0)
  (fin:∀ a w,Below w0.heap.size w0 w→a.tmps.size = a0.tmps.size→a.defers = a0.defers→(∀ j,j < m→InvS ops sh j (sl a) w)→(∀ t,(ops.toList.all fun o=>o.dst != some t) = true→sl a t = sl a0 t)→wpList P ops Q (ops.toList.drop m) a w) :
  (Code.region id ops true).wp P Q a0 w0:=by
 unfold tailB at htail
 simp only [Bool.and_eq_true,decide_eq_true_eq] at htail
 obtain ⟨⟨hm',htl⟩,hch⟩:=htail
 have hchain:∀ j o,m < j→ops[j]? = some o→(preds o).contains (j - 1) = true:=fun j o hj ho=>by
  have:=List.all_eq_true.1 hch j (List.mem_range.2 (Array.getElem?_eq_some_iff.1 ho).1)
  rw [ho] at this
  simpa [hj] using this
 have hpl:∀ i,i < m→∃ j o,i < j∧j≤m∧ops[j]? = some o∧i ∈ preds o:=fun i hi=>by
  obtain ⟨j,hj,h⟩:=List.any_eq_true.1 (List.all_eq_true.1 htl i (List.mem_range.2 hi))
  have hjm:=List.mem_range.1 hj
  rw [Bool.and_eq_true] at h
  obtain ⟨oj,hoj⟩:∃ oj,ops[j]? = some oj:=⟨_,Array.getElem?_eq_getElem (by omega)⟩
  have h2:=h.2
  rw [hoj] at h2
  exact ⟨j,oj,of_decide_eq_true h.1,by omega,hoj,by simpa using h2⟩
 have hE:=each_of (Q:=Q) (P:=P) (a0:=a0) (W0:=w0.drew) (sh:=sh) hn (ops.toList.take m) 0 (fun j o hj=>by
   rw [List.getElem?_take] at hj;split at hj
   ·simpa using hj
   ·cases hj) (by
   unfold dstsB at hdsts
   have e:(ops.extract 0 m).toList = ops.toList.take m:=by simp
   rw [e] at hdsts;exact hdsts) each
 have stepAt:∀ i o,i < m→ops[i]? = some o→StepOf P ops Q a0 w0.drew (fun W w=>Below W.heap.size W w) (fun _ w w'=>Below w.heap.size w w') (InvS ops sh) i o:=fun i o hi ho=>by
  have:=Each.get _ 0 hE i o (by rw [List.getElem?_take,if_pos hi];simpa using ho)
  rwa [Nat.zero_add] at this
 have stable:∀ i j oi oj (σ σ':Nat→Value) w w',i≠j→ops[i]? = some oi→ops[j]? = some oj→InvS ops sh j σ w→Below w.heap.size w w'→(∀ t,oi.dst≠some t→σ' t = σ t)→InvS ops sh j σ' w':=by
  intro i j oi oj σ σ' w w' hij hoi hoj hI hR hσ
  unfold InvS at hI ⊢
  cases hdj:dstOf ops j with
  | none=>trivial
  | some d =>
   rw [hdj] at hI
   show (sh j).ok (σ' d) w'
   have hne:oi.dst≠some d:=by
    intro e
    have hi':i < ops.size:=(Array.getElem?_eq_some_iff.1 hoi).1
    have hj':j < ops.size:=(Array.getElem?_eq_some_iff.1 hoj).1
    have:=List.all_eq_true.1 (List.all_eq_true.1 hdist i (List.mem_range.2 hi')) j (List.mem_range.2 hj')
    rw [hoi,hoj] at this
    have hdj':oj.dst = some d:=by simpa [dstOf,hoj] using hdj
    simp [e,hdj',hij] at this
   rw [hσ d hne]
   exact (sh j).keep _ _ _ hI hR
 refine wp_region_any hm ?_
 show wpAny P .any ops Q ops.size (Array.replicate ops.size false) a0 w0.drew
 have main:∀ (fuel:Nat) (listed:Array Bool) (a:Act) (w:World),unl ops.size listed≤fuel→listed.getD m true = false→Below w0.heap.size w0 w→a.tmps.size = a0.tmps.size→a.defers = a0.defers →
   (∀ j o,listed.getD j false = true→ops[j]? = some o→∀ k,k ∈ preds o→listed.getD k false = true) →
   (∀ j,j < ops.size→listed.getD j true = true→listed.getD j false = true) →
   (∀ j,j < m→listed.getD j false = true→InvS ops sh j (sl a) w) →
   (∀ t,(∀ j o,j < m→listed.getD j false = true→ops[j]? = some o→o.dst≠some t)→sl a t = sl a0 t)→wpAny P .any ops Q fuel listed a w:=by
  intro fuel
  induction fuel with
  | zero =>
   intro listed a w hu hlm
   exfalso
   have h0:unl ops.size listed = 0:=by omega
   unfold unl at h0
   have:=List.countP_eq_zero.1 h0 m (List.mem_range.2 hm')
   simp [hlm] at this
  | succ fuel ih =>
   intro listed a w hu hlm hEw hs hd hcl hlt hI ht
   have hup:∀ d j,j = m + d→j < ops.size→listed.getD j false = true→False:=by
    intro d
    induction d with
    | zero=>intro j e hj hl;rw [show j = m by omega] at hl;exact (getD_both hlm).1 hl
    | succ d ihd =>
     intro j e hj hl
     have hoj:ops[j]? = some ops[j]:=Array.getElem?_eq_getElem hj
     exact ihd (j - 1) (by omega) (by omega) (hcl j _ hl hoj (j - 1) (by simpa using hchain j _ (by omega) hoj))
   refine ⟨fun hr=>?_,fun i hi=>?_⟩
   ·exfalso
    have hall:∀ k j,j < k→j < ops.size→listed.getD j false = true:=by
     intro k
     induction k with
     | zero=>intro j hj;omega
     | succ k ihk =>
      intro j hj hjs
      refine hlt j hjs ?_
      cases hb:listed.getD j true with
      | true=>rfl
      | false =>
       exfalso
       have ho:ops[j]? = some ops[j]:=Array.getElem?_eq_getElem hjs
       have:j ∈ Region.ready .any ops listed:=mem_ready.2 ⟨hjs,hb,_,ho,fun q hq=>by
        have hbk:=List.all_eq_true.1 hback j (List.mem_range.2 hjs)
        rw [ho] at hbk
        have hkj:=of_decide_eq_true (List.all_eq_true.1 hbk q hq)
        exact ihk q (by omega) (by omega)⟩
       rw [hr] at this;cases this
    have hx:=hall (m + 1) m (by omega) hm'
    rcases Nat.lt_or_ge m listed.size with h | h
    ·simp [Array.getD_eq_getD_getElem?,h] at hlm hx;rw [hlm] at hx;cases hx
    ·simp [Array.getD_eq_getD_getElem?,Array.getElem?_eq_none h] at hx
   ·obtain ⟨h1,h2,o,ho,h3⟩:=mem_ready.1 hi
    have hnl:listed.getD i false≠true:=by
     intro hx
     rcases Nat.lt_or_ge i listed.size with h | h
     ·simp [Array.getD_eq_getD_getElem?,h] at h2 hx;rw [h2] at hx;cases hx
     ·simp [Array.getD_eq_getD_getElem?,Array.getElem?_eq_none h] at hx
    have his:i < listed.size:=by
     rcases Nat.lt_or_ge i listed.size with h | h
     ·exact h
     ·simp [Array.getD_eq_getD_getElem?,Array.getElem?_eq_none h] at h2
    have gset:∀ j (d:Bool),(listed.setIfInBounds i true).getD j d = if i = j then true else listed.getD j d:=by
     intro j d
     simp only [Array.getD_eq_getD_getElem?,Array.getElem?_setIfInBounds]
     by_cases e:i = j
     ·subst e;simp [his]
     ·simp [e]
    by_cases him:i = m
    ·subst him
     have hol:ops[i]? = some o:=ho
     have hdown:∀ d j,i - j≤d→j < i→listed.getD j false = true:=by
      intro d
      induction d with
      | zero=>intro j h4 h5;omega
      | succ d ihd =>
       intro j h4 h5
       obtain ⟨j2,o2,g1,g2,g3,g4⟩:=hpl j h5
       by_cases e:j2 = i
       ·subst e;rw [hol] at g3;cases g3;exact h3 j g4
       ·exact hcl j2 o2 (ihd j2 (by omega) (by omega)) g3 j g4
     have hdn:∀ j,j < i→listed.getD j false = true:=fun j hj=>hdown i j (by omega) hj
     have hf:=fin a w hEw hs hd (fun j hj=>hI j hj (hdn j hj)) (fun t htt=>ht t (fun j oj hj _ hoj=>by
      have:=List.all_eq_true.1 htt oj (by rw [Array.mem_toList_iff];exact Array.mem_of_getElem? hoj)
      simpa using this))
     refine wpOp_of_list h1 hf fun a' w' h'=>wpAny_tail (m:=i) hback hchain fuel (i + 1) _ a' w' (by omega) (by have:=unl_set (n:=ops.size) h1 h2;omega) (fun j hj hjs=>?_) (fun j hj hjs=>?_) h'
     ·rw [gset,gset]
      by_cases e:i = j
      ·rw [if_pos e,if_pos e];exact ⟨rfl,rfl⟩
      ·rw [if_neg e,if_neg e]
       have hjl:=hdn j (by omega)
       refine ⟨hjl,?_⟩
       cases hb:listed.getD j true with
       | true=>rfl
       | false=>exact absurd hjl (getD_both hb).1
     ·rw [gset,if_neg (by omega)]
      cases hb:listed.getD j true with
      | false=>rfl
      | true=>exact (hup (j - i) j (by omega) hjs (hlt j hjs hb)).elim
    ·have him':i < m:=by
      rcases Nat.lt_or_ge i m with hx | hx
      ·exact hx
      ·exact (hup (i - 1 - m) (i - 1) (by omega) (by omega) (h3 (i - 1) (by simpa using hchain i o (by omega) ho))).elim
     have hst:=stepAt i o him' ho
     have hst':=hst a w ⟨hEw.os,hEw.tape,hEw.output,hEw.size,hEw.block⟩ hs (fun k hk=>hI k (by
       have hbk:=List.all_eq_true.1 hback i (List.mem_range.2 h1)
       rw [ho] at hbk
       have:=of_decide_eq_true (List.all_eq_true.1 hbk k hk);omega) (h3 k hk)) (fun t hti=>by
      refine ht t (fun j oj hj hlj hoj hdj=>?_)
      have:=List.all_eq_true.1 hti j (List.mem_range.2 (by omega))
      rw [hoj] at this
      by_cases e:j = i
      ·subst e;exact hnl hlj
      ·simp [e,hdj] at this
       exact hnl (hcl j oj hlj hoj i this))
     have next:∀ (v:Value) (w':World),Below w.heap.size w w'→InvS ops sh i (sl (a.put o.dst v)) w'→wpAny P .any ops Q fuel (listed.setIfInBounds i true) (a.put o.dst v) w':=by
      intro v w' hR hIi
      refine ih _ _ _ (by have:=unl_set (n:=ops.size) h1 h2;omega) (by rw [gset,if_neg him];exact hlm) (hEw.trans (hR.mono hEw.size)) ((put_size _ _ _).trans hs) ((put_defers _ _ _).trans hd) ?_ ?_ ?_ ?_
      ·intro j oj hj hoj k hk
       rw [gset] at hj ⊢
       by_cases e:i = k
       ·rw [if_pos e]
       ·rw [if_neg e]
        by_cases e':i = j
        ·subst e';rw [ho] at hoj;cases hoj;exact h3 k hk
        ·rw [if_neg e'] at hj;exact hcl j oj hj hoj k hk
      ·intro j hj hl
       rw [gset] at hl ⊢
       by_cases e:i = j
       ·rw [if_pos e]
       ·rw [if_neg e] at hl ⊢;exact hlt j hj hl
      ·intro j hj hl
       rw [gset] at hl
       by_cases e:i = j
       ·subst e;exact hIi
       ·rw [if_neg e] at hl
        have hoj:ops[j]? = some ops[j]:=Array.getElem?_eq_getElem (by omega)
        exact stable i j o _ (sl a) _ w w' e ho hoj (hI j hj hl) hR (fun t h=>put_sl _ _ _ _ h)
      ·intro t htt
       have hdt:o.dst≠some t:=htt i o him' (by rw [gset,if_pos rfl]) ho
       rw [put_sl _ _ _ _ hdt]
       exact ht t (fun j oj hj hl hoj=>htt j oj hj (by rw [gset];split <;> simp [hl]) hoj)
     unfold wpOp
     rw [ho]
     show if Region.wanted o (yielded ops a.tmps) = true then _ else _
     split
     ·rename_i hw
      rw [if_pos hw] at hst'
      exact .inl (Oper.wp_mono (fun a' w' ⟨v,e,hR,hIi⟩=>by rw [e] at hIi ⊢;exact next v w' hR hIi) hst')
     ·rename_i hw
      rw [if_neg hw] at hst'
      exact next undef w hst'.1 hst'.2
 refine main ops.size _ a0 w0.drew ?_ ?_ ⟨rfl,rfl,rfl,Nat.le_refl _,fun _ _=>rfl⟩ rfl rfl ?_ ?_ ?_ ?_
 ·unfold unl;exact Nat.le_trans List.countP_le_length (by simp)
 ·simp [Array.getD_eq_getD_getElem?,Array.getElem?_replicate,hm']
 ·intro j o hj;simp [Array.getD_eq_getD_getElem?,Array.getElem?_replicate] at hj
  split at hj <;> simp at hj
 ·intro j hj hl;simp [Array.getD_eq_getD_getElem?,Array.getElem?_replicate,hj] at hl
 ·intro j hj hl;simp [Array.getD_eq_getD_getElem?,Array.getElem?_replicate,show j < ops.size by omega] at hl
 ·intro t _;rfl
end Go.By
namespace Go.By
def crcTab:List Nat:=[0x00000000,0x1DB71064,0x3B6E20C8,0x26D930AC,0x76DC4190,0x6B6B51F4,0x4DB26158,0x5005713C,0xEDB88320,0xF00F9344,0xD6D6A3E8,0xCB61B38C,0x9B64C2B0,0x86D3D2D4,0xA00AE278,0xBDBDF21C]
def crcHalf (r:Nat):Nat:=(r / 16) ^^^ (crcTab.getD (r % 16) 0)
def crcByte (r:Nat) (b:UInt8):Nat:=crcHalf (crcHalf (r ^^^ b.toNat))
def crcRun (r:Nat) (l:List UInt8):Nat:=l.foldl crcByte r
theorem crcRun_append (r:Nat) (a b:List UInt8):crcRun r (a ++ b) = crcRun (crcRun r a) b:=List.foldl_append ..
theorem crcTab_lt:∀ t:Fin 16,crcTab.getD t.val 0 < 2 ^ 32:=by decide
theorem crcHalf_lt {r:Nat} (h:r < 2 ^ 32):crcHalf r < 2 ^ 32:=by
 unfold crcHalf
 exact Nat.xor_lt_two_pow (by omega) (crcTab_lt ⟨r % 16,Nat.mod_lt _ (by omega)⟩)
theorem crcByte_lt {r:Nat} {b:UInt8} (h:r < 2 ^ 32):crcByte r b < 2 ^ 32:=crcHalf_lt (crcHalf_lt (Nat.xor_lt_two_pow h (Nat.lt_trans b.toNat_lt (by decide))))
theorem crcRun_lt:∀ {l:List UInt8} {r:Nat},r < 2 ^ 32→crcRun r l < 2 ^ 32
 | [],_,h=>h
 | b :: l,r,h=>crcRun_lt (l:=l) (crcByte_lt h)
def crcS (l:List UInt8):Nat:=4294967295 - crcRun 4294967295 l
end Go.By
namespace Go.By
def put4 (n:Nat):List UInt8:=[UInt8.ofNat n,UInt8.ofNat (n / 256),UInt8.ofNat (n / 65536),UInt8.ofNat (n / 16777216)]
def get4:List UInt8→Nat
 | [a,b,c,d]=>a.toNat + 256 * b.toNat + 65536 * c.toNat + 16777216 * d.toNat
 | _=>0
theorem put4_len (n:Nat):(put4 n).length = 4:=rfl
theorem get4_put4 {n:Nat} (h:n < 4294967296):get4 (put4 n) = n:=by
 show (UInt8.ofNat n).toNat + 256 * (UInt8.ofNat (n / 256)).toNat + 65536 * (UInt8.ofNat (n / 65536)).toNat + 16777216 * (UInt8.ofNat (n / 16777216)).toNat = n
 simp only [UInt8.toNat_ofNat']
 omega
theorem crcS_lt (l:List UInt8):crcS l < 4294967296:=by unfold crcS;omega
end Go.By
namespace Go.Proofs.YtccaiiigdfieoaaGreatDoor
open Go.RowKit Go.By
theorem u8_of (n:Nat):((n:Int) % 256) = ((UInt8.ofNat n).toNat:Int):=by
 rw [UInt8.toNat_ofNat'];omega
theorem put4_cells (n:Nat) (h:n < 4294967296):([.int .u8 ((n:Int) % 256),.int .u8 ((n:Int) / 256 % 256),.int .u8 ((n:Int) / 65536 % 256),.int .u8 ((n:Int) / 16777216)]:List Value) = (put4 n).map B8:=by
 have e0:=u8_of n
 have e1:=u8_of (n / 256)
 have e2:=u8_of (n / 65536)
 have e3:=u8_of (n / 16777216)
 have f3:((n / 16777216:Nat):Int) % 256 = (n:Int) / 16777216:=by omega
 rw [f3] at e3
 have f1:((n / 256:Nat):Int) = (n:Int) / 256:=by omega
 have f2:((n / 65536:Nat):Int) = (n:Int) / 65536:=by omega
 rw [f1] at e1
 rw [f2] at e2
 rw [e0,e1,e2,e3]
 rfl
set_option maxHeartbeats 1000000 in
theorem SPut_any (n:Nat) (h:n < 4294967296) (w:World) :
  Calls Tryz.prog 138 #[.int .u32 (n:Int)] w fun e w'=>∃ g,e = .returned (.slice (some ⟨g,0,none⟩) 4 4)∧w.heap.size≤g∧w'.heap[g]? = some (.cells ((put4 n).map B8).toArray 5 (0,0))∧Below w.heap.size w w':=by
 have e0:=put4_cells n h
 go_enter Tryz.func138,Tryz.ntmps138
 go_wp2
 rw [← e0]
 go_ret
 exact ⟨w.heap.size,rfl,Nat.le_refl _,hnew rfl,al (Below.refl _ _) (Nat.le_refl _)⟩
end Go.Proofs.YtccaiiigdfieoaaGreatDoor
