/- The contract of slices.Insert at rows: one more,in the middle,where there is no room. Rows of a system in memory: one more,by slices.Insert; one in the place of another. A region that draws its order,with a call in its midst that writes: shapes ahead of it,told values behind it,and a store last. The closure of a system's Put. The contract of a system's Put: a row more. The contract of vec.Unit. The contract of a system's Known. The contract of the reference's Same of layer 7. The example of chapter 7. The law's example of chapter 8; what is told of no system. A system's Rest and Put,where the sizes don't fit,or nothing is left. The contract of the reference's Put of chapter 8. The contract of the reference's Known of chapter 8. The law's Same and Fit of chapter 8. A system's Rows and Clone. A system's Clone. A system's Solve. What a system's Put leaves as it is; Put of an equation that fits,and the reference's,whatever comes of it. Plain laws of GridTells: rows and what they are joined; a unit's bytes. GridTells: the walk,no unit. The walk of the grid's Inverse. Plain laws of GridReckons: rows and their vectors,products,columns,the inverse. The contract of the reference's Mul. GridTells: the walk,no grid,a unit. GridTells: the walk,a grid,a unit. GridTells: the walk,whole. What the laws of grids carry along from call to call. The contract of the reference's without. The contract of the reference's Det. Plain laws of GridRanks: ranks of turned grids and products,determinants,inverses of inverses. Plain law of ElimSolves: equations that symbols solve. -/
import Derived.Test.YtccaiiigdfieoaaGreatDoorZm3
import Derived.OpenShut
namespace Go.Proofs.YtccaiiigdfieoaaGreatDoor
open Go.RowKit Go.By
theorem drew_setCell (w:World) (a:Addr) (v:Value):w.drew.setCell a v = (w.setCell a v).drew:=rfl
theorem drew_setCells (g:Nat):∀ (vs:List Value) (o:Nat) (w:World),w.drew.setCells g o vs = (w.setCells g o vs).drew
 | [],_,_=>rfl
 | v :: r,o,w=>by rw [World.setCells,World.setCells,drew_setCell,drew_setCells g r]
theorem zero_len (a b:Value) (k:Nat):(Builtin.zeroCells #[a,b] k).size = k * 2:=by simp [Builtin.zeroCells]
set_option maxRecDepth 100000 in
set_option maxHeartbeats 4000000 in
theorem InsGrow_any (base g n c i vb:Nat) (us:List (Value × Value)) (u:Value × Value) (w:World) (h:w.ownsRow base 99 2 (.slice (some ⟨g,0,none⟩) n c) n (fl2 us)) (hi:i < n) (hroom:c < n + 1) (hu:u.1.oneCell' = true∧u.2.oneCell' = true)
  (h1:∀ x,x ∈ us→x.1.oneCell' = true∧x.2.oneCell' = true) (hn:n≤65536) (hv:w.heap[vb]? = some (.cells #[u.1,u.2] 99 (0,0))) (hb:base≤w.heap.size) :
  Calls Tryz.prog 120 #[.slice (some ⟨g,0,none⟩) n c,.int .i64 i,.slice (some ⟨vb,0,none⟩) 1 1] w fun e w' =>
   ∃ v',e = .returned v'∧w'.ownsRow base 99 2 v' (n + 1) (fl2 (us.take i ++ u :: us.drop i))∧w.grownBy w' none∧v'.ownBlock = some w.heap.size:=by
 obtain ⟨i0,hi0,hz0,hzs,hzb⟩:=info_parts info_vrow
 have hul:us.length = n:=by have:=h.1;rw [fl2_length] at this;omega
 obtain ⟨cur,hg,hh,hnc,hcm,hcl,hct⟩:=owns2_some h
 have hsz:(Tryz.prog.info? 99).map (·.size) = some 2:=by rw [hi0];simp [hzs]
 have hbw:g < w.heap.size:=blk_lt hh
 have hvw:vb < w.heap.size:=blk_lt hv
 have hat:∀ j x,(fl2 us)[j]? = some x→w.cell? ⟨g,j,none⟩ = some x:=fun j x hj=>by
  rw [cell_arr hh]
  rw [← hct,List.getElem?_take] at hj
  split at hj
  ·exact hj
  ·cases hj
 have hva:∀ j x,[u.1,u.2][j]? = some x→w.cell? ⟨vb,j,none⟩ = some x:=fun j x hj=>by
  rw [cell_of_row _ _ j _ _ _ hv]
  match j with
  | 0=>simpa using hj
  | 1=>simpa using hj
  | j + 2=>simp at hj
 have hold:(Builtin.firstCells i0.size i (.slice (some ⟨g,0,none⟩) i c)).run Tryz.prog w.drew = .ok (fl2 (us.take i)).toArray w.drew:=by
  rw [hzs]
  exact run_firstCells_some w.drew 2 i ⟨g,0,none⟩ i c (fl2 (us.take i)) (by rw [fl2_length,List.length_take];omega) (fun j v hj=>by
   rw [Addr.add_lit,Nat.zero_add]
   rw [fl2_take,List.getElem?_take] at hj
   split at hj
   ·exact hat j v hj
   ·cases hj)
 have hik:i + (n + 1 - i) = n + 1:=by omega
 have hkk:(n:Int) + 1 - (i:Int) = ((n + 1 - i:Nat):Int):=by omega
 obtain ⟨G,hG⟩:∃ G,G = grownCap w (n + 1) c 99:=⟨_,rfl⟩
 obtain ⟨ROW,hROW⟩:∃ ROW:Array Value,ROW = (fl2 (us.take i)).toArray ++ Builtin.zeroCells (Value.agg #[.slice none 0 0,.slice none 0 0]).cells (n + 1 - i) ++ Builtin.zeroCells (Value.agg #[.slice none 0 0,.slice none 0 0]).cells (G - (n + 1)):=⟨_,rfl⟩
 have hrz:∀ ty,(Builtin.append_ #[44,3] ty #[.slice (some ⟨g,0,none⟩) i c,.int .i64 ((n:Int) + 1 - (i:Int))]).run Tryz.prog w = .ok (.slice (some ⟨w.heap.size,0,none⟩) (n + 1) G) (w.drew.alloc (.cells ROW 99)):=fun ty=>by
  have h:=Lib.run_append_grow_zeros w 44 3 ty 99 i0 _ .i64 .i64 Tryz.underlying44 Tryz.underlying3 hi0 hz0 (some ⟨g,0,none⟩) i c (fl2 (us.take i)) hold (n + 1 - i) (by omega) (by omega) (by omega) (by omega) (by rw [hzb];omega) (by rw [hzb,hik];exact growslice_fits hroom (by omega))
  rw [hik,← hG] at h
  rw [hkk,hROW]
  exact h
 have hGn:n + 1≤G:=by rw [hG];exact grownCap_ge w _ _ _
 have hGm:G≤maxLen:=by rw [hG];exact grownCap_le_maxLen w (n + 1) c 99 (by unfold maxLen;omega)
 have hz2:(Value.agg #[.slice none 0 0,.slice none 0 0]).cells = #[.slice none 0 0,.slice none 0 0]:=rfl
 have hRl:ROW.size = G * 2:=by
  rw [hROW,hz2,Array.size_append,Array.size_append,zero_len,zero_len,List.size_toArray,fl2_length,List.length_take];omega
 obtain ⟨W1,hW1⟩:∃ W1,W1 = w.drew.alloc (.cells ROW 99):=⟨_,rfl⟩
 have hh1:W1.heap[w.heap.size]? = some (.cells (ROW.toList).toArray 99 (0,0)):=by rw [hW1];exact hnew rfl
 have hN:∀ j,j < (n + 1) * 2→(W1.cell? ⟨w.heap.size,j,none⟩).isSome = true:=fun j hj=>by
  rw [cell_arr hh1,List.getElem?_eq_getElem (by simp;omega)];rfl
 have hNf:∀ j,W1.frozen? ⟨w.heap.size,j,none⟩ = false:=fun j=>frozen_arr hh1 j
 have hOb:∀ b j v,b < w.heap.size→w.cell? ⟨b,j,none⟩ = some v→W1.cell? ⟨b,j,none⟩ = some v:=fun b j v hb h=>by rw [hW1,World.cell?_alloc_past (w:=w.drew) _ b j hb];exact h
 have hcpA:∀ (W:World),(∀ x,W.cell? x = W1.cell? x)→(∀ x,W.frozen? x = W1.frozen? x)→∀ ty dc,(Builtin.copy_ #[44,44] ty #[.slice (some ⟨w.heap.size,i * 2,none⟩) (n + 1 - i) dc,.slice (some ⟨vb,0,none⟩) 1 1]).run Tryz.prog W = .ok (goInt 1) (W.setCells w.heap.size (i * 2) [u.1,u.2]):=fun W hWc hWf ty dc=>by
  have hmin:Nat.min 1 (n + 1 - i) = 1:=by simp only [Nat.min_def];split <;> omega
  have:=run_copy_two (P:=Tryz.prog) W 44 44 ty 99 w.heap.size (i * 2) (n + 1 - i) dc ⟨vb,0,none⟩ 1 1 [u.1,u.2] Tryz.underlying44 hsz (by rw [hmin];rfl)
   (fun j x hj=>by rw [Addr.add_lit,Nat.zero_add,hWc];exact hOb vb j x hvw (hva j x hj))
   (fun j hj=>by rw [hWc];exact hN _ (by simp at hj;omega)) (fun j hj=>by rw [hWf];exact hNf _) (by intro x hx;simp at hx;rcases hx with rfl | rfl;exact hu.1;exact hu.2)
  rw [hmin] at this
  exact this
 have hdl:(fl2 (us.drop i)).length = (n - i) * 2:=by rw [fl2_length,List.length_drop,hul]
 have hcpB:∀ (W:World),(∀ x,W.cell? x = (W1.setCells w.heap.size (i * 2) [u.1,u.2]).cell? x)→(∀ x,W.frozen? x = (W1.setCells w.heap.size (i * 2) [u.1,u.2]).frozen? x)→∀ ty dc sc,
   (Builtin.copy_ #[44,44] ty #[.slice (some ⟨w.heap.size,(i + 1) * 2,none⟩) (n + 1 - (i + 1)) dc,.slice (some ⟨g,i * 2,none⟩) (n - i) sc]).run Tryz.prog W = .ok (goInt ((n - i:Nat):Int)) (W.setCells w.heap.size ((i + 1) * 2) (fl2 (us.drop i))):=fun W hWc hWf ty dc sc=>by
  have hmin:Nat.min (n - i) (n + 1 - (i + 1)) = n - i:=by simp only [Nat.min_def];split <;> omega
  have:=run_copy_two (P:=Tryz.prog) W 44 44 ty 99 w.heap.size ((i + 1) * 2) (n + 1 - (i + 1)) dc ⟨g,i * 2,none⟩ (n - i) sc (fl2 (us.drop i)) Tryz.underlying44 hsz (by rw [hmin];exact hdl)
   (fun j v hj=>by
    rw [Addr.add_lit,hWc,World.cell?_setCells_out _ _ _ _ _ (fun h _=>absurd h (by show g≠w.heap.size;omega))]
    refine hOb g _ v hbw (hat _ v ?_)
    rw [fl2_drop,List.getElem?_drop] at hj;exact hj)
   (fun j hj=>by rw [hWc];exact isSome_setCells _ _ _ _ (fun t ht=>hN _ (by simp at ht;omega)) _ (hN _ (by omega)))
   (fun j hj=>by rw [hWf,World.frozen?_setCells];exact hNf _) (fl2_one fun x hx=>h1 x (List.mem_of_mem_drop hx))
  rw [hmin] at this
  exact this
 have hFIN:Hid (∀ W:World,W.heap = ((W1.setCells w.heap.size (i * 2) [u.1,u.2]).setCells w.heap.size ((i + 1) * 2) (fl2 (us.drop i))).heap→W.ownsRow base 99 2 (.slice (some ⟨w.heap.size,0,none⟩) (n + 1) G) (n + 1) (fl2 (us.take i ++ u :: us.drop i))):=by
  intro W hW
  have k1:=heap_setCells [u.1,u.2] (i * 2) W1 ROW.toList hh1 (by simp;omega)
  have k2:=heap_setCells (fl2 (us.drop i)) ((i + 1) * 2) _ _ k1 (by
   simp only [List.length_append,List.length_take,List.length_drop,List.length_cons,List.length_nil,Array.length_toList,hRl,hdl];omega)
  refine owns2_shut hb (by rw [hW];exact k2) hGn hGm ?_ ?_
  ·simp only [List.length_append,List.length_take,List.length_drop,List.length_cons,List.length_nil,Array.length_toList,hRl,hdl];omega
  ·have hR:ROW.toList.take (i * 2) = fl2 (us.take i):=by
    rw [hROW,Array.toList_append,Array.toList_append,List.append_assoc,List.toList_toArray]
    exact List.take_left' (by rw [fl2_length,List.length_take];omega)
   have e1:(ROW.toList.take (i * 2) ++ [u.1,u.2] ++ ROW.toList.drop (i * 2 + [u.1,u.2].length)).take ((i + 1) * 2) = fl2 (us.take i) ++ [u.1,u.2]:=by
    rw [List.take_left' (by simp only [List.length_append,List.length_take,List.length_cons,List.length_nil,Array.length_toList,hRl];omega),hR]
   rw [e1,List.take_left' (by
    simp only [List.length_append,List.length_cons,List.length_nil,fl2_length,List.length_take,List.length_drop,hul];omega),fl2_append,fl2_cons]
   simp
 have hGR:Hid (w.grownBy W1 none):=by rw [hW1];exact ⟨rfl,rfl,rfl,by simp,fun b hb _=>by show (w.heap.push _)[b]? = _;rw [Array.getElem?_push_lt hb,Array.getElem?_eq_getElem hb]⟩
 have hGi:¬ (G = i):=by omega
 have hGim:¬ (G = i + 1):=by omega
 have hci:¬ (c = i):=by omega
 subst hW1
 have hE1:∀ x,((w.alloc (.cells ROW 99)).drew).cell? x = (w.drew.alloc (.cells ROW 99)).cell? x:=fun x=>rfl
 have hE2:∀ x,((w.alloc (.cells ROW 99)).drew).frozen? x = (w.drew.alloc (.cells ROW 99)).frozen? x:=fun x=>rfl
 have hF1:∀ x,(((w.alloc (.cells ROW 99)).drew.setCells w.heap.size (i * 2) [u.1,u.2]).drew).cell? x = ((w.drew.alloc (.cells ROW 99)).setCells w.heap.size (i * 2) [u.1,u.2]).cell? x:=fun x=>rfl
 have hF2:∀ x,(((w.alloc (.cells ROW 99)).drew.setCells w.heap.size (i * 2) [u.1,u.2]).drew).frozen? x = ((w.drew.alloc (.cells ROW 99)).setCells w.heap.size (i * 2) [u.1,u.2]).frozen? x:=fun x=>rfl
 have hw1:IntKind.i64.wrap ((i:Int) + 1) = (i:Int) + 1:=by rw [IntKind.wrap_i64];omega
 have hw2:IntKind.i64.wrap ((n:Int) + 1) = (n:Int) + 1:=by rw [IntKind.wrap_i64];omega
 have hw3:IntKind.i64.wrap ((n:Int) + 1 - (i:Int)) = (n:Int) + 1 - (i:Int):=by rw [IntKind.wrap_i64];omega
 have hb1:(0:Int)≤(i:Int) + 1:=by omega
 have hin:i≤n:=by omega
 have htn:((i:Int) + 1).toNat = i + 1:=by omega
 have hb3:(i:Int)≤(n:Int):=by omega
 have hz1:((i:Int) == (n:Int)) = false:=by simp;omega
 have hz3:(c:Int) < (n:Int) + 1:=by omega
 unfold maxLen at hcm hGm
 have HA:=Lib.hid hcpA;have HB:=Lib.hid hcpB;have HZ:=Lib.hid hrz
 clear hkk hik hold hROW hG hRl hh hct hcl hv hu h1 hat hva hN hNf hOb hh1 hcpA hcpB hrz hdl hul h
 have mixed:Tryz.prog.follows .mixedOrders = true:=by kernel_rfl
 go_enter Tryz.func120,Tryz.ntmps120
 have hcA:=HA.out _ hE1 hE2 3 (G - i)
 go_wp2_with (at_builtin;refine Lib.wpList_append_run _ rfl _ _ _ _ rfl _ _ rfl rfl _ _ (HZ.out _) ?_)
 go_region_law_o (refine step_copy_runI rfl _ _ 44 44 rfl (.slice (some ⟨w.heap.size,(i + 1) * 2,none⟩) (n + 1 - (i + 1)) (G - (i + 1))) (.slice (some ⟨g,i * 2,none⟩) (n - i) (c - i)) (by simp [Act.eval,Act.put]) (by simp [Act.eval,Act.put]) (HB.out _ hF1 hF2 3 (G - (i + 1)) (c - i)) ?_)
 clear hcA
 go_wp2
 go_ret
 have hdr:(((w.alloc (.cells ROW 99)).drew.setCells w.heap.size (i * 2) [u.1,u.2]).drew.setCells w.heap.size ((i + 1) * 2) (fl2 (us.drop i))).heap = (((w.drew.alloc (.cells ROW 99)).setCells w.heap.size (i * 2) [u.1,u.2]).setCells w.heap.size ((i + 1) * 2) (fl2 (us.drop i))).heap:=by
  have e:(w.alloc (.cells ROW 99)).drew = w.drew.alloc (.cells ROW 99):=rfl
  rw [e,drew_setCells];rfl
 refine ⟨_,rfl,hFIN.out _ hdr,?_⟩
 obtain ⟨a1,a2,a3,a4,a5⟩:=hGR.out
 obtain ⟨s1,s2,s3,s4,s5⟩:=grown_trans (grown_trans (grownBy_setCells w.heap.size [u.1,u.2] (i * 2) (w.alloc (.cells ROW 99)).drew) (grownBy_drew _ _)) (grownBy_setCells w.heap.size (fl2 (us.drop i)) ((i + 1) * 2) _)
 exact ⟨⟨s1.trans a1,s2.trans a2,s3.trans a3,Nat.le_trans a4 s4,fun b hb hne=>(s5 b (Nat.lt_of_lt_of_le hb a4) (fun e=>by injection e;omega)).trans (a5 b hb hne)⟩,by simp [Value.ownBlock]⟩
end Go.Proofs.YtccaiiigdfieoaaGreatDoor
namespace Go.By
open Go.RowKit
section
variable {T2 T1:TypeId} {w w':World} {base n:Nat} {v:Value} {K:List (List UInt8 × List UInt8)}
theorem Bw.one {xs:List UInt8} (h:Bw T1 w base v xs):v.oneCell' = true:=by obtain ⟨q,m,c,rfl,_⟩:=h;rfl
theorem RwL.mid {v':Value} {i:Nat} {u:Value × Value} {k:List UInt8 × List UInt8} {vs:List (Value × Value)} (a:vs.length = n) (b:K.length = n) (o:w.ownsRow base T2 2 v n (fl2 vs))
  (r:∀ (j:Nat) (u:Value × Value),vs[j]? = some u→∃ k,K[j]? = some k∧Bw T1 w base u.1 k.1∧Bw T1 w base u.2 k.2) (hT:T1≠T2) (h1:Bw T1 w base u.1 k.1) (h2:Bw T1 w base u.2 k.2) (hi:i≤n)
  (ho:w'.ownsRow base T2 2 v' (n + 1) (fl2 (vs.take i ++ u :: vs.drop i))) (hg:w.grownBy w' v.ownBlock):RwL T2 T1 w' base v' (n + 1) (K.take i ++ k :: K.drop i):=by
 refine ⟨vs.take i ++ u :: vs.drop i,by simp [a];omega,by simp [b];omega,ho,?_⟩
 intro j x hj
 have lv:(vs.take i).length = i:=by rw [List.length_take];omega
 have lk:(K.take i).length = i:=by rw [List.length_take];omega
 by_cases hji:j < i
 ·rw [List.getElem?_append_left (by omega),List.getElem?_take,if_pos hji] at hj
  obtain ⟨k',hk,g1,g2⟩:=r j x hj
  exact ⟨k',by rw [List.getElem?_append_left (by omega),List.getElem?_take,if_pos hji];exact hk,g1.grown hT o hg,g2.grown hT o hg⟩
 ·rw [List.getElem?_append_right (by omega),lv] at hj
  by_cases hje:j = i
  ·subst hje
   rw [Nat.sub_self] at hj
   have:u = x:=by simpa using hj
   subst this
   exact ⟨k,by rw [List.getElem?_append_right (by omega),lk,Nat.sub_self];rfl,h1.grown hT o hg,h2.grown hT o hg⟩
  ·rw [show j - i = (j - 1 - i) + 1 by omega,List.getElem?_cons_succ,List.getElem?_drop,show i + (j - 1 - i) = j - 1 by omega] at hj
   obtain ⟨k',hk,g1,g2⟩:=r (j - 1) x hj
   exact ⟨k',by rw [List.getElem?_append_right (by omega),lk,show j - i = (j - 1 - i) + 1 by omega,List.getElem?_cons_succ,List.getElem?_drop,show i + (j - 1 - i) = j - 1 by omega];exact hk,g1.grown hT o hg,g2.grown hT o hg⟩
theorem fl2_set (us:List (Value × Value)):∀ (i:Nat) (u:Value × Value),fl2 (us.set i u) = ((fl2 us).set (i * 2) u.1).set (i * 2 + 1) u.2:=by
 induction us with
 | nil=>intro i u;simp [fl2]
 | cons x us ih =>
  intro i u
  cases i with
  | zero=>rfl
  | succ i =>
   rw [List.set_cons_succ,fl2_cons,fl2_cons,ih,show (i + 1) * 2 = i * 2 + 1 + 1 by omega]
   rfl
theorem RwL.put {g c i:Nat} {u1 u2:Value} {k:List UInt8 × List UInt8} (h:RwL T2 T1 w base (.slice (some ⟨g,0,none⟩) n c) n K) (hT:T1≠T2) (hi:i < n) (h1:Bw T1 w base u1 k.1) (h2:Bw T1 w base u2 k.2) :
  RwL T2 T1 ((w.setCell ⟨g,i * 2,none⟩ u1).setCell ⟨g,i * 2 + 1,none⟩ u2) base (.slice (some ⟨g,0,none⟩) n c) n (K.set i k):=by
 obtain ⟨vs,a,b,o,r⟩:=h
 have hg:w.grownBy ((w.setCell ⟨g,i * 2,none⟩ u1).setCell ⟨g,i * 2 + 1,none⟩ u2) (Value.slice (some ⟨g,0,none⟩) n c).ownBlock:=by
  have:=grown_trans (grownBy_setCell w g (i * 2) u1) (grownBy_setCell (w.setCell ⟨g,i * 2,none⟩ u1) g (i * 2 + 1) u2)
  simpa [Value.ownBlock] using this
 refine ⟨vs.set i (u1,u2),by simp [a],by simp [b],?_,?_⟩
 ·refine ⟨by rw [fl2_length,List.length_set,a],.inr ?_⟩
  rcases o.2 with ⟨hv,_⟩ | ⟨g',cap,cur,hv,hb,hh,e1,e2,e3,e4⟩
  ·simp at hv
  ·obtain ⟨rfl,rfl⟩:g = g'∧c = cap:=by simpa using hv
   refine ⟨g,c,_,rfl,hb,hss (hss hh),e1,e2,by simp [e3],?_⟩
   rw [fl2_set,← e4,Array.toList_setIfInBounds,Array.toList_setIfInBounds,List.take_set,List.take_set]
 ·intro j x hj
  rw [List.getElem?_set] at hj
  by_cases e:i = j
  ·subst e
   rw [if_pos rfl,if_pos (by omega)] at hj
   cases hj
   exact ⟨k,by rw [List.getElem?_set,if_pos rfl,if_pos (by omega)],h1.grown hT o hg,h2.grown hT o hg⟩
  ·rw [if_neg e] at hj
   obtain ⟨k',hk,g1,g2⟩:=r j x hj
   exact ⟨k',by rw [List.getElem?_set,if_neg e];exact hk,g1.grown hT o hg,g2.grown hT o hg⟩
end
end Go.By
namespace Go.Proofs.YtccaiiigdfieoaaGreatDoor
open Go.RowKit Go.By
theorem InsRow_any (base n i vb:Nat) (v u1 u2:Value) (K:List Rw) (k:Rw) (w:World) (h:RwL 99 5 w base v n K) (hi:i≤n) (hn:n≤65536) (hb:base≤w.heap.size)
  (hv:w.heap[vb]? = some (.cells #[u1,u2] 99 (0,0))) (hvb:v.ownBlock≠some vb) (h1:Bw 5 w base u1 k.1) (h2:Bw 5 w base u2 k.2) :
  Calls Tryz.prog 120 #[v,.int .i64 i,.slice (some ⟨vb,0,none⟩) 1 1] w fun e w' =>
   ∃ v',e = .returned v'∧RwL 99 5 w' base v' (n + 1) (K.take i ++ k :: K.drop i)∧w.grownBy w' v.ownBlock∧(v'.ownBlock = v.ownBlock∨v'.ownBlock = some w.heap.size):=by
 obtain ⟨vs,a,b,o,r⟩:=h
 have hu:u1.oneCell' = true∧u2.oneCell' = true:=⟨h1.one,h2.one⟩
 have hus:∀ x,x ∈ vs→x.1.oneCell' = true∧x.2.oneCell' = true:=fun x hx=>by
  obtain ⟨j,hj,rfl⟩:=List.getElem_of_mem hx
  obtain ⟨k',-,g1,g2⟩:=r j _ (List.getElem?_eq_getElem hj)
  exact ⟨g1.one,g2.one⟩
 by_cases hin:i = n
 ·subst hin
  refine (InsEnd_any base i vb v vs (u1,u2) w o hb hu hn hv).mono ?_
  rintro e w' ⟨v',rfl,ho,hg,hbk⟩
  refine ⟨v',rfl,RwL.mid (u:=(u1,u2)) a b o r (by decide) h1 h2 hi ?_ hg,hg,hbk⟩
  rw [List.take_of_length_le (by omega),List.drop_eq_nil_of_le (by omega)];exact ho
 ·obtain ⟨q,c,rfl⟩:=owns_shape o
  obtain ⟨g,rfl,-⟩:∃ g,q = some ⟨g,0,none⟩∧True:=by
   rcases o.2 with ⟨hv,_⟩ | ⟨g,cap,cur,hv,_⟩
   ·simp at hv;omega
   ·simp at hv;exact ⟨g,hv.1,trivial⟩
  have hgv:vb≠g:=fun e=>hvb (by simp [Value.ownBlock,e])
  by_cases hroom:n + 1≤c
  ·refine (InsMid_any base g n c i vb vs (u1,u2) w o (by omega) hroom hus hu hv hgv).mono ?_
   rintro e w' ⟨rfl,ho,hg⟩
   have hg2:w.grownBy w' (Value.slice (some ⟨g,0,none⟩) n c).ownBlock:=by simpa [Value.ownBlock] using hg
   exact ⟨_,rfl,RwL.mid (u:=(u1,u2)) a b o r (by decide) h1 h2 hi ho hg2,hg2,.inl (by simp [Value.ownBlock])⟩
  ·refine (InsGrow_any base g n c i vb vs (u1,u2) w o (by omega) (by omega) hu hus hn hv hb).mono ?_
   rintro e w' ⟨v',rfl,ho,⟨g1,g2,g3,g4,g5⟩,hbk⟩
   have hg2:w.grownBy w' (Value.slice (some ⟨g,0,none⟩) n c).ownBlock:=⟨g1,g2,g3,g4,fun b hb _=>g5 b hb (by simp)⟩
   exact ⟨v',rfl,RwL.mid (u:=(u1,u2)) a b o r (by decide) h1 h2 hi ho hg2,hg2,.inr hbk⟩
end Go.Proofs.YtccaiiigdfieoaaGreatDoor
namespace Go.By
open Go.RowKit
def LV (ops:Array Oper) (lv:Nat→Option Value) (k:Nat) (σ:Nat→Value):Prop:=∀ u d,lv k = some u→dstOf ops k = some d→σ d = u
def midB (ops:Array Oper) (n m s ds:Nat):Bool:=decide (ops.size = m + 1) && decide (s < m) && decide (ds < n) && (match ops[m]? with
 | some o=>o.guard.isNone && o.dst.isNone
 | none=>false) && (match ops[s]? with
 | some o=>o.guard.isNone && o.dst == some ds
 | none=>false) && ((List.range m).all fun i=>match ops[i]? with
 | some o=>o.guard.isNone && match o.dst with
  | some d=>decide (d < n)
  | none=>false
 | none=>false) && (List.range m).all fun i=>(List.range (m + 1)).any fun j=>decide (i < j) && match ops[j]? with
 | some o=>(preds o).contains i
 | none=>false
theorem wp_region_mid {P:Program} {ops:Array Oper} {Q:Exit→Act→World→Prop} {id:Nat} {a0:Act} {w0:World} (sh:Nat→Shp) (lv:Nat→Option Value) (n m s ds:Nat) (P1:Value→World→Prop) (hn:a0.tmps.size = n) (hm:P.follows .mixedOrders = true) (hback:backB ops = true) (hdist:distB ops = true)
  (hmid:midB ops n m s ds = true) (hlv:∀ j u,lv j = some u→sh j = Shp.val u) (os:Oper) (hos:ops[s]? = some os)
  (eachA:∀ i o,i < m→i≠s→ops[i]? = some o→(preds o).contains s = false→StepS P ops Q a0 w0.drew sh i o)
  (stepS:∀ a w,Below w0.heap.size w0 w→a.tmps.size = a0.tmps.size→(∀ k,k ∈ preds os→InvS ops sh k (sl a) w)→os.wp P a w (fun a' w'=>∃ v,a' = a.put (some ds) v∧P1 v w') Q)
  (eachB:∀ i o,i < m→i≠s→ops[i]? = some o→(preds os).contains i = false→∀ a w v,P1 v w→a.tmps.size = a0.tmps.size→sl a ds = v→(∀ k,k ∈ preds o→k≠s→LV ops lv k (sl a))→(∀ t,initAt ops i t = true→sl a t = sl a0 t)→∃ u,lv i = some u∧(execOp a.eval o).run P w = .ok (.value u) w)
  (fin:∀ a w v o,ops[m]? = some o→P1 v w→a.tmps.size = a0.tmps.size→a.defers = a0.defers→sl a ds = v→(∀ j,j < m→j≠s→LV ops lv j (sl a))→(∀ t,(ops.toList.all fun o=>o.dst != some t) = true→sl a t = sl a0 t)→o.wp P a w (fun a' w'=>Q .normal a' w') Q) :
  (Code.region id ops true).wp P Q a0 w0:=by
 unfold midB at hmid
 simp only [Bool.and_eq_true,decide_eq_true_eq] at hmid
 obtain ⟨⟨⟨⟨⟨⟨hsz,hsm⟩,hdsn⟩,hl2⟩,hs2⟩,hall2⟩,hpl2⟩:=hmid
 have hm':m < ops.size:=by omega
 obtain ⟨ol,hol⟩:∃ ol,ops[m]? = some ol:=⟨_,Array.getElem?_eq_getElem hm'⟩
 rw [hol] at hl2
 simp only [Bool.and_eq_true] at hl2
 have hguard:ol.guard = none:=by cases hg:ol.guard <;> simp [hg] at hl2 ⊢
 rw [hos] at hs2
 simp only [Bool.and_eq_true,beq_iff_eq] at hs2
 have hgs:os.guard = none:=by cases hg:os.guard <;> simp [hg] at hs2 ⊢
 have hds:os.dst = some ds:=hs2.2
 have hops:∀ i o,i < m→ops[i]? = some o→o.guard = none∧∃ d,o.dst = some d∧d < n:=fun i o hi ho=>by
  have:=List.all_eq_true.1 hall2 i (List.mem_range.2 hi)
  rw [ho] at this
  simp only [Bool.and_eq_true] at this
  refine ⟨by cases hg:o.guard <;> simp [hg] at this ⊢,?_⟩
  cases hd:o.dst with
  | none=>have h2:=this.2;rw [hd] at h2;simp at h2
  | some d=>have h2:=this.2;rw [hd] at h2;exact ⟨d,rfl,by simpa using h2⟩
 have hpl:∀ i,i < m→∃ (j:Nat) (o:Oper),i < j∧j≤m∧ops[j]? = some o∧i ∈ preds o:=fun i hi=>by
  obtain ⟨j,hj,h⟩:=List.any_eq_true.1 (List.all_eq_true.1 hpl2 i (List.mem_range.2 hi))
  have hjm:=List.mem_range.1 hj
  rw [Bool.and_eq_true] at h
  obtain ⟨oj,hoj⟩:∃ oj,ops[j]? = some oj:=⟨_,Array.getElem?_eq_getElem (by omega)⟩
  have h2:=h.2
  rw [hoj] at h2
  exact ⟨j,oj,of_decide_eq_true h.1,by omega,hoj,by simpa using h2⟩
 have hne:∀ (i j:Nat) (oi oj:Oper) (d:Nat),i≠j→ops[i]? = some oi→ops[j]? = some oj→oj.dst = some d→oi.dst≠some d:=by
  intro i j oi oj d hij hoi hoj hdj e
  have hi':i < ops.size:=(Array.getElem?_eq_some_iff.1 hoi).1
  have hj':j < ops.size:=(Array.getElem?_eq_some_iff.1 hoj).1
  have:=List.all_eq_true.1 (List.all_eq_true.1 hdist i (List.mem_range.2 hi')) j (List.mem_range.2 hj')
  rw [hoi,hoj] at this
  simp [e,hdj,hij] at this
 have dst_of:∀ {j:Nat} {oj:Oper} {d:Nat},ops[j]? = some oj→dstOf ops j = some d→oj.dst = some d:=fun {_ _ _} hoj h=>by simpa [dstOf,hoj] using h
 refine wp_region_any hm ?_
 show wpAny P .any ops Q ops.size (Array.replicate ops.size false) a0 w0.drew
 have main:∀ (fuel:Nat) (listed:Array Bool) (a:Act) (w:World),unl ops.size listed≤fuel→listed.getD m true = false→a.tmps.size = a0.tmps.size→a.defers = a0.defers →
   (listed.getD s false = false→Below w0.heap.size w0 w∧∀ j,j < m→listed.getD j false = true→InvS ops sh j (sl a) w) →
   (listed.getD s false = true→P1 (sl a ds) w∧∀ j,j < m→j≠s→listed.getD j false = true→LV ops lv j (sl a)) →
   (∀ j o,listed.getD j false = true→ops[j]? = some o→∀ k,k ∈ preds o→listed.getD k false = true) →
   (∀ j,j < ops.size→listed.getD j true = true→listed.getD j false = true) →
   (∀ t,(∀ j o,j < m→listed.getD j false = true→ops[j]? = some o→o.dst≠some t)→sl a t = sl a0 t)→wpAny P .any ops Q fuel listed a w:=by
  intro fuel
  induction fuel with
  | zero =>
   intro listed a w hu hlm
   exfalso
   have h0:unl ops.size listed = 0:=by omega
   unfold unl at h0
   have:=List.countP_eq_zero.1 h0 m (List.mem_range.2 hm')
   simp [hlm] at this
  | succ fuel ih =>
   intro listed a w hu hlm hs hd hA hB hcl hlt ht
   refine ⟨fun hr=>?_,fun i hi=>?_⟩
   ·exfalso
    have hall:∀ k j,j < k→j < ops.size→listed.getD j false = true:=by
     intro k
     induction k with
     | zero=>intro j hj;omega
     | succ k ihk =>
      intro j hj hjs
      refine hlt j hjs ?_
      cases hb:listed.getD j true with
      | true=>rfl
      | false =>
       exfalso
       have ho:ops[j]? = some ops[j]:=Array.getElem?_eq_getElem hjs
       have:j ∈ Region.ready .any ops listed:=mem_ready.2 ⟨hjs,hb,_,ho,fun q hq=>by
        have hbk:=List.all_eq_true.1 hback j (List.mem_range.2 hjs)
        rw [ho] at hbk
        have hkj:=of_decide_eq_true (List.all_eq_true.1 hbk q hq)
        exact ihk q (by omega) (by omega)⟩
       rw [hr] at this;cases this
    exact (getD_tf hlm).1 (hall (m + 1) m (by omega) hm')
   ·obtain ⟨h1,h2,o,ho,h3⟩:=mem_ready.1 hi
    obtain ⟨hnl,his⟩:=getD_tf h2
    have gset:∀ j (d:Bool),(listed.setIfInBounds i true).getD j d = if i = j then true else listed.getD j d:=by
     intro j d
     simp only [Array.getD_eq_getD_getElem?,Array.getElem?_setIfInBounds]
     by_cases e:i = j
     ·subst e;simp [his]
     ·simp [e]
    by_cases him:i = m
    ·subst him
     rw [hol] at ho;cases ho
     have hdown:∀ d j,i - j≤d→j < i→listed.getD j false = true:=by
      intro d
      induction d with
      | zero=>intro j h4 h5;omega
      | succ d ihd =>
       intro j h4 h5
       obtain ⟨j2,o2,g1,g2,g3,g4⟩:=hpl j h5
       by_cases e:j2 = i
       ·subst e;rw [hol] at g3;cases g3;exact h3 j g4
       ·exact hcl j2 o2 (ihd j2 (by omega) (by omega)) g3 j g4
     have hdn:∀ j,j < i→listed.getD j false = true:=fun j hj=>hdown i j (by omega) hj
     obtain ⟨hP1,hLV⟩:=hB (hdn s hsm)
     have hf:=fin a w _ ol hol hP1 hs hd rfl (fun j hj hjs=>hLV j hj hjs (hdn j hj)) (fun t htt=>ht t (fun j oj hj _ hoj=>by
      have:=List.all_eq_true.1 htt oj (by rw [Array.mem_toList_iff];exact Array.mem_of_getElem? hoj)
      simpa using this))
     unfold wpOp
     rw [hol]
     show if Region.wanted ol (yielded ops a.tmps) = true then _ else _
     rw [if_pos (by simp [Region.wanted,hguard])]
     refine .inl (Oper.wp_mono (fun a' w' hq=>wpAny_done _ (fun j hj=>?_) hq) hf)
     rw [gset]
     by_cases e2:i = j
     ·rw [if_pos e2]
     ·rw [if_neg e2];exact getD_ft (hdn j (by omega))
    ·have him':i < m:=by omega
     have hpm:∀ k,k ∈ preds o→k < m:=fun k hk=>by
      have hbk:=List.all_eq_true.1 hback i (List.mem_range.2 h1)
      rw [ho] at hbk
      have:=of_decide_eq_true (List.all_eq_true.1 hbk k hk);omega
     obtain ⟨hg,d,hdd,hdn⟩:=hops i o him' ho
     have hda:d < a.tmps.size:=by rw [hs,hn];exact hdn
     have next:∀ (v:Value) (w':World),
       ((listed.setIfInBounds i true).getD s false = false→Below w0.heap.size w0 w'∧∀ j,j < m→(listed.setIfInBounds i true).getD j false = true→InvS ops sh j (sl (a.put o.dst v)) w') →
       ((listed.setIfInBounds i true).getD s false = true→P1 (sl (a.put o.dst v) ds) w'∧∀ j,j < m→j≠s→(listed.setIfInBounds i true).getD j false = true→LV ops lv j (sl (a.put o.dst v))) →
       wpAny P .any ops Q fuel (listed.setIfInBounds i true) (a.put o.dst v) w':=by
      intro v w' gA gB
      refine ih _ _ _ (by have:=unl_set (n:=ops.size) h1 h2;omega) (by rw [gset,if_neg him];exact hlm) ((put_size _ _ _).trans hs) ((put_defers _ _ _).trans hd) gA gB ?_ ?_ ?_
      ·intro j oj hj hoj k hk
       rw [gset] at hj ⊢
       by_cases e:i = k
       ·rw [if_pos e]
       ·rw [if_neg e]
        by_cases e':i = j
        ·subst e';rw [ho] at hoj;cases hoj;exact h3 k hk
        ·rw [if_neg e'] at hj;exact hcl j oj hj hoj k hk
      ·intro j hj hl
       rw [gset] at hl ⊢
       by_cases e:i = j
       ·rw [if_pos e]
       ·rw [if_neg e] at hl ⊢;exact hlt j hj hl
      ·intro t htt
       have hdt:o.dst≠some t:=htt i o him' (by rw [gset,if_pos rfl]) ho
       rw [put_sl _ _ _ _ hdt]
       exact ht t (fun j oj hj hl hoj=>htt j oj hj (by rw [gset];split <;> simp [hl]) hoj)
     have hti:∀ t,initAt ops i t = true→sl a t = sl a0 t:=fun t hti=>by
      refine ht t (fun j oj hj hlj hoj hdj=>?_)
      have:=List.all_eq_true.1 hti j (List.mem_range.2 (by omega))
      rw [hoj] at this
      by_cases e:j = i
      ·subst e;exact hnl hlj
      ·simp [e,hdj] at this
       exact hnl (hcl j oj hlj hoj i this)
     unfold wpOp
     rw [ho]
     show if Region.wanted o (yielded ops a.tmps) = true then _ else _
     rw [if_pos (by simp [Region.wanted,hg])]
     left
     by_cases hes:i = s
     ·subst hes
      rw [hos] at ho;cases ho
      have hsl:listed.getD i false = false:=by cases h:listed.getD i false <;> simp_all
      obtain ⟨hbw,hI⟩:=hA hsl
      refine Oper.wp_mono ?_ (stepS a w hbw hs (fun k hk=>hI k (hpm k hk) (h3 k hk)))
      rintro a' w' ⟨v,rfl,hP⟩
      have ed:a.put (some ds) v = a.put os.dst v:=by rw [hds]
      rw [ed]
      refine next v w' (fun h=>?_) (fun _=>⟨?_,fun j hj hjs hl=>?_⟩)
      ·rw [gset,if_pos rfl] at h;cases h
      ·rw [hds,put_same _ _ _ (by rw [hs,hn];exact hdsn)];exact hP
      ·rw [gset,if_neg (fun e=>hjs e.symm)] at hl
       intro u d' hu hd'
       obtain ⟨oj,hoj⟩:∃ oj,ops[j]? = some oj:=⟨_,Array.getElem?_eq_getElem (by omega)⟩
       have hdj:=dst_of hoj hd'
       rw [put_sl _ _ _ _ (hne i j os oj d' (fun e=>hjs e.symm) hos hoj hdj)]
       have:=hI j hj hl
       unfold InvS at this
       rw [hd',hlv j u hu] at this
       exact this
     ·cases hsl:listed.getD s false with
      | false =>
       obtain ⟨hbw,hI⟩:=hA hsl
       have hns:(preds o).contains s = false:=by
        cases hc:(preds o).contains s with
        | false=>rfl
        | true=>have:=h3 s (by simpa using hc);rw [hsl] at this;cases this
       have hst:=eachA i o him' hes ho hns a w ⟨hbw.os,hbw.tape,hbw.output,hbw.size,hbw.block⟩ hs (fun k hk=>hI k (hpm k hk) (h3 k hk)) hti
       rw [if_pos (by simp [Region.wanted,hg])] at hst
       refine Oper.wp_mono ?_ hst
       rintro a' w' ⟨v,rfl,hb,hok⟩
       refine next v w' (fun _=>⟨hbw.trans (hb.mono hbw.size),fun j hj hl=>?_⟩) (fun h=>?_)
       ·rw [gset] at hl
        unfold InvS
        by_cases e:i = j
        ·subst e
         have:dstOf ops i = some d:=by simp [dstOf,ho,hdd]
         rw [this,hdd]
         show (sh i).ok (sl (a.put (some d) v) d) w'
         rw [put_same _ _ _ hda];exact hok
        ·rw [if_neg e] at hl
         have hIj:=hI j hj hl
         unfold InvS at hIj
         obtain ⟨oj,hoj⟩:∃ oj,ops[j]? = some oj:=⟨_,Array.getElem?_eq_getElem (by omega)⟩
         cases hdj:dstOf ops j with
         | none=>trivial
         | some d' =>
          rw [hdj] at hIj
          show (sh j).ok (sl (a.put o.dst v) d') w'
          rw [put_sl _ _ _ _ (hne i j o oj d' e ho hoj (dst_of hoj hdj))]
          exact (sh j).keep _ _ _ hIj hb
       ·rw [gset,if_neg hes,hsl] at h;cases h
      | true =>
       obtain ⟨hP1,hLV⟩:=hB hsl
       have hns:(preds os).contains i = false:=by
        cases hc:(preds os).contains i with
        | false=>rfl
        | true=>exact absurd (hcl s os hsl hos i (by simpa using hc)) hnl
       obtain ⟨u,hu,hrun⟩:=eachB i o him' hes ho hns a w _ hP1 hs rfl (fun k hk hks=>hLV k (hpm k hk) hks (h3 k hk)) hti
       refine wp_val u hrun (next u w (fun h=>?_) (fun _=>⟨?_,fun j hj hjs hl=>?_⟩))
       ·rw [gset,if_neg hes,hsl] at h;cases h
       ·rw [put_sl _ _ _ _ (hne i s o os ds hes ho hos hds)];exact hP1
       ·rw [gset] at hl
        intro u' d' hu' hd'
        by_cases e:i = j
        ·subst e
         rw [hu] at hu';cases hu'
         have:dstOf ops i = some d:=by simp [dstOf,ho,hdd]
         rw [this] at hd';cases hd'
         rw [hdd,put_same _ _ _ hda]
        ·rw [if_neg e] at hl
         obtain ⟨oj,hoj⟩:∃ oj,ops[j]? = some oj:=⟨_,Array.getElem?_eq_getElem (by omega)⟩
         rw [put_sl _ _ _ _ (hne i j o oj d' e ho hoj (dst_of hoj hd'))]
         exact hLV j hj hjs hl u' d' hu' hd'
 have rep:∀ j,(Array.replicate ops.size false).getD j false = false:=fun j=>by
  simp [Array.getD_eq_getD_getElem?,Array.getElem?_replicate];split <;> rfl
 refine main ops.size _ a0 w0.drew ?_ ?_ rfl rfl (fun _=>⟨⟨rfl,rfl,rfl,Nat.le_refl _,fun _ _=>rfl⟩,fun j _ hl=>?_⟩) (fun h=>?_) ?_ ?_ ?_
 ·unfold unl;exact Nat.le_trans List.countP_le_length (by simp)
 ·simp [Array.getD_eq_getD_getElem?,Array.getElem?_replicate,hm']
 ·rw [rep] at hl;cases hl
 ·rw [rep] at h;cases h
 ·intro j o hj;rw [rep] at hj;cases hj
 ·intro j hj hl;simp [Array.getD_eq_getD_getElem?,Array.getElem?_replicate,hj] at hl
 ·intro t _;rfl
end Go.By
namespace Go.Proofs.YtccaiiigdfieoaaGreatDoor
open Go.RowKit Go.By
theorem enters_behind:Enters Tryz.prog 118:=enters_of Tryz.func118 (by kernel_rfl) rfl
set_option maxRecDepth 100000 in
set_option maxHeartbeats 4000000 in
theorem Behind_any (base be k t n:Nat) (v:Value) (K:List Rw) (b2 b8 i:Nat) (at_:Int) (y:Rw) (w:World) (hE:Elm w base be k t v n K) (h2:w.cell? ⟨b2,0,none⟩ = some (.pointer (some ⟨be,0,none⟩))) (h8:w.cell? ⟨b8,0,none⟩ = some (.int .i64 at_)) (hi:i < n) (hy:K[i]? = some y) :
  Calls Tryz.prog 118 (#[.int .i64 i] ++ #[.pointer (some ⟨b2,0,none⟩),.pointer (some ⟨b8,0,none⟩)]) w fun e w'=>e = .returned (.bool (decide (at_ < leadS y.1)))∧Below w.heap.size w w':=by
 obtain ⟨q,c,rfl⟩:=hE.rows.shape
 obtain ⟨g,kk,q1,m1,c1,q2,m2,c2,rfl,e1,e2,hkk,t1,t2⟩:=hE.rows.at hi
 have hyk:kk = y:=by have h:=hkk.out;rw [hy] at h;cases h;rfl
 subst hyk
 obtain ⟨f0,f1,f2⟩:=cells3 hE.box
 have T1:=Lib.hid t1
 have hin:(i:Int) < (n:Int):=by omega
 clear hE t1 t2 hkk hy e2
 go_enter Tryz.func118,Tryz.ntmps118
 go_wp2
 refine wp_region_shapes (fun ix=>([.val (.pointer (some ⟨be,0,none⟩)),.val (.pointer (some ⟨be,0,none⟩)),.val (.pointer (some ⟨be,2,none⟩)),.val (.slice (some ⟨g,0,none⟩) n c),.val (.int .i64 i),.val (.pointer (some ⟨g,i * 2,none⟩)),.val (.pointer (some ⟨g,i * 2,none⟩)),.val (.slice q1 m1 c1),.val (.int .i64 (leadS kk.1)),.val (.int .i64 at_),.val (.bool (decide (at_ < leadS kk.1))),.val (.bool (decide (at_ < leadS kk.1)))][ix]?).getD (.any)) 16 rfl (by kernel_rfl) (by decide) (by decide) (by decide) ?_ ?_
 ·refine ⟨?_,?_,?_,?_,?_,?_,?_,?_,?_,?_,?_,?_,trivial⟩
  ·intro a W hb0 hs hp hi;have hb:=undrew hb0;clear hb0
   have tt:sl a 1 = .pointer (some ⟨b2,0,none⟩):=hi 1 (by decide)
   have dd0:=(hb.cell (p:=⟨b2,0,none⟩) (lt_of_cell h2)).trans h2
   refine ite_y rfl (wp_val (.pointer (some ⟨be,0,none⟩)) ?_ ?_)
   ·simp only [execOp,eval_tmp,tt];simp [go_sem,dd0]
   ·exact ⟨_,rfl,Below.refl _ _,rfl⟩
  ·intro a W hb0 hs hp hi;have hb:=undrew hb0;clear hb0
   have tt:sl a 5 = .pointer (some ⟨be,0,none⟩):=hp 0 (by decide)
   refine ite_y rfl (wp_val (.pointer (some ⟨be,0,none⟩)) ?_ ?_)
   ·simp only [execOp,eval_tmp,tt];simp [go_sem]
   ·exact ⟨_,rfl,Below.refl _ _,rfl⟩
  ·intro a W hb0 hs hp hi;have hb:=undrew hb0;clear hb0
   have t6:sl a 6 = .pointer (some ⟨be,0,none⟩):=hp 1 (by decide)
   refine ite_y rfl (wp_val (.pointer (some ⟨be,2,none⟩)) ?_ ?_)
   ·simp only [execOp,eval_tmp,eval_const,t6];simp [go_sem]
   ·exact ⟨_,rfl,Below.refl _ _,rfl⟩
  ·intro a W hb0 hs hp hi;have hb:=undrew hb0;clear hb0
   have tt:sl a 7 = .pointer (some ⟨be,2,none⟩):=hp 2 (by decide)
   have dd:=(hb.cell (p:=⟨be,2,none⟩) (lt_of_cell f2)).trans f2
   refine ite_y rfl (wp_val (.slice (some ⟨g,0,none⟩) n c) ?_ ?_)
   ·simp only [execOp,eval_tmp,tt];simp [go_sem,dd]
   ·exact ⟨_,rfl,Below.refl _ _,rfl⟩
  ·intro a W hb0 hs hp hi;have hb:=undrew hb0;clear hb0
   have t0:sl a 0 = .int .i64 i:=hi 0 (by decide)
   exact ite_y rfl (wp_val (sl a 0) rfl ⟨_,rfl,Below.refl _ _,t0⟩)
  ·intro a W hb0 hs hp hi;have hb:=undrew hb0;clear hb0
   have t8:sl a 8 = .slice (some ⟨g,0,none⟩) n c:=hp 3 (by decide)
   have t9:sl a 9 = .int .i64 i:=hp 4 (by decide)
   refine ite_y rfl (wp_val (.pointer (some ⟨g,i * 2,none⟩)) ?_ ?_)
   ·simp only [execOp,eval_tmp,eval_const,t8,t9];simp [go_sem,hin,hi]
   ·exact ⟨_,rfl,Below.refl _ _,rfl⟩
  ·intro a W hb0 hs hp hi;have hb:=undrew hb0;clear hb0
   have t10:sl a 10 = .pointer (some ⟨g,i * 2,none⟩):=hp 5 (by decide)
   refine ite_y rfl (wp_val (.pointer (some ⟨g,i * 2,none⟩)) ?_ ?_)
   ·simp only [execOp,eval_tmp,eval_const,t10];simp [go_sem]
   ·exact ⟨_,rfl,Below.refl _ _,rfl⟩
  ·intro a W hb0 hs hp hi;have hb:=undrew hb0;clear hb0
   have tt:sl a 11 = .pointer (some ⟨g,i * 2,none⟩):=hp 6 (by decide)
   have dd0:=(hb.cell (p:=⟨g,i * 2,none⟩) (lt_of_cell e1)).trans e1
   refine ite_y rfl (wp_val (.slice q1 m1 c1) ?_ ?_)
   ·simp only [execOp,eval_tmp,tt];simp [go_sem,dd0]
   ·exact ⟨_,rfl,Below.refl _ _,rfl⟩
  ·intro a W hb0 hs hp hi;have hb:=undrew hb0;clear hb0
   have t12:sl a 12 = .slice q1 m1 c1:=hp 7 (by decide)
   refine ite_y rfl (wp_enter 115 #[.slice q1 m1 c1] ?_ (Lead_any q1 m1 c1 kk.1 W (T1.out.keep hb)) ?_)
   ·simp only [execOp,resolve,List.map_toArray,List.map,eval_tmp,eval_func,eval_const,t12];simp [go_sem]
   ·rintro e W' ⟨rfl,rfl⟩;exact ⟨_,rfl,_,rfl,Below.refl _ _,rfl⟩
  ·intro a W hb0 hs hp hi;have hb:=undrew hb0;clear hb0
   have tt:sl a 2 = .pointer (some ⟨b8,0,none⟩):=hi 2 (by decide)
   have dd0:=(hb.cell (p:=⟨b8,0,none⟩) (lt_of_cell h8)).trans h8
   refine ite_y rfl (wp_val (.int .i64 at_) ?_ ?_)
   ·simp only [execOp,eval_tmp,tt];simp [go_sem,dd0]
   ·exact ⟨_,rfl,Below.refl _ _,rfl⟩
  ·intro a W hb0 hs hp hi;have hb:=undrew hb0;clear hb0
   have t13:sl a 13 = .int .i64 (leadS kk.1):=hp 8 (by decide)
   have t14:sl a 14 = .int .i64 at_:=hp 9 (by decide)
   refine ite_y rfl (wp_val (.bool (decide (at_ < leadS kk.1))) ?_ ?_)
   ·simp only [execOp,eval_tmp,eval_const,t13,t14];simp [go_sem]
   ·exact ⟨_,rfl,Below.refl _ _,rfl⟩
  ·intro a W hb0 hs hp hi;have hb:=undrew hb0;clear hb0
   have t15:sl a 15 = .bool (decide (at_ < leadS kk.1)):=hp 10 (by decide)
   exact ite_y rfl (wp_val (sl a 15) rfl ⟨_,rfl,Below.refl _ _,t15⟩)
 intro a w2 hb hs hd hI ht
 have ha:=act_is [5,6,7,8,9,10,11,12,13,14,15,4] hs hd ht (by decide)
 have t4:sl a 4 = .bool (decide (at_ < leadS kk.1)):=hI 11 (by decide)
 simp only [List.foldl,t4] at ha
 generalize sl a 5 = u5 at ha
 generalize sl a 6 = u6 at ha
 generalize sl a 7 = u7 at ha
 generalize sl a 8 = u8 at ha
 generalize sl a 9 = u9 at ha
 generalize sl a 10 = u10 at ha
 generalize sl a 11 = u11 at ha
 generalize sl a 12 = u12 at ha
 generalize sl a 13 = u13 at ha
 generalize sl a 14 = u14 at ha
 generalize sl a 15 = u15 at ha
 simp only [Act.put,List.setIfInBounds_toArray,List.set_cons_zero,List.set_cons_succ] at ha
 rw [ha]
 clear ha hI ht
 clear f0 f1 f2 e1 h2 h8
 have HB:=Lib.hid hb
 clear hb
 go_wp2
 go_ret
 exact ⟨rfl,HB.out⟩
end Go.Proofs.YtccaiiigdfieoaaGreatDoor
namespace Go.By
open Go.RowKit
structure Chg (w w':World) (be:Nat) (v:Value):Prop where
 os:w'.os = w.os
 tape:w'.tape = w.tape
 output:w'.output = w.output
 size:w.heap.size≤w'.heap.size
 block:∀ b,b < w.heap.size→b≠be→v.ownBlock≠some b→w'.heap[b]? = w.heap[b]?
theorem Chg.of {w w':World} (be:Nat) (v:Value) (h:Below w.heap.size w w'):Chg w w' be v:=⟨h.os,h.tape,h.output,h.size,fun b hb _ _=>h.block b hb⟩
theorem Chg.below {w a b:World} {be:Nat} {v:Value} (h:Chg w a be v) (g:Below a.heap.size a b):Chg w b be v:=⟨g.os.trans h.os,g.tape.trans h.tape,g.output.trans h.output,Nat.le_trans h.size g.size,fun k hk h1 h2=>(g.block k (Nat.lt_of_lt_of_le hk h.size)).trans (h.block k hk h1 h2)⟩
theorem Chg.grown {w a b:World} {be:Nat} {v:Value} (h:Chg w a be v) (g:a.grownBy b v.ownBlock):Chg w b be v:=⟨g.os.trans h.os,g.tape.trans h.tape,g.output.trans h.output,Nat.le_trans h.size g.size,fun k hk h1 h2=>(g.block k (Nat.lt_of_lt_of_le hk h.size) (fun e=>h2 e.symm)).trans (h.block k hk h1 h2)⟩
theorem Chg.box {w a:World} {be:Nat} {v:Value} (h:Chg w a be v) (o:Nat) (u:Value):Chg w (a.setCell ⟨be,o,none⟩ u) be v:=⟨h.os,h.tape,h.output,by simpa using h.size,fun k hk h1 h2=>(Below.heap_setCell _ _ _ _ h1).trans (h.block k hk h1 h2)⟩
theorem take_while {α:Type} (p:α→Bool):∀ (M:List α) (r:Nat),r≤M.length→(∀ j x,j < r→M[j]? = some x→p x = true)→(∀ x,M[r]? = some x→p x = false)→M.takeWhile p = M.take r∧M.dropWhile p = M.drop r
 | [],r,h,_,_=>by simp at h;subst h;exact ⟨rfl,rfl⟩
 | a :: M,0,_,_,h2=>by
  have:=h2 a rfl
  rw [List.takeWhile_cons,List.dropWhile_cons,this];exact ⟨rfl,rfl⟩
 | a :: M,r + 1,h,h1,h2=>by
  have:=h1 0 a (by omega) rfl
  obtain ⟨e1,e2⟩:=take_while p M r (by simpa using h) (fun j x hj hx=>h1 (j + 1) x (by omega) (by simpa using hx)) (fun x hx=>h2 x (by simpa using hx))
  rw [List.takeWhile_cons,List.dropWhile_cons,this,if_pos rfl,if_pos rfl,e1,e2];exact ⟨rfl,rfl⟩
theorem RwL.ne_box {T2 T1 TX g n base:Nat} {w:World} {v:Value} {K:List (List UInt8 × List UInt8)} {cs:Array Value} {fr:Nat × Nat} (h:RwL T2 T1 w base v n K) (hX:w.heap[g]? = some (.cells cs TX fr)) (hT:T2≠TX):v.ownBlock≠some g:=by
 obtain ⟨vs,a,b,o,r⟩:=h
 intro e
 rcases o.2 with ⟨hv,_⟩ | ⟨g',cap,cur,hv,_,hh,_⟩
 ·rw [hv] at e;simp [Value.ownBlock] at e
 ·rw [hv] at e;simp [Value.ownBlock] at e
  rw [e,hX] at hh
  injection hh with hh;injection hh with _ hh _;exact hT hh.symm
def shpOne (T B:Nat) (u1 u2:Value):Shp:=⟨fun v W=>∃ vb,v = .slice (some ⟨vb,0,none⟩) 1 1∧W.heap[vb]? = some (.cells #[u1,u2] T (0,0))∧B≤vb,fun _ _ _ ⟨vb,e,h,g⟩ hb=>⟨vb,e,(hb.block _ (blk_lt h)).trans h,g⟩⟩
def shpRowO (T B:Nat) (r:List UInt8 × List UInt8):Shp:=⟨fun v W=>∃ u1 u2,v = .agg #[u1,u2]∧Bw T W B u1 r.1∧Bw T W B u2 r.2,fun _ _ _ ⟨u1,u2,e,h1,h2⟩ hb=>⟨u1,u2,e,h1.keep hb,h2.keep hb⟩⟩
def shpRowTO (T B:Nat) (r:List UInt8 × List UInt8) (code:Int):Shp:=⟨fun v W=>∃ u,v = .tuple #[u,.int .i64 code]∧(shpRowO T B r).ok u W,fun _ _ _ ⟨u,e,h⟩ hb=>⟨u,e,(shpRowO T B r).keep _ _ _ h hb⟩⟩
theorem RwL.blk {T2 T1 base n c g:Nat} {w:World} {K:List (List UInt8 × List UInt8)} (h:RwL T2 T1 w base (.slice (some ⟨g,0,none⟩) n c) n K):∃ cur:Array Value,w.heap[g]? = some (.cells cur T2 (0,0)):=by
 obtain ⟨vs,a,b,o,r⟩:=h
 rcases o.2 with ⟨hv,_⟩ | ⟨g',cap,cur,hv,_,hh,_⟩
 ·simp at hv
 ·obtain ⟨rfl,rfl⟩:g = g'∧c = cap:=by simpa using hv
  exact ⟨cur,hh⟩
theorem Bw.sl' {T1 base m c:Nat} {w:World} {q:Option Addr} {xs:List UInt8} (h:Bw T1 w base (.slice q m c) xs):Sl B8 w q m c xs:=by
 obtain ⟨q',m',c',e,l,o⟩:=h;cases e;exact Sl.of_owns o
theorem Bw.mk {T1 base m c:Nat} {w:World} {q:Option Addr} {xs:List UInt8} (o:w.ownsRow base T1 1 (.slice q m c) m (xs.map B8)) (l:xs.length = m):Bw T1 w base (.slice q m c) xs:=⟨q,m,c,rfl,l,o⟩
theorem Bw.mono {T1 base b2:Nat} {w:World} {v:Value} {xs:List UInt8} (h:Bw T1 w base v xs) (hb:b2≤base):Bw T1 w b2 v xs:=by
 obtain ⟨q',m',c',e,l,o⟩:=h;exact ⟨q',m',c',e,l,owns_mono o hb⟩
end Go.By
namespace Go.Proofs.YtccaiiigdfieoaaGreatDoor
open Go.RowKit Go.By
theorem zero_lead {v:List UInt8} (h:¬ leadS v < 0):zeroS v = false:=by
 unfold zeroS
 cases e:v.all (fun x=>decide (x = 0)) with
 | false=>rfl
 | true =>
  refine absurd ?_ h
  have hz:∀ x,x ∈ v→x = 0:=fun x hx=>by simpa using List.all_eq_true.1 e x hx
  have:leadS v = -1:=idxf_none (k:=v.length) rfl fun j y _ hy=>by rw [hz y (List.mem_of_getElem? hy)];rfl
  rw [this];decide
set_option maxRecDepth 100000 in
set_option maxHeartbeats 8000000 in
theorem EPut_grown (base be k t n:Nat) (v:Value) (K:List Rw) (p1 p2:Option Addr) (c1 c2:Nat) (x:Rw) (w:World) (hE:Elm w base be k t v n K) (s1:Sl B8 w p1 k c1 x.1) (s2:Sl B8 w p2 t c2 x.2) (hR:Red k t K) (hk:k≤4096) (ht:t≤65535) (hn:¬ leadS (restF K x).1 < 0) (hnn:n≤4096) :
  Calls Tryz.prog 64 #[.pointer (some ⟨be,0,none⟩),.agg #[.slice p1 k c1,.slice p2 t c2]] w fun e w'=>e = .returned (.tuple #[.int .i64 0,.int .i64 0]) ∧
   ∃ v',Elm w' base be k t v' (n + 1) (putF K x)∧Chg w w' be v∧(v'.ownBlock = v.ownBlock∨∀ b,v'.ownBlock = some b→w.heap.size≤b):=by
 have hx:Fit k t x:=⟨s1.len,s2.len⟩
 obtain ⟨q,c,rfl⟩:=hE.rows.shape
 obtain ⟨l,hL,hF,h0,-,-⟩:=rest_norm hR.kept hx hn
 obtain ⟨Y,hY⟩:∃ Y,Y = normS (restF K x):=⟨_,rfl⟩
 have hput:Hid (putF K x = putAt (K.map (clrF Y)) Y):=by rw [hY];rfl
 rw [← hY] at hL hF h0
 have hKn:=hE.rows.len
 have hclr:Hid (∀ r,r ∈ K→Fit k t (clrF Y r)∧LeadAt (clrF Y r) (leadN r)):=fun r hr=>by
  have h:=clr_row hL hF (hR.kept.rows r hr).1 (hR.kept.rows r hr).2 (h0 r hr)
  exact ⟨h.1,h.2.1⟩
 obtain ⟨f,hf⟩:∃ f:Nat→Bool,f = fun i=>decide ((l:Int) < leadS ((K.map (clrF Y)).getD i ([],[])).1):=⟨_,rfl⟩
 have hfat:Hid (∀ i a,K[i]? = some a→f i = decide ((l:Int) < (leadN a:Int))):=fun i a ha=>by
  rw [hf]
  show decide ((l:Int) < leadS ((K.map (clrF Y)).getD i ([],[])).1) = _
  rw [List.getD_eq_getElem?_getD,List.getElem?_map,ha]
  show decide ((l:Int) < leadS (clrF Y a).1) = _
  rw [(hclr.out a (List.mem_of_getElem? ha)).2.1]
 have hmono:Hid (∀ i j,i≤j→j < n→f i = true→f j = true):=fun i j hij hj hfi=>by
  obtain ⟨a,ha⟩:∃ a,K[i]? = some a:=⟨_,List.getElem?_eq_getElem (by omega)⟩
  obtain ⟨b,hb⟩:∃ b,K[j]? = some b:=⟨_,List.getElem?_eq_getElem (by omega)⟩
  rw [hfat.out i a ha] at hfi
  rw [hfat.out j b hb]
  rcases Nat.lt_or_ge i j with g | g
  ·have h1:=List.pairwise_iff_getElem.1 hR.kept.sorted i j (by omega) (by omega) g
   have ea:K[i]'(by omega) = a:=by rw [List.getElem?_eq_getElem (by omega)] at ha;injection ha
   have eb:K[j]'(by omega) = b:=by rw [List.getElem?_eq_getElem (by omega)] at hb;injection hb
   rw [ea,eb] at h1
   have h2:=of_decide_eq_true hfi
   exact decide_eq_true (by omega)
  ·have e:i = j:=by omega
   subst e;rw [ha] at hb;cases hb;exact hfi
 have hfin:Hid (∀ r,r≤n→(∀ i,i < r→f i = false)→(∀ i,r≤i→i < n→f i = true)→(K.map (clrF Y)).take r ++ Y :: (K.map (clrF Y)).drop r = putF K x):=fun r hr h1 h2=>by
  rw [hput.out]
  unfold putAt
  rw [hL.1]
  obtain ⟨e1,e2⟩:=take_while (fun r:Rw=>decide (leadS r.1≤(l:Int))) (K.map (clrF Y)) r (by rw [List.length_map];omega) (fun j z hj hz=>by
   have h3:=h1 j hj
   rw [hf] at h3
   have h4:(K.map (clrF Y)).getD j ([],[]) = z:=by rw [List.getD_eq_getElem?_getD,hz];rfl
   simp only [h4] at h3
   have h5:=of_decide_eq_false h3
   exact decide_eq_true (by omega)) (fun z hz=>by
   have hrn:r < n:=by have:=(List.getElem?_eq_some_iff.1 hz).1;rw [List.length_map] at this;omega
   have h3:=h2 r (Nat.le_refl _) hrn
   rw [hf] at h3
   have h4:(K.map (clrF Y)).getD r ([],[]) = z:=by rw [List.getD_eq_getElem?_getD,hz];rfl
   simp only [h4] at h3
   have h5:=of_decide_eq_true h3
   exact decide_eq_false (by omega))
  rw [e1,e2]
 have hbe:=hE.old
 have HE:=Lib.hid hE;have S1:=Lib.hid s1;have S2:=Lib.hid s2;have HLY:=Lib.hid hL.1;have HFY:=Lib.hid hF;have HKL:=Lib.hid hR.kept.rows;have HKN:=Lib.hid hKn;have HYE:=Lib.hid hY
 have HZ:Hid (zeroS (restF K x).1 = false):=zero_lead hn
 have HBE:Hid (be < w.heap.size):=blk_lt hE.box
 have hlk:l < k:=hL.lt hF
 have HFF:=Lib.hid hf
 have HRF:Hid (Fit k t (restF K x)):=hx.rest (fun a ha=>(hR.kept.rows a ha).1)
 have hbw:base≤w.heap.size:=by have h1:=blk_lt hE.box;omega
 clear hE s1 s2 hR hn hx hL hF h0 hY hKn hf
 go_enter Tryz.func64,Tryz.ntmps64
 go_wp2_with fail
 refine use_w1 (fun W=>Below w.heap.size w W∧W.heap[w.heap.size]? = some (.cells #[.pointer (some ⟨be,0,none⟩)] 114 (0,0))∧w.heap.size + 2≤W.heap.size) ⟨al (al (Below.refl _ _) (Nat.le_refl _)) (by simp),hal (hnew rfl),by simp⟩ ?_
 rintro w2 ⟨b0,x0,z0⟩
 refine Calls.mono (ERest_any base be k t n _ K p1 p2 c1 c2 x w2 (HE.out.keep b0) (S1.out.keep b0) (S2.out.keep b0) HKL.out hk ht) ?_
 rintro e w3 ⟨q1,m1,g1,q2,m2,g2,l1,l2,rfl,o1,o2,hb⟩
 have B3:=Lib.hid (bl b0 hb b0.size)
 have X3:=Lib.hid ((hb.block _ (blk_lt x0)).trans x0)
 have L1:=Lib.hid (Sl.of_owns o1);have L2:=Lib.hid (Sl.of_owns o2)
 clear b0 x0 z0 o1 o2 hb l1 l2 S1 S2
 go_wp2_with fail
 refine use_w1 (fun W=>Below w3.heap.size w3 W∧W.heap[w3.heap.size]? = some (.cells #[.slice q1 m1 g1,.slice q2 m2 g2] 99 (0,0))) ⟨al (Below.refl _ _) (Nat.le_refl _),hnew rfl⟩ ?_
 rintro w4 ⟨b4,x4⟩
 obtain ⟨b6,h6⟩:∃ b6,b6 = w3.heap.size:=⟨_,rfl⟩
 rw [← h6] at x4 ⊢
 have hb6:w.heap.size < b6:=by rw [h6];exact blk_lt X3.out
 have hb64:b6 < w4.heap.size:=blk_lt x4
 refine Calls.mono (VZero_any q1 m1 g1 (restF K x).1 w4 (L1.out.keep b4)) ?_
 rintro e w' ⟨rfl,rfl⟩
 rw [HZ.out]
 have B4:=Lib.hid (bl B3.out b4 B3.out.size)
 have X24:=Lib.hid ((b4.block _ (blk_lt X3.out)).trans X3.out)
 have X64:=Lib.hid x4
 have L14:=Lib.hid (L1.out.keep b4);have L24:=Lib.hid (L2.out.keep b4)
 have hr1:m1≤4096:=by have h1:=L1.out.len;have h2:=HRF.out.1;omega
 have hr2:m2≤65535:=by have h1:=L2.out.len;have h2:=HRF.out.2;omega
 clear b4 x4 B3 X3 L1 L2 h6
 obtain ⟨y0,y1⟩:=cells2 X64.out
 go_wp2_with fail
 refine Calls.mono (Norm_any q1 q2 m1 g1 m2 g2 (restF K x).1 (restF K x).2 w4 L14.out L24.out (by unfold Room;omega) (by unfold Room;omega)) ?_
 rintro e w5 ⟨q5,m5,g5,q6,m6,g6,l5,l6,rfl,o5,o6,hb⟩
 rw [← show Y = normS ((restF K x).1,(restF K x).2) from HYE.out] at l5 l6 o5 o6
 have B5:=Lib.hid (bl B4.out hb B4.out.size)
 have X25:=Lib.hid ((hb.block _ (blk_lt X24.out)).trans X24.out)
 have X65:=Lib.hid ((hb.block _ (blk_lt X64.out)).trans X64.out)
 have ne1:w.heap.size≠b6:=by omega
 have N6:Hid (Below w.heap.size w ((w5.setCell ⟨b6,0,none⟩ (.slice q5 m5 g5)).setCell ⟨b6,1,none⟩ (.slice q6 m6 g6))∧((w5.setCell ⟨b6,0,none⟩ (.slice q5 m5 g5)).setCell ⟨b6,1,none⟩ (.slice q6 m6 g6)).heap[w.heap.size]? = some (.cells #[.pointer (some ⟨be,0,none⟩)] 114 (0,0)) ∧
   ((w5.setCell ⟨b6,0,none⟩ (.slice q5 m5 g5)).setCell ⟨b6,1,none⟩ (.slice q6 m6 g6)).heap[b6]? = some (.cells #[.slice q5 m5 g5,.slice q6 m6 g6] 99 (0,0)) ∧
   Bw 5 ((w5.setCell ⟨b6,0,none⟩ (.slice q5 m5 g5)).setCell ⟨b6,1,none⟩ (.slice q6 m6 g6)) w.heap.size (.slice q5 m5 g5) Y.1∧Bw 5 ((w5.setCell ⟨b6,0,none⟩ (.slice q5 m5 g5)).setCell ⟨b6,1,none⟩ (.slice q6 m6 g6)) w.heap.size (.slice q6 m6 g6) Y.2) :=
  ⟨(B5.out.setCell (by show w.heap.size≤b6;omega) _).setCell (by show w.heap.size≤b6;omega) _,hsc (hsc X25.out ne1) ne1,hss (hss X65.out),Bw.mk (owns_mono (owns_set (owns_set o5 hb64) hb64) (by omega)) l5.out,Bw.mk (owns_mono (owns_set (owns_set o6 hb64) hb64) (by omega)) l6.out⟩
 obtain ⟨y0',y1'⟩:=cells2 X65.out
 have z0:=frozen_of_row _ _ 0 _ _ X65.out
 have z1:=frozen_of_row _ _ 1 _ _ X65.out
 clear y0 y1 o5 o6 hb B4 X24 X64 L14 L24 B5 X25 X65 l5 l6
 go_wp2_with fail
 clear y0' y1' z0 z1
 refine use_w1 (fun W=>Below w.heap.size w W∧W.heap[w.heap.size]? = some (.cells #[.pointer (some ⟨be,0,none⟩)] 114 (0,0))∧W.heap[b6]? = some (.cells #[.slice q5 m5 g5,.slice q6 m6 g6] 99 (0,0))∧Bw 5 W w.heap.size (.slice q5 m5 g5) Y.1∧Bw 5 W w.heap.size (.slice q6 m6 g6) Y.2) N6.out ?_
 rintro w6 ⟨b6',x26,x66,yb1,yb2⟩
 clear N6
 refine Calls.mono (Lead_any q5 m5 g5 Y.1 w6 yb1.sl') ?_
 rintro e w' ⟨rfl,rfl⟩
 rw [HLY.out]
 have B6:=Lib.hid b6';have X26:=Lib.hid x26;have X66:=Lib.hid x66;have Y1:=Lib.hid yb1;have Y2:=Lib.hid yb2
 have E6:=Lib.hid (HE.out.keep b6')
 clear b6' x26 x66 yb1 yb2
 obtain ⟨f0,f1,f2⟩:=cells3 (hal (o:=.cells #[.int .i64 l] 3) E6.out.box)
 have p0:(w6.alloc (.cells #[.int .i64 l] 3)).cell? ⟨w.heap.size,0,none⟩ = some (.pointer (some ⟨be,0,none⟩)):=cell_of_row _ _ 0 _ _ _ (hal X26.out)
 obtain ⟨b8,h8⟩:∃ b8,b8 = w6.heap.size:=⟨_,rfl⟩
 have hb8:b6 < b8:=by rw [h8];exact blk_lt X66.out
 have NA:Hid (∀ o,Below w6.heap.size w6 (w6.alloc o)):=fun o=>al (Below.refl _ _) (Nat.le_refl _)
 obtain ⟨b2,hb2⟩:∃ b2,b2 = w.heap.size:=⟨_,rfl⟩
 go_wp2
 clear f0 f1 f2 p0
 rw [← h8]
 have H8:=Lib.hid h8
 clear h8
 go_loopw [39] (fun i wr=>∃ j:Nat,j≤n∧i = .int .i64 j∧Hid (RwL 99 5 wr base (.slice q n c) n ((K.take j).map (clrF Y) ++ K.drop j))∧Hid (wr.heap[be]? = some (.cells #[.int .i64 k,.int .i64 t,.slice q n c] 191 (0,0))) ∧
  Hid (wr.heap[w.heap.size]? = some (.cells #[.pointer (some ⟨be,0,none⟩)] 114 (0,0)))∧Hid (wr.heap[b6]? = some (.cells #[.slice q5 m5 g5,.slice q6 m6 g6] 99 (0,0)))∧Hid (wr.heap[b8]? = some (.cells #[.int .i64 l] 3 (0,0))) ∧
  Hid (Bw 5 wr w.heap.size (.slice q5 m5 g5) Y.1)∧Hid (Bw 5 wr w.heap.size (.slice q6 m6 g6) Y.2)∧Hid (Chg w wr be (.slice q n c))) (fun i _=>n - (intOf i).toNat)
 case atStart=>exact ⟨0,Nat.zero_le _,rfl,by show RwL _ _ _ _ _ _ _;simpa using (E6.out.keep (NA.out _)).rows,(E6.out.keep (NA.out _)).box,hal X26.out,hal X66.out,hnew H8.out,Y1.out.keep (NA.out _),Y2.out.keep (NA.out _),(Chg.of be _ B6.out).below (NA.out _)⟩
 case round =>
  clear B6 X26 X66 Y1 Y2 E6 NA
  obtain ⟨j,hj,rfl,hR,hX,h2,hX6,hX8,hY1,hY2,hC⟩:=hrel
  have HKJ:Hid (∀ a,K[j]? = some a→((K.take j).map (clrF Y) ++ K.drop j)[j]? = some a):=fun a ha=>by
   have lj:((K.take j).map (clrF Y)).length = j:=by rw [List.length_map,List.length_take,HKN.out];omega
   rw [List.getElem?_append_right (by omega),lj,Nat.sub_self,List.getElem?_drop];simpa using ha
  by_cases hjl:j < n
  ·have jn:(j:Int) < (n:Int):=by omega
   obtain ⟨A,hA⟩:∃ A,K[j]? = some A:=⟨_,List.getElem?_eq_getElem (by rw [HKN.out];exact hjl)⟩
   obtain ⟨g,kk,a1,b1,d1,a2,b2',d2,rfl,e1,e2,hkk,t1,t2⟩:=hR.out.at hjl
   have hkA:kk = A:=by have h:=hkk.out;rw [HKJ.out A hA] at h;cases h;rfl
   subst hkA
   have fA:=(HKL.out kk (List.mem_of_getElem? hA))
   have HA:=Lib.hid hA;have T1:=Lib.hid t1;have T2:=Lib.hid t2
   have HE1:=Lib.hid e1;have HE2:=Lib.hid e2
   obtain ⟨CJ,hCJ⟩:∃ CJ,CJ = atS kk.1 (l:Int):=⟨_,rfl⟩
   have HYJ:Hid (clrF Y kk = lessF kk CJ Y):=by show _ = _;unfold clrF;rw [HLY.out,hCJ]
   have HFA:=Lib.hid fA
   have HAT:Hid (∀ W,Sl B8 W a1 b1 d1 kk.1→Calls Tryz.prog 116 #[.slice a1 b1 d1,.int .i64 l] W fun e w'=>e = .returned (B8 CJ)∧W = w'):=fun W h=>by rw [hCJ];exact At_any _ _ _ _ l W h
   have c8:(wr.alloc (.cells #[.slice a1 b1 d1,.slice a2 b2' d2] 99)).cell? ⟨b8,0,none⟩ = some (.int .i64 l):=cell_of_row _ _ 0 _ _ _ (hal hX8.out)
   clear t1 t2 hkk hA fA hCJ
   go_wp2_with fail
   clear e1 e2 c8
   refine use_w1 (fun W=>Below wr.heap.size wr W∧W.heap[wr.heap.size]? = some (.cells #[.slice a1 b1 d1,.slice a2 b2' d2] 99 (0,0))) ⟨al (Below.refl _ _) (Nat.le_refl _),hnew rfl⟩ ?_
   rintro w7 ⟨b7,x7⟩
   refine Calls.mono (HAT.out w7 (T1.out.keep b7)) ?_
   rintro e w' ⟨rfl,rfl⟩
   have B7:=Lib.hid b7;have X7:=Lib.hid x7
   have R7:=Lib.hid (hR.out.keep b7);have E7:=Lib.hid ((b7.block _ (blk_lt hX.out)).trans hX.out);have P7:=Lib.hid ((b7.block _ (blk_lt h2.out)).trans h2.out)
   have X67:=Lib.hid ((b7.block _ (blk_lt hX6.out)).trans hX6.out);have X87:=Lib.hid ((b7.block _ (blk_lt hX8.out)).trans hX8.out)
   have Y17:=Lib.hid (hY1.out.keep b7);have Y27:=Lib.hid (hY2.out.keep b7);have C7:=Lib.hid (hC.out.below b7)
   have T17:=Lib.hid (T1.out.keep b7);have T27:=Lib.hid (T2.out.keep b7)
   clear b7 x7 HAT hR hX h2 hX6 hX8 hY1 hY2 hC T1 T2 HE1 HE2 HKJ
   have HKS:Hid ((K.take (j + 1)).map (clrF Y) ++ K.drop (j + 1) = ((K.take j).map (clrF Y) ++ K.drop j).set j (clrF Y kk)):=by
    show _ = _
    have lj:((K.take j).map (clrF Y)).length = j:=by rw [List.length_map,List.length_take,HKN.out];omega
    rw [List.set_append_right _ _ (by omega),lj,Nat.sub_self,List.take_add_one,HA.out,List.map_append]
    have:K.drop j = kk :: K.drop (j + 1):=by
     obtain ⟨hl,e⟩:=List.getElem?_eq_some_iff.1 HA.out
     rw [List.drop_eq_getElem_cons hl,e]
    rw [this];simp
   by_cases hc:CJ = 0
   ·have hz:((CJ.toNat:Int) != 0) = false:=by rw [hc];rfl
    have HKZ:Hid ((K.take (j + 1)).map (clrF Y) ++ K.drop (j + 1) = (K.take j).map (clrF Y) ++ K.drop j):=by
     show _ = _
     rw [HKS.out,HYJ.out,hc,less_zero HFA.out.1 HFY.out]
     refine List.ext_getElem? fun i=>?_
     rw [List.getElem?_set]
     by_cases e:j = i
     ·subst e
      have lj:((K.take j).map (clrF Y)).length = j:=by rw [List.length_map,List.length_take,HKN.out];omega
      rw [if_pos rfl,if_pos (by rw [List.length_append,lj,List.length_drop,HKN.out];omega),List.getElem?_append_right (by omega),lj,Nat.sub_self,List.getElem?_drop]
      have:=HA.out;simpa using this.symm
     ·rw [if_neg e]
    have R8:=Lib.hid R7.out
    rw [← HKZ.out] at R8
    clear hc HKZ HKS HYJ R7 HA T17 T27 HFA B7 X7
    go_wp2
    go_roundw
    case rel=>exact ⟨j + 1,by omega,by go_num,R8.out,E7.out,P7.out,X67.out,X87.out,Y17.out,Y27.out,C7.out⟩
    case measure=>simp [intOf];omega
   ·have hz:((CJ.toNat:Int) != 0) = true:=by simp;exact fun h=>hc (UInt8.toNat_inj.1 (by simpa using h))
    obtain ⟨YJ,hYJ⟩:∃ YJ,YJ = lessF kk CJ Y:=⟨_,rfl⟩
    have HLS:Hid (∀ W,Sl B8 W a1 b1 d1 kk.1→Sl B8 W a2 b2' d2 kk.2→Sl B8 W q5 m5 g5 Y.1→Sl B8 W q6 m6 g6 Y.2→Calls Tryz.prog 117 #[.agg #[.slice a1 b1 d1,.slice a2 b2' d2],B8 CJ,.agg #[.slice q5 m5 g5,.slice q6 m6 g6]] W (RetR2 5 W YJ 0)):=fun W g1 g2 g3 g4=>by
     have:=Less_any a1 a2 q5 q6 b1 d1 b2' d2 m5 g5 m6 g6 kk.1 kk.2 Y.1 Y.2 CJ W g1 g2 g3 g4 (by have h1:=g1.len;have h2:=HFA.out.1.1;unfold Room;omega) (by have h1:=g2.len;have h2:=HFA.out.1.2;unfold Room;omega)
     rw [lessS_fit (n:=k) (t:=t) (x:=kk) (k:=Y) HFA.out.1 HFY.out,← hYJ] at this
     exact this
    rw [HYJ.out,← hYJ] at HKS
    have hgw:g < w.heap.size:=(HE.out.rows.lt g (by simp [Value.ownBlock])).2
    have hgbe:g≠be:=fun e=>HE.out.rows.ne_box HE.out.box (by decide) (by simp [Value.ownBlock,e])
    have hbw7:base≤w7.heap.size:=by have:=C7.out.size;omega
    obtain ⟨u0,u1⟩:=cells2 X7.out
    obtain ⟨y0,y1⟩:=cells2 X67.out
    obtain ⟨f0,f1,f2⟩:=cells3 E7.out
    have p2:w7.cell? ⟨w.heap.size,0,none⟩ = some (.pointer (some ⟨be,0,none⟩)):=cell_of_row _ _ 0 _ _ _ P7.out
    clear hc hYJ HYJ HA HFA
    go_wp2
    refine wp_region_late (fun ix=>([.val (.pointer (some ⟨be,0,none⟩)),.val (.pointer (some ⟨be,0,none⟩)),.val (.pointer (some ⟨be,2,none⟩)),.val (.slice (some ⟨g,0,none⟩) n c),.val (.int .i64 j),.val (.agg #[.slice a1 b1 d1,.slice a2 b2' d2]),.val (B8 CJ),.val (.agg #[.slice q5 m5 g5,.slice q6 m6 g6]),(shpRowTO 5 base YJ 0),(shpRowTO 5 base YJ 0),(shpRowO 5 base YJ),.val (.int .i64 0),.val (.pointer (some ⟨g,j * 2,none⟩)),.any][ix]?).getD (.any)) 83 13 11 50 61 rfl (by kernel_rfl) (by decide) (by decide) (by decide) _ rfl rfl rfl (by decide) (fun a u x w h=>run_extract1 _ rfl h) (by decide) ?_ ?_
    ·refine ⟨?_,?_,?_,?_,?_,?_,?_,?_,?_,?_,?_,?_,?_,trivial⟩
     ·intro a W hb0 hs hp hi;have hb:=undrew hb0;clear hb0
      have tt:sl a 2 = .pointer (some ⟨w.heap.size,0,none⟩):=hi 2 (by decide)
      have dd0:=(hb.cell (p:=⟨w.heap.size,0,none⟩) (lt_of_cell p2)).trans p2
      refine ite_y rfl (wp_val (.pointer (some ⟨be,0,none⟩)) ?_ ?_)
      ·simp only [execOp,eval_tmp,tt];simp [go_sem,dd0]
      ·exact ⟨_,rfl,Below.refl _ _,rfl⟩
     ·intro a W hb0 hs hp hi;have hb:=undrew hb0;clear hb0
      have tt:sl a 51 = .pointer (some ⟨be,0,none⟩):=hp 0 (by decide)
      refine ite_y rfl (wp_val (.pointer (some ⟨be,0,none⟩)) ?_ ?_)
      ·simp only [execOp,eval_tmp,tt];simp [go_sem]
      ·exact ⟨_,rfl,Below.refl _ _,rfl⟩
     ·intro a W hb0 hs hp hi;have hb:=undrew hb0;clear hb0
      have t52:sl a 52 = .pointer (some ⟨be,0,none⟩):=hp 1 (by decide)
      refine ite_y rfl (wp_val (.pointer (some ⟨be,2,none⟩)) ?_ ?_)
      ·simp only [execOp,eval_tmp,eval_const,t52];simp [go_sem]
      ·exact ⟨_,rfl,Below.refl _ _,rfl⟩
     ·intro a W hb0 hs hp hi;have hb:=undrew hb0;clear hb0
      have tt:sl a 53 = .pointer (some ⟨be,2,none⟩):=hp 2 (by decide)
      have dd0:=(hb.cell (p:=⟨be,2,none⟩) (lt_of_cell f2)).trans f2
      refine ite_y rfl (wp_val (.slice (some ⟨g,0,none⟩) n c) ?_ ?_)
      ·simp only [execOp,eval_tmp,tt];simp [go_sem,dd0]
      ·exact ⟨_,rfl,Below.refl _ _,rfl⟩
     ·intro a W hb0 hs hp hi;have hb:=undrew hb0;clear hb0
      have t9:sl a 9 = .int .i64 j:=hi 9 (by decide)
      exact ite_y rfl (wp_val (sl a 9) rfl ⟨_,rfl,Below.refl _ _,t9⟩)
     ·intro a W hb0 hs hp hi;have hb:=undrew hb0;clear hb0
      have tt:sl a 10 = .pointer (some ⟨wr.heap.size,0,none⟩):=hi 10 (by decide)
      have dd0:=(hb.cell (p:=⟨wr.heap.size,0,none⟩) (lt_of_cell u0)).trans u0
      have dd1:=(hb.cell (p:=⟨wr.heap.size,1,none⟩) (lt_of_cell u1)).trans u1
      refine ite_y rfl (wp_val (.agg #[.slice a1 b1 d1,.slice a2 b2' d2]) ?_ ?_)
      ·simp only [execOp,eval_tmp,tt];simp [go_sem,dd0,dd1]
      ·exact ⟨_,rfl,Below.refl _ _,rfl⟩
     ·intro a W hb0 hs hp hi;have hb:=undrew hb0;clear hb0
      have t11:sl a 11 = B8 CJ:=hi 11 (by decide)
      exact ite_y rfl (wp_val (sl a 11) rfl ⟨_,rfl,Below.refl _ _,t11⟩)
     ·intro a W hb0 hs hp hi;have hb:=undrew hb0;clear hb0
      have tt:sl a 6 = .pointer (some ⟨b6,0,none⟩):=hi 6 (by decide)
      have dd0:=(hb.cell (p:=⟨b6,0,none⟩) (lt_of_cell y0)).trans y0
      have dd1:=(hb.cell (p:=⟨b6,1,none⟩) (lt_of_cell y1)).trans y1
      refine ite_y rfl (wp_val (.agg #[.slice q5 m5 g5,.slice q6 m6 g6]) ?_ ?_)
      ·simp only [execOp,eval_tmp,tt];simp [go_sem,dd0,dd1]
      ·exact ⟨_,rfl,Below.refl _ _,rfl⟩
     ·intro a W hb0 hs hp hi;have hb:=undrew hb0;clear hb0
      have t56:sl a 56 = .agg #[.slice a1 b1 d1,.slice a2 b2' d2]:=hp 5 (by decide)
      have t57:sl a 57 = B8 CJ:=hp 6 (by decide)
      have t58:sl a 58 = .agg #[.slice q5 m5 g5,.slice q6 m6 g6]:=hp 7 (by decide)
      refine ite_y rfl (wp_enter 117 #[.agg #[.slice a1 b1 d1,.slice a2 b2' d2],B8 CJ,.agg #[.slice q5 m5 g5,.slice q6 m6 g6]] ?_ (HLS.out W (T17.out.keep hb) (T27.out.keep hb) (Y17.out.keep hb).sl' (Y27.out.keep hb).sl') ?_)
      ·simp only [execOp,resolve,List.map_toArray,List.map,eval_tmp,eval_func,eval_const,t56,t57,t58];simp [go_sem]
      ·rintro e W' ⟨q7,m7,k7,q8,m8,k8,e7,e8,rfl,o7,o8,hw⟩;have hbs:=hb.size;exact ⟨_,rfl,_,rfl,hw,_,rfl,_,_,rfl,(Bw.mk o7 e7.out).mono (by omega),(Bw.mk o8 e8.out).mono (by omega)⟩
     ·intro a W hb0 hs hp hi;have hb:=undrew hb0;clear hb0
      have tt:(shpRowTO 5 base YJ 0).ok (sl a 59) W:=hp 8 (by decide)
      exact ite_y rfl (wp_val (sl a 59) rfl ⟨_,rfl,Below.refl _ _,tt⟩)
     ·intro a W hb0 hs hp hi;have hb:=undrew hb0;clear hb0
      have tt:(shpRowTO 5 base YJ 0).ok (sl a 50) W:=hp 9 (by decide)
      obtain ⟨u,tt,hr⟩:=tt
      exact ite_y rfl (wp_val u (by simp only [execOp,eval_tmp,tt];rfl) ⟨_,rfl,Below.refl _ _,hr⟩)
     ·intro a W hb0 hs hp hi;have hb:=undrew hb0;clear hb0
      have tt:(shpRowTO 5 base YJ 0).ok (sl a 50) W:=hp 9 (by decide)
      obtain ⟨u,tt,hr⟩:=tt
      exact ite_y rfl (wp_val (.int .i64 0) (by simp only [execOp,eval_tmp,tt];rfl) ⟨_,rfl,Below.refl _ _,rfl⟩)
     ·intro a W hb0 hs hp hi;have hb:=undrew hb0;clear hb0
      have t54:sl a 54 = .slice (some ⟨g,0,none⟩) n c:=hp 3 (by decide)
      have t55:sl a 55 = .int .i64 j:=hp 4 (by decide)
      refine ite_y rfl (wp_val (.pointer (some ⟨g,j * 2,none⟩)) ?_ ?_)
      ·simp only [execOp,eval_tmp,eval_const,t54,t55];simp [go_sem,jn,hjl]
      ·exact ⟨_,rfl,Below.refl _ _,rfl⟩
    ·intro a w9 o ho hb hs hd hI ht
     simp at ho;subst ho
     have t62:sl a 62 = .pointer (some ⟨g,j * 2,none⟩):=hI 12 (by decide) (by decide)
     have t50:(shpRowTO 5 base YJ 0).ok (sl a 50) w9:=hI 9 (by decide) (by decide)
     have t60:(shpRowO 5 base YJ).ok (sl a 60) w9:=hI 10 (by decide) (by decide)
     obtain ⟨uu,t50,-⟩:=t50
     obtain ⟨v1,v2,t60,hv1,hv2⟩:=t60
     have R9:=R7.out.keep hb
     obtain ⟨cur9,hcur⟩:=R9.blk
     obtain ⟨g',kx,x1,y1',z1',x2,y2',z2',eg,d0,d1,-⟩:=R9.at hjl
     cases eg
     have z0:w9.frozen? ⟨g,j * 2,none⟩ = false:=frozen_of_row _ _ _ _ _ hcur
     have z1:w9.frozen? ⟨g,j * 2 + 1,none⟩ = false:=frozen_of_row _ _ _ _ _ hcur
     have o1:=hv1.one
     have o2:=hv2.one
     obtain ⟨xq1,xm1,xc1,rfl,-⟩:=id hv1
     obtain ⟨xq2,xm2,xc2,rfl,-⟩:=id hv2
     refine ⟨⟨_,_,t50⟩,wp_skipX (w':=((w9.setCell ⟨g,j * 2,none⟩ (.slice xq1 xm1 xc1)).setCell ⟨g,j * 2 + 1,none⟩ (.slice xq2 xm2 xc2))) ?_ ⟨rfl,fun b hbs hbd hbt=>?_⟩⟩
     ·simp only [execOp,eval_tmp,t60,t62];simp [go_sem,d0,d1,z0,z1]
     have ha:=act_is [51,52,53,54,55,56,57,58,59,50,60,61,62] hbs hbd (fun t h=>(hbt t (fun e=>by subst e;revert h;decide)).trans (ht t h)) (by decide)
     simp only [List.foldl] at ha
     generalize sl b 51 = u51 at ha
     generalize sl b 52 = u52 at ha
     generalize sl b 53 = u53 at ha
     generalize sl b 54 = u54 at ha
     generalize sl b 55 = u55 at ha
     generalize sl b 56 = u56 at ha
     generalize sl b 57 = u57 at ha
     generalize sl b 58 = u58 at ha
     generalize sl b 59 = u59 at ha
     generalize sl b 50 = u50 at ha
     generalize sl b 60 = u60 at ha
     generalize sl b 61 = u61 at ha
     generalize sl b 62 = u62 at ha
     simp only [Act.put,List.setIfInBounds_toArray,List.set_cons_zero,List.set_cons_succ] at ha
     rw [ha];clear ha
     have RN:=R9.put (k:=YJ) (by decide) hjl hv1 hv2
     rw [← HKS.out] at RN
     have gb:=grown_trans (grownBy_setCell w9 g (j * 2) (.slice xq1 xm1 xc1)) (grownBy_setCell (w9.setCell ⟨g,j * 2,none⟩ (.slice xq1 xm1 xc1)) g (j * 2 + 1) (.slice xq2 xm2 xc2))
     have ne0:be≠g:=fun e=>hgbe e.symm
     have ne2:w.heap.size≠g:=by omega
     have ne6:b6≠g:=by omega
     have ne8:b8≠g:=by omega
     have yo:∀ (u:Value) (xs:List UInt8),Bw 5 w9 w.heap.size u xs→Bw 5 ((w9.setCell ⟨g,j * 2,none⟩ (.slice xq1 xm1 xc1)).setCell ⟨g,j * 2 + 1,none⟩ (.slice xq2 xm2 xc2)) w.heap.size u xs:=fun u xs h=>h.set (g:=g) (o:=0) (u:=u) (fun kx hkx=>by
      obtain ⟨q',m',c',e',l',o'⟩:=h
      rw [e'] at hkx
      have:=(o'.lt kx hkx).1
      omega) gb
     have NX:((w9.setCell ⟨g,j * 2,none⟩ (.slice xq1 xm1 xc1)).setCell ⟨g,j * 2 + 1,none⟩ (.slice xq2 xm2 xc2)).heap[be]? = some (.cells #[.int .i64 k,.int .i64 t,.slice (some ⟨g,0,none⟩) n c] 191 (0,0))∧((w9.setCell ⟨g,j * 2,none⟩ (.slice xq1 xm1 xc1)).setCell ⟨g,j * 2 + 1,none⟩ (.slice xq2 xm2 xc2)).heap[w.heap.size]? = some (.cells #[.pointer (some ⟨be,0,none⟩)] 114 (0,0))∧((w9.setCell ⟨g,j * 2,none⟩ (.slice xq1 xm1 xc1)).setCell ⟨g,j * 2 + 1,none⟩ (.slice xq2 xm2 xc2)).heap[b6]? = some (.cells #[.slice q5 m5 g5,.slice q6 m6 g6] 99 (0,0))∧((w9.setCell ⟨g,j * 2,none⟩ (.slice xq1 xm1 xc1)).setCell ⟨g,j * 2 + 1,none⟩ (.slice xq2 xm2 xc2)).heap[b8]? = some (.cells #[.int .i64 l] 3 (0,0)) ∧
       Bw 5 ((w9.setCell ⟨g,j * 2,none⟩ (.slice xq1 xm1 xc1)).setCell ⟨g,j * 2 + 1,none⟩ (.slice xq2 xm2 xc2)) w.heap.size (.slice q5 m5 g5) Y.1∧Bw 5 ((w9.setCell ⟨g,j * 2,none⟩ (.slice xq1 xm1 xc1)).setCell ⟨g,j * 2 + 1,none⟩ (.slice xq2 xm2 xc2)) w.heap.size (.slice q6 m6 g6) Y.2∧Chg w ((w9.setCell ⟨g,j * 2,none⟩ (.slice xq1 xm1 xc1)).setCell ⟨g,j * 2 + 1,none⟩ (.slice xq2 xm2 xc2)) be (.slice (some ⟨g,0,none⟩) n c) :=
      ⟨hsc (hsc ((hb.block _ (blk_lt E7.out)).trans E7.out) ne0) ne0,hsc (hsc ((hb.block _ (blk_lt P7.out)).trans P7.out) ne2) ne2,hsc (hsc ((hb.block _ (blk_lt X67.out)).trans X67.out) ne6) ne6,hsc (hsc ((hb.block _ (blk_lt X87.out)).trans X87.out) ne8) ne8,
       yo _ _ (Y17.out.keep hb),yo _ _ (Y27.out.keep hb),(C7.out.below hb).grown (by simpa [Value.ownBlock] using gb)⟩
     generalize ((w9.setCell ⟨g,j * 2,none⟩ (.slice xq1 xm1 xc1)).setCell ⟨g,j * 2 + 1,none⟩ (.slice xq2 xm2 xc2)) = wn at NX RN ⊢
     have NXH:=Lib.hid NX;have RNH:=Lib.hid RN
     clear NX RN R9 hcur d0 d1 z0 z1 hv1 hv2 hI ht hb hbt gb yo u0 u1 y0 y1 f0 f1 f2 p2 R7 E7 P7 X67 X87 Y17 Y27 C7 B7 X7 T17 T27 HLS
     go_wp2
     go_roundw
     case rel=>exact ⟨j + 1,by omega,by go_num,RNH.out,NXH.out.1,NXH.out.2.1,NXH.out.2.2.1,NXH.out.2.2.2.1,NXH.out.2.2.2.2.1,NXH.out.2.2.2.2.2.1,NXH.out.2.2.2.2.2.2⟩
     case measure=>simp [intOf];omega
  ·have hjn:j = n:=by omega
   have hge:(n:Int)≤(j:Int):=by omega
   have RM:Hid (RwL 99 5 wr base (.slice q n c) n (K.map (clrF Y))):=by
    have h:=hR.out
    rw [hjn,List.take_of_length_le (by rw [HKN.out];exact Nat.le_refl _),List.drop_eq_nil_of_le (by rw [HKN.out];exact Nat.le_refl _),List.append_nil] at h;exact h
   have EM:Hid (Elm wr base be k t (.slice q n c) n (K.map (clrF Y))):=⟨hX.out,RM.out,hbe⟩
   obtain ⟨f0,f1,f2⟩:=cells3 hX.out
   have p2:wr.cell? ⟨w.heap.size,0,none⟩ = some (.pointer (some ⟨be,0,none⟩)):=cell_of_row _ _ 0 _ _ _ h2.out
   clear hjn hR HKJ
   go_wp2_with fail
   refine Calls.mono (Search_any f 118 #[.pointer (some ⟨w.heap.size,0,none⟩),.pointer (some ⟨b8,0,none⟩)] enters_behind n wr (by omega) (fun W i hW hi=>?_) hmono.out) ?_
   ·obtain ⟨z,hz⟩:∃ z,(K.map (clrF Y))[i]? = some z:=⟨_,List.getElem?_eq_getElem (by rw [List.length_map,HKN.out];exact hi)⟩
    have h:=Behind_any base be k t n (.slice q n c) (K.map (clrF Y)) w.heap.size b8 i (l:Int) z W (EM.out.keep hW) (cell_of_row _ _ 0 _ _ _ ((hW.block _ (blk_lt h2.out)).trans h2.out)) (cell_of_row _ _ 0 _ _ _ ((hW.block _ (blk_lt hX8.out)).trans hX8.out)) hi hz
    have e:decide ((l:Int) < leadS z.1) = f i:=by
     rw [HFF.out]
     show _ = decide ((l:Int) < leadS ((K.map (clrF Y)).getD i ([],[])).1)
     rw [List.getD_eq_getElem?_getD,hz];rfl
    rw [e] at h;exact h
   rintro e w10 ⟨r,hr,rfl,hlo,hhi,hb⟩
   have HFIN:=Lib.hid (hfin.out r hr hlo hhi)
   have E10:=Lib.hid (EM.out.keep hb);have P10:=Lib.hid ((hb.block _ (blk_lt h2.out)).trans h2.out);have X610:=Lib.hid ((hb.block _ (blk_lt hX6.out)).trans hX6.out)
   have Y110:=Lib.hid (hY1.out.keep hb);have Y210:=Lib.hid (hY2.out.keep hb);have C10:=Lib.hid (hC.out.below hb)
   have hb10:base≤w10.heap.size:=by have:=C10.out.size;omega
   clear hlo hhi hb EM RM hX h2 hX6 hX8 hY1 hY2 hC f0 f1 f2 p2
   obtain ⟨f0,f1,f2⟩:=cells3 E10.out.box
   obtain ⟨y0,y1⟩:=cells2 X610.out
   have p2:w10.cell? ⟨w.heap.size,0,none⟩ = some (.pointer (some ⟨be,0,none⟩)):=cell_of_row _ _ 0 _ _ _ P10.out
   go_wp2
   refine wp_region_mid (fun ix=>([.val (.pointer (some ⟨be,0,none⟩)),.val (.pointer (some ⟨be,0,none⟩)),.val (.pointer (some ⟨be,0,none⟩)),.val (.pointer (some ⟨be,2,none⟩)),.val (.slice q n c),.val (.int .i64 r),.val (.agg #[.slice q5 m5 g5,.slice q6 m6 g6]),(shpOne 99 w10.heap.size (.slice q5 m5 g5) (.slice q6 m6 g6)),.any,.val (.pointer (some ⟨be,0,none⟩)),.val (.pointer (some ⟨be,2,none⟩)),.any][ix]?).getD (.any)) (fun ix=>(([some (.pointer (some ⟨be,0,none⟩)),some (.pointer (some ⟨be,0,none⟩)),some (.pointer (some ⟨be,0,none⟩)),some (.pointer (some ⟨be,2,none⟩)),none,none,some (.agg #[.slice q5 m5 g5,.slice q6 m6 g6]),none,none,some (.pointer (some ⟨be,0,none⟩)),some (.pointer (some ⟨be,2,none⟩))]:List (Option Value))[ix]?).getD none) 83 11 8 80 (fun u W=>RwL 99 5 W base u (n + 1) (putF K x)∧W.heap[be]? = some (.cells #[.int .i64 k,.int .i64 t,.slice q n c] 191 (0,0))∧W.heap[w.heap.size]? = some (.cells #[.pointer (some ⟨be,0,none⟩)] 114 (0,0))∧W.heap[b6]? = some (.cells #[.slice q5 m5 g5,.slice q6 m6 g6] 99 (0,0))∧Chg w W be (.slice q n c)∧(u.ownBlock = (Value.slice q n c).ownBlock∨∀ b,u.ownBlock = some b→w.heap.size≤b)) rfl (by kernel_rfl) (by decide) (by decide) (by decide) ?_ _ rfl ?_ ?_ ?_ ?_
   ·intro j u hj
    have hj11:j < 11:=by
     rcases Nat.lt_or_ge j 11 with h | h
     ·exact h
     ·simp [List.getElem?_eq_none (show ([_,_,_,_,_,_,_,_,_,_,_]:List (Option Value)).length≤j from h)] at hj
    rcases (show j = 0∨j = 1∨j = 2∨j = 3∨j = 4∨j = 5∨j = 6∨j = 7∨j = 8∨j = 9∨j = 10 by omega) with rfl | rfl | rfl | rfl | rfl | rfl | rfl | rfl | rfl | rfl | rfl
    all_goals (simp at hj <;> (subst hj;rfl))
   ·intro i o him his ho hps
    rcases (show i = 0∨i = 1∨i = 2∨i = 3∨i = 4∨i = 5∨i = 6∨i = 7∨i = 8∨i = 9∨i = 10 by omega) with rfl | rfl | rfl | rfl | rfl | rfl | rfl | rfl | rfl | rfl | rfl
    ·simp at ho;subst ho
     intro a W hb0 hs hp hi;have hb:=undrew hb0;clear hb0
     have tt:sl a 2 = .pointer (some ⟨w.heap.size,0,none⟩):=hi 2 (by decide)
     have dd0:=(hb.cell (p:=⟨w.heap.size,0,none⟩) (lt_of_cell p2)).trans p2
     refine ite_y rfl (wp_val (.pointer (some ⟨be,0,none⟩)) ?_ ?_)
     ·simp only [execOp,eval_tmp,tt];simp [go_sem,dd0]
     ·exact ⟨_,rfl,Below.refl _ _,rfl⟩
    ·simp at ho;subst ho
     intro a W hb0 hs hp hi;have hb:=undrew hb0;clear hb0
     have tt:sl a 2 = .pointer (some ⟨w.heap.size,0,none⟩):=hi 2 (by decide)
     have dd0:=(hb.cell (p:=⟨w.heap.size,0,none⟩) (lt_of_cell p2)).trans p2
     refine ite_y rfl (wp_val (.pointer (some ⟨be,0,none⟩)) ?_ ?_)
     ·simp only [execOp,eval_tmp,tt];simp [go_sem,dd0]
     ·exact ⟨_,rfl,Below.refl _ _,rfl⟩
    ·simp at ho;subst ho
     intro a W hb0 hs hp hi;have hb:=undrew hb0;clear hb0
     have tt:sl a 73 = .pointer (some ⟨be,0,none⟩):=hp 1 (by decide)
     refine ite_y rfl (wp_val (.pointer (some ⟨be,0,none⟩)) ?_ ?_)
     ·simp only [execOp,eval_tmp,tt];simp [go_sem]
     ·exact ⟨_,rfl,Below.refl _ _,rfl⟩
    ·simp at ho;subst ho
     intro a W hb0 hs hp hi;have hb:=undrew hb0;clear hb0
     have t74:sl a 74 = .pointer (some ⟨be,0,none⟩):=hp 2 (by decide)
     refine ite_y rfl (wp_val (.pointer (some ⟨be,2,none⟩)) ?_ ?_)
     ·simp only [execOp,eval_tmp,eval_const,t74];simp [go_sem]
     ·exact ⟨_,rfl,Below.refl _ _,rfl⟩
    ·simp at ho;subst ho
     intro a W hb0 hs hp hi;have hb:=undrew hb0;clear hb0
     have tt:sl a 75 = .pointer (some ⟨be,2,none⟩):=hp 3 (by decide)
     have dd0:=(hb.cell (p:=⟨be,2,none⟩) (lt_of_cell f2)).trans f2
     refine ite_y rfl (wp_val (.slice q n c) ?_ ?_)
     ·simp only [execOp,eval_tmp,tt];simp [go_sem,dd0]
     ·exact ⟨_,rfl,Below.refl _ _,rfl⟩
    ·simp at ho;subst ho
     intro a W hb0 hs hp hi;have hb:=undrew hb0;clear hb0
     have t13:sl a 13 = .int .i64 r:=hi 13 (by decide)
     exact ite_y rfl (wp_val (sl a 13) rfl ⟨_,rfl,Below.refl _ _,t13⟩)
    ·simp at ho;subst ho
     intro a W hb0 hs hp hi;have hb:=undrew hb0;clear hb0
     have tt:sl a 6 = .pointer (some ⟨b6,0,none⟩):=hi 6 (by decide)
     have dd0:=(hb.cell (p:=⟨b6,0,none⟩) (lt_of_cell y0)).trans y0
     have dd1:=(hb.cell (p:=⟨b6,1,none⟩) (lt_of_cell y1)).trans y1
     refine ite_y rfl (wp_val (.agg #[.slice q5 m5 g5,.slice q6 m6 g6]) ?_ ?_)
     ·simp only [execOp,eval_tmp,tt];simp [go_sem,dd0,dd1]
     ·exact ⟨_,rfl,Below.refl _ _,rfl⟩
    ·simp at ho;subst ho
     intro a W hb0 hs hp hi;have hb:=undrew hb0;clear hb0
     have tt:sl a 78 = .agg #[.slice q5 m5 g5,.slice q6 m6 g6]:=hp 6 (by decide)
     have v78:a.tmps[78]?.getD undef = .agg #[.slice q5 m5 g5,.slice q6 m6 g6]:=by simpa [sl] using tt
     refine ite_y rfl (wp_val' (w':=W.alloc (.cells #[.slice q5 m5 g5,.slice q6 m6 g6] 99)) (.slice (some ⟨W.heap.size,0,none⟩) 1 1) ?_ ?_)
     ·simp only [execOp,eval_tmp,tt];simp [go_sem,tt,v78]
     ·exact ⟨_,rfl,al (Below.refl _ _) (Nat.le_refl _),W.heap.size,rfl,hnew rfl,hb.size⟩
    ·exact absurd rfl his
    ·simp at ho;subst ho;exact absurd hps (by decide)
    ·simp at ho;subst ho;exact absurd hps (by decide)
   ·intro a W hb hs hp
    have t76:sl a 76 = .slice q n c:=hp 4 (by decide)
    have t77:sl a 77 = .int .i64 r:=hp 5 (by decide)
    obtain ⟨vb,t79,hvb,hvb2⟩:∃ vb,sl a 79 = .slice (some ⟨vb,0,none⟩) 1 1∧W.heap[vb]? = some (.cells #[.slice q5 m5 g5,.slice q6 m6 g6] 99 (0,0))∧w10.heap.size≤vb:=hp 7 (by decide)
    have EW:=E10.out.keep hb
    have hvo:(Value.slice q n c).ownBlock≠some vb:=fun e=>by have:=(E10.out.rows.lt vb e).2;omega
    refine wp_enter 120 #[.slice q n c,.int .i64 r,.slice (some ⟨vb,0,none⟩) 1 1] ?_ (InsRow_any base n r vb _ (.slice q5 m5 g5) (.slice q6 m6 g6) (K.map (clrF Y)) Y W EW.rows hr (by omega) (by have:=hb.size;omega) hvb hvo ((Y110.out.keep hb).mono hbw) ((Y210.out.keep hb).mono hbw)) ?_
    ·simp [execOp,resolve,show a.tmps[76]?.getD undef = .slice q n c by simpa [sl] using t76,show a.tmps[77]?.getD undef = .int .i64 r by simpa [sl] using t77,show a.tmps[79]?.getD undef = .slice (some ⟨vb,0,none⟩) 1 1 by simpa [sl] using t79,go_sem]
    ·rintro e W' ⟨u,rfl,hRw,hg,hbk⟩
     rw [HFIN.out] at hRw
     have hCW:=C10.out.below hb
     have ko:∀ b,b < W.heap.size→(Value.slice q n c).ownBlock≠some b→W'.heap[b]? = W.heap[b]?:=fun b h1 h2=>hg.block b h1 (fun e=>h2 e.symm)
     have n1:(Value.slice q n c).ownBlock≠some be:=EW.rows.ne_box EW.box (by decide)
     have lt1:∀ b,(Value.slice q n c).ownBlock = some b→b < w.heap.size:=fun b e=>(HE.out.rows.lt b e).2
     have P10W:=(hb.block _ (blk_lt P10.out)).trans P10.out;have X610W:=(hb.block _ (blk_lt X610.out)).trans X610.out
     refine ⟨u,rfl,u,rfl,hRw,(ko be (blk_lt EW.box) n1).trans EW.box,(ko _ (blk_lt P10W) (fun e=>by have:=lt1 _ e;omega)).trans P10W,(ko _ (blk_lt X610W) (fun e=>by have:=lt1 _ e;omega)).trans X610W,hCW.grown hg,?_⟩
     rcases hbk with e | e
     ·exact .inl e
     ·refine .inr fun b hb'=>?_
      rw [e] at hb';cases hb'
      exact hCW.size
   ·intro i o him his ho hpo a W u hP hs hu hk hi
    obtain ⟨-,hPb,hP2,hP6,-,-⟩:=hP
    obtain ⟨F0,F1,F2⟩:=cells3 hPb
    obtain ⟨G0,G1⟩:=cells2 hP6
    have Q2:W.cell? ⟨w.heap.size,0,none⟩ = some (.pointer (some ⟨be,0,none⟩)):=cell_of_row _ _ 0 _ _ _ hP2
    rcases (show i = 0∨i = 1∨i = 2∨i = 3∨i = 4∨i = 5∨i = 6∨i = 7∨i = 8∨i = 9∨i = 10 by omega) with rfl | rfl | rfl | rfl | rfl | rfl | rfl | rfl | rfl | rfl | rfl
    ·simp at ho;subst ho
     have tt:sl a 2 = .pointer (some ⟨w.heap.size,0,none⟩):=hi 2 (by decide)
     refine ⟨_,rfl,?_⟩
     simp only [execOp,eval_tmp,tt];simp [go_sem,Q2]
    ·simp at ho;subst ho
     have tt:sl a 2 = .pointer (some ⟨w.heap.size,0,none⟩):=hi 2 (by decide)
     refine ⟨_,rfl,?_⟩
     simp only [execOp,eval_tmp,tt];simp [go_sem,Q2]
    ·simp at ho;subst ho
     have tt:sl a 73 = .pointer (some ⟨be,0,none⟩):=hk 1 (by decide) (by decide) _ 73 rfl rfl
     refine ⟨_,rfl,?_⟩
     simp only [execOp,eval_tmp,tt];simp [go_sem]
    ·simp at ho;subst ho
     have tt:sl a 74 = .pointer (some ⟨be,0,none⟩):=hk 2 (by decide) (by decide) _ 74 rfl rfl
     refine ⟨_,rfl,?_⟩
     simp only [execOp,eval_tmp,tt];simp [go_sem]
    ·exact absurd hpo (by decide)
    ·exact absurd hpo (by decide)
    ·simp at ho;subst ho
     have tt:sl a 6 = .pointer (some ⟨b6,0,none⟩):=hi 6 (by decide)
     refine ⟨_,rfl,?_⟩
     simp only [execOp,eval_tmp,tt];simp [go_sem,G0,G1]
    ·exact absurd hpo (by decide)
    ·exact absurd rfl his
    ·simp at ho;subst ho
     have tt:sl a 72 = .pointer (some ⟨be,0,none⟩):=hk 0 (by decide) (by decide) _ 72 rfl rfl
     refine ⟨_,rfl,?_⟩
     simp only [execOp,eval_tmp,tt];simp [go_sem]
    ·simp at ho;subst ho
     have tt:sl a 81 = .pointer (some ⟨be,0,none⟩):=hk 9 (by decide) (by decide) _ 81 rfl rfl
     refine ⟨_,rfl,?_⟩
     simp only [execOp,eval_tmp,tt];simp [go_sem]
   ·intro a W u o ho hP hs hd hu hlvs ht
    have ha:=act_is [72,73,74,75,76,77,78,79,80,81,82] hs hd ht (by decide)
    simp at ho;subst ho
    have t82:sl a 82 = .pointer (some ⟨be,2,none⟩):=hlvs 10 (by decide) (by decide) _ 82 rfl rfl
    obtain ⟨hRw,hPb,-,-,hCW,hbk⟩:=hP
    obtain ⟨F0,F1,F2⟩:=cells3 hPb
    have z2:=frozen_of_row _ _ 2 _ _ hPb
    obtain ⟨uq,uc,rfl⟩:=hRw.shape
    refine wp_skip_none rfl (w':=W.setCell ⟨be,2,none⟩ (.slice uq (n + 1) uc)) ?_ ?_
    ·simp only [execOp,eval_tmp,t82,hu];simp [go_sem,F2,z2]
    simp only [List.foldl,t82,hu] at ha
    generalize sl a 72 = u72 at ha
    generalize sl a 73 = u73 at ha
    generalize sl a 74 = u74 at ha
    generalize sl a 75 = u75 at ha
    generalize sl a 76 = u76 at ha
    generalize sl a 77 = u77 at ha
    generalize sl a 78 = u78 at ha
    generalize sl a 79 = u79 at ha
    generalize sl a 81 = u81 at ha
    simp only [Act.put,List.setIfInBounds_toArray,List.set_cons_zero,List.set_cons_succ] at ha
    rw [ha];clear ha
    have hne2:=hRw.ne_box hPb (by decide)
    have NX:Hid (Elm (W.setCell ⟨be,2,none⟩ (.slice uq (n + 1) uc)) base be k t (.slice uq (n + 1) uc) (n + 1) (putF K x)∧Chg w (W.setCell ⟨be,2,none⟩ (.slice uq (n + 1) uc)) be (.slice q n c)) :=
     ⟨⟨hss hPb,hRw.set hPb (by decide) hne2 (grownBy_setCell W be 2 _),hbe⟩,hCW.box 2 _⟩
    have HBK:=Lib.hid hbk
    clear hRw hPb hCW hbk F0 F1 F2 z2 ht hlvs
    go_wp2
    go_ret2
    exact ⟨rfl,_,NX.out.1,NX.out.2,HBK.out⟩
end Go.Proofs.YtccaiiigdfieoaaGreatDoor
namespace Go.Proofs.YtccaiiigdfieoaaGreatDoor
open Go.RowKit Go.By
def unitS (n i:Int):List UInt8 × Int:=if n < 0∨65536 < n∨i < 0∨n≤i then ([],2) else ((List.replicate n.toNat 0).set i.toNat 1,0)
theorem unitS_bad {n i:Int} (h:n < 0∨65536 < n∨i < 0∨n≤i):unitS n i = ([],2):=if_pos h
theorem unitS_good {n i:Int} (h:¬ (n < 0∨65536 < n∨i < 0∨n≤i)):unitS n i = ((List.replicate n.toNat 0).set i.toNat 1,0):=if_neg h
set_option maxRecDepth 100000 in
set_option maxHeartbeats 1000000 in
theorem Unit_any (n i:Int) (w:World):Calls Tryz.prog 164 #[.int .i64 n,.int .i64 i] w (RetB 5 w (unitS n i).1 (unitS n i).2):=by
 by_cases h:n < 0∨65536 < n∨i < 0∨n≤i
 ·have HR:=Lib.hid (unitS_bad h)
  by_cases a1:n < 0
  ·clear h
   go_enter Tryz.func164,Tryz.ntmps164
   go_wp2
   go_ret2
   rw [HR.out]
   exact RetB.nil _ _ _ _ (Below.refl _ _)
  ·by_cases a2:65536 < n
   ·clear h
    go_enter Tryz.func164,Tryz.ntmps164
    go_wp2
    go_ret2
    rw [HR.out]
    exact RetB.nil _ _ _ _ (Below.refl _ _)
   ·by_cases a3:i < 0
    ·clear h
     go_enter Tryz.func164,Tryz.ntmps164
     go_wp2
     go_ret2
     rw [HR.out]
     exact RetB.nil _ _ _ _ (Below.refl _ _)
    ·have a4:n≤i:=by omega
     clear h
     go_enter Tryz.func164,Tryz.ntmps164
     go_wp2
     go_ret2
     rw [HR.out]
     exact RetB.nil _ _ _ _ (Below.refl _ _)
 ·have HR:=Lib.hid (unitS_good h)
  obtain ⟨i0,hi,hz0,hz1,hz2⟩:=info_parts info_u8
  obtain ⟨m,rfl⟩:=Int.eq_ofNat_of_zero_le (show 0≤n by omega)
  obtain ⟨k,rfl⟩:=Int.eq_ofNat_of_zero_le (show 0≤i by omega)
  have hk:k < m:=by omega
  have hm:m≤65536:=by omega
  have m1:=Lib.hid (show m≤maxLen by unfold maxLen;omega);have m2:=Lib.hid (show 1 * m≤281474976710656 by omega)
  have q1:¬ ((m:Int) < 0):=by omega
  have q2:¬ ((65536:Int) < (m:Int)):=by omega
  have q3:¬ ((k:Int) < 0):=by omega
  have q4:¬ ((m:Int)≤(k:Int)):=by omega
  have q5:(k:Int) < (m:Int):=by omega
  clear h
  go_enter Tryz.func164,Tryz.ntmps164
  go_wp2_with (at_make;refine wpList_make_full _ rfl _ _ 97 rfl w.heap.size 5 i0 (.int .u8 0) 1 Tryz.underlying97 hi hz0 hz1 .i64 .i64 _ _ m rfl rfl rfl rfl (by rw [hz2];exact m2.out) m1.out (Nat.le_refl _) ?_)
  intro w1 ho hg
  have ho':w1.ownsRow w.heap.size 5 1 (.slice (some ⟨w.heap.size,0,none⟩) m m) m ((List.replicate m (0:UInt8)).map B8):=by
   have e:(madeCells #[Value.int .u8 0] m).toList = (List.replicate m (0:UInt8)).map B8:=by
    rw [List.map_replicate];exact toList_madeCells_one _ _
   rw [← e];exact ho
  have hcs:w1.cell? ⟨w.heap.size,k,none⟩ = some (B8 0):=by
   rw [ho'.cellAt k (by omega)];simp [hk]
  have hfs:w1.frozen? ⟨w.heap.size,k,none⟩ = false:=ho'.frozenAt k
  have HO:=Lib.hid ho';clear ho ho'
  have hw1:Below w.heap.size w w1:=(Below.refl _ _).grown hg (Nat.le_refl _) (by simp)
  clear hg
  go_wp2
  go_ret2
  rw [HR.out]
  have st:=HO.out.stored k (B8 1)
  rw [← List.map_set] at st
  exact ⟨_,m,m,by simp [Hid],rfl,by rw [Int.toNat_natCast,Int.toNat_natCast];exact st.1,hw1.setCell (p:=⟨w.heap.size,k,none⟩) (Nat.le_refl _) _⟩
end Go.Proofs.YtccaiiigdfieoaaGreatDoor
namespace Go.By
open Go.RowKit
theorem RwL.rwS {T2 T1 base n c:Nat} {w:World} {q:Option Addr} {K:List (List UInt8 × List UInt8)} (h:RwL T2 T1 w base (.slice q n c) n K):RwS w q n c K:=by
 have hl:=h.len
 have hs:n≤c∧c≤maxLen∧(q = none→n = 0∧c = 0):=by
  obtain ⟨vs,a,b,o,r⟩:=h
  rcases o.2 with ⟨hv,hn⟩ | ⟨g,cap,cur,hv,_,_,h1,h2,_⟩
  ·simp at hv;exact ⟨by omega,by unfold maxLen;omega,fun _=>⟨by omega,by omega⟩⟩
  ·simp at hv;exact ⟨by omega,by omega,fun e=>by rw [hv.1] at e;cases e⟩
 refine ⟨hl,hs.1,hs.2.1,hs.2.2,fun j k hj=>?_⟩
 have hjn:j < n:=by rw [← hl];exact (List.getElem?_eq_some_iff.1 hj).1
 obtain ⟨g,k',q1,m1,c1,q2,m2,c2,e,d1,d2,hk,s1,s2⟩:=h.at hjn
 have:k' = k:=by have h:=hk.out;rw [hj] at h;cases h;rfl
 subst this
 exact ⟨g,0,q1,m1,c1,q2,m2,c2,e,by rw [Nat.zero_add];exact d1,by rw [Nat.zero_add];exact d2,s1,s2⟩
end Go.By
namespace Go.Proofs.YtccaiiigdfieoaaGreatDoor
open Go.RowKit Go.By
theorem enters_tells:Enters Tryz.prog 165:=enters_of Tryz.func165 (by kernel_rfl) rfl
set_option maxHeartbeats 400000 in
theorem Tells_any (U:List UInt8) (pu:Option Addr) (nu cu b6:Nat) (p1 p2:Option Addr) (n1 c1 n2 c2:Nat) (r:List UInt8) (w:World) (h1:Sl B8 w p1 n1 c1 r) (hu:w.cell? ⟨b6,0,none⟩ = some (.slice pu nu cu)) (hU:Sl B8 w pu nu cu U) :
  Calls Tryz.prog 165 (#[.agg #[.slice p1 n1 c1,.slice p2 n2 c2]] ++ #[.pointer (some ⟨b6,0,none⟩)]) w fun e w'=>e = .returned (.bool (decide (r = U)))∧Below w.heap.size w w':=by
 have HB:Hid (∀ o,Below w.heap.size w (w.alloc o)):=fun o=>al (Below.refl _ _) (Nat.le_refl _)
 have H1:=Lib.hid h1;have HU:=Lib.hid hU
 have c6:=((HB.out (.cells #[.slice p1 n1 c1,.slice p2 n2 c2] 99)).cell (p:=⟨b6,0,none⟩) (lt_of_cell hu)).trans hu
 clear h1 hU
 go_enter Tryz.func165,Tryz.ntmps165
 go_wp2_with fail
 refine Calls.mono (EqualV_d p1 pu n1 nu c1 cu r U _ (H1.out.keep (HB.out _)) (HU.out.keep (HB.out _))) ?_
 rintro e w' ⟨rfl,m,rfl⟩
 clear c6
 go_wp2
 go_ret
 exact ⟨rfl,(HB.out _).trans ((below_drewN _ m).mono (by simp))⟩
def knownS (k:Int) (K:List Rw) (i:Int):List UInt8 × Bool :=
 if (unitS k i).2≠0 then ([],false) else match K.find? (fun r=>decide (r.1 = (unitS k i).1)) with
  | some r=>(r.2,true)
  | none=>([],false)
def RetK2 (w:World) (r:List UInt8 × Bool) (e:Ending) (w':World):Prop:=∃ q m c,e = .returned (.tuple #[.slice q m c,.bool r.2])∧Sl B8 w' q m c r.1∧Below w.heap.size w w'
theorem idx_find (f:Rw→Bool) (K:List Rw):(idxf f K = -1∧K.find? f = none)∨∃ (j:Nat) (r:Rw),idxf f K = j∧K[j]? = some r∧K.find? f = some r:=by
 unfold idxf
 cases h:K.findIdx? f with
 | none =>
  refine .inl ⟨rfl,?_⟩
  rw [List.find?_eq_none]
  intro x hx
  have:=List.findIdx?_eq_none_iff.1 h x hx
  simpa using this
 | some j =>
  obtain ⟨h1,h2,h3⟩:=List.findIdx?_eq_some_iff_getElem.1 h
  refine .inr ⟨j,K[j],rfl,List.getElem?_eq_getElem h1,?_⟩
  rw [List.find?_eq_some_iff_getElem]
  exact ⟨h2,j,h1,rfl,fun i hi=>by have:=h3 i hi;simpa using this⟩
set_option maxRecDepth 100000 in
set_option maxHeartbeats 4000000 in
theorem Known_any (base be k t n:Nat) (v:Value) (K:List Rw) (i:Int) (w:World) (hE:Elm w base be k t v n K) (ht:∀ r,r ∈ K→r.2.length≤65535) :
  Calls Tryz.prog 99 #[.pointer (some ⟨be,0,none⟩),.int .i64 i] w (RetK2 w (knownS k K i)):=by
 obtain ⟨q,c,rfl⟩:=hE.rows.shape
 have HE:=Lib.hid hE;have HT:=Lib.hid ht
 obtain ⟨f0,f1,f2⟩:=cells3 hE.box
 clear hE ht
 go_enter Tryz.func99,Tryz.ntmps99
 go_wp2_with fail
 refine Calls.mono (Unit_any k i w) ?_
 rintro e w1 ⟨qu,mu,cu,hlu,rfl,ou,hb⟩
 have B1:=Lib.hid hb;have U1:=Lib.hid (Sl.of_owns ou);have E1:=Lib.hid (HE.out.keep hb)
 clear f0 f1 f2 ou hb hlu
 by_cases hc:(unitS k i).2 = 0
 ·have hk:Hid (knownS k K i = match K.find? (fun r=>decide (r.1 = (unitS k i).1)) with | some r=>(r.2,true) | none=>([],false)):=if_neg (by simp [hc])
  rw [hc]
  obtain ⟨f0,f1,f2⟩:=cells3 (hal (o:=.cells #[.slice qu mu cu] 97) E1.out.box)
  go_wp2_with fail
  clear f0 f1 f2
  obtain ⟨b6,h6⟩:∃ b6,b6 = w1.heap.size:=⟨_,rfl⟩
  rw [← h6]
  refine use_w1 (fun W=>Below w1.heap.size w1 W∧W.heap[b6]? = some (.cells #[.slice qu mu cu] 97 (0,0))) ⟨al (Below.refl _ _) (Nat.le_refl _),hnew h6⟩ ?_
  rintro w2 ⟨b2,x2⟩
  have E2:=Lib.hid (E1.out.keep b2)
  have U2:=Lib.hid (U1.out.keep b2);have X2:=Lib.hid x2;have B2:=Lib.hid (bl B1.out b2 B1.out.size)
  clear b2 x2 E1 U1 B1 h6
  refine Calls.mono (IndexRow_any (fun r=>decide (r.1 = (unitS k i).1)) 165 #[.pointer (some ⟨b6,0,none⟩)] enters_tells q n c K w2 E2.out.rows.rwS (fun W q1 q2 m1 d1 m2 d2 x hb hx=>Tells_any _ qu mu cu b6 q1 q2 m1 d1 m2 d2 x.1 W hx (cell_of_row _ _ 0 _ _ _ ((hb.block _ (blk_lt X2.out)).trans X2.out)) (U2.out.keep hb))) ?_
  rintro e w3 ⟨rfl,hb⟩
  have E3:=Lib.hid (E2.out.keep hb);have B3:=Lib.hid (bl B2.out hb B2.out.size)
  clear hb E2 U2 X2 B2
  rcases idx_find (fun r=>decide (r.1 = (unitS k i).1)) K with ⟨e1,e2⟩ | ⟨j,r,e1,e2,e3⟩
  ·rw [e1]
   have hr:Hid (knownS k K i = ([],false)):=by show _ = _;rw [hk.out,e2]
   clear e1 e2 hk hc
   go_wp2
   go_ret2
   rw [hr.out]
   exact ⟨none,0,0,rfl,Sl.nil0 _ _,B3.out⟩
  ·rw [e1]
   have hr:Hid (knownS k K i = (r.2,true)):=by show _ = _;rw [hk.out,e3]
   have hjn:j < n:=by rw [← E3.out.rows.len];exact (List.getElem?_eq_some_iff.1 e2).1
   obtain ⟨g,kk,a1,b1,d1,a2,b2,d2,rfl,d0,d1',hkk,t1,t2⟩:=E3.out.rows.at hjn
   have hkr:kk = r:=by have h:=hkk.out;rw [e2] at h;cases h;rfl
   subst hkr
   have T2:=Lib.hid t2
   have hj0:¬ ((j:Int) < 0):=by omega
   have jn:(j:Int) < (n:Int):=by omega
   obtain ⟨f0,f1,f2⟩:=cells3 E3.out.box
   have hlen:b2≤65535:=by rw [← t2.len];exact HT.out kk (List.mem_of_getElem? e2)
   clear e1 e2 e3 hk hc t1 t2 hkk d0
   go_wp2_with fail
   refine Calls.mono (CloneB_any a2 b2 d2 kk.2 w3 T2.out (by unfold Room;omega)) ?_
   rintro e w4 ⟨q4,c4,rfl,o4,hb⟩
   have O4:=Lib.hid (Sl.of_owns o4);have B4:=Lib.hid (bl B3.out hb B3.out.size)
   clear o4 hb f0 f1 f2 d1'
   go_wp2
   go_ret2
   rw [hr.out]
   exact ⟨q4,b2,c4,rfl,O4.out,B4.out⟩
 ·have hr:Hid (knownS k K i = ([],false)):=if_pos hc
  have hc2:((unitS k i).2 != 0) = true:=by simpa using hc
  generalize (unitS k i).2 = code at hc2 ⊢
  clear hc
  go_wp2
  go_ret2
  rw [hr.out]
  exact ⟨none,0,0,rfl,Sl.nil0 _ _,al B1.out B1.out.size⟩
end Go.Proofs.YtccaiiigdfieoaaGreatDoor
namespace Go.Proofs.YtccaiiigdfieoaaGreatDoor
open Go.RowKit Go.By
end Go.Proofs.YtccaiiigdfieoaaGreatDoor
namespace Go.Proofs.YtccaiiigdfieoaaGreatDoor
open Go.RowKit Go.By
end Go.Proofs.YtccaiiigdfieoaaGreatDoor
namespace Go.Proofs.YtccaiiigdfieoaaGreatDoor
open Go.RowKit Go.By
end Go.Proofs.YtccaiiigdfieoaaGreatDoor
namespace Go.Proofs.YtccaiiigdfieoaaGreatDoor
open Go.RowKit Go.By
theorem lead_zero {v:List UInt8} (h:leadS v < 0):zeroS v = true:=by
 unfold zeroS
 exact List.all_eq_true.2 fun x hx=>by simpa using leadS_neg h x hx
set_option maxRecDepth 100000 in
set_option maxHeartbeats 4000000 in
theorem EPut_zero (base be k t n:Nat) (v:Value) (K:List Rw) (p1 p2:Option Addr) (c1 c2:Nat) (x:Rw) (w:World) (hE:Elm w base be k t v n K) (s1:Sl B8 w p1 k c1 x.1) (s2:Sl B8 w p2 t c2 x.2) (hK:∀ r,r ∈ K→Fit k t r∧Led r) (hk:k≤4096) (ht:t≤65535) (hn:leadS (restF K x).1 < 0) :
  Calls Tryz.prog 64 #[.pointer (some ⟨be,0,none⟩),.agg #[.slice p1 k c1,.slice p2 t c2]] w fun e w'=>e = .returned (.tuple #[.int .i64 (if zeroS (restF K x).2 = true then 1 else 2),.int .i64 0])∧Below w.heap.size w w':=by
 have HB:Hid (∀ o1 o2,Below w.heap.size w ((w.alloc o1).alloc o2)):=fun o1 o2=>al (al (Below.refl _ _) (Nat.le_refl _)) (by simp)
 have HZ:Hid (zeroS (restF K x).1 = true):=lead_zero hn
 have HE:=Lib.hid hE;have S1:=Lib.hid s1;have S2:=Lib.hid s2;have HK:=Lib.hid hK
 clear hE s1 s2 hK hn
 obtain ⟨u,hu⟩:∃ u:Int,u = if zeroS (restF K x).2 = true then 1 else 2:=⟨_,rfl⟩
 rw [← hu]
 have HU:=Lib.hid hu
 clear hu
 go_enter Tryz.func64,Tryz.ntmps64
 go_wp2_with fail
 refine Calls.mono (ERest_any base be k t n v K p1 p2 c1 c2 x _ (HE.out.keep (HB.out _ _)) (S1.out.keep (HB.out _ _)) (S2.out.keep (HB.out _ _)) HK.out hk ht) ?_
 rintro e w3 ⟨q1,m1,g1,q2,m2,g2,l1,l2,rfl,o1,o2,hb⟩
 have B3:Hid (Below w.heap.size w w3):=bl (HB.out _ _) hb (by simp;omega)
 have L1:=Lib.hid (Sl.of_owns o1);have L2:=Lib.hid (Sl.of_owns o2)
 clear hb o1 o2 l1 l2 S1 S2 HE HB
 go_wp2_with fail
 refine use_w1 (fun W=>Below w3.heap.size w3 W∧W.heap[w3.heap.size]? = some (.cells #[.slice q1 m1 g1,.slice q2 m2 g2] 99 (0,0))) ⟨al (Below.refl _ _) (Nat.le_refl _),hnew rfl⟩ ?_
 rintro w4 ⟨b4,x4⟩
 refine Calls.mono (VZero_any q1 m1 g1 (restF K x).1 w4 (L1.out.keep b4)) ?_
 rintro e w' ⟨rfl,rfl⟩
 rw [HZ.out]
 have L24:=Lib.hid (L2.out.keep b4);have B4:=Lib.hid (bl B3.out b4 B3.out.size)
 obtain ⟨y0,y1⟩:=cells2 x4
 clear b4 x4
 go_wp2_with fail
 refine Calls.mono (VZero_any q2 m2 g2 (restF K x).2 w4 L24.out) ?_
 rintro e w' ⟨rfl,rfl⟩
 clear y0 y1
 cases hz:zeroS (restF K x).2 with
 | true =>
  go_wp2
  go_ret2
  have e1:=HU.out.trans (if_pos hz)
  exact ⟨by rw [e1];rfl,B4.out⟩
 | false =>
  go_wp2
  go_ret2
  have e1:=HU.out.trans (if_neg (by rw [hz];decide))
  exact ⟨by rw [e1];rfl,B4.out⟩
end Go.Proofs.YtccaiiigdfieoaaGreatDoor
namespace Go.By
open Go.RowKit
theorem RwV.of_owns {w:World} {base T n c:Nat} {q:Option Addr} {vs:List (Value × Value)} (h:w.ownsRow base T 2 (.slice q n c) n (fl2 vs)) (h1:∀ u,u ∈ fl2 vs→u.oneCell' = true):RwV w q n c vs:=by
 have hl:vs.length = n:=by have:=h.1;rw [fl2_length] at this;omega
 rcases h.2 with ⟨e1,e2⟩ | ⟨g,cap,cur,e1,_,_,h3,h4,_⟩
 ·cases e1
  exact ⟨hl,Nat.le_of_eq e2,by simp [maxLen],fun _=>⟨e2,rfl⟩,fun j u hj=>(by have:=(List.getElem?_eq_some_iff.1 hj).1;rw [fl2_length] at this;omega),h1⟩
 ·cases e1
  refine ⟨hl,h3,h4,fun e=>(by cases e),fun j u hj=>⟨g,0,rfl,?_⟩,h1⟩
  have:=(List.getElem?_eq_some_iff.1 hj).1
  rw [fl2_length] at this
  rw [Nat.zero_add,h.cellAt _ (by omega)];exact hj
end Go.By
namespace Go.Proofs.YtccaiiigdfieoaaGreatDoor
open Go.RowKit Go.By
end Go.Proofs.YtccaiiigdfieoaaGreatDoor
namespace Go.By
open Go.RowKit
def cntS (v:List UInt8):Nat:=v.countP (fun x=>decide (x≠0))
theorem cnt_one {v:List UInt8} {l:Nat} {a:UInt8} (h:v[l]? = some a) (ha:a≠0) (hc:cntS v = 1) {j:Nat} {b:UInt8} (hj:v[j]? = some b) (hne:j≠l):b = 0:=by
 obtain ⟨hl,e⟩:=List.getElem?_eq_some_iff.1 h
 have hv:v = v.take l ++ a :: v.drop (l + 1):=by rw [← e,List.getElem_cons_drop hl,List.take_append_drop]
 have h2:List.countP (fun x:UInt8=>decide (x≠0)) (v.take l) + (List.countP (fun x:UInt8=>decide (x≠0)) (v.drop (l + 1)) + 1) = 1:=by
  have h3:=hc
  unfold cntS at h3
  rw [hv,List.countP_append,List.countP_cons,if_pos (by simpa using ha)] at h3
  exact h3
 have h0:∀ x,x ∈ v.take l∨x ∈ v.drop (l + 1)→x = 0:=fun x hx=>by
  rcases hx with hx | hx
  ·have:=List.countP_eq_zero.1 (show List.countP (fun x:UInt8=>decide (x≠0)) (v.take l) = 0 by omega) x hx
   simpa using this
  ·have:=List.countP_eq_zero.1 (show List.countP (fun x:UInt8=>decide (x≠0)) (v.drop (l + 1)) = 0 by omega) x hx
   simpa using this
 refine h0 b ?_
 rcases Nat.lt_or_ge j l with g | g
 ·exact .inl (List.mem_of_getElem? (i:=j) (by rw [List.getElem?_take,if_pos g];exact hj))
 ·exact .inr (List.mem_of_getElem? (i:=j - (l + 1)) (by rw [List.getElem?_drop,show l + 1 + (j - (l + 1)) = j by omega];exact hj))
end Go.By
namespace Go.Proofs.YtccaiiigdfieoaaGreatDoor
open Go.RowKit Go.By
theorem cnt_unit (n i:Nat) (hi:i < n):cntS ((List.replicate n 0).set i 1) = 1:=by
 unfold cntS
 rw [List.set_eq_take_append_cons_drop,if_pos (by simpa using hi),List.countP_append,List.countP_cons]
 simp [List.countP_replicate]
theorem unit_iff {wd t:Nat} {r:Rw} {i:Nat} (hf:Fit wd t r) (hl:Led r) (hi:i < wd):(cntS r.1 = 1∧leadS r.1 = (i:Int))↔r.1 = (List.replicate wd 0).set i 1:=by
 obtain ⟨l,e1,e2,e3⟩:=hl
 constructor
 ·rintro ⟨hc,hle⟩
  obtain rfl:l = i:=by rw [e1] at hle;omega
  apply List.ext_getElem?
  intro j
  by_cases hj:j < wd
  ·obtain ⟨b,hb⟩:∃ b,r.1[j]? = some b:=⟨_,List.getElem?_eq_getElem (by rw [hf.1];exact hj)⟩
   rw [List.getElem?_set]
   by_cases e:l = j
   ·subst e;rw [if_pos rfl,if_pos (by simpa using hj)];exact e2
   ·rw [if_neg e,List.getElem?_replicate,if_pos hj,hb,cnt_one e2 (by decide) hc hb (fun h=>e h.symm)]
  ·rw [List.getElem?_eq_none (by rw [hf.1];omega),List.getElem?_eq_none (by simp;omega)]
 ·intro h
  refine ⟨by rw [h];exact cnt_unit wd i hi,?_⟩
  rw [e1]
  have h1:r.1[i]? = some 1:=by rw [h,List.getElem?_set,if_pos rfl,if_pos (by simpa using hi)]
  have:¬ i < l:=fun hil=>by have:=e3 i 1 hil h1;exact absurd this (by decide)
  have:¬ l < i:=fun hli=>by
   have h2:r.1[l]? = some 0:=by rw [h,List.getElem?_set,if_neg (by omega),List.getElem?_replicate,if_pos (by omega)]
   rw [h2] at e2;cases e2
  omega
def mtS (i:Int) (r:Rw):Bool:=decide (cntS r.1 = 1) && decide (leadS r.1 = i)
theorem known_find {wd t:Nat} {K:List Rw} (hK:∀ k,k ∈ K→Fit wd t k∧Led k) (hw:wd≤65536) (i:Int):knownS wd K i = match K.find? (mtS i) with
  | some r=>(r.2,true)
  | none=>([],false):=by
 unfold knownS unitS
 by_cases hi:i < 0∨(wd:Int)≤i
 ·rw [if_pos (show (wd:Int) < 0∨(65536:Int) < (wd:Int)∨i < 0∨(wd:Int)≤i by omega)]
  have:K.find? (mtS i) = none:=List.find?_eq_none.2 fun r hr=>by
   obtain ⟨hf,l,e1,-⟩:=hK r hr
   have hl:l < wd:=by obtain ⟨-,l',hl'⟩:=hK r hr;have:=hl'.lt hf;have e:=hl'.1;rw [e1] at e;omega
   unfold mtS
   rw [e1,decide_eq_false (show ¬ ((l:Int) = i) by omega)]
   simp
  rw [this];rfl
 ·rw [if_neg (show ¬ ((wd:Int) < 0∨(65536:Int) < (wd:Int)∨i < 0∨(wd:Int)≤i) by omega)]
  obtain ⟨n,rfl⟩:=Int.eq_ofNat_of_zero_le (show 0≤i by omega)
  have hn:n < wd:=by omega
  have e:K.find? (fun r=>decide (r.1 = (List.replicate wd 0).set n 1)) = K.find? (mtS n):=by
   have:∀ (L:List Rw),(∀ k,k ∈ L→Fit wd t k∧Led k)→L.find? (fun r=>decide (r.1 = (List.replicate wd 0).set n 1)) = L.find? (mtS n):=by
    intro L
    induction L with
    | nil=>intro _;rfl
    | cons a L ih =>
     intro h
     rw [List.find?_cons,List.find?_cons,ih (fun k hk=>h k (by simp [hk]))]
     have hu:=unit_iff (h a (by simp)).1 (h a (by simp)).2 hn
     have:mtS n a = decide (a.1 = (List.replicate wd 0).set n 1):=by
      unfold mtS
      by_cases hx:a.1 = (List.replicate wd 0).set n 1
      ·rw [decide_eq_true hx,decide_eq_true (hu.2 hx).1,decide_eq_true (hu.2 hx).2];rfl
      ·rw [decide_eq_false hx]
       by_cases h1:cntS a.1 = 1
       ·rw [decide_eq_false (fun h2=>hx (hu.1 ⟨h1,h2⟩))];simp
       ·rw [decide_eq_false h1];simp
     rw [this]
   exact this K hK
  simp only [ne_eq,not_true_eq_false,if_false,Int.toNat_natCast]
  rw [e]
  all_goals (cases K.find? (mtS n) <;> rfl)
end Go.Proofs.YtccaiiigdfieoaaGreatDoor
namespace Go.By
open Go.RowKit
end Go.By
namespace Go.Proofs.YtccaiiigdfieoaaGreatDoor
open Go.RowKit Go.By
end Go.Proofs.YtccaiiigdfieoaaGreatDoor
namespace Go.Proofs.YtccaiiigdfieoaaGreatDoor
open Go.RowKit Go.By
theorem RwL.made {w:World} {base g n:Nat} (hh:w.heap[g]? = some (.cells (madeCells #[.slice none 0 0,.slice none 0 0] (n * 2)) 99 (0,0))) (hb:base≤g) (hn:n≤maxLen):RwL 99 5 w base (.slice (some ⟨g,0,none⟩) n n) n (List.replicate n ([],[])):=by
 have hfl:(madeCells #[.slice none 0 0,.slice none 0 0] (n * 2)).toList = fl2 (List.replicate n ((.slice none 0 0:Value),(.slice none 0 0:Value))):=by
  apply List.ext_getElem?
  intro i
  by_cases hi:i < n * 2
  ·have e1:(madeCells #[.slice none 0 0,.slice none 0 0] (n * 2)).toList[i]? = some (.slice none 0 0):=by
    rcases Nat.mod_two_eq_zero_or_one i with h | h <;> simp [madeCells,hi,h]
   have hd:i / 2 < n:=by omega
   obtain ⟨f1,f2⟩:=fl2_at (vs:=List.replicate n ((.slice none 0 0:Value),(.slice none 0 0:Value))) (i:=i / 2) (u:=(.slice none 0 0,.slice none 0 0)) (by rw [List.getElem?_replicate,if_pos hd])
   rw [e1]
   rcases Nat.mod_two_eq_zero_or_one i with h | h
   ·rw [show i / 2 * 2 = i by omega] at f1;exact f1.symm
   ·rw [show i / 2 * 2 + 1 = i by omega] at f2;exact f2.symm
  ·rw [List.getElem?_eq_none (by simp [madeCells];omega),List.getElem?_eq_none (by rw [fl2_length,List.length_replicate];omega)]
 refine ⟨List.replicate n (.slice none 0 0,.slice none 0 0),by simp,by simp,⟨by rw [fl2_length,List.length_replicate],.inr ⟨g,n,_,rfl,hb,hh,Nat.le_refl _,hn,by simp [madeCells],?_⟩⟩,?_⟩
 ·rw [hfl,List.take_of_length_le (by rw [fl2_length,List.length_replicate];omega)]
 ·intro j u hj
  obtain ⟨h1,h2⟩:=List.getElem?_eq_some_iff.1 hj
  rw [List.length_replicate] at h1
  simp at h2
  subst h2
  exact ⟨([],[]),by rw [List.getElem?_replicate,if_pos h1],⟨none,0,0,rfl,rfl,World.ownsRow_nil _ _ _ _⟩,⟨none,0,0,rfl,rfl,World.ownsRow_nil _ _ _ _⟩⟩
theorem fill_step {α:Type} {K:List α} {j n:Nat} {a z:α} (hj:K[j]? = some a) (hn:K.length = n):(K.take j ++ List.replicate (n - j) z).set j a = K.take (j + 1) ++ List.replicate (n - (j + 1)) z:=by
 have hl:=(List.getElem?_eq_some_iff.1 hj).1
 have lj:(K.take j).length = j:=by rw [List.length_take];omega
 rw [List.set_append_right _ _ (by omega),lj,Nat.sub_self,List.take_add_one,hj]
 rw [show n - j = (n - (j + 1)) + 1 by omega,List.replicate_succ]
 simp
theorem heap_owns2 {w:World} {base E g n:Nat} {L:List Value} (h:w.ownsRow base E 2 (.slice (some ⟨g,0,none⟩) n n) n L):w.heap[g]? = some (.cells L.toArray E (0,0)):=by
 rcases h.2 with ⟨h1,_⟩ | ⟨g',cap,cur,hv,_,hh,_,_,hs,ht⟩
 ·cases h1
 ·cases hv
  rw [hh]
  have:cur = L.toArray:=by
   rw [← ht,List.take_of_length_le (by simp [hs])]
  rw [this]
set_option maxRecDepth 100000 in
set_option maxHeartbeats 4000000 in
theorem ERows_any (base be k t n:Nat) (v:Value) (K:List Rw) (w:World) (hE:Elm w base be k t v n K) (hr:∀ r,r ∈ K→Room r.1.length∧Room r.2.length) (hn:n≤4096) :
  Calls Tryz.prog 78 #[.pointer (some ⟨be,0,none⟩)] w fun e w'=>∃ v',e = .returned v'∧RwL 99 5 w' w.heap.size v' n K∧Below w.heap.size w w':=by
 obtain ⟨r0,hr0,hrz,hr1,hr2⟩:=info_parts info_vrow
 obtain ⟨q,c,rfl⟩:=hE.rows.shape
 have HLEN:=Lib.hid hE.rows.len;have HR:=Lib.hid hr;have HE:=Lib.hid hE
 have HM1:Hid (n≤maxLen):=by show n≤maxLen;unfold maxLen;omega
 have HM2:Hid (48 * n≤281474976710656):=by show 48 * n≤_;omega
 obtain ⟨g,hg⟩:∃ g,g = w.heap.size:=⟨_,rfl⟩
 have HG:=Lib.hid hg
 clear hg
 obtain ⟨f0,f1,f2⟩:=cells3 hE.box
 clear hE hr
 go_enter Tryz.func78,Tryz.ntmps78
 go_wp2_with (at_make;refine wpList_make_full _ rfl _ _ 44 rfl w.heap.size 99 r0 (.agg #[.slice none 0 0,.slice none 0 0]) 2 Tryz.underlying44 hr0 hrz hr1 .i64 .i64 _ _ n rfl rfl rfl rfl (by rw [hr2];exact HM2.out) HM1.out (by simp) ?_)
 intro w1 ho hg
 have hg':Below w.heap.size w w1:=(Below.refl _ _).grown hg (by simp) (by simp)
 have RM:=heap_owns2 ho
 have R1:Hid (RwL 99 5 w1 w.heap.size (.slice (some ⟨w.heap.size,0,none⟩) n n) n (List.replicate n ([],[]))):=RwL.made (by simpa using RM) (Nat.le_refl _) HM1.out
 have E1:=Lib.hid (HE.out.keep hg')
 have B1:=Lib.hid hg'
 rw [← HG.out] at R1 ⊢
 clear RM ho hg hg' f0 f1 f2 hr0 hrz hr1 hr2 HM1 HM2
 obtain ⟨f0,f1,f2⟩:=cells3 E1.out.box
 go_wp2
 clear f0 f1 f2
 go_loopw [19] (fun i wr=>∃ j:Nat,j≤n∧i = .int .i64 j∧Hid (RwL 99 5 wr g (.slice (some ⟨g,0,none⟩) n n) n (K.take j ++ List.replicate (n - j) ([],[])))∧Hid (Below g w wr)) (fun i _=>n - (intOf i).toNat)
 case atStart=>exact ⟨0,Nat.zero_le _,rfl,by show RwL _ _ _ _ _ _ _;simpa using R1.out,by show Below _ _ _;rw [HG.out];exact B1.out⟩
 case round =>
  clear R1 E1 B1
  obtain ⟨j,hj,rfl,hR,hB⟩:=hrel
  have hE:=Lib.hid (HE.out.keep (w':=wr) (by rw [← HG.out];exact hB.out))
  by_cases hjl:j < n
  ·have jn:(j:Int) < (n:Int):=by omega
   obtain ⟨gs,kk,a1,b1,d1,a2,b2,d2,rfl,e1,e2,hkk,t1,t2⟩:=hE.out.rows.at hjl
   have T1:=Lib.hid t1;have T2:=Lib.hid t2;have HK:=Lib.hid hkk.out
   have HRR:=Lib.hid (HR.out kk (List.mem_of_getElem? hkk.out))
   clear t1 t2 hkk
   go_wp2_with fail
   clear e1 e2
   refine use_w1 (fun W=>Below wr.heap.size wr W) (al (Below.refl _ _) (Nat.le_refl _)) ?_
   rintro w7 b7
   refine Calls.mono (RClone_any a1 a2 b1 d1 b2 d2 kk.1 kk.2 w7 (T1.out.keep b7) (T2.out.keep b7) (by rw [← T1.out.len];exact HRR.out.1) (by rw [← T2.out.len];exact HRR.out.2)) ?_
   rintro e w8 ⟨q1,m1,g1,q2,m2,g2,l1,l2,rfl,o1,o2,hb⟩
   have hgs:g≤w7.heap.size:=Nat.le_trans (by rw [HG.out];exact hB.out.size) b7.size
   have B8':=Lib.hid (b7.trans (hb.mono b7.size))
   have Y1:Hid (Bw 5 w8 g (.slice q1 m1 g1) kk.1):=Bw.mk (owns_mono o1 hgs) l1.out
   have Y2:Hid (Bw 5 w8 g (.slice q2 m2 g2) kk.2):=Bw.mk (owns_mono o2 hgs) l2.out
   have R8:=Lib.hid (hR.out.keep B8'.out)
   have E8:=Lib.hid (hE.out.keep B8'.out)
   have B9:=Lib.hid (hB.out.trans (B8'.out.mono (by rw [HG.out];exact hB.out.size)))
   obtain ⟨cur,hcur⟩:=R8.out.blk
   have z0:w8.frozen? ⟨g,j * 2,none⟩ = false:=frozen_of_row _ _ _ _ _ hcur
   have z1:w8.frozen? ⟨g,j * 2 + 1,none⟩ = false:=frozen_of_row _ _ _ _ _ hcur
   obtain ⟨gx,kx,x1,xb1,xd1,x2,xb2,xd2,hgx,c1,c2,-,-,-⟩:=R8.out.at hjl
   obtain rfl:g = gx:=by injection hgx with h;injection h
   have HP:=Lib.hid (R8.out.put (by decide) hjl Y1.out Y2.out)
   have hs8:g≤w8.heap.size:=Nat.le_trans hgs hb.size
   clear hcur hgx o1 o2 hb b7 hR hE hB T1 T2 l1 l2 B8' hgs
   rw [fill_step HK.out HLEN.out] at HP
   have BX:Hid (∀ o1 o2 v1 v2,Below g w ((w8.setCell ⟨g,o1,none⟩ v1).setCell ⟨g,o2,none⟩ v2)):=fun o1 o2 v1 v2=>(B9.out.setCell (Nat.le_refl _) _).setCell (Nat.le_refl _) _
   clear B9 E8 R8 hs8
   go_wp2
   go_roundw
   case rel=>exact ⟨j + 1,by omega,by go_num,HP.out,BX.out _ _ _ _⟩
   case measure=>simp [intOf];omega
  ·have hjn:j = n:=by omega
   have hge:(n:Int)≤(j:Int):=by omega
   have HF:=Lib.hid hR.out
   rw [List.take_of_length_le (by rw [HLEN.out];omega),hjn,Nat.sub_self,List.replicate_zero,List.append_nil] at HF
   have BF:=Lib.hid hB.out
   clear hR hE hB hjn
   go_wp2
   go_ret
   exact ⟨_,rfl,by rw [← HG.out];exact HF.out,by rw [← HG.out];exact BF.out⟩
end Go.Proofs.YtccaiiigdfieoaaGreatDoor
namespace Go.By
open Go.RowKit
theorem RwL.mono {T2 T1 base b2 n:Nat} {w:World} {v:Value} {K:List (List UInt8 × List UInt8)} (h:RwL T2 T1 w base v n K) (hb:b2≤base):RwL T2 T1 w b2 v n K:=by
 obtain ⟨vs,a,b,o,r⟩:=h
 refine ⟨vs,a,b,?_,fun j u hj=>by obtain ⟨k,hk,g1,g2⟩:=r j u hj;exact ⟨k,hk,g1.mono hb,g2.mono hb⟩⟩
 obtain ⟨q,c,rfl⟩:=owns_shape o
 exact owns_mono o hb
end Go.By
namespace Go.Proofs.YtccaiiigdfieoaaGreatDoor
open Go.RowKit Go.By
end Go.Proofs.YtccaiiigdfieoaaGreatDoor
namespace Go.By
open Go.RowKit
section
variable {T2 T1:TypeId} {w w':World} {base n:Nat} {v:Value} {xss:List (List UInt8)}
end
end Go.By
namespace Go.Proofs.YtccaiiigdfieoaaGreatDoor
open Go.RowKit Go.By
end Go.Proofs.YtccaiiigdfieoaaGreatDoor
namespace Go.By
open Go.RowKit Go.Proofs.YtccaiiigdfieoaaGreatDoor
theorem owns_same {w w':World} {base T k n:Nat} {v:Value} {L:List Value} (h:w.ownsRow base T k v n L) (hs:w.heap.size≤w'.heap.size) (hb:∀ g,v.ownBlock = some g→w'.heap[g]? = w.heap[g]?):w'.ownsRow base T k v n L:=by
 have _:=hs
 refine ⟨h.1,?_⟩
 rcases h.2 with h1 | ⟨g,cap,cur,e,h1,h2,h3⟩
 ·exact .inl h1
 ·exact .inr ⟨g,cap,cur,e,h1,(hb g (by rw [e];rfl)).trans h2,h3⟩
section
variable {w w':World} {base be k t n:Nat} {v:Value} {K:List Rw}
theorem Chg.blk (h:Chg w w' be v) (hE:Elm w base be k t v n K) {g T:Nat} {cs:Array Value} {fr:Nat × Nat} (hg:w.heap[g]? = some (.cells cs T fr)) (h1:T≠191) (h2:v.ownBlock≠some g):w'.heap[g]? = some (.cells cs T fr):=by
 refine (h.block g (blk_lt hg) (fun e=>?_) h2).trans hg
 subst e
 rw [hE.box] at hg;injection hg with hg;injection hg with _ hg _;exact h1 hg.symm
theorem Chg.blk2 (h:Chg w w' be v) (hE:Elm w base be k t v n K) {g T:Nat} {cs:Array Value} {fr:Nat × Nat} (hg:w.heap[g]? = some (.cells cs T fr)) (h1:T≠191) (h2:99≠T):w'.heap[g]? = some (.cells cs T fr) :=
 h.blk hE hg h1 (hE.rows.ne_box hg h2)
theorem Chg.bw (h:Chg w w' be v) (hE:Elm w base be k t v n K) {b:Nat} {u:Value} {xs:List UInt8} (hu:Bw 5 w b u xs):Bw 5 w' b u xs:=by
 obtain ⟨q,m,c,e,l,o⟩:=hu
 refine ⟨q,m,c,e,l,owns_same o h.size fun g hg=>?_⟩
 rcases o.2 with ⟨e1,_⟩ | ⟨g',cap,cur,e1,_,hh,_⟩
 ·rw [e1] at hg;cases hg
 ·rw [e1] at hg;cases hg
  rw [h.blk2 hE hh (by decide) (by decide),hh]
theorem Chg.rwl (h:Chg w w' be v) (hE:Elm w base be k t v n K) {b2 n2:Nat} {v2:Value} {K2:List Rw} (h2:RwL 99 5 w b2 v2 n2 K2) (hne:∀ g,v2.ownBlock = some g→v.ownBlock≠some g):RwL 99 5 w' b2 v2 n2 K2:=by
 obtain ⟨vs,a,b,o,r⟩:=h2
 refine ⟨vs,a,b,owns_same o h.size fun g hg=>?_,fun j u hj=>by obtain ⟨x,hk,g1,g2⟩:=r j u hj;exact ⟨x,hk,h.bw hE g1,h.bw hE g2⟩⟩
 rcases o.2 with ⟨e1,_⟩ | ⟨g',cap,cur,e1,_,hh,_⟩
 ·rw [e1] at hg;cases hg
 ·have hn:=hne g hg
  rw [e1] at hg;cases hg
  rw [h.blk hE hh (by decide) hn,hh]
theorem Chg.elm (h:Chg w w' be v) (hE:Elm w base be k t v n K) {b2 be2 n2 k2 t2:Nat} {v2:Value} {K2:List Rw} (h2:Elm w b2 be2 k2 t2 v2 n2 K2) (hbe:be2≠be) (hne:∀ g,v2.ownBlock = some g→v.ownBlock≠some g):Elm w' b2 be2 k2 t2 v2 n2 K2 :=
 ⟨(h.block be2 (blk_lt h2.box) hbe (hE.rows.ne_box h2.box (by decide))).trans h2.box,h.rwl hE h2.rows hne,h2.old⟩
end
end Go.By
namespace Go.Proofs.YtccaiiigdfieoaaGreatDoor
open Go.RowKit Go.By
def codeF (K:List Rw) (x:Rw):Int:=if leadS (restF K x).1 < 0 then (if zeroS (restF K x).2 = true then 1 else 2) else 0
def putK (K:List Rw) (x:Rw):List Rw:=if leadS (restF K x).1 < 0 then K else putF K x
def putD (K D:List Rw) (x:Rw):List Rw:=if leadS (restF K x).1 < 0 then D else D ++ [x]
theorem EPut_fit (base be k t n:Nat) (v:Value) (K:List Rw) (p1 p2:Option Addr) (c1 c2:Nat) (x:Rw) (w:World) (hE:Elm w base be k t v n K) (s1:Sl B8 w p1 k c1 x.1) (s2:Sl B8 w p2 t c2 x.2) (hR:Red k t K) (hk:k≤4096) (ht:t≤65535) (hnn:n≤4096) :
  Calls Tryz.prog 64 #[.pointer (some ⟨be,0,none⟩),.agg #[.slice p1 k c1,.slice p2 t c2]] w fun e w'=>e = .returned (.tuple #[.int .i64 (codeF K x),.int .i64 0]) ∧
   ∃ v' n',Elm w' base be k t v' n' (putK K x)∧Chg w w' be v∧(v'.ownBlock = v.ownBlock∨∀ b,v'.ownBlock = some b→w.heap.size≤b):=by
 by_cases hn:leadS (restF K x).1 < 0
 ·refine (EPut_zero base be k t n v K p1 p2 c1 c2 x w hE s1 s2 hR.kept.rows hk ht hn).mono ?_
  rintro e w' ⟨rfl,hb⟩
  unfold codeF putK
  rw [if_pos hn,if_pos hn]
  exact ⟨rfl,v,n,hE.keep hb,Chg.of be v hb,.inl rfl⟩
 ·refine (EPut_grown base be k t n v K p1 p2 c1 c2 x w hE s1 s2 hR hk ht hn hnn).mono ?_
  rintro e w' ⟨rfl,v',h1,h2,h3⟩
  unfold codeF putK
  rw [if_neg hn,if_neg hn]
  exact ⟨rfl,v',n + 1,h1,h2,h3⟩
theorem Sys.putK {n t:Nat} {D K:List Rw} {x:Rw} (h:Sys n t (kD D) K) (hx:Fit n t x):Sys n t (kD (putD K D x)) (putK K x):=by
 unfold putD Go.Proofs.YtccaiiigdfieoaaGreatDoor.putK
 by_cases hn:leadS (restF K x).1 < 0
 ·rw [if_pos hn,if_pos hn];exact h
 ·rw [if_neg hn,if_neg hn,kD_snoc];exact h.put hx hn
theorem incr_ge {l:List Nat} (h:l.Pairwise (· < ·)):∀ (i:Nat) (hi:i < l.length),i≤l[i]
 | 0,_=>Nat.zero_le _
 | i + 1,hi=>by
  have h1:=incr_ge h i (by omega)
  have h2:=List.pairwise_iff_getElem.1 h i (i + 1) (by omega) hi (by omega)
  omega
theorem incr_le {l:List Nat} {B:Nat} (h:l.Pairwise (· < ·)) (hB:∀ a,a ∈ l→a < B):∀ (d i:Nat) (hi:i < l.length),i + d + 1 = l.length→l[i] + d < B
 | 0,i,hi,_=>hB _ (List.getElem_mem hi)
 | d + 1,i,hi,he=>by
  have h1:=incr_le h hB d (i + 1) (by omega) (by omega)
  have h2:=List.pairwise_iff_getElem.1 h i (i + 1) hi (by omega) (by omega)
  omega
theorem incr_len {l:List Nat} {B:Nat} (h:l.Pairwise (· < ·)) (hB:∀ a,a ∈ l→a < B):l.length≤B:=by
 rcases Nat.eq_zero_or_pos l.length with h0 | h0
 ·omega
 ·have h1:=incr_ge h (l.length - 1) (by omega)
  have h2:=hB _ (List.getElem_mem (show l.length - 1 < l.length by omega))
  omega
theorem incr_range {l:List Nat} {B:Nat} (h:l.Pairwise (· < ·)) (hB:∀ a,a ∈ l→a < B) (hl:l.length = B):∀ i,i < B→l[i]? = some i:=fun i hi=>by
 have hi':i < l.length:=by omega
 have h1:=incr_ge h i hi'
 have h2:=incr_le h hB (B - 1 - i) i hi' (by omega)
 rw [List.getElem?_eq_getElem hi']
 congr 1;omega
theorem full_units {k t:Nat} {K:List Rw} (h:Red k t K) (hl:K.length = k) {i:Nat} {r:Rw} (hr:K[i]? = some r):r.1 = (List.replicate k 0).set i 1:=by
 have hik:i < k:=by have:=(List.getElem?_eq_some_iff.1 hr).1;omega
 have hlead:∀ j,j < k→(K.map leadN)[j]? = some j:=incr_range h.leads (B:=k) (fun a ha=>by
  obtain ⟨x,hx,rfl⟩:=List.mem_map.1 ha
  obtain ⟨hf,hl⟩:=h.kept.rows x hx
  exact hl.at.lt hf) (by rw [List.length_map,hl])
 have hf:=(h.kept.rows r (List.mem_of_getElem? hr)).1
 apply List.ext_getElem?
 intro j
 by_cases hj:j < k
 ·obtain ⟨s,hs⟩:∃ s,K[j]? = some s:=⟨_,List.getElem?_eq_getElem (by omega)⟩
  have hd:=h.delta hr hs
  have hls:leadN s = j:=by
   have:=hlead j hj
   rw [List.getElem?_map,hs] at this
   simpa using this
  rw [hls] at hd
  have e1:=vR_at (x:=r) (l:=j) hf hj
  rw [hd] at e1
  unfold atS at e1
  rw [if_pos (Int.natCast_nonneg _),Int.toNat_natCast,List.getD_eq_getElem?_getD,List.getElem?_eq_getElem (by rw [hf.1];exact hj)] at e1
  rw [List.getElem?_eq_getElem (by rw [hf.1];exact hj),List.getElem?_set]
  by_cases e:i = j
  ·rw [if_pos e] at e1
   rw [if_pos e,if_pos (by simpa using hik)]
   simpa using e1
  ·rw [if_neg e] at e1
   rw [if_neg e,List.getElem?_replicate,if_pos hj]
   simpa using e1
 ·rw [List.getElem?_eq_none (by rw [hf.1];omega),List.getElem?_eq_none (by simp;omega)]
theorem known_full {k t:Nat} {K:List Rw} (h:Red k t K) (hl:K.length = k) (hk:k≤65536) {i:Nat} {r:Rw} (hr:K[i]? = some r):knownS k K i = (r.2,true):=by
 rw [known_find h.kept.rows hk]
 have hik:i < k:=by have:=(List.getElem?_eq_some_iff.1 hr).1;omega
 have hmt:∀ (j:Nat) (s:Rw),K[j]? = some s→mtS i s = decide (j = i):=fun j s hs=>by
  have hjk:j < k:=by have:=(List.getElem?_eq_some_iff.1 hs).1;omega
  have hu:=full_units h hl hs
  obtain ⟨hf,hd⟩:=h.kept.rows s (List.mem_of_getElem? hs)
  have:=(unit_iff hf hd hjk).2 hu
  unfold mtS
  rw [this.1,this.2]
  by_cases e:j = i
  ·subst e;simp
  ·rw [decide_eq_false e,decide_eq_false (show ¬ ((j:Int) = (i:Int)) by omega)];simp
 have:K.find? (mtS i) = some r:=by
  rw [List.find?_eq_some_iff_getElem]
  obtain ⟨hik',e⟩:=List.getElem?_eq_some_iff.1 hr
  refine ⟨by rw [hmt i r hr];simp,i,hik',e,fun a ha=>?_⟩
  have hak:a < K.length:=by omega
  rw [hmt a K[a] (List.getElem?_eq_getElem hak),decide_eq_false (show ¬ a = i by omega)];rfl
 rw [this]
theorem Red.le {k t:Nat} {K:List Rw} (h:Red k t K):K.length≤k:=by
 have:=incr_len h.leads (B:=k) (fun a ha=>by
  obtain ⟨x,hx,rfl⟩:=List.mem_map.1 ha
  obtain ⟨hf,hl⟩:=h.kept.rows x hx
  exact hl.at.lt hf)
 rwa [List.length_map] at this
end Go.Proofs.YtccaiiigdfieoaaGreatDoor
namespace Go.Proofs.YtccaiiigdfieoaaGreatDoor
open Go.RowKit Go.By
end Go.Proofs.YtccaiiigdfieoaaGreatDoor
namespace Go.Proofs.YtccaiiigdfieoaaGreatDoor
open Go.RowKit Go.By
end Go.Proofs.YtccaiiigdfieoaaGreatDoor
namespace Go.Proofs.YtccaiiigdfieoaaGreatDoor
open Go.RowKit Go.By
end Go.Proofs.YtccaiiigdfieoaaGreatDoor
namespace Go.Proofs.YtccaiiigdfieoaaGreatDoor
open Go.RowKit Go.By Gf
theorem vf_comb:∀ (r:List UInt8) (R:List (List UInt8)) (m:Nat) (z:List UInt8),(∀ x,x ∈ R→x.length = m)→z.length = m→∀ j,vf (combF z r R) j = vf z j ^^^ comb r (R.map vf) j
 | [],R,m,z,_,_,j=>by simp [combF,comb_nil']
 | c :: cs,[],m,z,_,_,j=>by simp [combF,comb_nil]
 | c :: cs,x :: l,m,z,h,hz,j=>by
  have e:combF z (c :: cs) (x :: l) = combF (axpy c x z) cs l:=rfl
  have hx:x.length = z.length:=by rw [h x (by simp),hz]
  have hl:(axpy c x z).length = m:=by
   have:=combF_len [c] [x] m (fun y hy=>by simp at hy;rw [hy];exact h x (by simp)) z hz
   exact this
  rw [e,vf_comb cs l m _ (fun y hy=>h y (by simp [hy])) hl j,vf_axpy hx,List.map_cons,comb_cons,UInt8.xor_assoc]
theorem range_vf (r:List UInt8):(List.range r.length).map (vf r) = r:=by
 apply List.ext_getElem?
 intro i
 by_cases hi:i < r.length
 ·rw [List.getElem?_map,List.getElem?_range hi,List.getElem?_eq_getElem hi]
  simp [vf,hi]
 ·rw [List.getElem?_eq_none (by simpa using hi),List.getElem?_eq_none (by simpa using hi)]
theorem vf_zeros (m j:Nat):vf (List.replicate m 0) j = 0:=vf_zero (fun x hx=>(List.mem_replicate.1 hx).2) j
theorem vf_mul {w2:Nat} {R:List (List UInt8)} {r:List UInt8} (h:∀ x,x ∈ R→x.length = w2) (hl:r.length = R.length):vf (mulR w2 R r) = mulV R.length (R.map vf) (vf r):=by
 funext j
 unfold mulR mulV
 rw [vf_comb r R w2 _ h (by simp) j,vf_zeros,← hl,range_vf,UInt8.zero_xor]
end Go.Proofs.YtccaiiigdfieoaaGreatDoor
namespace Go.Proofs.YtccaiiigdfieoaaGreatDoor
open Go.RowKit Go.By
end Go.Proofs.YtccaiiigdfieoaaGreatDoor
namespace Go.Proofs.YtccaiiigdfieoaaGreatDoor
open Go.RowKit Go.By
end Go.Proofs.YtccaiiigdfieoaaGreatDoor
namespace Go.Proofs.YtccaiiigdfieoaaGreatDoor
open Go.RowKit Go.By
end Go.Proofs.YtccaiiigdfieoaaGreatDoor
namespace Go.Proofs.YtccaiiigdfieoaaGreatDoor
open Go.RowKit Go.By
end Go.Proofs.YtccaiiigdfieoaaGreatDoor
namespace Go.Proofs.YtccaiiigdfieoaaGreatDoor
open Go.RowKit Go.By
end Go.Proofs.YtccaiiigdfieoaaGreatDoor
namespace Go.Proofs.YtccaiiigdfieoaaGreatDoor
open Go.RowKit Go.By
end Go.Proofs.YtccaiiigdfieoaaGreatDoor
namespace Go.Proofs.YtccaiiigdfieoaaGreatDoor
open Go.RowKit Go.By Gf
end Go.Proofs.YtccaiiigdfieoaaGreatDoor
namespace Go.Proofs.YtccaiiigdfieoaaGreatDoor
open Go.RowKit Go.By Gf
end Go.Proofs.YtccaiiigdfieoaaGreatDoor
namespace Go.Proofs.YtccaiiigdfieoaaGreatDoor
open Go.RowKit Go.By Gf
def ConsV (k:Nat) (B:List V) (v:V):Prop:=∀ j,v (k + j) = mulV k B v j
theorem mulV_congr {n:Nat} {B:List V} {u v:V} (h:∀ i,i < n→u i = v i):mulV n B u = mulV n B v:=by
 unfold mulV
 have:(List.range n).map u = (List.range n).map v:=List.map_congr_left fun i hi=>h i (List.mem_range.1 hi)
 rw [this]
theorem mulV_nought (n:Nat) (B:List V):mulV n B (fun _=>0) = fun _=>0:=lin_zero (mulV_scale n B)
theorem cons_zero (k:Nat) (B:List V):ConsV k B (fun _=>0):=fun j=>by rw [mulV_nought]
theorem cons_add {k:Nat} {B:List V} {u v:V} (h:ConsV k B u) (g:ConsV k B v):ConsV k B (fun j=>u j ^^^ v j):=fun j=>by
 rw [mulV_add];show u (k + j) ^^^ v (k + j) = _;rw [h j,g j]
theorem cons_scale {k:Nat} {B:List V} {v:V} (x:UInt8) (h:ConsV k B v):ConsV k B (fun j=>gmul x (v j)):=fun j=>by
 rw [mulV_scale];show gmul x (v (k + j)) = _;rw [h j]
theorem cons_comb {k:Nat} {B:List V}:∀ (c:List UInt8) (A:List V),(∀ a,a ∈ A→ConsV k B a)→ConsV k B (comb c A)
 | [],A,_=>by
  have:comb [] A = fun _=>0:=by funext j;exact comb_nil' A j
  rw [this];exact cons_zero k B
 | c :: cs,[],_=>by
  have:comb (c :: cs) [] = fun _=>0:=by funext j;exact comb_nil _ j
  rw [this];exact cons_zero k B
 | c :: cs,a :: A,h=>by
  have:comb (c :: cs) (a :: A) = fun j=>(fun j=>gmul c (a j)) j ^^^ comb cs A j:=by funext j;exact comb_cons c cs a A j
  rw [this]
  exact cons_add (cons_scale c (h a (by simp))) (cons_comb cs A fun b hb=>h b (by simp [hb]))
theorem cons_sp {k:Nat} {B A:List V} {v:V} (h:∀ a,a ∈ A→ConsV k B a) (hs:Sp A v):ConsV k B v:=by
 obtain ⟨c,_,rfl⟩:=hs;exact cons_comb c A h
def rowC (n:Nat) (FX:List (List UInt8)) (w:List UInt8):Rw:=(w,mulR n FX w)
theorem rowC_fit {k n:Nat} {FX:List (List UInt8)} {w:List UInt8} (hF:∀ x,x ∈ FX→x.length = n) (hw:w.length = k):Fit k n (rowC n FX w):=⟨hw,mulR_len hF w⟩
theorem vR_right {k n j:Nat} {r:Rw} (hf:Fit k n r):vR r (k + j) = vf r.2 j:=by
 unfold vR vf cat
 rw [List.getD_eq_getElem?_getD,List.getElem?_append_right (by rw [hf.1];omega),hf.1,Nat.add_sub_cancel_left,List.getD_eq_getElem?_getD]
theorem vR_left {k n j:Nat} {r:Rw} (hf:Fit k n r) (hj:j < k):vR r j = vf r.1 j:=vf_app_left (by rw [hf.1];exact hj)
theorem rowC_cons {k n:Nat} {FX:List (List UInt8)} {w:List UInt8} (hF:∀ x,x ∈ FX→x.length = n) (hk:FX.length = k) (hw:w.length = k):ConsV k (FX.map vf) (vR (rowC n FX w)):=fun j=>by
 have hf:=rowC_fit hF hw
 rw [vR_right hf]
 show vf (mulR n FX w) j = _
 rw [vf_mul hF (by rw [hw,hk]),hk]
 exact congrFun (mulV_congr fun i hi=>(vR_left hf hi).symm) j
theorem rest_cons {k n:Nat} {B:List V} {K:List Rw} {x:Rw} (h:KeptS k n K) (hx:Fit k n x) (hK:∀ r,r ∈ K→ConsV k B (vR r)) (hc:ConsV k B (vR x)):ConsV k B (vR (restF K x)):=by
 have rK:vR (restF K x) = red (tri K) (vR x):=rest_red h.rows hx
 have s:=red_span (tri K) (vR x)
 rw [tri_fst] at s
 have e:vR (restF K x) = fun j=>vR x j ^^^ (vR x j ^^^ red (tri K) (vR x) j):=by
  funext j;rw [rK,← xor_assoc,xor_self,zero_xor]
 rw [e]
 exact cons_add hc (cons_sp (fun a ha=>by obtain ⟨r,hr,rfl⟩:=List.mem_map.1 ha;exact hK r hr) s)
theorem rest_nought {k n:Nat} {B:List V} {K:List Rw} {x:Rw} (h:KeptS k n K) (hx:Fit k n x) (hK:∀ r,r ∈ K→ConsV k B (vR r)) (hc:ConsV k B (vR x)) (hl:leadS (restF K x).1 < 0):(∀ j,vR (restF K x) j = 0)∧Sp (K.map vR) (vR x):=by
 have hf:=hx.rest (fun r hr=>(h.rows r hr).1)
 have h0:=vf_zero (leadS_neg hl)
 have hz:∀ j,vR (restF K x) j = 0:=fun j=>by
  by_cases hj:j < k
  ·rw [vR_left hf hj];exact h0 j
  ·have h1:=rest_cons h hx hK hc (j - k)
   rw [show k + (j - k) = j by omega] at h1
   rw [h1,mulV_congr (v:=fun _=>0) (fun i hi=>by rw [vR_left hf hi];exact h0 i),mulV_nought]
 refine ⟨hz,?_⟩
 have rK:vR (restF K x) = red (tri K) (vR x):=rest_red h.rows hx
 have s:=red_span (tri K) (vR x)
 rw [tri_fst] at s
 have e:vR x = fun j=>vR x j ^^^ red (tri K) (vR x) j:=by
  funext j;rw [← rK,hz j,xor_zero]
 rw [e];exact s
structure Spn (k n:Nat) (B:List V) (X K0:List Rw):Prop where
 kept:KeptS k n K0
 fit:∀ x,x ∈ X→Fit k n x
 cons:∀ x,x ∈ X→ConsV k B (vR x)
 le:∀ r,r ∈ K0→Sp (X.map vR) (vR r)
 ge:∀ x,x ∈ X→Sp (K0.map vR) (vR x)
theorem Spn.nil (k n:Nat) (B:List V):Spn k n B [] []:=⟨KeptS.nil k n,fun x h=>by simp at h,fun x h=>by simp at h,fun x h=>by simp at h,fun x h=>by simp at h⟩
theorem Spn.consK {k n:Nat} {B:List V} {X K0:List Rw} (h:Spn k n B X K0):∀ r,r ∈ K0→ConsV k B (vR r):=fun r hr =>
 cons_sp (fun a ha=>by obtain ⟨x,hx,rfl⟩:=List.mem_map.1 ha;exact h.cons x hx) (h.le r hr)
theorem Spn.snoc {k n:Nat} {B:List V} {X K0:List Rw} {x:Rw} (h:Spn k n B X K0) (hx:Fit k n x) (hc:ConsV k B (vR x)):Spn k n B (X ++ [x]) (insF K0 x):=by
 have memX:∀ a,a ∈ X.map vR→a ∈ (X ++ [x]).map vR:=fun a ha=>by rw [List.map_append];exact List.mem_append.2 (.inl ha)
 have lastX:vR x ∈ (X ++ [x]).map vR:=by simp
 refine ⟨h.kept.step hx,fun y hy=>?_,fun y hy=>?_,fun r hr=>?_,fun y hy=>?_⟩
 ·rcases List.mem_append.1 hy with hy | hy
  ·exact h.fit y hy
  ·rw [List.mem_singleton] at hy;rw [hy];exact hx
 ·rcases List.mem_append.1 hy with hy | hy
  ·exact h.cons y hy
  ·rw [List.mem_singleton] at hy;rw [hy];exact hc
 ·by_cases hl:leadS (restF K0 x).1 < 0
  ·have e:insF K0 x = K0:=by unfold insF;rw [norm_leadS,if_pos hl]
   rw [e] at hr
   exact Sp.sub memX (h.le r hr)
  ·refine Sp.trans (fun a ha=>?_) ((insF_span h.kept hx hl).1 r hr)
   rcases List.mem_cons.1 ha with rfl | ha
   ·exact Sp.mem lastX
   ·obtain ⟨q,hq,rfl⟩:=List.mem_map.1 ha
    exact Sp.sub memX (h.le q hq)
 ·by_cases hl:leadS (restF K0 x).1 < 0
  ·have e:insF K0 x = K0:=by unfold insF;rw [norm_leadS,if_pos hl]
   rw [e]
   rcases List.mem_append.1 hy with hy | hy
   ·exact h.ge y hy
   ·rw [List.mem_singleton] at hy;rw [hy];exact (rest_nought h.kept hx h.consK hc hl).2
  ·obtain ⟨i1,i2,i3⟩:=insF_span h.kept hx hl
   rcases List.mem_append.1 hy with hy | hy
   ·refine Sp.trans (fun a ha=>?_) (h.ge y hy)
    obtain ⟨q,hq,rfl⟩:=List.mem_map.1 ha
    exact i2 q hq
   ·rw [List.mem_singleton] at hy;rw [hy];exact i3
theorem Spn.all {k n:Nat} {B:List V}:∀ (Y:List Rw) {X K0:List Rw},Spn k n B X K0→(∀ x,x ∈ Y→Fit k n x∧ConsV k B (vR x))→Spn k n B (X ++ Y) (Y.foldl insF K0)
 | [],X,K0,h,_=>by rw [List.append_nil];exact h
 | y :: Y,X,K0,h,hy=>by
  have:=Spn.all Y (h.snoc (hy y (by simp)).1 (hy y (by simp)).2) (fun x hx=>hy x (by simp [hx]))
  rw [List.append_assoc] at this
  exact this
theorem spn_kD {k n:Nat} {B:List V} {Y:List Rw} (h:∀ x,x ∈ Y→Fit k n x∧ConsV k B (vR x)):Spn k n B Y (kD Y):=by
 have:=Spn.all Y (Spn.nil k n B) h
 rwa [List.nil_append] at this
theorem Sys.putX {k n:Nat} {D K:List Rw} {x:Rw} (h:Sys k n (kD D) K) (hx:Fit k n x):Sys k n (kD (D ++ [x])) (Go.Proofs.YtccaiiigdfieoaaGreatDoor.putK K x):=by
 rw [kD_snoc]
 unfold Go.Proofs.YtccaiiigdfieoaaGreatDoor.putK
 by_cases hn:leadS (restF K x).1 < 0
 ·have e:insF (kD D) x = kD D:=by unfold insF;rw [norm_leadS,h.rest hx,if_pos hn]
  rw [if_pos hn,e];exact h
 ·rw [if_neg hn];exact h.put hx hn
theorem sys_code {k n:Nat} {B:List V} {X K:List Rw} {x:Rw} (h:Sys k n (kD X) K) (hX:∀ y,y ∈ X→Fit k n y∧ConsV k B (vR y)) (hx:Fit k n x) (hc:ConsV k B (vR x)) (hl:leadS (restF K x).1 < 0):zeroS (restF K x).2 = true:=by
 have s:=spn_kD hX
 have e:=h.rest hx
 rw [← e] at hl ⊢
 have hz:=(rest_nought h.kept hx s.consK hc hl).1
 have hf:=hx.rest (fun r hr=>(h.kept.rows r hr).1)
 unfold zeroS
 rw [List.all_eq_true]
 intro b hb
 obtain ⟨j,hj,rfl⟩:=List.getElem_of_mem hb
 have h1:=hz (k + j)
 rw [vR_right hf] at h1
 unfold vf at h1
 rw [List.getD_eq_getElem?_getD,List.getElem?_eq_getElem hj] at h1
 simpa using h1
theorem sys_full {k n:Nat} {FX:List (List UInt8)} {X K:List Rw} (h:Sys k n (kD X) K) (hX:∀ y,y ∈ X→Fit k n y∧ConsV k (FX.map vf) (vR y)) (hF:∀ x,x ∈ FX→x.length = n) (hk:FX.length = k) (hl:K.length = k) {i:Nat} {r:Rw} {f:List UInt8} (hr:K[i]? = some r) (hf:FX[i]? = some f):r.2 = f:=by
 have hu:=full_units h.red hl hr
 obtain ⟨hfit,-⟩:=h.red.kept.rows r (List.mem_of_getElem? hr)
 have s:=spn_kD hX
 obtain ⟨-,r2,-,-⟩:=redL_red h.kept
 rw [← h.same] at r2
 have hc:ConsV k (FX.map vf) (vR r):=cons_sp (fun a ha=>by obtain ⟨q,hq,rfl⟩:=List.mem_map.1 ha;exact s.consK q hq) (r2 r (List.mem_of_getElem? hr))
 have hik:i < k:=by have:=(List.getElem?_eq_some_iff.1 hr).1;omega
 refine vf_inj (by rw [hfit.2,hF f (List.mem_of_getElem? hf)]) fun j hj=>?_
 have h1:=hc j
 rw [vR_right hfit] at h1
 rw [h1,mulV_congr (v:=unit i) (fun a ha=>?_),mulV_unit (b:=vf f) (by rw [List.length_map,hk]) (by rw [List.getElem?_map,hf];rfl)]
 rw [vR_left hfit ha,hu]
 unfold vf unit
 rw [List.getD_eq_getElem?_getD,List.getElem?_set]
 by_cases e:i = a
 ·subst e;rw [if_pos rfl,if_pos (by simpa using hik),if_pos rfl];rfl
 ·rw [if_neg e,if_neg e,List.getElem?_replicate,if_pos ha];rfl
end Go.Proofs.YtccaiiigdfieoaaGreatDoor
