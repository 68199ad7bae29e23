/- Chapter 21: relay.Say of what says something. What is written is read again; the numbers of the law's examples. Chapter 21: what a turn of a sender,a taker,a relay leaves as it is; sender.Explicit. Chapter 19: taker.Status,Rank,Object. Plain laws of GridTells: rows and what they are joined; a unit's bytes. GridTells: the walk,no unit. The walk of the grid's Inverse. Plain laws of GridReckons: rows and their vectors,products,columns,the inverse. The contract of the reference's Mul. GridTells: the walk,no grid,a unit. GridTells: the walk,a grid,a unit. GridTells: the walk,whole. What the laws of grids carry along from call to call. The contract of the reference's without. The contract of the reference's Det. Plain laws of GridRanks: ranks of turned grids and products,determinants,inverses of inverses. Plain law of ElimSolves: equations that symbols solve. Plain law: packets of one object. They never clash; the rows are as many as the rank of the vectors that came; full rows have the object. A sender while others turn; two takers beside each other. Of a plan that may not be there is no gate,no taker,no relay; a plan that may be as numbers. A region that draws its order,by shapes,by what holds of the world as operations run,and by ties between slots. Two slices of headers,each grown by one in a region that draws its order. A plan of an object; ranks of combinations; rows of headers of new bytes while others turn. Chapter 19: the law's awake. Chapter 19: TakerNone. Chapter 19: a taker's clone. DERIVED: THE SHELF's CONTRACTS AT THIS DUMP,IN PLAIN WORDS (tools/lay-plain.mjs out of 'TryzIter.lean',which tools/lay-shelf.mjs wrote): THE SAME DECLARATIONS UNDER THE SAME NAMES: 'import','namespace','open','def','theorem' AND NOTHING ELSE: no command of the shelf's: FOR A HAND-IN. Each laying: the table of numbers ('.._ren') and one theorem,a field a fact of the dump's own or the kernel's comparison; each contract: ONE APPLICATION. A map from numbers to slices,made by the call; its keys in order. The keys of such a map,in order: maps.Keys,slices.Sorted. glue.Fill,where all that is known fits. The walk of glue.Fill,where all that is known fits. Chapter 19: what a taker knows: Some. -/
import Derived.Test.YtfbmdlfkipipfaaGreatDoorZf8
import Derived.OpenShut
import Derived.Deep.DeepCutAuto
import Derived.Shelf.SlIterI.Nil
import Derived.Shelf.SortM.Plain
import Derived.Shelf.SortM.SortNone
import Derived.Test.YtfbmdlfkipipfaaGreatDoorProg
import Derived.Maps.Own
import Derived.Maps.Views
import Derived.StillTailTactics
import Derived.Laws.CopyOwn
namespace Go.By
open Go.RowKit
def Hdr (T : TypeId) (w1 : World) (base : Nat) (w : World) (v : Value) (i : Nat) (xss : List (List UInt8)) : Prop :=
 ∃ vs,w.ownsRow base T 1 v i vs ∧ xss.length = i ∧ ∀ (j : Nat) (u : Value),vs[j]? = some u → ∃ q m c xs,u = .slice q m c ∧ xss[j]? = some xs ∧ Sl B8 w1 q m c xs
theorem Hdr.shape {T base i : Nat} {w1 w : World} {v : Value} {xss : List (List UInt8)} (h : Hdr T w1 base w v i xss) : ∃ q c,v = .slice q i c := by
 obtain ⟨vs,o,_⟩ := h; exact owns_shape o
theorem Hdr.nil (T base : Nat) (w1 w : World) : Hdr T w1 base w (.slice none 0 0) 0 [] := ⟨[],World.ownsRow_nil _ _ _ _,rfl,fun j u h => by simp at h⟩
theorem Hdr.push {T base i : Nat} {w1 w : World} {v : Value} {xss : List (List UInt8)} {vs : List Value} {q : Option Addr} {m c : Nat} {xs : List UInt8} (ho : w.ownsRow base T 1 v (i + 1) (vs ++ [.slice q m c])) (hl : xss.length = i) (hv : vs.length = i) (h : ∀ (j : Nat) (u : Value),vs[j]? = some u → ∃ q m c xs,u = .slice q m c ∧ xss[j]? = some xs ∧ Sl B8 w1 q m c xs) (hs : Sl B8 w1 q m c xs) : Hdr T w1 base w v (i + 1) (xss ++ [xs]) := by
 refine ⟨_,ho,by simp [hl],fun j u hj => ?_⟩
 rcases Nat.lt_trichotomy j i with h1 | h1 | h1
 ·rw [List.getElem?_append_left (by omega)] at hj
  obtain ⟨q',m',c',xs',e,hx,hs'⟩ := h j u hj
  exact ⟨q',m',c',xs',e,by rw [List.getElem?_append_left (by omega)]; exact hx,hs'⟩
 ·subst h1
  rw [List.getElem?_append_right (by omega),hv,Nat.sub_self] at hj
  simp at hj
  exact ⟨q,m,c,xs,hj.symm,by rw [List.getElem?_append_right (by omega),hl,Nat.sub_self]; rfl,hs⟩
 ·rw [List.getElem?_eq_none (by simp [hv]; omega)] at hj; cases hj
theorem Hdr.sl2 {T base i : Nat} {w1 w : World} {q : Option Addr} {c : Nat} {xss : List (List UInt8)} (h : Hdr T w1 base w (.slice q i c) i xss) (hb : Below w1.heap.size w1 w) : Sl2 w q i c xss := by
 obtain ⟨vs,o,hl,hr⟩ := h
 have hc := owns_cap o
 have hvl : vs.length = i := owns_len o
 refine ⟨hl,hc.1,hc.2,fun hp => ?_,fun j xs hj => ?_⟩
 ·rcases o.2 with ⟨h2,rfl⟩ | ⟨g,cap,cur,hv,_⟩
  ·simp at h2; exact ⟨rfl,h2.2⟩
  ·rw [hp] at hv; cases hv
 ·have hji : j < i := by rw [← hl]; exact (List.getElem?_eq_some_iff.1 hj).1
  obtain ⟨q',m',c',xs',e,hx,hs⟩ := hr j vs[j] (List.getElem?_eq_getElem (by omega))
  rw [hj] at hx; cases hx
  obtain ⟨g,rfl,_,_⟩ := owns_at o (by omega)
  refine ⟨g,0,q',c',rfl,?_,?_⟩
  ·rw [Nat.zero_add,o.cellAt j (by omega),List.getElem?_eq_getElem (by omega),e,hs.len]
  ·rw [hs.len]; exact hs.keep hb
theorem Hdr.kept {T base i : Nat} {w1 w w' : World} {v : Value} {row : Option Nat} {xss : List (List UInt8)} (h : Hdr T w1 base w v i xss) (hg : w.grownBy w' row) (hne : ∀ b,v.ownBlock = some b → row ≠ some b) : Hdr T w1 base w' v i xss := by
 obtain ⟨vs,o,hl,hr⟩ := h
 refine ⟨vs,o.kept hg ?_,hl,hr⟩
 cases hv : v.ownBlock with
 | none => simp
 | some b => have := hne b hv; simp; intro e; exact this e.symm
end Go.By
namespace Go.Proofs.YtfbmdlfkipipfaaGreatDoor
open Go.RowKit Go.By Go.Maps
end Go.Proofs.YtfbmdlfkipipfaaGreatDoor
namespace Go.Proofs.YtfbmdlfkipipfaaGreatDoor
open Go.RowKit Go.By
theorem read_write {m : UInt8} {D n s k t : Nat} {xs ys : List UInt8} (hm : modeC m = 0) (hx : m = 0 → xs.length = k) (hy : ys.length = t) (hD : D < 4294967296) (hn : n < 4294967296) :
  readC k t D (pktB m D n xs s ys) = 0 ∧ pktM (pktB m D n xs s ys) = m ∧ pktN (pktB m D n xs s ys) = n ∧ pktX k (pktB m D n xs s ys) = rdX m (srcB m xs s) ∧ pktS k (pktB m D n xs s ys) = rdS m (srcB m xs s) ∧ pktY k t (pktB m D n xs s ys) = ys := by
 have hm01 : m = 0 ∨ m = 1 := by
  unfold modeC at hm
  split at hm
  ·assumption
  ·cases hm
 have hS : (srcB m xs s).length = widS m k := by
  unfold srcB widS
  rcases hm01 with h | h
  ·rw [if_pos h,if_pos h]; exact hx h
  ·rw [if_neg (by rw [h]; decide),if_neg (by rw [h]; decide),if_pos h,put8_len]
 obtain ⟨S,hSS⟩ : ∃ S,srcB m xs s = S := ⟨_,rfl⟩
 obtain ⟨W,hW⟩ : ∃ W,widS m k = W := ⟨_,rfl⟩
 obtain ⟨c,hc⟩ : ∃ c,crcS (bodyP m D n xs s ys) = c := ⟨_,rfl⟩
 have hcl : c < 4294967296 := by rw [← hc]; exact crcS_lt _
 have hB : pktB m D n xs s ys = [1,m] ++ (put4 D ++ (put4 n ++ (S ++ (ys ++ put4 c)))) := by
  unfold pktB
  rw [hc]
  unfold bodyP headB
  rw [hSS]; simp
 have hbody : bodyP m D n xs s ys = [1,m] ++ (put4 D ++ (put4 n ++ (S ++ ys))) := by unfold bodyP headB; rw [hSS]; simp
 rw [hSS,hW] at hS
 have g0 : (pktB m D n xs s ys).getD 0 0 = 1 := by rw [hB]; rfl
 have g1 : (pktB m D n xs s ys).getD 1 0 = m := by rw [hB]; rfl
 have hlen : (pktB m D n xs s ys).length = 10 + W + t + 4 := by rw [hB]; simp [put4_len,hS,hy]; omega
 have d2 : (pktB m D n xs s ys).drop 2 = put4 D ++ (put4 n ++ (S ++ (ys ++ put4 c))) := by rw [hB]; exact List.drop_left' rfl
 have d6 : (pktB m D n xs s ys).drop 6 = put4 n ++ (S ++ (ys ++ put4 c)) := by
  rw [show (6 : Nat) = 2 + 4 from rfl,← List.drop_drop,d2]; exact List.drop_left' (put4_len D)
 have d10 : (pktB m D n xs s ys).drop 10 = S ++ (ys ++ put4 c) := by
  rw [show (10 : Nat) = 6 + 4 from rfl,← List.drop_drop,d6]; exact List.drop_left' (put4_len n)
 have dW : (pktB m D n xs s ys).drop (10 + W) = ys ++ put4 c := by
  rw [← List.drop_drop,d10]; exact List.drop_left' hS
 have dt : (pktB m D n xs s ys).drop (10 + W + t) = put4 c := by
  rw [← List.drop_drop,dW]; exact List.drop_left' hy
 have tk : (pktB m D n xs s ys).take (10 + W + t) = bodyP m D n xs s ys := by
  have e : pktB m D n xs s ys = bodyP m D n xs s ys ++ put4 c := by unfold pktB; rw [hc]
  rw [e]
  exact List.take_left' (by rw [hbody]; simp [put4_len,hS,hy]; omega)
 have t2 : ((pktB m D n xs s ys).drop 2).take 4 = put4 D := by rw [d2]; exact List.take_left' (put4_len D)
 have t6 : ((pktB m D n xs s ys).drop 6).take 4 = put4 n := by rw [d6]; exact List.take_left' (put4_len n)
 have t10 : ((pktB m D n xs s ys).drop 10).take W = S := by rw [d10]; exact List.take_left' hS
 have tW : ((pktB m D n xs s ys).drop (10 + W)).take t = ys := by rw [dW]; exact List.take_left' hy
 have tc : ((pktB m D n xs s ys).drop (10 + W + t)).take 4 = put4 c := by rw [dt]; exact List.take_of_length_le (Nat.le_of_eq (put4_len c))
 refine ⟨?_,g1,?_,?_,?_,?_⟩
 ·have hh : headC (pktB m D n xs s ys) = 0 := by
   unfold headC
   rw [if_neg (by rw [hlen]; omega),g0,g1,if_neg (by simp)]
   exact hm
  unfold readC
  rw [if_neg (by simp [hh]),g1]
  have hl : (pktB m D n xs s ys).length = lenP m k t := by unfold lenP; rw [hlen,hW]
  rw [if_neg (by simp [hl]),show (pktB m D n xs s ys).length - 4 = 10 + W + t by omega,tc,tk,hc,get4_put4 hcl,if_neg (by simp),t2,get4_put4 hD,if_neg (by simp)]
 ·unfold pktN; rw [t6,get4_put4 hn]
 ·unfold pktX; rw [g1,hW,t10,hSS]
 ·unfold pktS; rw [g1,hW,t10,hSS]
 ·unfold pktY; rw [g1,hW,tW]
end Go.Proofs.YtfbmdlfkipipfaaGreatDoor
namespace Go.By
open Go.RowKit Go.Maps Go.Proofs.YtfbmdlfkipipfaaGreatDoor
section
variable {w w' : World} {g : Nat} {old : Array Value} {T' : Nat} {fr : Nat × Nat}
theorem GChg.blk (h : GChg w g w') (hg : w.heap[g]? = some (.cells old T' fr)) {b T : Nat} {cs : Array Value} {fr2 : Nat × Nat} (hb : w.heap[b]? = some (.cells cs T fr2)) (hne : T' ≠ T) : w'.heap[b]? = some (.cells cs T fr2) := by
 refine (h.block b (lt_of_block hb) fun e => ?_).trans hb
 rw [e,hg] at hb; injection hb with hb; injection hb with _ hb _; exact hne hb
theorem GChg.cnt (h : GChg w g w') (hg : w.heap[g]? = some (.cells old T' fr)) {M : Value} {N : Nat} {C : DataW Unit} (hc : CntM w M N C) : CntM w' M N C := by
 refine ⟨?_,hc.small⟩
 rcases hc.at_ with h1 | ⟨b,e,ho⟩
 ·exact .inl h1
 ·refine .inr ⟨b,e,?_⟩
  have hlt := ho.lt
  obtain ⟨es,clock,h1,F,hs,hD⟩ := ho
  exact ⟨es,clock,(h.block b hlt (fun e => by rw [e,hg] at h1; cases h1)).trans h1,F,hs,hD⟩
theorem GChg.owns (h : GChg w g w') (hg : w.heap[g]? = some (.cells old T' fr)) {base T e n : Nat} {v : Value} {L : List Value} (ho : w.ownsRow base T e v n L) (hne : T' ≠ T) : w'.ownsRow base T e v n L := by
 refine owns_same ho h.size fun g2 hg2 => ?_
 rcases ho.2 with ⟨e1,_⟩ | ⟨g',cap,cur,e1,_,hh,_⟩
 ·rw [e1] at hg2; cases hg2
 ·rw [e1] at hg2; cases hg2
  exact (h.blk hg hh hne).trans hh.symm
theorem GChg.elm (h : GChg w g w') (hg : w.heap[g]? = some (.cells old T' fr)) {base be k t n : Nat} {v : Value} {K : List Rw} (hE : Elm w base be k t v n K) (h1 : T' ≠ 201) (h2 : T' ≠ 139) (h3 : T' ≠ 5) : Elm w' base be k t v n K := by
 refine ⟨h.blk hg hE.box h1,?_,hE.old⟩
 obtain ⟨vs,a,b,o,r⟩ := hE.rows
 refine ⟨vs,a,b,h.owns hg o h2,fun j u hj => ?_⟩
 obtain ⟨x,hk,⟨q1,m1,c1,e1,l1,o1⟩,⟨q2,m2,c2,e2,l2,o2⟩⟩ := r j u hj
 exact ⟨x,hk,⟨q1,m1,c1,e1,l1,h.owns hg o1 h3⟩,⟨q2,m2,c2,e2,l2,h.owns hg o2 h3⟩⟩
theorem GChg.tkr (h : GChg w g w') (hg : w.heap[g]? = some (.cells old T' fr)) {base gt be L t k D N : Nat} {M v : Value} {C : DataW Unit} {K : List Rw} {st : Nat} (hT : Tkr w base gt be L t k D N M v C K st) (h1 : T' ≠ 201) (h2 : T' ≠ 139) (h3 : T' ≠ 5) (h4 : T' ≠ 126) : Tkr w' base gt be L t k D N M v C K st :=
 ⟨hT.ok,h.blk hg hT.box h4,h.cnt hg hT.cnt,h.elm hg hT.elm h1 h2 h3,hT.red,hT.old⟩
end
theorem TChg.blk {w w' : World} {base gt be L t k D N : Nat} {M v : Value} {C : DataW Unit} {K : List Rw} {st : Nat} (h : TChg w w' gt be v) (hT : Tkr w base gt be L t k D N M v C K st) {b T : Nat} {cs : Array Value} {fr : Nat × Nat} (hb : w.heap[b]? = some (.cells cs T fr)) (h1 : T ≠ 126) (h2 : T ≠ 201) (h3 : 139 ≠ T) : w'.heap[b]? = some (.cells cs T fr) := by
 refine (h.block b (lt_of_block hb) (fun e => ?_) (fun e => ?_) (hT.elm.rows.ne_box hb h3)).trans hb
 ·have := hT.box; rw [← e,hb] at this; injection this with this; injection this with _ this _; exact h1 this
 ·have := hT.elm.box; rw [← e,hb] at this; injection this with this; injection this with _ this _; exact h2 this
theorem TChg.below {w w' : World} {B base gt be L t k D N : Nat} {M v : Value} {C : DataW Unit} {K : List Rw} {st : Nat} (h : TChg w w' gt be v) (hT : Tkr w base gt be L t k D N M v C K st) (hB : B ≤ base) (hw : B ≤ w.heap.size) : Below B w w' := by
 refine ⟨h.os,h.tape,h.output,h.size,fun i hi => h.block i (by omega) (by have := hT.old; omega) (by have := hT.elm.old; omega) (fun e => ?_)⟩
 have := (hT.elm.rows.lt _ e).1
 omega
end Go.By
namespace Go.Proofs.YtfbmdlfkipipfaaGreatDoor
open Go.RowKit Go.By Go.Maps
theorem Snd.keep {w w' : World} {gs L t k D nx : Nat} {xss : List (List UInt8)} (h : Snd w gs L t k D nx xss) (hb : Below w.heap.size w w') : Snd w' gs L t k D nx xss := by
 obtain ⟨q,c,h1,h2,h3⟩ := h.mem
 exact ⟨h.ok,⟨q,c,(hb.block _ (lt_of_block h1)).trans h1,h2.keep hb,h3⟩,h.fit⟩
set_option maxRecDepth 100000 in
set_option maxHeartbeats 1000000 in
theorem SExplicit_okF (gs L t k D nx : Nat) (xss : List (List UInt8)) (p : Option Addr) (n c : Nat) (xs : List UInt8) (w : World) (hS : Snd w gs L t k D nx xss) (hnx : nx < 4294967296) (hn : n = k) (h : Sl B8 w p n c xs) (hT : HalfT w) :
  Calls Tryz.prog 56 #[.pointer (some ⟨gs,0,none⟩),.slice p n c] w fun e w' => (∃ q n c,e = .returned (.tuple #[.slice q n c,.int .i64 0]) ∧ Fresh 5 w.heap.size w' q n c (pktB 0 D nx xs 0 (combS xs xss).1)) ∧ SdRet w gs L t k D xss (pktB 0 D nx xs 0 (combS xs xss).1) (nx + 1) 0 e w' := by
 have hr : Room n := by have := hS.ok.k2; show n ≤ 140737488355328; omega
 have HE := Lib.hid (RExplicit_any p n c xs w h hr)
 have HS := Lib.hid (fun w' q c' (hb : Below w.heap.size w w') (hs : Sl B8 w' q n c' xs) => SSend_okF gs L t k D nx xss 0 q n c' 0 xs w' (hS.keep hb) hnx (by unfold srcC; rw [if_pos rfl,if_pos hn]) hs hr (hT.keep hb))
 clear hS hnx hn h hT hr
 go_enter Tryz.func56,Tryz.ntmps56
 go_wp2_with fail
 refine Calls.mono HE.out ?_
 rintro e w1 ⟨q,c',rfl,hf,hb⟩
 have HB := Lib.hid hb
 have HF := Lib.hid hf
 clear hb hf
 go_wp2_with fail
 refine Calls.mono (HS.out w1 q c' HB.out HF.out.sl) ?_
 rintro e w2 ⟨⟨qo,no,co,rfl,ho⟩,⟨_,_,_,-,-,hsn,hg⟩,-⟩
 have HO := Lib.hid ho
 have HSn := Lib.hid hsn
 have HG := Lib.hid hg
 clear ho hsn hg
 go_wp2
 go_ret2
 exact ⟨⟨qo,no,co,rfl,HO.out.mono HB.out.size⟩,qo,no,co,rfl,HO.out.sl,HSn.out,⟨HG.out.os.trans HB.out.os,HG.out.tape.trans HB.out.tape,HG.out.output.trans HB.out.output,Nat.le_trans HB.out.size HG.out.size,fun b hb hne => (HG.out.block b (Nat.lt_of_lt_of_le hb HB.out.size) hne).trans (HB.out.block b hb)⟩⟩
theorem SExplicit_ok (gs L t k D nx : Nat) (xss : List (List UInt8)) (p : Option Addr) (n c : Nat) (xs : List UInt8) (w : World) (hS : Snd w gs L t k D nx xss) (hnx : nx < 4294967296) (hn : n = k) (h : Sl B8 w p n c xs) (hT : HalfT w) :
  Calls Tryz.prog 56 #[.pointer (some ⟨gs,0,none⟩),.slice p n c] w (SdRet w gs L t k D xss (pktB 0 D nx xs 0 (combS xs xss).1) (nx + 1) 0) :=
 Calls.mono (SExplicit_okF gs L t k D nx xss p n c xs w hS hnx hn h hT) fun _ _ h => h.2
end Go.Proofs.YtfbmdlfkipipfaaGreatDoor
namespace Go.Proofs.YtfbmdlfkipipfaaGreatDoor
open Go.RowKit Go.By Go.Maps
set_option maxRecDepth 100000 in
set_option maxHeartbeats 1000000 in
theorem TStatus_any (base gt be L t k D N : Nat) (M v : Value) (C : DataW Unit) (K : List Rw) (st : Nat) (w : World) (h : Tkr w base gt be L t k D N M v C K st) :
  Calls Tryz.prog 23 #[.pointer (some ⟨gt,0,none⟩)] w fun e w' => e = .returned (.int .i64 (st : Nat)) ∧ w = w' := by
 obtain ⟨c0,c1,c2,c3,c4,c5,c6⟩ := cells_seven h.box
 clear h
 go_enter Tryz.func23,Tryz.ntmps23
 go_wp2
 go_ret
 exact ⟨rfl,rfl⟩
set_option maxRecDepth 100000 in
set_option maxHeartbeats 1000000 in
theorem TRank_any (base gt be L t k D N : Nat) (M v : Value) (C : DataW Unit) (K : List Rw) (st : Nat) (w : World) (h : Tkr w base gt be L t k D N M v C K st) :
  Calls Tryz.prog 18 #[.pointer (some ⟨gt,0,none⟩)] w fun e w' => e = .returned (.int .i64 (K.length : Nat)) ∧ w = w' := by
 have HE := Lib.hid (Rank_any' base be k t K.length v K w h.elm)
 obtain ⟨c0,c1,c2,c3,c4,c5,c6⟩ := cells_seven h.box
 clear h
 go_enter Tryz.func18,Tryz.ntmps18
 go_wp2_with fail
 refine Calls.mono HE.out ?_
 rintro e w1 ⟨rfl,rfl⟩
 go_wp2
 go_ret
 exact ⟨rfl,rfl⟩
def objC (st : Nat) : Int := if st = 0 then 12 else if st = 2 then 13 else 0
set_option maxRecDepth 100000 in
set_option maxHeartbeats 1000000 in
theorem TObject_none (base gt be L t k D N : Nat) (M v : Value) (C : DataW Unit) (K : List Rw) (st : Nat) (w : World) (h : Tkr w base gt be L t k D N M v C K st) (hs : st = 0 ∨ st = 2) :
  Calls Tryz.prog 35 #[.pointer (some ⟨gt,0,none⟩)] w fun e w' => e = .returned (.tuple #[.slice none 0 0,.int .i64 (objC st)]) ∧ w = w' := by
 obtain ⟨c0,c1,c2,c3,c4,c5,c6⟩ := cells_seven h.box
 clear h
 rcases hs with rfl | rfl
 ·go_enter Tryz.func35,Tryz.ntmps35
  go_wp2
  go_ret2
  exact ⟨rfl,rfl⟩
 ·go_enter Tryz.func35,Tryz.ntmps35
  go_wp2
  go_ret2
  exact ⟨rfl,rfl⟩
set_option maxRecDepth 100000 in
set_option maxHeartbeats 2000000 in
theorem TObject_doneT (base gt be L t k D N : Nat) (M v : Value) (C : DataW Unit) (K : List Rw) (w : World) (h : Tkr w base gt be L t k D N M v C K 1) (hK : K.length = k) :
  Calls Tryz.prog 35 #[.pointer (some ⟨gt,0,none⟩)] w (RetLT 5 w (joinS (L : Int) (t : Int) (k : Int) (K.map (fun x : Rw => x.2))).1 (joinS (L : Int) (t : Int) (k : Int) (K.map (fun x : Rw => x.2))).2) := by
 have hk2 := h.ok.k2
 have ht2 := h.ok.t2
 have hR := h.red
 have hel : Elm w base be k t v k K := by have := h.elm; rw [hK] at this; exact this
 have HE := Lib.hid (ESolve_full base be k t v K w hel (fun r hr => by have := (hR.kept.rows r hr).1.2; show _ ≤ _; omega) hk2)
 have HJ : Hid (∀ q c w,Sl2 w q k c (K.map (fun x : Rw => x.2)) → Calls Tryz.prog 91 #[PVal L t k D,.slice q k c] w (RetLT 5 w (joinS (L : Int) (t : Int) (k : Int) (K.map (fun x : Rw => x.2))).1 (joinS (L : Int) (t : Int) (k : Int) (K.map (fun x : Rw => x.2))).2)) := fun q c w hs => Join_anyT (L : Int) (t : Int) (k : Int) (D : Int) q k c _ w hs h.ok.l
 have kt := h.box
 obtain ⟨c0,c1,c2,c3,c4,c5,c6⟩ := cells_seven kt
 clear h hel hR hK
 generalize joinS (L : Int) (t : Int) (k : Int) (K.map (fun x : Rw => x.2)) = J at *
 go_enter Tryz.func35,Tryz.ntmps35
 go_wp2_with fail
 refine Calls.mono HE.out ?_
 rintro e w1 ⟨q,c,rfl,ho,hb⟩
 have kt1 := (hb.block _ (lt_of_block kt)).trans kt
 have HB := Lib.hid hb
 have HO := Lib.hid (ho.sl2)
 clear hb ho kt c0 c1 c2 c3 c4 c5 c6
 obtain ⟨c0,c1,c2,c3,c4,c5,c6⟩ := cells_seven kt1
 go_wp2_with fail
 refine Calls.mono (HJ.out _ _ _ HO.out) ?_
 rintro e w2 ⟨q2,m2,d2,rfl,hs,hn,hb⟩
 have HN := Lib.hid hn
 have HS := Lib.hid hs
 have HB2 := Lib.hid (bl HB.out hb HB.out.size)
 clear hb hs hn
 go_wp2
 go_ret2
 exact ⟨_,_,_,rfl,HS.out,fun a ha => ⟨Nat.le_trans HB.out.size (HN.out a ha).1,(HN.out a ha).2⟩,HB2.out⟩
theorem TObject_done (base gt be L t k D N : Nat) (M v : Value) (C : DataW Unit) (K : List Rw) (w : World) (h : Tkr w base gt be L t k D N M v C K 1) (hK : K.length = k) :
  Calls Tryz.prog 35 #[.pointer (some ⟨gt,0,none⟩)] w (RetL w (joinS (L : Int) (t : Int) (k : Int) (K.map (fun x : Rw => x.2))).1 (joinS (L : Int) (t : Int) (k : Int) (K.map (fun x : Rw => x.2))).2) :=
 Calls.mono (TObject_doneT base gt be L t k D N M v C K w h hK) fun _ _ ⟨q,m,c,e,h,_,hb⟩ => ⟨q,m,c,e,h,hb⟩
end Go.Proofs.YtfbmdlfkipipfaaGreatDoor
namespace Go.Proofs.YtfbmdlfkipipfaaGreatDoor
open Go.RowKit Go.By
end Go.Proofs.YtfbmdlfkipipfaaGreatDoor
namespace Go.Proofs.YtfbmdlfkipipfaaGreatDoor
open Go.RowKit Go.By
end Go.Proofs.YtfbmdlfkipipfaaGreatDoor
namespace Go.Proofs.YtfbmdlfkipipfaaGreatDoor
open Go.RowKit Go.By
end Go.Proofs.YtfbmdlfkipipfaaGreatDoor
namespace Go.Proofs.YtfbmdlfkipipfaaGreatDoor
open Go.RowKit Go.By Gf
end Go.Proofs.YtfbmdlfkipipfaaGreatDoor
namespace Go.Proofs.YtfbmdlfkipipfaaGreatDoor
open Go.RowKit Go.By
end Go.Proofs.YtfbmdlfkipipfaaGreatDoor
namespace Go.Proofs.YtfbmdlfkipipfaaGreatDoor
open Go.RowKit Go.By
end Go.Proofs.YtfbmdlfkipipfaaGreatDoor
namespace Go.Proofs.YtfbmdlfkipipfaaGreatDoor
open Go.RowKit Go.By
end Go.Proofs.YtfbmdlfkipipfaaGreatDoor
namespace Go.Proofs.YtfbmdlfkipipfaaGreatDoor
open Go.RowKit Go.By
end Go.Proofs.YtfbmdlfkipipfaaGreatDoor
namespace Go.Proofs.YtfbmdlfkipipfaaGreatDoor
open Go.RowKit Go.By
end Go.Proofs.YtfbmdlfkipipfaaGreatDoor
namespace Go.Proofs.YtfbmdlfkipipfaaGreatDoor
open Go.RowKit Go.By
end Go.Proofs.YtfbmdlfkipipfaaGreatDoor
namespace Go.Proofs.YtfbmdlfkipipfaaGreatDoor
open Go.RowKit Go.By Gf
end Go.Proofs.YtfbmdlfkipipfaaGreatDoor
namespace Go.Proofs.YtfbmdlfkipipfaaGreatDoor
open Go.RowKit Go.By Gf
end Go.Proofs.YtfbmdlfkipipfaaGreatDoor
namespace Go.Proofs.YtfbmdlfkipipfaaGreatDoor
open Go.RowKit Go.By Gf
theorem vR_right {k n j : Nat} {r : Rw} (hf : Fit k n r) : vR r (k + j) = vf r.2 j := by
 unfold vR vf cat
 rw [List.getD_eq_getElem?_getD,List.getElem?_append_right (by rw [hf.1]; omega),hf.1,Nat.add_sub_cancel_left,List.getD_eq_getElem?_getD]
theorem vR_left {k n j : Nat} {r : Rw} (hf : Fit k n r) (hj : j < k) : vR r j = vf r.1 j := vf_app_left (by rw [hf.1]; exact hj)
theorem Sys.putX {k n : Nat} {D K : List Rw} {x : Rw} (h : Sys k n (kD D) K) (hx : Fit k n x) : Sys k n (kD (D ++ [x])) (Go.Proofs.YtfbmdlfkipipfaaGreatDoor.putK K x) := by
 rw [kD_snoc]
 unfold Go.Proofs.YtfbmdlfkipipfaaGreatDoor.putK
 by_cases hn : leadS (restF K x).1 < 0
 ·have e : insF (kD D) x = kD D := by unfold insF; rw [norm_leadS,h.rest hx,if_pos hn]
  rw [if_pos hn,e]; exact h
 ·rw [if_neg hn]; exact h.put hx hn
def prR (r : Rw) : Rw := (r.1,[])
theorem rest_pr : ∀ (K : List Rw) (x : Rw),restF (K.map prR) (prR x) = prR (restF K x)
 | [],_ => rfl
 | a :: K,x => by
  have h := rest_pr K (lessF x (atS x.1 (leadS a.1)) a)
  unfold restF at h ⊢
  rw [List.map_cons,List.foldl_cons,List.foldl_cons,← h]
  rfl
theorem norm_pr (r : Rw) : normS (prR r) = prR (normS r) := by
 unfold normS prR
 simp only
 split <;> simp
theorem ins_pr (K : List Rw) (x : Rw) : insF (K.map prR) (prR x) = (insF K x).map prR := by
 unfold insF
 rw [rest_pr,norm_pr]
 show (if leadS (normS (restF K x)).1 < 0 then _ else _) = _
 by_cases hl : leadS (normS (restF K x)).1 < 0
 ·rw [if_pos hl,if_pos hl]
 ·rw [if_neg hl,if_neg hl,List.map_append,List.map_cons,List.takeWhile_map,List.dropWhile_map]
  rfl
theorem kD_pr : ∀ (X : List Rw) (K : List Rw),(X.map (fun x : Rw => x.1)).foldl (fun K r => insF K (r,[])) (K.map prR) = (X.foldl insF K).map prR
 | [],_ => rfl
 | x :: X,K => by
  rw [List.map_cons,List.foldl_cons,List.foldl_cons,← kD_pr X (insF K x),← ins_pr]
  rfl
theorem sys_rank {k n : Nat} {X K : List Rw} (h : Sys k n (kD X) K) : K.length = (iK (X.map (fun x : Rw => x.1))).length := by
 have h1 := kD_pr X []
 unfold iK
 rw [show ([] : List Rw) = ([] : List Rw).map prR from rfl,h1,List.length_map,h.same]
 unfold redL kD
 rw [List.length_map,List.length_range]
end Go.Proofs.YtfbmdlfkipipfaaGreatDoor
namespace Go.By
end Go.By
namespace Go.Proofs.YtfbmdlfkipipfaaGreatDoor
open Go.RowKit Go.By Gf
end Go.Proofs.YtfbmdlfkipipfaaGreatDoor
namespace Go.By
open Go.RowKit Go.Maps Go.Proofs.YtfbmdlfkipipfaaGreatDoor
section
variable {w w' : World} {base gt be L t k D N : Nat} {M v : Value} {C : DataW Unit} {K : List Rw} {st : Nat}
theorem TChg.owns (h : TChg w w' gt be v) (hT : Tkr w base gt be L t k D N M v C K st) {b2 T e n : Nat} {v2 : Value} {ys : List Value} (ho : w.ownsRow b2 T e v2 n ys) (h1 : T ≠ 126) (h2 : T ≠ 201) (h3 : ∀ g,v2.ownBlock = some g → v.ownBlock ≠ some g) : w'.ownsRow b2 T e v2 n ys := by
 refine owns_same ho h.size fun g2 hg2 => ?_
 rcases ho.2 with ⟨e1,_⟩ | ⟨g',cap,cur,e1,_,hh,_⟩
 ·rw [e1] at hg2; cases hg2
 ·have h4 := h3 g2 hg2
  rw [e1] at hg2; cases hg2
  refine h.block _ (lt_of_block hh) (fun e => ?_) (fun e => ?_) h4
  ·have := hT.box; rw [← e,hh] at this; injection this with this; injection this with _ this _; exact h1 this
  ·have := hT.elm.box; rw [← e,hh] at this; injection this with this; injection this with _ this _; exact h2 this
theorem tkr_owns_ne {b2 T e n : Nat} {v2 : Value} {ys : List Value} (hT : Tkr w base gt be L t k D N M v C K st) (ho : w.ownsRow b2 T e v2 n ys) (h : 139 ≠ T) : ∀ g,v2.ownBlock = some g → v.ownBlock ≠ some g := by
 intro g hg
 rcases ho.2 with ⟨e1,_⟩ | ⟨g',cap,cur,e1,_,hh,_⟩
 ·rw [e1] at hg; cases hg
 ·rw [e1] at hg; cases hg
  exact hT.elm.rows.ne_box hh h
theorem TChg.bw (h : TChg w w' gt be v) (hT : Tkr w base gt be L t k D N M v C K st) {b : Nat} {u : Value} {xs : List UInt8} (hu : Bw 5 w b u xs) : Bw 5 w' b u xs := by
 obtain ⟨q,m,c,e,l,o⟩ := hu
 exact ⟨q,m,c,e,l,h.owns hT o (by decide) (by decide) (tkr_owns_ne hT o (by decide))⟩
theorem TChg.rwl (h : TChg w w' gt be v) (hT : Tkr w base gt be L t k D N M v C K st) {b2 n2 : Nat} {v2 : Value} {K2 : List Rw} (h2 : RwL 139 5 w b2 v2 n2 K2) (hne : ∀ g,v2.ownBlock = some g → v.ownBlock ≠ some g) : RwL 139 5 w' b2 v2 n2 K2 := by
 obtain ⟨vs,a,b,o,r⟩ := h2
 exact ⟨vs,a,b,h.owns hT o (by decide) (by decide) hne,fun j u hj => by obtain ⟨x,hk,g1,g2⟩ := r j u hj; exact ⟨x,hk,h.bw hT g1,h.bw hT g2⟩⟩
theorem TChg.cnt (h : TChg w w' gt be v) (hT : Tkr w base gt be L t k D N M v C K st) {M2 : Value} {N2 : Nat} {C2 : DataW Unit} (hc : CntM w M2 N2 C2) : CntM w' M2 N2 C2 := by
 refine ⟨?_,hc.small⟩
 rcases hc.at_ with h1 | ⟨b,e,ho⟩
 ·exact .inl h1
 ·refine .inr ⟨b,e,?_⟩
  have hlt := ho.lt
  obtain ⟨es,clock,h1,F,hs,hD⟩ := ho
  refine ⟨es,clock,(h.block b hlt (fun e => ?_) (fun e => ?_) (fun e => ?_)).trans h1,F,hs,hD⟩
  ·have := hT.box; rw [← e,h1] at this; cases this
  ·have := hT.elm.box; rw [← e,h1] at this; cases this
  ·obtain ⟨vs,_,_,o,_⟩ := hT.elm.rows
   rcases o.2 with ⟨e1,_⟩ | ⟨g',cap,cur,e1,_,hh,_⟩
   ·rw [e1] at e; cases e
   ·rw [e1] at e; cases e
    rw [h1] at hh; cases hh
end
theorem sl_gchg {w w' : World} {q : Option Addr} {n c g T : Nat} {ys : List UInt8} {cs : Array Value} {fr : Nat × Nat} (h : Sl B8 w q n c ys) (hg : w.heap[g]? = some (.cells cs T fr)) (hno : ∀ (j : Nat) (x : UInt8),cs[j]? ≠ some (B8 x)) (hc : GChg w g w') : Sl B8 w' q n c ys :=
 ⟨h.len,h.le,h.max,h.nil,fun j hj => by
  obtain ⟨b,o,e,hcl⟩ := h.rs j hj
  refine ⟨b,o,e,?_⟩
  have hne : b ≠ g := fun e1 => by
   rw [e1,cell_of_row _ _ (o + j) _ _ _ hg] at hcl
   exact hno _ _ hcl
  exact (World.cell?_of_block (a := ⟨b,o + j,none⟩) (hc.block b (lt_of_cell hcl) hne)).trans hcl⟩
theorem GChg.trans {w a b : World} {g : Nat} (h : GChg w g a) (h2 : GChg a g b) : GChg w g b :=
 ⟨h2.os.trans h.os,h2.tape.trans h.tape,h2.output.trans h.output,Nat.le_trans h.size h2.size,fun i hi hg => (h2.block i (Nat.lt_of_lt_of_le hi h.size) hg).trans (h.block i hi hg)⟩
theorem GChg.then {w a b : World} {g B : Nat} (h : GChg w g a) (h2 : Below B a b) (hB : w.heap.size ≤ B) : GChg w g b :=
 ⟨h2.os.trans h.os,h2.tape.trans h.tape,h2.output.trans h.output,Nat.le_trans h.size h2.size,fun i hi hg => (h2.block i (Nat.lt_of_lt_of_le hi hB)).trans (h.block i hi hg)⟩
end Go.By
namespace Go.Proofs.YtfbmdlfkipipfaaGreatDoor
open Go.RowKit Go.By Go.Maps
end Go.Proofs.YtfbmdlfkipipfaaGreatDoor
namespace Go.Proofs.YtfbmdlfkipipfaaGreatDoor
open Go.RowKit Go.By Go.Maps
theorem pok_of {l s n d : Int} (hl : l ≤ 9223372036854775807) (hc : checkS l s n = 0) (h0 : 0 ≤ d) (h1 : d < 4294967296) : ∃ L t k D : Nat,l = L ∧ s = t ∧ n = k ∧ d = D ∧ POK L t k D := by
 have hf : fitS l s = 0 ∧ n = needS l s := by
  unfold checkS at hc
  by_cases hf : fitS l s = 0
  ·rw [if_pos hf] at hc
   refine ⟨hf,?_⟩
   by_cases hn : n = needS l s
   ·exact hn
   ·rw [if_neg hn] at hc; omega
  ·rw [if_neg hf] at hc; exact absurd hc hf
 obtain ⟨hf,hn⟩ := hf
 have hs : 0 ≤ l ∧ 1 ≤ s ∧ s ≤ 65535 ∧ needS l s ≤ 4096 := by
  unfold fitS at hf
  split at hf
  ·omega
  ·split at hf
   ·omega
   ·split at hf
    ·omega
    ·omega
 obtain ⟨g1,g2⟩ := needS_pos hs.1 hs.2.1
 refine ⟨l.toNat,s.toNat,n.toNat,d.toNat,by omega,by omega,by omega,by omega,⟨?_,by omega,by omega,by omega,by omega,by omega,by omega⟩⟩
 rw [show ((l.toNat : Nat) : Int) = l by omega,show ((s.toNat : Nat) : Int) = s by omega,show ((n.toNat : Nat) : Int) = n by omega]
 exact hc
set_option maxRecDepth 100000 in
set_option maxHeartbeats 1000000 in
theorem GNew_bad (l s n d : Int) (w : World) (hl : l ≤ 9223372036854775807) (hc : checkS l s n ≠ 0) :
  Calls Tryz.prog 57 #[.agg #[.int .i64 l,.int .i64 s,.int .i64 n,.int .u32 d]] w fun e w' => e = .returned (.tuple #[.agg #[.int .i64 0,.int .i64 0,.int .i64 0,.int .u32 0,.map none],.int .i64 (checkS l s n)]) ∧ Below w.heap.size w w' := by
 have HK := Lib.hid (fun w => Check_any l s n d w hl)
 have hz : (checkS l s n != 0) = true := bne_iff_ne.2 hc
 clear hc
 generalize checkS l s n = C at *
 go_enter Tryz.func57,Tryz.ntmps57
 go_wp2_with fail
 refine Calls.mono (HK.out _) ?_
 rintro e w1 ⟨rfl,hb⟩
 obtain ⟨hb1,h1,h2,hs⟩ := two_of hb
 have HB := Lib.hid hb1
 obtain ⟨c0,c1,c2,c3⟩ := cells_four h1
 clear hb hb1
 go_wp2_with (refine wpList_store_row (o := ⟨none,.store 105 (.tmp 2) (.tmp 9),_,_,_,_⟩) rfl 105 (.tmp 2) (.tmp 9) rfl (w.heap.size + 1) #[.int .i64 0,.int .i64 0,.int .i64 0,.int .u32 0,.map none] rfl rfl _ _ h2 info_gate rfl (by simp [Value.oneCell']) ?_)
 refine bodyPost_ret (res_ct rfl _ _ _ 105 #[.int .i64 0,.int .i64 0,.int .i64 0,.int .u32 0,.map none] (0,0) _ (.int .i64 C) rfl (hrs h2) rfl Tryz.underlying105 rfl info_gate) rfl ?_
 exact ⟨rfl,below_row HB.out (by omega)⟩
set_option maxRecDepth 100000 in
set_option maxHeartbeats 1000000 in
theorem TNew_bad (l s n d : Int) (w : World) (hl : l ≤ 9223372036854775807) (hc : checkS l s n ≠ 0) :
  Calls Tryz.prog 14 #[.agg #[.int .i64 l,.int .i64 s,.int .i64 n,.int .u32 d]] w fun e w' => e = .returned (.tuple #[.pointer none,.int .i64 (checkS l s n)]) ∧ Below w.heap.size w w' := by
 have HK := Lib.hid (fun w => GNew_bad l s n d w hl hc)
 have hz : (checkS l s n != 0) = true := bne_iff_ne.2 hc
 clear hc
 generalize checkS l s n = C at *
 go_enter Tryz.func14,Tryz.ntmps14
 go_wp2_with fail
 refine Calls.mono (HK.out _) ?_
 rintro e w1 ⟨rfl,hb⟩
 obtain ⟨hb1,h1,hs⟩ := one_of hb
 have HB := Lib.hid hb1
 clear hb hb1
 go_wp2
 go_ret2
 exact ⟨rfl,al HB.out HB.out.size⟩
end Go.Proofs.YtfbmdlfkipipfaaGreatDoor
namespace Go.By
open Go.RowKit
section
variable {P : Program} {ops : Array Oper} {Q : Exit → Act → World → Prop}
end
end Go.By
namespace Go.By
open Go.RowKit
theorem Hdr.keep {T base i : Nat} {w1 w w' : World} {v : Value} {xss : List (List UInt8)} (h : Hdr T w1 base w v i xss) (hb : Below w.heap.size w w') : Hdr T w1 base w' v i xss := by
 obtain ⟨vs,o,hl,hr⟩ := h
 exact ⟨vs,owns_keepv o hb,hl,hr⟩
section
variable {T : Nat} {wz W w w' : World} {va vb : Value} {n i4 i9 i : Nat} {A B : List (List UInt8)} {dn : Nat → Bool}
end
end Go.By
namespace Go.Proofs.YtfbmdlfkipipfaaGreatDoor
open Go.RowKit Go.By Gf Go.Maps
end Go.Proofs.YtfbmdlfkipipfaaGreatDoor
namespace Go.By
open Go.RowKit Go.Maps Go.Proofs.YtfbmdlfkipipfaaGreatDoor
theorem fresh_same {T : TypeId} {B : Nat} {w w' : World} {q : Option Addr} {n c : Nat} {xs : List UInt8} (h : Fresh T B w q n c xs) (hp : ∀ (b : Nat) (cs : Array Value) (fr : Nat × Nat),w.heap[b]? = some (.cells cs T fr) → w'.heap[b]? = w.heap[b]?) : Fresh T B w' q n c xs := by
 have hd : ∀ a,q = some a → w'.heap[a.block]? = w.heap[a.block]? := fun a ha => by
  obtain ⟨cs,fr,e⟩ := h.ty a ha; exact hp _ cs fr e
 refine ⟨⟨h.sl.len,h.sl.le,h.sl.max,h.sl.nil,fun i hi => ?_⟩,h.new,fun a ha => ?_⟩
 ·obtain ⟨b,o,e,hc⟩ := h.sl.rs i hi
  exact ⟨b,o,e,(World.cell?_of_block (a := ⟨b,o + i,none⟩) (show w'.heap[b]? = w.heap[b]? from hd ⟨b,o,none⟩ e)).trans hc⟩
 ·obtain ⟨cs,fr,e⟩ := h.ty a ha
  exact ⟨cs,fr,(hd a ha).trans e⟩
theorem GChg.same {w w' : World} {g T' : Nat} {old : Array Value} {fr : Nat × Nat} (h : GChg w g w') (hg : w.heap[g]? = some (.cells old T' fr)) {T : TypeId} (hne : T' ≠ T) : ∀ (b : Nat) (cs : Array Value) (fr : Nat × Nat),w.heap[b]? = some (.cells cs T fr) → w'.heap[b]? = w.heap[b]? := fun b cs fr hb =>
 (h.blk hg hb hne).trans hb.symm
theorem TChg.same {w w' : World} {base gt be L t k D N : Nat} {M v : Value} {C : DataW Unit} {K : List Rw} {st : Nat} (h : TChg w w' gt be v) (hT : Tkr w base gt be L t k D N M v C K st) {T : TypeId} (h1 : T ≠ 126) (h2 : T ≠ 201) (h3 : 139 ≠ T) : ∀ (b : Nat) (cs : Array Value) (fr : Nat × Nat),w.heap[b]? = some (.cells cs T fr) → w'.heap[b]? = w.heap[b]? := fun b cs fr hb =>
 (h.blk hT hb h1 h2 h3).trans hb.symm
def HdrF (T2 T1 : TypeId) (B : Nat) (w : World) (v : Value) (n : Nat) (xss : List (List UInt8)) : Prop :=
 ∃ vs,w.ownsRow B T2 1 v n vs ∧ xss.length = n ∧ ∀ (j : Nat) (u : Value),vs[j]? = some u → ∃ q m c xs,u = .slice q m c ∧ xss[j]? = some xs ∧ Fresh T1 B w q m c xs
theorem HdrF.nil (T2 T1 B : Nat) (w : World) : HdrF T2 T1 B w (.slice none 0 0) 0 [] := ⟨[],World.ownsRow_nil _ _ _ _,rfl,fun j u h => by simp at h⟩
theorem HdrF.shape {T2 T1 B n : Nat} {w : World} {v : Value} {xss : List (List UInt8)} (h : HdrF T2 T1 B w v n xss) : ∃ q c,v = .slice q n c := by
 obtain ⟨vs,o,_⟩ := h; exact owns_shape o
theorem HdrF.len {T2 T1 B n : Nat} {w : World} {v : Value} {xss : List (List UInt8)} (h : HdrF T2 T1 B w v n xss) : xss.length = n := by
 obtain ⟨vs,o,l,_⟩ := h; exact l
theorem HdrF.keep {T2 T1 B n : Nat} {w w' : World} {v : Value} {xss : List (List UInt8)} (h : HdrF T2 T1 B w v n xss) (hb : Below w.heap.size w w') : HdrF T2 T1 B w' v n xss := by
 obtain ⟨vs,o,l,r⟩ := h
 refine ⟨vs,owns_keepv o hb,l,fun j u hj => ?_⟩
 obtain ⟨q,m,c,xs,e,hx,hf⟩ := r j u hj
 exact ⟨q,m,c,xs,e,hx,hf.keep hb⟩
theorem HdrF.same {T2 T1 B n : Nat} {w w' : World} {v : Value} {xss : List (List UInt8)} (h : HdrF T2 T1 B w v n xss) (hs : w.heap.size ≤ w'.heap.size) (h2 : ∀ (b : Nat) (cs : Array Value) (fr : Nat × Nat),w.heap[b]? = some (.cells cs T2 fr) → w'.heap[b]? = w.heap[b]?) (h1 : ∀ (b : Nat) (cs : Array Value) (fr : Nat × Nat),w.heap[b]? = some (.cells cs T1 fr) → w'.heap[b]? = w.heap[b]?) : HdrF T2 T1 B w' v n xss := by
 obtain ⟨vs,o,l,r⟩ := h
 refine ⟨vs,owns_same o hs fun g hg => ?_,l,fun j u hj => ?_⟩
 ·rcases o.2 with ⟨e1,_⟩ | ⟨g',cap,cur,e1,_,hh,_⟩
  ·rw [e1] at hg; cases hg
  ·rw [e1] at hg; cases hg
   exact h2 _ _ _ hh
 ·obtain ⟨q,m,c,xs,e,hx,hf⟩ := r j u hj
  exact ⟨q,m,c,xs,e,hx,fresh_same hf h1⟩
theorem HdrF.sl2 {T2 T1 B n : Nat} {w : World} {q : Option Addr} {c : Nat} {xss : List (List UInt8)} (h : HdrF T2 T1 B w (.slice q n c) n xss) : Sl2 w q n c xss := by
 obtain ⟨vs,o,l,r⟩ := h
 have hd : Hdr T2 w B w (.slice q n c) n xss := ⟨vs,o,l,fun j u hj => by
  obtain ⟨q,m,c,xs,e,hx,hf⟩ := r j u hj
  exact ⟨q,m,c,xs,e,hx,hf.sl⟩⟩
 exact hd.sl2 (Below.refl _ _)
theorem HdrF.push {T2 T1 B n : Nat} {w w' : World} {v v' : Value} {xss : List (List UInt8)} {vs : List Value} {q : Option Addr} {m c : Nat} {xs : List UInt8} (ho : w'.ownsRow B T2 1 v' (n + 1) (vs ++ [.slice q m c])) (hvl : vs.length = n) (hl : xss.length = n)
  (hr : ∀ (j : Nat) (u : Value),vs[j]? = some u → ∃ q m c xs,u = .slice q m c ∧ xss[j]? = some xs ∧ Fresh T1 B w q m c xs) (hx : Fresh T1 B w q m c xs) (hp : ∀ (b : Nat) (cs : Array Value) (fr : Nat × Nat),w.heap[b]? = some (.cells cs T1 fr) → w'.heap[b]? = w.heap[b]?) : HdrF T2 T1 B w' v' (n + 1) (xss ++ [xs]) := by
 refine ⟨_,ho,by simp [hl],fun j u hj => ?_⟩
 by_cases h : j < vs.length
 ·rw [List.getElem?_append_left h] at hj
  obtain ⟨q,m,c,ys,e,hy,hf⟩ := hr j _ hj
  exact ⟨q,m,c,ys,e,by rw [List.getElem?_append_left (by omega)]; exact hy,fresh_same hf hp⟩
 ·rw [List.getElem?_append_right (by omega)] at hj
  by_cases h0 : j - vs.length = 0
  ·rw [h0] at hj
   simp at hj
   refine ⟨q,m,c,xs,hj.symm,?_,fresh_same hx hp⟩
   rw [List.getElem?_append_right (by omega),show j - xss.length = 0 by omega]; rfl
  ·rw [List.getElem?_eq_none (by simp; omega)] at hj; cases hj
end Go.By
namespace Go.Proofs.YtfbmdlfkipipfaaGreatDoor
open Go.RowKit Go.By Go.Maps
theorem pok131 : POK 3 3 1 0 := ⟨by decide,by decide,by decide,by decide,by decide,by decide,by decide⟩
theorem of33 : ofS 3 3 0 = .tuple #[PVal 3 3 1 0,.int .i64 0] := by
 have h : fitS 3 3 = 0 := by decide
 have h2 : needS 3 3 = 1 := by decide
 unfold ofS; rw [if_pos h,h2]; rfl
def pkt9a : List UInt8 := pktB 0 0 0 [0] 0 [0,0,0]
def pkt9b : List UInt8 := pktB 0 0 1 [7] 0 (combS [7] [[1,2,3]]).1
theorem comb9a : (combS [0] [[1,2,3]]).1 = [0,0,0] := by decide +kernel
theorem put9a : putK [] ([0],[0,0,0]) = [] ∧ nextS [] ([0],[0,0,0]) 1 = 0 := by decide +kernel
theorem put9b : putK [] ([7],(combS [7] [[1,2,3]]).1) = [([1],[1,2,3])] ∧ nextS [] ([7],(combS [7] [[1,2,3]]).1) 1 = 1 := by decide +kernel
theorem len9c : (combS [7] [[1,2,3]]).1.length = 3 := by decide +kernel
theorem read9a : readC 1 3 0 pkt9a = 0 ∧ eqX 1 3 pkt9a = ([0],[0,0,0]) := by
 obtain ⟨h1,h2,h3,h4,h5,h6⟩ := read_write (m := 0) (D := 0) (n := 0) (s := 0) (k := 1) (t := 3) (xs := [0]) (ys := [0,0,0]) rfl (fun _ => rfl) rfl (by decide) (by decide)
 refine ⟨h1,?_⟩
 unfold eqX
 rw [show pktM pkt9a = 0 from h2,show pktX 1 pkt9a = [0] from h4,show pktY 1 3 pkt9a = [0,0,0] from h6]
 rfl
theorem read9b : readC 1 3 0 pkt9b = 0 ∧ eqX 1 3 pkt9b = ([7],(combS [7] [[1,2,3]]).1) := by
 obtain ⟨h1,h2,h3,h4,h5,h6⟩ := read_write (m := 0) (D := 0) (n := 1) (s := 0) (k := 1) (t := 3) (xs := [7]) (ys := (combS [7] [[1,2,3]]).1) rfl (fun _ => rfl) len9c (by decide) (by decide)
 refine ⟨h1,?_⟩
 unfold eqX
 rw [show pktM pkt9b = 0 from h2,show pktX 1 pkt9b = [7] from h4,show pktY 1 3 pkt9b = (combS [7] [[1,2,3]]).1 from h6]
 rfl
theorem take9a : takeK 1 3 0 [] 0 pkt9a = [] ∧ takeS 1 3 0 [] 0 pkt9a = 0 := by
 unfold takeK takeS
 rw [if_pos ⟨read9a.1,rfl⟩,if_pos ⟨read9a.1,rfl⟩,read9a.2]
 exact put9a
theorem take9b : takeK 1 3 0 [] 0 pkt9b = [([1],[1,2,3])] ∧ takeS 1 3 0 [] 0 pkt9b = 1 := by
 unfold takeK takeS
 rw [if_pos ⟨read9b.1,rfl⟩,if_pos ⟨read9b.1,rfl⟩,read9b.2]
 exact put9b
theorem len9a : pkt9a.length = 18 := by simp [pkt9a,pktB,bodyP,headB,srcB,put4_len]
theorem len9b : pkt9b.length = 18 := by simp [pkt9b,pktB,bodyP,headB,srcB,put4_len,len9c]
theorem pieces9 : (List.range 1).map (pieceS [1,2,3] 3) = [[1,2,3]] := by decide
theorem join9 : joinS 3 3 1 (([([1],[1,2,3])] : List Rw).map (fun x : Rw => x.2)) = ([1,2,3],0) := by decide +kernel
set_option maxRecDepth 100000 in
set_option maxHeartbeats 8000000 in
theorem awake19 (w : World) (hT : HalfT w) : Calls Tryz.prog 28 #[] w fun e w' => e = .returned (.bool true) ∧ Below w.heap.size w w' := by
 have HT := Lib.hid hT
 have HOf : Hid (∀ w,Calls Tryz.prog 24 #[.int .i64 3,.int .i64 3,.int .u32 0] w fun e w' => e = .returned (.tuple #[PVal 3 3 1 0,.int .i64 0]) ∧ Below w.heap.size w w') := fun w => by have := POf_any 3 3 0 w (by decide); rw [of33] at this; exact this
 have HSm : Hid (∀ xs p1 p2 n1 n2 c1 c2 w,Sl B8 w p1 n1 c1 xs → Sl B8 w p2 n2 c2 xs → Calls Tryz.prog 36 #[.slice p1 n1 c1,.slice p2 n2 c2] w fun e w' => e = .returned (.bool true) ∧ Below w.heap.size w w') := fun xs p1 p2 n1 n2 c1 c2 w h1 h2 => by
  have := Same_any p1 p2 n1 n2 c1 c2 xs xs w h1 h2
  rw [decide_eq_true rfl] at this
  exact this
 clear hT
 go_enter Tryz.func28,Tryz.ntmps28
 go_wp2_with fail
 refine Calls.mono (HOf.out w) ?_
 rintro e w1 ⟨rfl,hb1⟩
 have HB1 := Lib.hid hb1
 clear hb1
 go_wp2_with fail
 refine Calls.mono (SNew_ok 3 3 1 0 _ 3 3 [1,2,3] _ pok131 (sl_block [1,2,3] 3 (hnew (by simp)) rfl rfl (by simp [maxLen])) (fun i hi => by omega) rfl) ?_
 rintro e w2 ⟨gs,rfl,hgs,hsn,hb⟩
 rw [pieces9] at hsn
 obtain ⟨hb2,kp,-,hs2⟩ := two_of hb
 have HB2 := Lib.hid (bl HB1.out hb2 HB1.out.size)
 have HSn := Lib.hid hsn
 have HGS : Hid (w.heap.size ≤ gs) := by have := HB1.out.size; show w.heap.size ≤ gs; simp at hgs; omega
 clear hb hb2 hsn hgs hs2
 obtain ⟨p0,p1,p2,p3⟩ := cells_four kp
 go_wp2_with fail
 refine Calls.mono (TNew_ok 3 3 1 0 w2 pok131) ?_
 rintro e w3 ⟨gt,be,v,rfl,ht,hb⟩
 have HB3 := Lib.hid (bl HB2.out hb HB2.out.size)
 have HT3 := Lib.hid ht
 have HSn3 := Lib.hid (HSn.out.keep hb)
 clear hb ht HSn kp p0 p1 p2 p3
 go_wp2_with fail
 have ba := al (o := .cells #[.int .u8 0] 5 (0,0)) (Below.refl w3.heap.size w3) (Nat.le_refl _)
 have HT4 := Lib.hid (HT3.out.keep ba)
 have HSn4 := Lib.hid (HSn3.out.keep ba)
 have HB4 := Lib.hid (bl HB3.out ba HB3.out.size)
 have HX4 : Hid (Sl B8 (w3.alloc (.cells #[.int .u8 0] 5 (0,0))) (some ⟨w3.heap.size,0,none⟩) 1 1 [0]) := sl_block [0] 1 (hnew rfl) rfl rfl (by simp [maxLen])
 clear ba HT3 HSn3
 refine Calls.mono (SExplicit_ok gs 3 3 1 0 0 [[1,2,3]] _ 1 1 [0] _ HSn4.out (by decide) rfl HX4.out (HT.out.keep HB4.out)) ?_
 rintro e w5 ⟨ql,nl,cl,rfl,hl,hsn,hg⟩
 rw [comb9a] at hl
 obtain ⟨_,_,hbx,-⟩ := HSn4.out.mem
 have HL := Lib.hid hl
 have HSn5 := Lib.hid hsn
 have HT5 := Lib.hid (hg.tkr hbx HT4.out (by decide) (by decide) (by decide) (by decide))
 have HB5 := Lib.hid (HB4.out.trans (hg.below HGS.out HB4.out.size))
 have hnl : nl = 18 := by rw [← hl.len]; exact len9a
 have HNL := Lib.hid hnl
 clear hg hbx hl hsn HT4 HSn4 HB4 HX4 hnl
 go_wp2_with fail
 have ba := al (o := .cells #[.int .u8 7] 5 (0,0)) (Below.refl w5.heap.size w5) (Nat.le_refl _)
 have HT6 := Lib.hid (HT5.out.keep ba)
 have HSn6 := Lib.hid (HSn5.out.keep ba)
 have HL6 := Lib.hid (HL.out.keep ba)
 have HB6 := Lib.hid (bl HB5.out ba HB5.out.size)
 have HX6 : Hid (Sl B8 (w5.alloc (.cells #[.int .u8 7] 5 (0,0))) (some ⟨w5.heap.size,0,none⟩) 1 1 [7]) := sl_block [7] 1 (hnew rfl) rfl rfl (by simp [maxLen])
 clear ba HT5 HSn5 HL
 refine Calls.mono (SExplicit_okF gs 3 3 1 0 1 [[1,2,3]] _ 1 1 [7] _ HSn6.out (by decide) rfl HX6.out (HT.out.keep HB6.out)) ?_
 rintro e w7 ⟨⟨qm,nm,cm,rfl,hl⟩,_,_,_,-,-,-,hg⟩
 obtain ⟨_,_,hbx,-⟩ := HSn6.out.mem
 have HM := Lib.hid hl
 have HL7 := Lib.hid (sl_gchg HL6.out hbx noByte6 hg)
 have HT7 := Lib.hid (hg.tkr hbx HT6.out (by decide) (by decide) (by decide) (by decide))
 have HB7 := Lib.hid (HB6.out.trans (hg.below HGS.out HB6.out.size))
 have hnm : nm = 18 := by rw [← hl.sl.len]; exact len9b
 have HNM := Lib.hid hnm
 clear hg hbx hl HT6 HSn6 HB6 HX6 hnm HL6
 go_wp2_with fail
 refine Calls.mono (TTake_any _ gt be 3 3 1 0 0 (.map none) v (.map []) [] 0 ql nl cl pkt9a w7 HT7.out (HT.out.keep HB7.out) (by decide) HL7.out (by rw [HNL.out]; show 18 ≤ 140737488355328; decide)) ?_
 rintro e w8 ⟨he,M8,v8,hT8,hc8,-⟩
 rw [read9a.1] at he
 subst he
 rw [take9a.1,take9a.2] at hT8
 have HT8 := Lib.hid hT8
 have HM8 : Hid (Sl B8 w8 qm nm cm pkt9b) := (fresh_same HM.out (hc8.same HT7.out (by decide) (by decide) (by decide))).sl
 have HB8 := Lib.hid (HB7.out.trans (hc8.below HT7.out HB2.out.size HB7.out.size))
 clear hT8 hc8 HT7 HB7 HL7 HNL HM
 go_wp2_with fail
 refine Calls.mono (TStatus_any _ gt be 3 3 1 0 _ M8 v8 _ [] 0 w8 HT8.out) ?_
 rintro e w9 ⟨rfl,rfl⟩
 go_wp2_with fail
 refine Calls.mono (TTake_any _ gt be 3 3 1 0 1 M8 v8 _ [] 0 qm nm cm pkt9b w8 HT8.out (HT.out.keep HB8.out) (by decide) HM8.out (by rw [HNM.out]; show 18 ≤ 140737488355328; decide)) ?_
 rintro e w9 ⟨he,M9,v9,hT9,hc9,-⟩
 rw [read9b.1] at he
 subst he
 rw [take9b.1,take9b.2] at hT9
 have HT9 := Lib.hid hT9
 have HB9 := Lib.hid (HB8.out.trans (hc9.below HT8.out HB2.out.size HB8.out.size))
 clear hT9 hc9 HT8 HB8 HM8 HNM
 go_wp2_with fail
 have hob := TObject_done _ gt be 3 3 1 0 _ M9 v9 _ _ w9 HT9.out rfl
 rw [show joinS ((3 : Nat) : Int) ((3 : Nat) : Int) ((1 : Nat) : Int) (([([1],[1,2,3])] : List Rw).map (fun x : Rw => x.2)) = ([1,2,3],0) from join9] at hob
 refine Calls.mono hob ?_
 rintro e wA ⟨qo,no,co,rfl,ho,hb⟩
 have HO := Lib.hid ho
 have HTA := Lib.hid (HT9.out.keep hb)
 have HBA := Lib.hid (bl HB9.out hb HB9.out.size)
 clear hob hb ho HT9 HB9
 go_wp2_with fail
 refine Calls.mono (TStatus_any _ gt be 3 3 1 0 _ M9 v9 _ _ 1 wA HTA.out) ?_
 rintro e wB ⟨rfl,rfl⟩
 go_wp2_with fail
 refine Calls.mono (HSm.out [1,2,3] _ _ _ _ _ _ _ (HO.out.keep (al (Below.refl _ _) (Nat.le_refl _))) (sl_block [1,2,3] 3 (hnew rfl) rfl rfl (by simp [maxLen]))) ?_
 rintro e wC ⟨rfl,hb⟩
 have HBC := Lib.hid (bl HBA.out (one_of hb).1 HBA.out.size)
 clear hb
 go_wp2
 go_ret
 exact ⟨rfl,HBC.out⟩
end Go.Proofs.YtfbmdlfkipipfaaGreatDoor
namespace Go.Proofs.YtfbmdlfkipipfaaGreatDoor
open Go.RowKit Go.By Go.Maps
set_option maxRecDepth 100000 in
set_option maxHeartbeats 1000000 in
theorem GSeen_nil (L t k D : Int) (w : World) : Calls Tryz.prog 49 #[.agg #[.int .i64 L,.int .i64 t,.int .i64 k,.int .u32 D,.map none]] w fun e w' => e = .returned (.int .i64 0) ∧ Below w.heap.size w w' := by
 have hrn := fun W => run_range_nilMap (P := Tryz.prog) W 103 _ _ Tryz.underlying103
 go_enter Tryz.func49,Tryz.ntmps49
 go_wp2_with fail
 obtain ⟨W1,hW1⟩ : ∃ W1,W1 = w.alloc (.cells #[.int .i64 L,.int .i64 t,.int .i64 k,.int .u32 D,.map none] 105 (0,0)) := ⟨_,rfl⟩
 have hb1 : Below w.heap.size w W1 := by rw [hW1]; exact al (Below.refl _ _) (Nat.le_refl _)
 have hnx := run_next_nilMap (P := Tryz.prog) W1 0 0 0 #[]
 have hs : w.heap.size + 1 = W1.heap.size := by rw [hW1]; simp
 rw [← hW1]
 try rw [hs]
 have HB := Lib.hid (al (o := .mapIter none 0 #[] 0) hb1 hb1.size)
 clear hrn hW1 hb1 hs
 obtain ⟨W3,hW3⟩ : ∃ W3,W3 = W1.alloc (.mapIter none 0 #[] 0) := ⟨_,rfl⟩
 rw [← hW3] at HB hnx ⊢
 have HNX := Lib.hid hnx
 clear hW3 hnx
 go_loopw [3,10] (fun s _ wr => s = .int .i64 0 ∧ Hid (wr = W3)) (fun _ _ _ => 0)
 case atStart => exact ⟨rfl,rfl⟩
 case round =>
  obtain ⟨rfl,hwr⟩ := hrel
  have hwr := hwr.out
  subst hwr
  have hnx := HNX.out
  go_wp2
  go_ret
  exact ⟨rfl,HB.out⟩
end Go.Proofs.YtfbmdlfkipipfaaGreatDoor
namespace Go.Proofs.YtfbmdlfkipipfaaGreatDoor
open Go.RowKit Go.By Go.Maps
def ElP (B k t n : Nat) (K : List Rw) (v : Value) (w : World) : Prop := ∃ b u,v = .pointer (some ⟨b,0,none⟩) ∧ Elm w B b k t u n K
def ShElP (B k t n : Nat) (K : List Rw) : Shp := ⟨ElP B k t n K,fun _ _ _ ⟨b,u,e,h⟩ hb => ⟨b,u,e,h.keep hb⟩⟩
def TkA (B L t k D n : Nat) (M : Value) (K : List Rw) (st : Nat) (v : Value) (w : World) : Prop := ∃ b u,v = .agg #[.int .i64 (L : Nat),.int .i64 (t : Nat),.int .i64 (k : Nat),.int .u32 (D : Nat),M,.pointer (some ⟨b,0,none⟩),.int .i64 (st : Nat)] ∧ Elm w B b k t u n K
def ShTkA (B L t k D n : Nat) (M : Value) (K : List Rw) (st : Nat) : Shp := ⟨TkA B L t k D n M K st,fun _ _ _ ⟨b,u,e,h⟩ hb => ⟨b,u,e,h.keep hb⟩⟩
def TkX (B L t k D n : Nat) (M : Value) (K : List Rw) (st : Nat) (v : Value) (w : World) : Prop := ∃ g b u,v = .pointer (some ⟨g,0,none⟩) ∧ B ≤ g ∧ w.heap[g]? = some (.cells #[.int .i64 (L : Nat),.int .i64 (t : Nat),.int .i64 (k : Nat),.int .u32 (D : Nat),M,.pointer (some ⟨b,0,none⟩),.int .i64 (st : Nat)] 126 (0,0)) ∧ Elm w B b k t u n K
def ShTkX (B L t k D n : Nat) (M : Value) (K : List Rw) (st : Nat) : Shp := ⟨TkX B L t k D n M K st,fun _ _ _ ⟨g,b,u,e,hg,h1,h⟩ hb => ⟨g,b,u,e,hg,(hb.block _ (lt_of_block h1)).trans h1,h.keep hb⟩⟩
set_option maxRecDepth 100000 in
set_option maxHeartbeats 2000000 in
theorem TClone_any (base gt be L t k D N : Nat) (M v : Value) (C : DataW Unit) (K : List Rw) (st : Nat) (w : World) (h : Tkr w base gt be L t k D N M v C K st) :
  Calls Tryz.prog 46 #[.pointer (some ⟨gt,0,none⟩)] w fun e w' => ∃ gt2 be2 v2,e = .returned (.pointer (some ⟨gt2,0,none⟩)) ∧ Tkr w' w.heap.size gt2 be2 L t k D N M v2 C K st ∧ Below w.heap.size w w' := by
 have H := Lib.hid h
 have hM : M.oneCell' = true := by rcases h.cnt.at_ with ⟨rfl,_⟩ | ⟨b,rfl,_⟩ <;> rfl
 have hl := Red.le h.red
 have hk2 := h.ok.k2
 have ht2 := h.ok.t2
 have hR := h.red
 have HE : Hid (∀ W,Below w.heap.size w W → Calls Tryz.prog 99 #[.pointer (some ⟨be,0,none⟩)] W fun e w' => ∃ b u,e = .returned (.pointer (some ⟨b,0,none⟩)) ∧ Elm w' W.heap.size b k t u K.length K ∧ Below W.heap.size W w') := fun W hW => EClone_any base be k t K.length v K W (h.elm.keep hW) (fun r hr => ⟨by have := (hR.kept.rows r hr).1.1; show _ ≤ _; omega,by have := (hR.kept.rows r hr).1.2; show _ ≤ _; omega⟩) (by omega)
 obtain ⟨c0,c1,c2,c3,c4,c5,c6⟩ := cells_seven h.box
 clear h hl hk2 ht2 hR
 go_enter Tryz.func46,Tryz.ntmps46
 go_wp2_with fail
 refine wp_region_shapes (fun ix => ([.val (.pointer (some ⟨gt,0,none⟩)),.val (.pointer (some ⟨gt,0,none⟩)),.val (.pointer (some ⟨gt,0,none⟩)),.val (.agg #[.int .i64 (L : Nat),.int .i64 (t : Nat),.int .i64 (k : Nat),.int .u32 (D : Nat),M]),.val (.pointer (some ⟨gt,0,none⟩)),.val (.pointer (some ⟨gt,0,none⟩)),.val (.pointer (some ⟨gt,5,none⟩)),.val (.pointer (some ⟨be,0,none⟩)),(ShElP w.heap.size k t K.length K),.val (.pointer (some ⟨gt,0,none⟩)),.val (.pointer (some ⟨gt,0,none⟩)),.val (.pointer (some ⟨gt,6,none⟩)),.val (.int .i64 (st : Nat)),(ShTkA w.heap.size L t k D K.length M K st),(ShTkX w.heap.size L t k D K.length M K st),(ShTkX w.heap.size L t k D K.length M K st)][ix]?).getD (.any)) 20 rfl (by kernel_rfl) (by decide +kernel) (by decide +kernel) (by decide +kernel) ?_ ?_
 ·refine ⟨?_,?_,?_,?_,?_,?_,?_,?_,?_,?_,?_,?_,?_,?_,?_,?_,trivial⟩
  ·intro a W hb0 hs hp hi; have hb := undrew hb0; clear hb0
   have t0 : sl a 0 = .pointer (some ⟨gt,0,none⟩) := hi 0 (by decide)
   exact ite_y rfl (wp_val (sl a 0) rfl ⟨_,rfl,Below.refl _ _,t0⟩)
  ·intro a W hb0 hs hp hi; have hb := undrew hb0; clear hb0
   have tt : sl a 5 = .pointer (some ⟨gt,0,none⟩) := hp 0 (by decide)
   refine ite_y rfl (wp_val (.pointer (some ⟨gt,0,none⟩)) ?_ ?_)
   ·simp only [execOp,eval_tmp,tt]; simp [go_sem]
   ·exact ⟨_,rfl,Below.refl _ _,rfl⟩
  ·intro a W hb0 hs hp hi; have hb := undrew hb0; clear hb0
   have t6 : sl a 6 = .pointer (some ⟨gt,0,none⟩) := hp 1 (by decide)
   refine ite_y rfl (wp_val (.pointer (some ⟨gt,0,none⟩)) ?_ ?_)
   ·simp only [execOp,eval_tmp,eval_const,t6]; simp [go_sem]
   ·exact ⟨_,rfl,Below.refl _ _,rfl⟩
  ·intro a W hb0 hs hp hi; have hb := undrew hb0; clear hb0
   have tt : sl a 7 = .pointer (some ⟨gt,0,none⟩) := hp 2 (by decide)
   have dd0 := (hb.cell (p := ⟨gt,0,none⟩) (lt_of_cell c0)).trans c0
   have dd1 := (hb.cell (p := ⟨gt,1,none⟩) (lt_of_cell c1)).trans c1
   have dd2 := (hb.cell (p := ⟨gt,2,none⟩) (lt_of_cell c2)).trans c2
   have dd3 := (hb.cell (p := ⟨gt,3,none⟩) (lt_of_cell c3)).trans c3
   have dd4 := (hb.cell (p := ⟨gt,4,none⟩) (lt_of_cell c4)).trans c4
   refine ite_y rfl (wp_val (.agg #[.int .i64 (L : Nat),.int .i64 (t : Nat),.int .i64 (k : Nat),.int .u32 (D : Nat),M]) ?_ ?_)
   ·simp only [execOp,eval_tmp,tt]; simp [go_sem,dd0,dd1,dd2,dd3,dd4]
   ·exact ⟨_,rfl,Below.refl _ _,rfl⟩
  ·intro a W hb0 hs hp hi; have hb := undrew hb0; clear hb0
   have t0 : sl a 0 = .pointer (some ⟨gt,0,none⟩) := hi 0 (by decide)
   exact ite_y rfl (wp_val (sl a 0) rfl ⟨_,rfl,Below.refl _ _,t0⟩)
  ·intro a W hb0 hs hp hi; have hb := undrew hb0; clear hb0
   have tt : sl a 9 = .pointer (some ⟨gt,0,none⟩) := hp 4 (by decide)
   refine ite_y rfl (wp_val (.pointer (some ⟨gt,0,none⟩)) ?_ ?_)
   ·simp only [execOp,eval_tmp,tt]; simp [go_sem]
   ·exact ⟨_,rfl,Below.refl _ _,rfl⟩
  ·intro a W hb0 hs hp hi; have hb := undrew hb0; clear hb0
   have t10 : sl a 10 = .pointer (some ⟨gt,0,none⟩) := hp 5 (by decide)
   refine ite_y rfl (wp_val (.pointer (some ⟨gt,5,none⟩)) ?_ ?_)
   ·simp only [execOp,eval_tmp,eval_const,t10]; simp [go_sem]
   ·exact ⟨_,rfl,Below.refl _ _,rfl⟩
  ·intro a W hb0 hs hp hi; have hb := undrew hb0; clear hb0
   have tt : sl a 11 = .pointer (some ⟨gt,5,none⟩) := hp 6 (by decide)
   have dd := (hb.cell (p := ⟨gt,5,none⟩) (lt_of_cell c5)).trans c5
   refine ite_y rfl (wp_val (.pointer (some ⟨be,0,none⟩)) ?_ ?_)
   ·simp only [execOp,eval_tmp,tt]; simp [go_sem,dd]
   ·exact ⟨_,rfl,Below.refl _ _,rfl⟩
  ·intro a W hb0 hs hp hi; have hb := undrew hb0; clear hb0
   have t12 : sl a 12 = .pointer (some ⟨be,0,none⟩) := hp 7 (by decide)
   refine ite_y rfl (wp_enter 99 #[.pointer (some ⟨be,0,none⟩)] ?_ (HE.out W hb) ?_)
   ·simp only [execOp,resolve,List.map_toArray,List.map,eval_tmp,eval_func,eval_const,t12]; simp [go_sem]
   ·rintro e W' ⟨b,u,rfl,he,hw⟩; exact ⟨_,rfl,_,rfl,hw,b,u,rfl,he.box,he.rows.mono hb.size,Nat.le_trans hb.size he.old⟩
  ·intro a W hb0 hs hp hi; have hb := undrew hb0; clear hb0
   have t0 : sl a 0 = .pointer (some ⟨gt,0,none⟩) := hi 0 (by decide)
   exact ite_y rfl (wp_val (sl a 0) rfl ⟨_,rfl,Below.refl _ _,t0⟩)
  ·intro a W hb0 hs hp hi; have hb := undrew hb0; clear hb0
   have tt : sl a 14 = .pointer (some ⟨gt,0,none⟩) := hp 9 (by decide)
   refine ite_y rfl (wp_val (.pointer (some ⟨gt,0,none⟩)) ?_ ?_)
   ·simp only [execOp,eval_tmp,tt]; simp [go_sem]
   ·exact ⟨_,rfl,Below.refl _ _,rfl⟩
  ·intro a W hb0 hs hp hi; have hb := undrew hb0; clear hb0
   have t15 : sl a 15 = .pointer (some ⟨gt,0,none⟩) := hp 10 (by decide)
   refine ite_y rfl (wp_val (.pointer (some ⟨gt,6,none⟩)) ?_ ?_)
   ·simp only [execOp,eval_tmp,eval_const,t15]; simp [go_sem]
   ·exact ⟨_,rfl,Below.refl _ _,rfl⟩
  ·intro a W hb0 hs hp hi; have hb := undrew hb0; clear hb0
   have tt : sl a 16 = .pointer (some ⟨gt,6,none⟩) := hp 11 (by decide)
   have dd := (hb.cell (p := ⟨gt,6,none⟩) (lt_of_cell c6)).trans c6
   refine ite_y rfl (wp_val (.int .i64 (st : Nat)) ?_ ?_)
   ·simp only [execOp,eval_tmp,tt]; simp [go_sem,dd]
   ·exact ⟨_,rfl,Below.refl _ _,rfl⟩
  ·intro a W hb0 hs hp hi; have hb := undrew hb0; clear hb0
   have t8 : sl a 8 = .agg #[.int .i64 (L : Nat),.int .i64 (t : Nat),.int .i64 (k : Nat),.int .u32 (D : Nat),M] := hp 3 (by decide)
   have t13 : ElP w.heap.size k t K.length K (sl a 13) W := hp 8 (by decide)
   obtain ⟨b2,u2,t13,he⟩ := t13
   have t17 : sl a 17 = .int .i64 (st : Nat) := hp 12 (by decide)
   have v8 : a.tmps[8]?.getD undef = sl a 8 := by simp [sl]
   rw [t8] at v8
   have v13 : a.tmps[13]?.getD undef = sl a 13 := by simp [sl]
   rw [t13] at v13
   have v17 : a.tmps[17]?.getD undef = sl a 17 := by simp [sl]
   rw [t17] at v17
   refine ite_y rfl (wp_val (.agg #[.int .i64 (L : Nat),.int .i64 (t : Nat),.int .i64 (k : Nat),.int .u32 (D : Nat),M,.pointer (some ⟨b2,0,none⟩),.int .i64 (st : Nat)]) ?_ ?_)
   ·simp only [execOp,eval_tmp,t8,t13,t17]; simp [go_sem,v8,v13,v17,Tryz.underlying126,Tryz.underlying105,Tryz.underlying27]
   ·exact ⟨_,rfl,Below.refl _ _,b2,u2,rfl,he⟩
  ·intro a W hb0 hs hp hi; have hb := undrew hb0; clear hb0
   have t18 : TkA w.heap.size L t k D K.length M K st (sl a 18) W := hp 13 (by decide)
   obtain ⟨b2,u2,t18,he⟩ := t18
   refine ite_y rfl (wp_val' (w' := W.alloc (.cells #[.int .i64 (L : Nat),.int .i64 (t : Nat),.int .i64 (k : Nat),.int .u32 (D : Nat),M,.pointer (some ⟨b2,0,none⟩),.int .i64 (st : Nat)] 126)) (.pointer (some ⟨W.heap.size,0,none⟩)) ?_ ?_)
   ·simp only [execOp,eval_tmp,t18]; simp [go_sem]
   ·exact ⟨_,rfl,al (Below.refl _ _) (Nat.le_refl _),_,b2,u2,rfl,hb.size,hnew rfl,he.keep (al (Below.refl _ _) (Nat.le_refl _))⟩
  ·intro a W hb0 hs hp hi; have hb := undrew hb0; clear hb0
   exact ite_y rfl (wp_val (sl a 19) rfl ⟨_,rfl,Below.refl _ _,hp 14 (by decide)⟩)
 intro a w2 hb hs hd hI ht
 have ha := act_is [5,6,7,8,9,10,11,12,13,14,15,16,17,18,19,2] hs hd ht (by decide)
 have y2 : (ShTkX w.heap.size L t k D K.length M K st).ok (sl a 2) w2 := hI 15 (by decide)
 obtain ⟨gt2,be2,v2,t2,hgt2,htx⟩ := y2
 simp only [List.foldl,t2] at ha
 generalize sl a 5 = u5 at ha
 generalize sl a 6 = u6 at ha
 generalize sl a 7 = u7 at ha
 generalize sl a 8 = u8 at ha
 generalize sl a 9 = u9 at ha
 generalize sl a 10 = u10 at ha
 generalize sl a 11 = u11 at ha
 generalize sl a 12 = u12 at ha
 generalize sl a 13 = u13 at ha
 generalize sl a 14 = u14 at ha
 generalize sl a 15 = u15 at ha
 generalize sl a 16 = u16 at ha
 generalize sl a 17 = u17 at ha
 generalize sl a 18 = u18 at ha
 generalize sl a 19 = u19 at ha
 simp only [Act.put,List.setIfInBounds_toArray,List.set_cons_zero,List.set_cons_succ] at ha
 rw [ha]
 clear ha hI ht
 obtain ⟨hbx,helm⟩ := htx
 have HB := Lib.hid hb
 clear hb HE c0 c1 c2 c3 c4 c5 c6
 go_wp2
 go_ret
 exact ⟨gt2,rfl,⟨be2,v2,H.out.ok,hbx,H.out.cnt.keep HB.out,helm,H.out.red,hgt2⟩,HB.out⟩
end Go.Proofs.YtfbmdlfkipipfaaGreatDoor
namespace Go.Proofs
open Go.Shelf
def Tryz.keysI_ren : Go.Shelf.Ren := ⟨fun | 7 => 169 | 10 => 196 | n => n,fun | 23 => 196 | 26 => 3 | 3 => 22 | 28 => 255 | 0 => 0 | 27 => 254 | 33 => 206 | 4 => 4 | n => n,fun | n => n⟩
theorem Tryz.keysI : Go.Proofs.SlLaysZI.n7 Tryz.prog Tryz.keysI_ren := {
 mixed := by kernel_rfl
 f7 := ⟨Tryz.f169.name,by decide,Tryz.func169.trans (congrArg some (by kernel_rfl))⟩
 f10 := ⟨Tryz.f196.name,by decide,Tryz.func196.trans (congrArg some (by kernel_rfl))⟩
 t0 := Tryz.underlying0
 a0 := Tryz.isAgg0
 z0 := Tryz.sizeOf0
 v0 := Tryz.zeroValue0
 t4 := Tryz.underlying4
 a4 := Tryz.isAgg4
 z4 := Tryz.sizeOf4
 v4 := Tryz.zeroValue4
 t23 := Tryz.underlying196
 a23 := Tryz.isAgg196
 z23 := Tryz.sizeOf196
 v23 := Tryz.zeroValue196
 t26 := Tryz.underlying3
 a26 := Tryz.isAgg3
 z26 := Tryz.sizeOf3
 v26 := Tryz.zeroValue3
 t27 := Tryz.underlying254
 a27 := Tryz.isAgg254
 z27 := Tryz.sizeOf254
 v27 := Tryz.zeroValue254
 t28 := Tryz.underlying255
 a28 := Tryz.isAgg255
 z28 := Tryz.sizeOf255
 v28 := Tryz.zeroValue255
 t33 := Tryz.underlying206
 a33 := Tryz.isAgg206
 z33 := Tryz.sizeOf206
 v33 := Tryz.zeroValue206 }
def Tryz.sortedI_ren : Go.Shelf.Ren := ⟨fun | 6 => 168 | 8 => 194 | 9 => 195 | 11 => 206 | 13 => 208 | 12 => 207 | 23 => 221 | 24 => 222 | 14 => 212 | 15 => 213 | 16 => 214 | 17 => 215 | 18 => 216 | 19 => 217 | 20 => 218 | 21 => 219 | 22 => 220 | 25 => 224 | 26 => 225 | 27 => 226 | 28 => 227 | 29 => 228 | 30 => 229 | 31 => 230 | n => n,fun | 26 => 3 | 28 => 255 | 24 => 109 | 0 => 0 | 3 => 3 | 37 => 73 | 48 => 23 | 50 => 44 | 4 => 4 | 40 => 303 | 39 => 302 | 45 => 56 | 5 => 5 | 9 => 9 | 51 => 311 | 55 => 314 | 57 => 316 | 58 => 188 | 33 => 206 | n => n,fun | n => n⟩
theorem Tryz.sortedI : Go.Proofs.SlLaysZI.n6 Tryz.prog Tryz.sortedI_ren := {
 mixed := by kernel_rfl
 f6 := ⟨Tryz.f168.name,by decide,Tryz.func168.trans (congrArg some (by kernel_rfl))⟩
 f8 := ⟨Tryz.f194.name,by decide,Tryz.func194.trans (congrArg some (by kernel_rfl))⟩
 f11 := ⟨Tryz.f206.name,by decide,Tryz.func206.trans (congrArg some (by kernel_rfl))⟩
 t0 := Tryz.underlying0
 a0 := Tryz.isAgg0
 z0 := Tryz.sizeOf0
 v0 := Tryz.zeroValue0
 t24 := Tryz.underlying109
 a24 := Tryz.isAgg109
 z24 := Tryz.sizeOf109
 v24 := Tryz.zeroValue109
 t26 := Tryz.underlying3
 a26 := Tryz.isAgg3
 z26 := Tryz.sizeOf3
 v26 := Tryz.zeroValue3
 t28 := Tryz.underlying255
 a28 := Tryz.isAgg255
 z28 := Tryz.sizeOf255
 v28 := Tryz.zeroValue255
 i26 := by kernel_rfl }
def Tryz.sortI_ren : Go.Shelf.Ren := ⟨fun | 5 => 195 | 8 => 208 | 7 => 207 | 19 => 221 | 20 => 222 | 10 => 212 | 11 => 213 | 12 => 214 | 13 => 215 | 14 => 216 | 15 => 217 | 16 => 218 | 17 => 219 | 18 => 220 | 30 => 224 | 31 => 225 | 32 => 226 | 33 => 227 | 34 => 228 | 35 => 229 | 40 => 230 | n => n,fun | 23 => 109 | 25 => 3 | 3 => 3 | 32 => 73 | 22 => 109 | 0 => 0 | 44 => 23 | 46 => 44 | 4 => 4 | 36 => 303 | 35 => 302 | 41 => 56 | 5 => 5 | 9 => 9 | 53 => 311 | 57 => 314 | 63 => 316 | 64 => 188 | n => n,fun | n => n⟩
theorem Tryz.sortI : Go.Proofs.SlLaysM.n5 Tryz.prog Tryz.sortI_ren := {
 mixed := by kernel_rfl
 f5 := ⟨Tryz.f195.name,by decide,Tryz.func195.trans (congrArg some (by kernel_rfl))⟩
 f7 := ⟨Tryz.f207.name,by decide,Tryz.func207.trans (congrArg some (by kernel_rfl))⟩
 f8 := Tryz.func208.trans (congrArg some (by kernel_rfl))
 f10 := ⟨Tryz.f212.name,by decide,Tryz.func212.trans (congrArg some (by kernel_rfl))⟩
 f11 := ⟨Tryz.f213.name,by decide,Tryz.func213.trans (congrArg some (by kernel_rfl))⟩
 f12 := ⟨Tryz.f214.name,by decide,Tryz.func214.trans (congrArg some (by kernel_rfl))⟩
 f13 := ⟨Tryz.f215.name,by decide,Tryz.func215.trans (congrArg some (by kernel_rfl))⟩
 f14 := ⟨Tryz.f216.name,by decide,Tryz.func216.trans (congrArg some (by kernel_rfl))⟩
 f15 := ⟨Tryz.f217.name,by decide,Tryz.func217.trans (congrArg some (by kernel_rfl))⟩
 f16 := ⟨Tryz.f218.name,by decide,Tryz.func218.trans (congrArg some (by kernel_rfl))⟩
 f17 := ⟨Tryz.f219.name,by decide,Tryz.func219.trans (congrArg some (by kernel_rfl))⟩
 f18 := ⟨Tryz.f220.name,by decide,Tryz.func220.trans (congrArg some (by kernel_rfl))⟩
 f19 := Tryz.func221.trans (congrArg some (by kernel_rfl))
 f20 := Tryz.func222.trans (congrArg some (by kernel_rfl))
 f30 := ⟨Tryz.f224.name,by decide,Tryz.func224.trans (congrArg some (by kernel_rfl))⟩
 f31 := Tryz.func225.trans (congrArg some (by kernel_rfl))
 f32 := Tryz.func226.trans (congrArg some (by kernel_rfl))
 f33 := ⟨Tryz.f227.name,by decide,Tryz.func227.trans (congrArg some (by kernel_rfl))⟩
 f34 := ⟨Tryz.f228.name,by decide,Tryz.func228.trans (congrArg some (by kernel_rfl))⟩
 f35 := ⟨Tryz.f229.name,by decide,Tryz.func229.trans (congrArg some (by kernel_rfl))⟩
 f40 := ⟨Tryz.f230.name,by decide,Tryz.func230.trans (congrArg some (by kernel_rfl))⟩
 t0 := Tryz.underlying0
 a0 := Tryz.isAgg0
 z0 := Tryz.sizeOf0
 v0 := Tryz.zeroValue0
 t3 := Tryz.underlying3
 a3 := Tryz.isAgg3
 z3 := Tryz.sizeOf3
 v3 := Tryz.zeroValue3
 t4 := Tryz.underlying4
 a4 := Tryz.isAgg4
 z4 := Tryz.sizeOf4
 v4 := Tryz.zeroValue4
 t5 := Tryz.underlying5
 a5 := Tryz.isAgg5
 z5 := Tryz.sizeOf5
 v5 := Tryz.zeroValue5
 t9 := Tryz.underlying9
 a9 := Tryz.isAgg9
 z9 := Tryz.sizeOf9
 v9 := Tryz.zeroValue9
 t22 := Tryz.underlying109
 a22 := Tryz.isAgg109
 z22 := Tryz.sizeOf109
 v22 := Tryz.zeroValue109
 t23 := Tryz.underlying109
 a23 := Tryz.isAgg109
 z23 := Tryz.sizeOf109
 v23 := Tryz.zeroValue109
 t25 := Tryz.underlying3
 a25 := Tryz.isAgg3
 z25 := Tryz.sizeOf3
 v25 := Tryz.zeroValue3
 t32 := Tryz.underlying73
 a32 := Tryz.isAgg73
 z32 := Tryz.sizeOf73
 v32 := Tryz.zeroValue73
 t35 := Tryz.underlying302
 a35 := Tryz.isAgg302
 z35 := Tryz.sizeOf302
 v35 := Tryz.zeroValue302
 t36 := Tryz.underlying303
 a36 := Tryz.isAgg303
 z36 := Tryz.sizeOf303
 v36 := Tryz.zeroValue303
 t41 := Tryz.underlying56
 a41 := Tryz.isAgg56
 z41 := Tryz.sizeOf56
 v41 := Tryz.zeroValue56
 t44 := Tryz.underlying23
 a44 := Tryz.isAgg23
 z44 := Tryz.sizeOf23
 v44 := Tryz.zeroValue23
 t46 := Tryz.underlying44
 a46 := Tryz.isAgg44
 z46 := Tryz.sizeOf44
 v46 := Tryz.zeroValue44
 t53 := Tryz.underlying311
 a53 := Tryz.isAgg311
 z53 := Tryz.sizeOf311
 v53 := Tryz.zeroValue311
 t57 := Tryz.underlying314
 a57 := Tryz.isAgg314
 z57 := Tryz.sizeOf314
 v57 := Tryz.zeroValue314
 t63 := Tryz.underlying316
 a63 := Tryz.isAgg316
 z63 := Tryz.sizeOf316
 v63 := Tryz.zeroValue316
 t64 := Tryz.underlying188
 a64 := Tryz.isAgg188
 z64 := Tryz.sizeOf188
 v64 := Tryz.zeroValue188 }
end Go.Proofs
namespace Go.By
open Go.RowKit Go.Maps Go.ChangeMaps
def slR : Value → Option (DataW Unit × List MemPlace)
 | .slice (some ⟨b,o,none⟩) n c => some (.agg [.lit (.int .i64 b),.lit (.int .i64 o),.lit (.int .i64 n),.lit (.int .i64 c)],[])
 | .slice none 0 0 => some (.nil,[])
 | _ => none
theorem slR_inj {u v : Value} {y z : DataW Unit × List MemPlace} (h : slR u = some y) (h2 : slR v = some z) (e : y.1 = z.1) : u = v := by
 unfold slR at h h2
 split at h <;> split at h2 <;> cases h <;> cases h2 <;> simp_all <;> omega
structure OKm (m : Nat) (S : Nat → Bool) (f : Nat → DataW Unit) (es : List (Lit × DataW Unit)) : Prop where
 all : ∀ p,p ∈ es → ∃ i : Nat,i < m ∧ S i = true ∧ p = (.int .i64 (i : Int),f i)
 has : ∀ i : Nat,i < m → S i = true → ∃ p,p ∈ es ∧ p.1 = .int .i64 (i : Int)
theorem same_i64 {a b : Int} : (Lit.int .i64 a).sameKey (.int .i64 b) = decide (a = b) := by
 simp [Lit.sameKey]
theorem OKm.look {m i : Nat} {S : Nat → Bool} {f : Nat → DataW Unit} {es : List (Lit × DataW Unit)} (h : OKm m S f es) (hi : i < m) (z : DataW Unit) : (DataW.map es).atKey (.int .i64 (i : Int)) z = if S i = true then f i else z := by
 unfold DataW.atKey
 cases hf : es.find? (fun p => p.1.sameKey (.int .i64 (i : Int))) with
 | none =>
  simp only [hf]
  rw [List.find?_eq_none] at hf
  by_cases hS : S i = true
  ·obtain ⟨p,hp,e⟩ := h.has i hi hS
   have := hf p hp
   rw [e,same_i64] at this
   simp at this
  ·rw [if_neg hS]
 | some p =>
  simp only [hf]
  have hp := List.mem_of_find?_eq_some hf
  have hs := List.find?_some hf
  obtain ⟨j,hj,hS,rfl⟩ := h.all p hp
  rw [same_i64,decide_eq_true_eq] at hs
  obtain rfl : j = i := by omega
  rw [if_pos hS]
theorem OKm.put {m k : Nat} {S : Nat → Bool} {f : Nat → DataW Unit} {es : List (Lit × DataW Unit)} (h : OKm m S f es) (hk : k < m) : OKm m (fun i => S i || decide (i = k)) f (putKey (.int .i64 (k : Int)) (f k) es) := by
 refine ⟨fun p hp => ?_,fun i hi hS => ?_⟩
 ·rcases mem_insert_iff.1 hp with rfl | hp
  ·exact ⟨k,hk,by simp,rfl⟩
  ·obtain ⟨i,hi,hS,rfl⟩ := h.all p (List.mem_filter.1 hp).1
   exact ⟨i,hi,by simp [hS],rfl⟩
 ·by_cases e : i = k
  ·subst e; exact ⟨_,mem_insert_iff.2 (.inl rfl),rfl⟩
  ·have hS2 : S i = true := by simpa [e] using hS
   obtain ⟨p,hp,ep⟩ := h.has i hi hS2
   refine ⟨p,mem_insert_iff.2 (.inr (List.mem_filter.2 ⟨hp,?_⟩)),ep⟩
   unfold notKey
   rw [ep,same_i64]
   have : ¬ ((i : Int) = (k : Int)) := by omega
   simp [this]
theorem OKm.nil {m : Nat} {f : Nat → DataW Unit} : OKm m (fun _ => false) f [] := ⟨fun p hp => (by cases hp),fun i _ h => (by cases h)⟩
theorem OKm.keys {m : Nat} {S : Nat → Bool} {f : Nat → DataW Unit} {es : List (Lit × DataW Unit)} (h : OKm m S f es) (x : Int) : x ∈ intKeys (.map es) ↔ ∃ i : Nat,i < m ∧ S i = true ∧ x = (i : Int) := by
 show x ∈ es.map (fun p => intOf p.1) ↔ _
 rw [List.mem_map]
 constructor
 ·rintro ⟨p,hp,rfl⟩
  obtain ⟨i,hi,hS,rfl⟩ := h.all p hp
  exact ⟨i,hi,hS,rfl⟩
 ·rintro ⟨i,hi,hS,rfl⟩
  obtain ⟨p,hp,e⟩ := h.has i hi hS
  exact ⟨p,hp,by rw [e]; rfl⟩
end Go.By
namespace Go.Proofs.YtfbmdlfkipipfaaGreatDoor
open Go.RowKit Go.By Go.Maps Go.Sort Go.Shelf
def MapC (bm cnt m : Nat) (S : Nat → Bool) (vs : List Value) (W : World) : Prop := ∃ es,W.ownsMap Tryz.prog 3 slR bm cnt (.map es) ∧ OKm m S (fun i => ((slR (vs.getD i undef)).getD (.nil,[])).1) es
theorem keyedC : Keyed Tryz.prog 3 := int_keyed Tryz.underlying3
theorem keyC (i : Nat) (hi : i ≤ 9223372036854775807) : keyOf Tryz.prog 3 (.int .i64 (i : Int)) = some (.int .i64 (i : Int)) := keyOf_int_mk Tryz.underlying3 (by simp [Lit.wf,IntKind.min,IntKind.max,IntKind.signed,IntKind.bits]; omega)
theorem MapC.keep {bm cnt m : Nat} {S : Nat → Bool} {vs : List Value} {W W' : World} (h : MapC bm cnt m S vs W) (hb : Below W.heap.size W W') : MapC bm cnt m S vs W' := by
 obtain ⟨es,ho,hk⟩ := h
 refine ⟨es,?_,hk⟩
 have hlt := ho.lt
 obtain ⟨e,clock,h1,F,hs,hD⟩ := ho
 exact ⟨e,clock,(hb.block _ hlt).trans h1,F,hs,hD⟩
theorem MapC.lt {bm cnt m : Nat} {S : Nat → Bool} {vs : List Value} {W : World} (h : MapC bm cnt m S vs W) : bm < W.heap.size := by
 obtain ⟨es,ho,_⟩ := h; exact ho.lt
theorem MapC.grown {bm cnt m : Nat} {S : Nat → Bool} {vs : List Value} {W W' : World} {row : Option Nat} (h : MapC bm cnt m S vs W) (hg : W.grownBy W' row) (hne : some bm ≠ row) : MapC bm cnt m S vs W' := by
 obtain ⟨es,ho,hk⟩ := h
 exact ⟨es,ho.kept hg hne,hk⟩
theorem MapC.set {bm cnt m b i : Nat} {v : Value} {S : Nat → Bool} {vs : List Value} {W : World} (h : MapC bm cnt m S vs W) (hne : bm ≠ b) : MapC bm cnt m S vs (W.setCell ⟨b,i,none⟩ v) := by
 obtain ⟨es,ho,hk⟩ := h
 obtain ⟨e,clock,h1,F,hs,hD⟩ := ho
 exact ⟨es,⟨e,clock,hsc h1 hne,F,hs,hD⟩,hk⟩
theorem MapC.made {m : Nat} {vs : List Value} {W : World} : MapC W.heap.size 0 m (fun _ => false) vs (W.alloc (.map #[] 0)) := ⟨[],World.ownsMap_made _ _ _ _,OKm.nil⟩
theorem zeroB (W : World) : (zeroValue 22).run Tryz.prog W = .ok (.slice none 0 0) W := by simp [Tryz.underlying22]
theorem MapC.look {bm cnt m i : Nat} {S : Nat → Bool} {vs : List Value} {W : World} (h : MapC bm cnt m S vs W) (hi : i < m) (hi2 : i ≤ 9223372036854775807) (hv : S i = true → ∃ y,slR (vs.getD i undef) = some y) (c : Bool) :
  (Instr.lookup 196 (.map (some bm)) (.int .i64 (i : Int)) c).run Tryz.prog W = .ok (if S i = true then (if c then .tuple #[vs.getD i undef,.bool true] else vs.getD i undef) else (if c then .tuple #[.slice none 0 0,.bool false] else .slice none 0 0)) W := by
 obtain ⟨es,⟨e,clock,h1,F,hs,hD⟩,hk⟩ := h
 have hl := hk.look hi
 rw [hD] at hl
 rcases Maps.fit_look c keyedC Tryz.underlying196 (zeroB W) h1 F (keyC i hi2) with ⟨hrun,_,hat⟩ | ⟨e0,y,_,_,hrun,hR,hat,_⟩
 ·have hS : ¬ S i = true := fun hS => by
   have a1 := hl .nil
   have a2 := hl (.lit (.bool true))
   rw [if_pos hS,hat] at a1 a2
   rw [← a1] at a2; cases a2
  rw [hrun,if_neg hS]
 ·have hS : S i = true := by
   by_cases hS : S i = true
   ·exact hS
   ·have a1 := hl .nil
    have a2 := hl (.lit (.bool true))
    rw [if_neg hS,hat] at a1 a2
    rw [a1] at a2; cases a2
  have a1 := hl .nil
  rw [if_pos hS,hat] at a1
  obtain ⟨z,hz⟩ := hv hS
  have ev : e0.val = vs.getD i undef := slR_inj hR hz (by rw [a1,hz]; rfl)
  rw [hrun,if_pos hS,ev]
theorem MapC.congr {bm cnt m : Nat} {S : Nat → Bool} {vs vs' : List Value} {W : World} (h : MapC bm cnt m S vs W) (he : ∀ i,i < m → S i = true → vs.getD i undef = vs'.getD i undef) : MapC bm cnt m S vs' W := by
 obtain ⟨es,ho,hk⟩ := h
 refine ⟨es,ho,⟨fun p hp => ?_,hk.has⟩⟩
 obtain ⟨i,hi,hS,e⟩ := hk.all p hp
 exact ⟨i,hi,hS,by rw [e]; show (_,((slR (vs.getD i undef)).getD (.nil,[])).1) = (_,((slR (vs'.getD i undef)).getD (.nil,[])).1); rw [he i hi hS]⟩
theorem MapC.put {bm cnt m k : Nat} {S : Nat → Bool} {vs : List Value} {W : World} (h : MapC bm cnt m S vs W) (hk : k < m) (hk2 : k ≤ 9223372036854775807) (hc : cnt < maxLen) {y : DataW Unit × List MemPlace} (hv : slR (vs.getD k undef) = some y) :
  ∃ W',(Instr.mapUpdate 196 (.map (some bm)) (.int .i64 (k : Int)) (vs.getD k undef)).run Tryz.prog W = .ok () W' ∧ MapC bm (cnt + 1) m (fun i => S i || decide (i = k)) vs W' ∧ W.grownBy W' (some bm) := by
 obtain ⟨es,ho,hO⟩ := h
 obtain ⟨W',h1,h2,h3⟩ := ho.update (d := y.1) (ps := y.2) keyedC Tryz.underlying196 hc (keyC k hk2) hv
 refine ⟨W',h1,⟨_,?_,hO.put hk⟩,h3⟩
 rw [DataW.put_eq] at h2
 rw [hv]
 exact h2
end Go.Proofs.YtfbmdlfkipipfaaGreatDoor
namespace Go.Proofs.YtfbmdlfkipipfaaGreatDoor
open Go.RowKit Go.By Go.Maps Go.Sort Go.Shelf
theorem sortsC (m : Nat) : AnyZI.SortsIn Tryz.prog Tryz.sortedI_ren Fence.wide m :=
 ⟨fun blk off cap ss W hH hblk hsz => callsIn_wide.2 (AnyM.slices_Sort_int Tryz.sortI blk off cap ss W hH hblk hsz),
  fun p cap W => callsIn_wide.2 (AnyM.slices_Sort_int_none Tryz.sortI p cap W)⟩
theorem KeysC_any (bm : Nat) (W : World) : Calls Tryz.prog 169 #[.map (some bm)] W fun e w' => e = .returned (.func (.func 196) #[] #[.pointer (some ⟨W.heap.size,0,none⟩)]) ∧ w' = W.alloc (.cells #[.map (some bm)] 196) :=
 (callsIn_wide (n := 5)).1 (AnyZI.keys_in Tryz.keysI Fence.wide 5 trivial rfl (some bm) W)
theorem SortedC_any (bm cnt m B : Nat) (S : Nat → Bool) (vs : List Value) (W : World) (h : MapC bm cnt m S vs W) (hB : W.heap[B]? = some (.cells #[.map (some bm)] 196 (0,0))) (hc : cnt ≤ 100000) :
  Calls Tryz.prog 168 #[.func (.func 196) #[] #[.pointer (some ⟨B,0,none⟩)]] W fun e w' => ∃ (q : Option Addr) (n c : Nat) (ks : List Nat),e = .returned (.slice q n c) ∧ Sl encZ w' q n c (ks.map fun k : Nat => (k : Int)) ∧ (∀ k,k ∈ ks ↔ (k < m ∧ S k = true)) ∧ Below W.heap.size W w' := by
 obtain ⟨es,ho,hO⟩ := h
 have hsz : Maps.size (.map es : DataW Unit) ≤ cnt := by
  obtain ⟨e,clock,h1,F,hs,hD⟩ := ho
  have e1 : es = (e.toList.map (Go.WideElems.rg Tryz.prog 3 slR)).foldr DataW.insert [] := by injection hD
  show es.length ≤ cnt
  rw [e1,length_sorted]; simpa using hs
 have hseq : SeqGives Fence.wide 2 Tryz.prog 196 #[.pointer (some ⟨B,0,none⟩)] encZ (fun ss => ss.Perm (intKeys (.map es : DataW Unit))) (Maps.size (.map es : DataW Unit)) W :=
  AnyZI.keys_gives (ρ := Tryz.keysI_ren) { Tryz.keysI with } Fence.wide _ trivial rfl (by omega) B bm cnt (.map es) W (blk_ltC hB) (cell_of_row _ _ 0 _ _ _ hB) ho
 have cS := AnyZI.sorted_in Tryz.sortedI Fence.wide 5 trivial trivial trivial trivial rfl (by omega) (sortsC _) (enters_of Tryz.func195 (by kernel_rfl) rfl) 196 #[.pointer (some ⟨B,0,none⟩)] trivial (enters_of Tryz.func196 (by kernel_rfl) rfl) _ _ (by unfold maxLen; omega) (by omega) _ hseq
 change CallsIn _ _ Tryz.prog 168 _ _ _ at cS
 refine ((callsIn_wide (n := 5)).1 cS).mono ?_
 rintro e w' ⟨v,ss,rfl,hp,hrow,-,hb⟩
 have hmem : ∀ x,x ∈ ss.mergeSort (fun x y => decide (x ≤ y)) ↔ ∃ i : Nat,i < m ∧ S i = true ∧ x = (i : Int) := fun x => by
  rw [(List.mergeSort_perm _ _).mem_iff,hp.mem_iff]; exact hO.keys x
 have hnn : ∀ x,x ∈ ss.mergeSort (fun x y => decide (x ≤ y)) → ∃ i : Nat,x = (i : Int) := fun x hx => by
  obtain ⟨i,_,_,e⟩ := (hmem x).1 hx; exact ⟨i,e⟩
 have hback : ((ss.mergeSort (fun x y => decide (x ≤ y))).map Int.toNat).map (fun k : Nat => (k : Int)) = ss.mergeSort (fun x y => decide (x ≤ y)) := by
  rw [List.map_map]
  conv => rhs; rw [← List.map_id (ss.mergeSort (fun x y => decide (x ≤ y)))]
  apply List.map_congr_left
  intro x hx
  obtain ⟨i,rfl⟩ := hnn x hx
  rfl
 obtain ⟨q,c,rfl⟩ := owns_shape hrow
 refine ⟨q,ss.length,c,(ss.mergeSort (fun x y => decide (x ≤ y))).map Int.toNat,rfl,?_,fun k => ?_,hb⟩
 ·rw [hback]; exact Sl.of_owns hrow
 ·rw [List.mem_map]
  constructor
  ·rintro ⟨x,hx,rfl⟩
   obtain ⟨i,h1,h2,rfl⟩ := (hmem x).1 hx
   exact ⟨h1,h2⟩
  ·rintro ⟨h1,h2⟩
   exact ⟨(k : Int),(hmem _).2 ⟨k,h1,h2,rfl⟩,rfl⟩
end Go.Proofs.YtfbmdlfkipipfaaGreatDoor
namespace Go.By
open Go.RowKit
def objF (s : Nat) (P : Nat → List UInt8) (A : Nat → Bool) (a : Nat) : UInt8 := if A (a / s) then (P (a / s)).getD (a % s) 0 else 0
def objL (l s : Nat) (P : Nat → List UInt8) (A : Nat → Bool) : List UInt8 := (List.range l).map (objF s P A)
def toldT (l : Nat) (T : Nat → Bool) : List Bool := (List.range l).map T
theorem objL_at (l s : Nat) (P : Nat → List UInt8) (A : Nat → Bool) (a : Nat) : (objL l s P A)[a]? = if a < l then some (objF s P A a) else none := by
 unfold objL
 rw [List.getElem?_map]
 by_cases h : a < l
 ·rw [if_pos h,List.getElem?_range h]; rfl
 ·rw [if_neg h,List.getElem?_eq_none (by simpa using h)]; rfl
theorem toldT_at (l : Nat) (T : Nat → Bool) (a : Nat) : (toldT l T)[a]? = if a < l then some (T a) else none := by
 unfold toldT
 rw [List.getElem?_map]
 by_cases h : a < l
 ·rw [if_pos h,List.getElem?_range h]; rfl
 ·rw [if_neg h,List.getElem?_eq_none (by simpa using h)]; rfl
theorem objL_len (l s : Nat) (P : Nat → List UInt8) (A : Nat → Bool) : (objL l s P A).length = l := by simp [objL]
theorem toldT_len (l : Nat) (T : Nat → Bool) : (toldT l T).length = l := by simp [toldT]
theorem toldT_congr {l : Nat} {T U : Nat → Bool} (h : ∀ a,a < l → T a = U a) : toldT l T = toldT l U := by
 unfold toldT
 exact List.map_congr_left (fun a ha => h a (List.mem_range.1 ha))
theorem objL_congr {l s : Nat} {P : Nat → List UInt8} {A B : Nat → Bool} (h : ∀ a,a < l → A (a / s) = B (a / s)) : objL l s P A = objL l s P B := by
 unfold objL
 exact List.map_congr_left (fun a ha => by unfold objF; rw [h a (List.mem_range.1 ha)])
theorem objL_zero (l s : Nat) (P : Nat → List UInt8) : (objL l s P (fun _ => false)).map B8 = List.replicate l (B8 0) := by
 unfold objL
 rw [List.map_map,show (B8 ∘ objF s P fun _ => false) = (fun _ => B8 0) from rfl,List.map_const',List.length_range]
theorem toldT_zero (l : Nat) : (toldT l (fun _ => false)).map Value.bool = List.replicate l (Value.bool false) := by
 unfold toldT
 rw [List.map_map,show (Value.bool ∘ fun (_ : Nat) => false) = (fun _ => Value.bool false) from rfl,List.map_const',List.length_range]
theorem toldT_set {l i : Nat} {T : Nat → Bool} : (toldT l T).set i true = toldT l (fun a => T a || decide (a = i)) := by
 apply List.ext_getElem?
 intro a
 rw [List.getElem?_set,toldT_at,toldT_at,toldT_len]
 by_cases h : i = a
 ·subst h; simp
 ·have h2 : ¬ a = i := fun e => h e.symm
  simp [h,h2]
theorem div_eqC {a s k : Nat} (hs : 1 ≤ s) (h1 : k * s ≤ a) (h2 : a < k * s + s) : a / s = k ∧ a % s = a - k * s := by
 have e : a = (a - k * s) + k * s := by omega
 have hl : a - k * s < s := by omega
 constructor
 ·conv => lhs; rw [e]
  rw [Nat.add_mul_div_right _ _ (by omega),Nat.div_eq_of_lt hl]; omega
 ·conv => lhs; rw [e]
  rw [Nat.add_mul_mod_self_right,Nat.mod_eq_of_lt hl]
theorem div_neC {a s k : Nat} (hs : 1 ≤ s) (h : ¬ (k * s ≤ a ∧ a < k * s + s)) : a / s ≠ k := fun e => by
 have h1 := Nat.div_add_mod a s
 have h2 := Nat.mod_lt a (show 0 < s by omega)
 rw [e,Nat.mul_comm] at h1
 omega
theorem objL_splice {l s k : Nat} {P : Nat → List UInt8} {A : Nat → Bool} (hs : 1 ≤ s) (hk : k * s ≤ l) (hP : (P k).length = s) :
  (objL l s P A).take (k * s) ++ ((P k).take (l - k * s) ++ (objL l s P A).drop (k * s + ((P k).take (l - k * s)).length)) = objL l s P (fun i => A i || decide (i = k)) := by
 have hz : ((P k).take (l - k * s)).length = min (l - k * s) s := by rw [List.length_take,hP]
 have ht : ((objL l s P A).take (k * s)).length = k * s := by rw [List.length_take,objL_len]; omega
 apply List.ext_getElem?
 intro a
 rw [objL_at]
 by_cases h1 : a < k * s
 ·rw [List.getElem?_append_left (by omega),List.getElem?_take,if_pos h1,objL_at]
  have hne := div_neC (k := k) (a := a) hs (by omega)
  unfold objF
  simp [hne]
 ·rw [List.getElem?_append_right (by omega),ht]
  by_cases h2 : a - k * s < ((P k).take (l - k * s)).length
  ·rw [List.getElem?_append_left h2,List.getElem?_take]
   have h3 : a < l := by omega
   obtain ⟨e1,e2⟩ := div_eqC (a := a) (k := k) hs (by omega) (by omega)
   rw [if_pos (by omega),if_pos h3]
   unfold objF
   rw [e1,e2]
   simp only [decide_true,Bool.or_true,if_true]
   rw [List.getD_eq_getElem?_getD,List.getElem?_eq_getElem (by omega)]; rfl
  ·rw [List.getElem?_append_right (by omega),List.getElem?_drop,objL_at]
   have e : k * s + ((P k).take (l - k * s)).length + (a - k * s - ((P k).take (l - k * s)).length) = a := by omega
   rw [e]
   by_cases h3 : a < l
   ·have hne := div_neC (k := k) (a := a) hs (by omega)
    rw [if_pos h3,if_pos h3]
    unfold objF
    simp [hne]
   ·rw [if_neg h3,if_neg h3]
theorem wp_copy_rowC {P : Program} {w : World} {o : Oper} {a : Act} {K : Act → World → Prop} {Q : Exit → Act → World → Prop} (d s : Operand) (dT sT : TypeId)
  (ho : o.op = .call { callee := .builtin .copy,args := #[d,s],argTypes := #[dT,sT] }) (elem : TypeId) (hu : P.underlying dT = some (.slice elem)) (hsz : (P.info? elem).map (·.size) = some 1)
  (g off dLen dCap : Nat) (ad : Addr) (sLen sCap : Nat) (hd : a.eval d = .slice (some ⟨g,off,none⟩) dLen dCap) (hs : a.eval s = .slice (some ad) sLen sCap)
  (cur : Array Value) (t : TypeId) (hg : w.heap[g]? = some (.cells cur t (0,0))) (cs : List Value) (hn : cs.length = Nat.min sLen dLen)
  (hsrc : ∀ j v,cs[j]? = some v → w.cell? (ad.add j) = some v) (hfit : off + cs.length ≤ cur.size) (h1 : ∀ v ∈ cs,v.oneCell' = true)
  (h : K (a.put o.dst (goInt cs.length)) (w.setRow g (cur.toList.take off ++ (cs ++ cur.toList.drop (off + cs.length))).toArray)) : o.wp P a w K Q := by
 have hrun := run_copy_row (P := P) w dT sT o.type elem g off dLen dCap ad sLen sCap cur t cs hu hsz hg hn hsrc hfit h1
 unfold Oper.wp
 simp [execOp,ho,resolve,invoke,builtin,hd,hs,hrun,Result.andThen]
 exact h
theorem wp_copy_atC {P : Program} (w : World) {o : Oper} {a : Act} {K : Act → World → Prop} {Q : Exit → Act → World → Prop} (d s : Operand) (dT sT : TypeId)
  (ho : o.op = .call { callee := .builtin .copy,args := #[d,s],argTypes := #[dT,sT] }) (elem : TypeId) (hu : P.underlying dT = some (.slice elem)) (hsz : (P.info? elem).map (·.size) = some 1)
  (g off n c : Nat) (dp : Option Addr) (ad : Addr) (m k : Nat) (hd : a.eval d = .slice dp n c) (hdp : n = 0 ∨ dp = some ⟨g,off,none⟩) (hs : a.eval s = .slice (some ad) m k) (bs src : List UInt8) (T : TypeId) (hg : w.heap[g]? = some (.cells (bs.map B8).toArray T (0,0))) (hl : bs.length = off + n) (hS : Sl B8 w (some ad) m k src) (hm : 1 ≤ m)
  (h : ∀ w',w'.heap[g]? = some (.cells ((bs.take off ++ (src.take n ++ bs.drop (off + (src.take n).length))).map B8).toArray T (0,0)) → w.grownBy w' (some g) → K (a.put o.dst (goInt (src.take n).length)) w') : o.wp P a w K Q := by
 have hml := hS.len
 by_cases h0 : n = 0
 ·subst h0
  have hrun := run_copy_none (P := P) w dT sT o.type elem dp (some ad) 0 c m k hu hsz (by simp)
  have := h w (by simpa using hg) (World.grownBy.refl _ _)
  unfold Oper.wp
  simp [execOp,ho,resolve,invoke,builtin,hd,hs,hrun,Result.andThen]
  have h2 : K (a.put o.dst (goInt 0)) w := by simpa using this
  exact h2
 ·have e : dp = some ⟨g,off,none⟩ := by
   rcases hdp with h1 | h1
   ·exact absurd h1 h0
   ·exact h1
  subst e
  obtain ⟨b,o',e,-⟩ := hS.rs 0 (by omega)
  cases e
  have key := wp_copy_rowC (K := K) (Q := Q) d s dT sT ho elem hu hsz g off n c ⟨b,o',none⟩ m k hd hs _ T hg ((src.take n).map B8) (by rw [List.length_map,List.length_take,hml,Nat.min_comm]) (fun j v hj => by
   rw [List.getElem?_map,List.getElem?_take] at hj
   have hjl : j < n ∧ j < src.length := by
    split at hj
    ·rename_i hjn
     refine ⟨hjn,?_⟩
     rcases Nat.lt_or_ge j src.length with g | g
     ·exact g
     ·rw [List.getElem?_eq_none g] at hj; cases hj
    ·cases hj
   obtain ⟨b2,o2,e,hc⟩ := hS.rs j hjl.2
   cases e
   rw [if_pos hjl.1,List.getElem?_eq_getElem hjl.2] at hj
   rw [Addr.add_lit,hc]; exact hj) (by rw [List.length_map,List.length_take]; simp; omega) (fun v hv => by
   obtain ⟨y,_,rfl⟩ := List.mem_map.1 hv
   rfl)
  refine key ?_
  rw [List.length_map]
  refine h _ ?_ (grownBy_setRowC w g _)
  rw [hrs hg]
  congr 2
  simp
theorem told_start {l f : Nat} {T : Nat → Bool} : toldT l T = toldT l (fun x => T x || decide (f ≤ x ∧ x < f + 0)) := toldT_congr (fun a _ => by
 have : ¬ (f ≤ a ∧ a < f + 0) := by omega
 rw [decide_eq_false this,Bool.or_false])
theorem told_step {l f a0 : Nat} {T : Nat → Bool} : (((toldT l (fun x => T x || decide (f ≤ x ∧ x < f + a0))).map Value.bool).toArray).setIfInBounds (f + a0) (.bool true) = ((toldT l (fun x => T x || decide (f ≤ x ∧ x < f + (a0 + 1)))).map Value.bool).toArray := by
 rw [List.setIfInBounds_toArray,← List.map_set,toldT_set]
 congr 2
 refine toldT_congr (fun a _ => ?_)
 rw [Bool.or_assoc]
 congr 1
 rw [← Bool.decide_or]
 exact decide_eq_decide.2 (by omega)
theorem told_end {l s f k z : Nat} {T : Nat → Bool} (hs : 1 ≤ s) (hf : f = k * s) (hz : z = min (l - f) s) : toldT l (fun x => T (x / s) || decide (f ≤ x ∧ x < f + z)) = toldT l (fun x => (T (x / s) || decide (x / s = k))) := toldT_congr (fun a ha => by
 congr 1
 by_cases h : k * s ≤ a ∧ a < k * s + s
 ·have e := (div_eqC hs h.1 h.2).1
  rw [decide_eq_true e,decide_eq_true (by omega)]
 ·have e := div_neC hs h
  rw [decide_eq_false e,decide_eq_false (by omega)])
theorem told_cell {l i : Nat} {T : Nat → Bool} (h : i < l) : (((toldT l T).map Value.bool).toArray)[i]? = some (.bool (T i)) := by
 rw [List.getElem?_toArray,List.getElem?_map,toldT_at,if_pos h]; rfl
theorem take_has {ks : List Nat} {j k : Nat} (h : ks[j]? = some k) (i : Nat) : (ks.take (j + 1)).contains i = ((ks.take j).contains i || decide (i = k)) := by
 rw [List.take_add_one,h]
 simp [List.contains_eq_any_beq,Bool.beq_eq_decide_eq]
def CpC (T : TypeId) (gO : Nat) (bs : List UInt8) (W0 W : World) : Prop := W.heap[gO]? = some (.cells (bs.map B8).toArray T (0,0)) ∧ W0.grownBy W (some gO)
def shC (gO l f s bm k z : Nat) (dp : Option Addr) (ad : Addr) (ck : Nat) (Ok : World → Prop) : Nat → Value → World → Prop
 | 0,v,_ => v = .slice (some ⟨gO,0,none⟩) l l
 | 1,v,_ => v = .int .i64 (f : Int)
 | 2,v,_ => v = .slice dp (l - f) (l - f)
 | 3,v,_ => v = .map (some bm)
 | 4,v,_ => v = .int .i64 (k : Int)
 | 5,v,_ => v = .slice (some ad) s ck
 | 6,v,W => v = .int .i64 (z : Int) ∧ Ok W
 | 7,v,_ => v = .int .i64 0
 | _ + 8,_,_ => True
end Go.By
namespace Go.Proofs.YtfbmdlfkipipfaaGreatDoor
open Go.RowKit Go.By
theorem wrap_smallC {f : Nat} (h : f ≤ 1000000) : wrap64 (f : Int) = (f : Int) := by unfold wrap64; omega
set_option maxRecDepth 100000 in
theorem slice_atC (g l f : Nat) (hk : f ≤ l) (W : World) : (Instr.sliceAt 22 (.slice (some ⟨g,0,none⟩) l l) (some (.int .i64 (f : Int))) none none).run Tryz.prog W = .ok (.slice (if l = f then some ⟨g,0,none⟩ else some ⟨g,f,none⟩) (l - f) (l - f)) W := by
 have hel : Tryz.prog.underlying 22 = some (.slice (Tryz.prog.elem 22)) := by simp [Program.elem,Tryz.underlying22]
 rw [run_sliceAt_slice (h := hel),run_slice_l (ht := hel) (h0 := by omega) (h1 := by omega)]
 clear hel
 by_cases h : l = f
 ·rw [if_pos h]; subst h; go_simp
 ·rw [if_neg h]
  have h2 : (l : Nat) ≠ f := h
  go_simp
theorem info_boolC : (Tryz.prog.info? 4).map (fun i => (i.zero,i.size,i.bytes)) = some (some (.bool false),1,1) := by kernel_rfl
def VsS (m s : Nat) (S : Nat → Bool) (P : Nat → List UInt8) (vs : List Value) (W : World) : Prop := ∀ i,i < m → S i = true → ∃ ad c,vs.getD i undef = .slice (some ad) s c ∧ Sl B8 W (some ad) s c (P i)
theorem VsS.keep {m s : Nat} {S : Nat → Bool} {P : Nat → List UInt8} {vs : List Value} {W W' : World} (h : VsS m s S P vs W) (hb : Below W.heap.size W W') : VsS m s S P vs W' := fun i hi hS => by
 obtain ⟨ad,c,e,hs⟩ := h i hi hS
 exact ⟨ad,c,e,hs.keep hb⟩
theorem VsS.reads {m s : Nat} {S : Nat → Bool} {P : Nat → List UInt8} {vs : List Value} {W : World} (h : VsS m s S P vs W) (hs : 1 ≤ s) : ∀ j,j < m → S j = true → ∃ y,slR (vs.getD j undef) = some y := fun j hj hS => by
 obtain ⟨ad,c,e,hsl⟩ := h j hj hS
 obtain ⟨b,o,e2,-⟩ := hsl.rs 0 (by have := hsl.len; omega)
 cases e2
 rw [e]; exact ⟨_,rfl⟩
set_option maxRecDepth 100000 in
set_option maxHeartbeats 8000000 in
theorem Fill_anyS (d : Int) (l s m bm cnt : Nat) (S : Nat → Bool) (P : Nat → List UInt8) (vs : List Value) (w : World) (hl2 : l ≤ 1000000) (hk : checkS l s m = 0) (hfit : ∀ i : Nat,i < m → i * s ≤ l) (hlm : l ≤ m * s) (hc : cnt ≤ 100000) (hM : MapC bm cnt m S vs w) (hV : VsS m s S P vs w) :
  Calls Tryz.prog 109 #[.agg #[.int .i64 (l : Int),.int .i64 (s : Int),.int .i64 (m : Int),.int .u32 d],.map (some bm)] w fun e w' => ∃ gO gT,e = .returned (.tuple #[.slice (some ⟨gO,0,none⟩) l l,.slice (some ⟨gT,0,none⟩) l l,.int .i64 0]) ∧ w.heap.size ≤ gO ∧ w.heap.size ≤ gT ∧ w'.heap[gO]? = some (.cells ((objL l s P S).map B8).toArray 5 (0,0)) ∧ w'.heap[gT]? = some (.cells ((toldT l (fun a => S (a / s))).map Value.bool).toArray 4 (0,0)) ∧ Below w.heap.size w w' := by
 obtain ⟨i0,hi0,hz0,hz1,hz2⟩ := info_parts info_u8
 obtain ⟨t0,ht0,htz,ht1,ht2⟩ := info_parts info_boolC
 obtain ⟨-,hs1,hs2,-,hm4⟩ := checkS_okC hk
 have HC := Lib.hid (fun w => Check_any l s m d w (by omega))
 rw [hk] at HC
 have hm5 : m ≤ 4096 := by omega
 have hs3 : 1 ≤ s := by omega
 have hs4 : s ≤ 65535 := by omega
 have HM := Lib.hid hM; have HV := Lib.hid hV; have HFT := Lib.hid hfit; have HLM := Lib.hid hlm
 have HVR := Lib.hid (hV.reads hs3)
 have HM1 : Hid (l ≤ maxLen) := by show l ≤ maxLen; unfold maxLen; omega
 have HM2 : Hid (1 * l ≤ 281474976710656) := by show 1 * l ≤ _; omega
 have HX : Hid (∀ o,(w.alloc o).heap[w.heap.size]? = some o) := fun o => hnew rfl
 have HBA : Hid (∀ (W : World) o,Below W.heap.size W (W.alloc o)) := fun W o => al (Below.refl _ _) (Nat.le_refl _)
 clear hk hfit hs1 hs2 hm4 hM hV hlm
 go_enter Tryz.func109,Tryz.ntmps109
 go_wp2_with fail
 refine Calls.mono (HC.out _) ?_
 rintro e w1 ⟨rfl,hb⟩
 have X1 : Hid (w1.heap[w.heap.size]? = some (.cells #[.int .i64 (l : Int),.int .i64 (s : Int),.int .i64 (m : Int),.int .u32 d] 27 (0,0))) := (hb.block _ (lt_of_blk (HX.out _))).trans (HX.out _)
 have B1 : Hid (Below w.heap.size w w1) := bl (HBA.out _ _) hb (by simp)
 obtain ⟨b0,hb0⟩ : ∃ b0,b0 = w.heap.size := ⟨_,rfl⟩
 have HB0 := Lib.hid hb0
 rw [← hb0] at X1 ⊢
 clear hb HX hb0
 go_wp2_with fail
 refine Calls.mono (KeysC_any bm _) ?_
 rintro e w' ⟨rfl,rfl⟩
 go_wp2_with fail
 refine Calls.mono (SortedC_any bm cnt m _ S vs _ (HM.out.keep (bl B1.out (HBA.out _ _) B1.out.size)) (hnew rfl) hc) ?_
 rintro e w2 ⟨q,n,c,ks,rfl,hks,hmem,hb⟩
 have B2 : Hid (Below w.heap.size w w2) := bl (bl B1.out (HBA.out _ _) B1.out.size) hb (by have := B1.out.size; simp; omega)
 have X2 : Hid (w2.heap[b0]? = some (.cells #[.int .i64 (l : Int),.int .i64 (s : Int),.int .i64 (m : Int),.int .u32 d] 27 (0,0))) := by
  have h1 := hal (o := .cells #[.map (some bm)] 196) X1.out
  exact (hb.block _ (lt_of_blk h1)).trans h1
 have hnb := hks.bound
 have HKS := Lib.hid hks; have HME := Lib.hid hmem
 have HKN : Hid (ks.length = n) := by have := hks.len; rw [List.length_map] at this; exact this
 clear hb hks hmem X1 B1
 obtain ⟨p0,p1,p2,p3⟩ := cells4 X2.out
 have HLK : Hid (∀ k,k < m → S k = true → ∃ ad c,(∀ W,Below w.heap.size w W → (Instr.lookup 196 (.map (some bm)) (.int .i64 (k : Int)) false).run Tryz.prog W = .ok (.slice (some ad) s c) W) ∧ Sl B8 w (some ad) s c (P k)) := fun k hk hS => by
  obtain ⟨ad,c,e,hsl⟩ := HV.out k hk hS
  refine ⟨ad,c,fun W hW => ?_,hsl⟩
  have hr := (HM.out.keep hW).look hk (by omega) (HVR.out k hk) false
  rw [if_pos hS,if_neg (by decide),e] at hr
  exact hr
 go_wp2
 go_loop [27] (fun i => ∃ j : Nat,j ≤ n ∧ i = .int .i64 (j : Int)) (fun i => n - (intOf i).toNat)
 case atStart => exact ⟨0,Nat.zero_le _,rfl⟩
 case round =>
  obtain ⟨j,hj,rfl⟩ := hrel
  by_cases hlt : j < n
  ·obtain ⟨b,o,x,rfl,hcell,hx⟩ := HKS.out.at j hlt
   obtain ⟨k,hk⟩ : ∃ k,ks[j]? = some k := ⟨ks[j]'(by have := HKN.out; omega),List.getElem?_eq_getElem _⟩
   have hxk : x = (k : Int) := by
    have := hx.out
    rw [List.getElem?_map,hk] at this
    exact (Option.some.inj this).symm
   subst hxk
   have hcell' : w2.cell? ⟨b,o + j,none⟩ = some (.int .i64 (k : Int)) := hcell
   obtain ⟨hkm,hkS⟩ := (HME.out k).1 (List.mem_of_getElem? hk)
   obtain ⟨ad,ck,hrun,-⟩ := HLK.out k hkm hkS
   have hlk := hrun w2 B2.out
   have hkm' : ¬ (m : Int) ≤ (k : Int) := by omega
   have hlt' : (j : Int) < (n : Int) := by omega
   clear hcell hrun hkS hk hx hlt hkm
   go_wp2_with (first | simp only [hlk] | fail)
   go_round
   case rel => exact ⟨j + 1,by omega,by go_num⟩
   case measure => simp [intOf]; omega
  ·have hge : ¬ (j : Int) < (n : Int) := by omega
   clear hlt
   go_wp2_with (at_make; refine wpList_make_full _ rfl _ _ 22 rfl w2.heap.size 5 i0 (.int .u8 0) 1 Tryz.underlying22 hi0 hz0 hz1 .i64 .i64 _ _ l rfl rfl rfl rfl (by rw [hz2]; exact HM2.out) HM1.out (Nat.le_refl _) ?_)
   intro w3 ho hg
   have O3 : Hid (w3.heap[w2.heap.size]? = some (.cells ((objL l s P (fun _ => false)).map B8).toArray 5 (0,0))) := by
    have e : (madeCells #[Value.int .u8 0] l).toList = List.replicate l (B8 0) := toList_madeCells_one _ _
    rw [e] at ho
    have e2 := objL_zero l s P
    show _ = _
    rw [e2]; exact heap_of_ownsC ho
   have B3 : Hid (Below w2.heap.size w2 w3) := (Below.refl _ _).grown hg (Nat.le_refl _) (by simp)
   have X3 : Hid (w3.heap[b0]? = some (.cells #[.int .i64 (l : Int),.int .i64 (s : Int),.int .i64 (m : Int),.int .u32 d] 27 (0,0))) := (B3.out.block _ (lt_of_blk X2.out)).trans X2.out
   have hgO : w2.heap.size < w3.heap.size := lt_of_blk O3.out
   clear ho hg p0 p1 p2 p3
   obtain ⟨p0,p1,p2,p3⟩ := cells4 X3.out
   go_wp2_with (at_make; refine wpList_make_full _ rfl _ _ 112 rfl w3.heap.size 4 t0 (.bool false) 1 Tryz.underlying112 ht0 htz ht1 .i64 .i64 _ _ l rfl rfl rfl rfl (by rw [ht2]; exact HM2.out) HM1.out (Nat.le_refl _) ?_)
   intro w4 ho hg
   have T4 : Hid (w4.heap[w3.heap.size]? = some (.cells ((toldT l (fun _ => false)).map Value.bool).toArray 4 (0,0))) := by
    have e : (madeCells #[Value.bool false] l).toList = List.replicate l (Value.bool false) := toList_madeCells_one _ _
    rw [e] at ho
    have e2 := toldT_zero l
    show _ = _
    rw [e2]; exact heap_of_ownsC ho
   have O4 : Hid (w4.heap[w2.heap.size]? = some (.cells ((objL l s P (fun _ => false)).map B8).toArray 5 (0,0))) := (hg.block _ (lt_of_blk O3.out) (by simp)).trans O3.out
   have B4 : Hid (Below w2.heap.size w2 w4) := B3.out.grown hg B3.out.size (by simp)
   have hwo : Hid (w.heap.size ≤ w2.heap.size) := B2.out.size
   clear ho hg p0 p1 p2 p3 X3 O3 B3
   obtain ⟨gO,hgOe⟩ : ∃ gO,gO = w2.heap.size := ⟨_,rfl⟩
   obtain ⟨gT,hgTe⟩ : ∃ gT,gT = w3.heap.size := ⟨_,rfl⟩
   rw [← hgOe] at hgO O4 hwo ⊢
   rw [← hgTe] at hgO T4 ⊢
   have HGO := Lib.hid hgOe
   have HB5 : Hid (∀ W,Below w2.heap.size w2 W → Below w.heap.size w W) := fun W h => bl B2.out h B2.out.size
   have HX5 : Hid (∀ W,Below w2.heap.size w2 W → W.heap[b0]? = some (.cells #[.int .i64 (l : Int),.int .i64 (s : Int),.int .i64 (m : Int),.int .u32 d] 27 (0,0))) := fun W h => (h.block _ (lt_of_blk X2.out)).trans X2.out
   clear hgOe hgTe X2 B2
   go_wp2
   go_loopw [55] (fun i wr => ∃ j : Nat,j ≤ j ∧ j ≤ ks.length ∧ i = .int .i64 (j : Int) ∧ Hid (wr.heap[gO]? = some (.cells ((objL l s P (fun i => (ks.take j).contains i)).map B8).toArray 5 (0,0))) ∧ Hid (wr.heap[gT]? = some (.cells ((toldT l (fun a => (ks.take j).contains (a / s))).map Value.bool).toArray 4 (0,0))) ∧ Hid (Below w2.heap.size w2 wr)) (fun i _ => ks.length - (intOf i).toNat)
   case atStart => exact ⟨0,Nat.le_refl _,Nat.zero_le _,rfl,O4.out,T4.out,B4.out⟩
   case round =>
    obtain ⟨j',-,hj',rfl,hO,hT,hB⟩ := hrel
    by_cases hlt : j' < ks.length
    ·obtain ⟨b,o,x,rfl,hcell,hx⟩ := (HKS.out.keep hB.out).at j' (by have := HKN.out; omega)
     obtain ⟨k,hk⟩ : ∃ k,ks[j']? = some k := ⟨ks[j'],List.getElem?_eq_getElem _⟩
     have hxk : x = (k : Int) := by
      have := hx.out
      rw [List.getElem?_map,hk] at this
      exact (Option.some.inj this).symm
     subst hxk
     have hcell' : wr.cell? ⟨b,o + j',none⟩ = some (.int .i64 (k : Int)) := hcell
     obtain ⟨hkm,hkS⟩ := (HME.out k).1 (List.mem_of_getElem? hk)
     obtain ⟨ad,ck,hrun,hsl⟩ := HLK.out k hkm hkS
     have HSL := Lib.hid (hsl.keep (HB5.out _ hB.out))
     have HK := Lib.hid hk
     obtain ⟨p0,p1,p2,p3⟩ := cells4 (HX5.out _ hB.out)
     have hfk := HFT.out k hkm
     obtain ⟨f,hf⟩ : ∃ f,f = k * s := ⟨_,rfl⟩
     have hfi : (k : Int) * (s : Int) = (f : Int) := by rw [hf]; simp
     have hfl : f ≤ l := by omega
     have hfl' : (f : Int) ≤ (l : Int) := by omega
     have hlt' : (j' : Int) < (n : Int) := by have := HKN.out; omega
     have HF := Lib.hid hf
     have HRUN := Lib.hid hrun
     have HW3 := Lib.hid (wrap_smallC (show f ≤ 1000000 from Nat.le_trans hfl hl2))
     clear hcell hrun hkS hk hx hlt hsl hf hfk hkm
     go_wp2_with fail
     obtain ⟨dp,hdp⟩ : ∃ dp : Option Addr,dp = if l = f then some ⟨gO,0,none⟩ else some ⟨gO,f,none⟩ := ⟨_,rfl⟩
     have hsl2 := slice_atC gO l f hfl
     rw [← hdp] at hsl2
     have hdp2 : l - f = 0 ∨ dp = some ⟨gO,f,none⟩ := by
      by_cases h : l = f
      ·exact .inl (by rw [h,Nat.sub_self])
      ·exact .inr (by rw [hdp,if_neg h])
     obtain ⟨z,hz⟩ : ∃ z,z = ((P k).take (l - f)).length := ⟨_,rfl⟩
     have hBd : Below w2.heap.size w2 wr.drew := ⟨hB.out.os,hB.out.tape,hB.out.output,hB.out.size,hB.out.block⟩
     have HSP := Lib.hid (objL_splice (A := fun i => (ks.take j').contains i) (P := P) hs3 (show k * s ≤ l by rw [← HF.out]; exact hfl) HSL.out.len)
     rw [← HF.out] at HSP
     obtain ⟨OB,hOB⟩ : ∃ OB,OB = objL l s P (fun i => (ks.take j').contains i || decide (i = k)) := ⟨_,rfl⟩
     have HOB := Lib.hid hOB
     rw [← hOB] at HSP
     have hGO := HGO.out
     have hwo2 := HB5
     clear hOB hdp
     refine wp_region_dones (fun dn W => if dn 6 = true then CpC 5 gO OB wr W else W = wr.drew) (fun i W W' => if i = 6 then CpC 5 gO OB wr W' else W' = W) (shC gO l f s bm k z dp ad ck (CpC 5 gO OB wr)) 82 rfl (by kernel_rfl) (by decide) (by decide) (by decide) rfl ?er ?kp ?each ?fin
     case er =>
      intro dn i w5 w6 hdn hE hR
      by_cases h6 : i = 6
      ·subst h6; simpa using hR
      ·simp only [h6,if_false] at hR
       subst hR
       simp only [h6,if_false]
       exact hE
     case kp =>
      intro i j v w5 w6 hij hp hs hR
      match j,hij,hs with
      | 0,_,hs => exact hs
      | 1,_,hs => exact hs
      | 2,_,hs => exact hs
      | 3,_,hs => exact hs
      | 4,_,hs => exact hs
      | 5,_,hs => exact hs
      | 6,hij,hs =>
       simp only [hij,if_false] at hR
       subst hR; exact hs
      | 7,_,hs => exact hs
      | j + 8,_,_ => exact trivial
     case each =>
      refine ⟨?_,?_,?_,?_,?_,?_,?_,?_,trivial⟩
      ·intro a W dn hdn hE hs hp hi
       exact ite_y rfl (wp_val (sl a 11) rfl ⟨_,rfl,by simp,hi 11 (by decide)⟩)
      ·intro a W dn hdn hE hs hp hi
       exact ite_y rfl (wp_val (sl a 15) rfl ⟨_,rfl,by simp,hi 15 (by decide)⟩)
      ·intro a W dn hdn hE hs hp hi
       have u0 : sl a 63 = .slice (some ⟨gO,0,none⟩) l l := hp 0 (by decide)
       have u1 : sl a 64 = .int .i64 (f : Int) := hp 1 (by decide)
       refine ite_y rfl (wp_val (.slice dp (l - f) (l - f)) ?_ ⟨_,rfl,by simp,rfl⟩)
       simp only [execOp,Option.map,eval_tmp,u0,u1,Sem.run_bind]
       rw [hsl2]; rfl
      ·intro a W dn hdn hE hs hp hi
       exact ite_y rfl (wp_val (sl a 1) rfl ⟨_,rfl,by simp,hi 1 (by decide)⟩)
      ·intro a W dn hdn hE hs hp hi
       exact ite_y rfl (wp_val (sl a 14) rfl ⟨_,rfl,by simp,hi 14 (by decide)⟩)
      ·intro a W dn hdn hE hs hp hi
       have u3 : sl a 66 = .map (some bm) := hp 3 (by decide)
       have u4 : sl a 67 = .int .i64 (k : Int) := hp 4 (by decide)
       have hBW : Below w2.heap.size w2 W := by
        by_cases h6 : dn 6 = true
        ·rw [if_pos h6] at hE
         exact hB.out.grown hE.2 hB.out.size (fun r hr => by cases hr; omega)
        ·rw [if_neg h6] at hE
         subst hE; exact hBd
       have hl3 := HRUN.out W (HB5.out _ hBW)
       refine ite_y rfl (wp_val (.slice (some ad) s ck) ?_ ⟨_,rfl,by simp,rfl⟩)
       simp only [execOp,eval_tmp,u3,u4,Sem.run_bind]
       rw [hl3]; rfl
      ·intro a W dn hdn hE hs hp hi
       have u2 : sl a 65 = .slice dp (l - f) (l - f) := hp 2 (by decide)
       have u5 : sl a 68 = .slice (some ad) s ck := hp 5 (by decide)
       rw [if_neg (by rw [hdn]; decide)] at hE
       subst hE
       refine ite_y rfl (wp_copy_atC _ (.tmp 65) (.tmp 68) 22 22 rfl 5 Tryz.underlying22 (by kernel_rfl) gO f (l - f) (l - f) dp ad s ck u2 hdp2 u5 (objL l s P (fun i => (ks.take j').contains i)) (P k) 5 hO.out (by rw [objL_len,Nat.add_sub_cancel' hfl]) ⟨HSL.out.len,HSL.out.le,HSL.out.max,HSL.out.nil,HSL.out.rs⟩ hs3 ?_)
       intro w' hh hg
       rw [HSP.out] at hh
       have hok : CpC 5 gO OB wr w' := ⟨hh,⟨hg.os,hg.tape,hg.output,hg.size,hg.block⟩⟩
       refine ⟨_,rfl,by simp; exact hok,?_,hok⟩
       rw [hz]; rfl
      ·intro a W dn hdn hE hs hp hi
       exact ite_y rfl (wp_val (.int .i64 0) rfl ⟨_,rfl,by simp,rfl⟩)
     case fin =>
      intro a W dn hE hs hd hI ht
      have ha := act_is [63,64,65,66,67,68,69,70] hs hd ht (by decide)
      obtain ⟨u6,hok⟩ : sl a 69 = .int .i64 (z : Int) ∧ CpC 5 gO OB wr W := hI 6 (by decide)
      have u7 : sl a 70 = .int .i64 0 := hI 7 (by decide)
      simp only [List.foldl,u6,u7] at ha
      generalize sl a 63 = v63 at ha
      generalize sl a 64 = v64 at ha
      generalize sl a 65 = v65 at ha
      generalize sl a 66 = v66 at ha
      generalize sl a 67 = v67 at ha
      generalize sl a 68 = v68 at ha
      simp only [Act.put,List.setIfInBounds_toArray,List.set_cons_zero,List.set_cons_succ] at ha
      rw [ha]
      have hB5 : Hid (Below w2.heap.size w2 W) := hB.out.grown hok.2 hB.out.size (fun r hr => by cases hr; exact Nat.le_of_eq hGO.symm)
      have hT5 : Hid (W.heap[gT]? = some (.cells ((toldT l (fun a => (ks.take j').contains (a / s))).map Value.bool).toArray 4 (0,0))) := (hok.2.block _ (lt_of_blk hT.out) (by intro e; cases e; exact Nat.lt_irrefl _ hgO)).trans hT.out
      have hO5 := Lib.hid hok.1
      have hzl : z ≤ l - f := by rw [hz,List.length_take]; exact Nat.min_le_left _ _
      have hzm : Hid (z = min (l - f) s) := by show _ = _; rw [hz,List.length_take,HSL.out.len]
      clear ha hI ht hE hs hd hok hz hO hT hB hBd hdp2 hsl2 u6 u7 hcell' p0 p1 p2 p3 HSP HSL HRUN hwo2
      go_wp2
      go_loopw [70] (fun i wz => ∃ a0 : Nat,a0 ≤ z ∧ i = .int .i64 (a0 : Int) ∧ Hid (wz.heap[gT]? = some (.cells ((toldT l (fun x => (ks.take j').contains (x / s) || decide (f ≤ x ∧ x < f + a0))).map Value.bool).toArray 4 (0,0))) ∧ Hid (wz.heap[gO]? = some (.cells (OB.map B8).toArray 5 (0,0))) ∧ Hid (Below w2.heap.size w2 wz)) (fun i _ => z - (intOf i).toNat)
      case atStart => exact ⟨0,Nat.zero_le _,rfl,by have := hT5.out; rw [told_start (f := f)] at this; exact this,hO5.out,hB5.out⟩
      case round =>
       obtain ⟨a0,ha0,rfl,hT6,hO6,hB6⟩ := hrel
       by_cases hlz : a0 < z
       ·have hia : f + a0 < l := by omega
        have hlz' : (a0 : Int) < (z : Int) := by omega
        have hil : (f : Int) + (a0 : Int) < (l : Int) := by omega
        have hi0 : (0 : Int) ≤ (f : Int) + (a0 : Int) := by omega
        have hfa : ((f : Int) + (a0 : Int)).toNat = f + a0 := by omega
        obtain ⟨bv,g0⟩ : ∃ bv,wr.cell? ⟨gT,f + a0,none⟩ = some (.bool bv) := ⟨_,by rw [cell_of_row _ _ _ _ _ _ hT6.out]; exact told_cell hia⟩
        have g1 : wr.frozen? ⟨gT,f + a0,none⟩ = false := frozen_of_row _ _ _ _ _ hT6.out
        have T7 : Hid ((wr.setCell ⟨gT,f + a0,none⟩ (.bool true)).heap[gT]? = some (.cells ((toldT l (fun x => (ks.take j').contains (x / s) || decide (f ≤ x ∧ x < f + (a0 + 1)))).map Value.bool).toArray 4 (0,0))) := by
         have := hss (i := f + a0) (v := .bool true) hT6.out
         rw [told_step] at this; exact this
        have O7 : Hid ((wr.setCell ⟨gT,f + a0,none⟩ (.bool true)).heap[gO]? = some (.cells (OB.map B8).toArray 5 (0,0))) := hsc hO6.out (Nat.ne_of_lt hgO)
        have B7 : Hid (Below w2.heap.size w2 (wr.setCell ⟨gT,f + a0,none⟩ (.bool true))) := hB6.out.setCell (by rw [← hGO]; exact Nat.le_of_lt hgO) _
        clear hT6 hO6 hB6 hlz
        go_wp2
        go_roundw
        case rel => exact ⟨a0 + 1,by omega,by go_num,T7.out,O7.out,B7.out⟩
        case measure => simp [intOf]; omega
       ·obtain rfl : a0 = z := by omega
        have O8 : Hid (wr.heap[gO]? = some (.cells ((objL l s P (fun i => (ks.take (j' + 1)).contains i)).map B8).toArray 5 (0,0))) := by
         have e : (fun i => (ks.take (j' + 1)).contains i) = fun i => (ks.take j').contains i || decide (i = k) := funext (take_has HK.out)
         show _ = _
         rw [e,← HOB.out]; exact hO6.out
        have T8 : Hid (wr.heap[gT]? = some (.cells ((toldT l (fun a => (ks.take (j' + 1)).contains (a / s))).map Value.bool).toArray 4 (0,0))) := by
         have h := hT6.out
         rw [told_end (T := fun i => (ks.take j').contains i) hs3 HF.out hzm.out] at h
         have e : (fun a => (ks.take (j' + 1)).contains (a / s)) = fun a => ((ks.take j').contains (a / s) || decide (a / s = k)) := funext (fun a => take_has HK.out (a / s))
         show _ = _
         rw [e]; exact h
        have hjl : j' + 1 ≤ ks.length := (List.getElem?_eq_some_iff.1 HK.out).1
        clear hT6 hO6 hlz
        go_wp2
        go_roundw
        case rel => exact ⟨j' + 1,Nat.le_refl _,hjl,by go_num,O8.out,T8.out,hB6.out⟩
        case measure => simp [intOf]; omega
    ·have hjk : j' = ks.length := by omega
     have hge2 : ¬ (j' : Int) < (n : Int) := by have := HKN.out; omega
     have hS : ∀ a,a < l → (ks.take j').contains (a / s) = S (a / s) := fun a ha => by
      rw [hjk,List.take_length]
      have hd : a / s < m := (Nat.div_lt_iff_lt_mul (by omega)).2 (Nat.lt_of_lt_of_le ha HLM.out)
      cases hs : S (a / s) with
      | true => exact List.contains_iff_mem.2 ((HME.out _).2 ⟨hd,hs⟩)
      | false =>
       cases hcn : ks.contains (a / s) with
       | false => rfl
       | true =>
        have := ((HME.out _).1 (List.contains_iff_mem.1 hcn)).2
        rw [hs] at this; cases this
     have O9 : Hid (wr.heap[gO]? = some (.cells ((objL l s P S).map B8).toArray 5 (0,0))) := by
      have h := hO.out
      rw [objL_congr (B := S) hS] at h; exact h
     have T9 : Hid (wr.heap[gT]? = some (.cells ((toldT l (fun a => S (a / s))).map Value.bool).toArray 4 (0,0))) := by
      have h := hT.out
      rw [toldT_congr hS] at h; exact h
     have hgT2 : w.heap.size ≤ gT := Nat.le_trans hwo.out (Nat.le_of_lt hgO)
     have hB9 := HB5.out _ hB.out
     have HB9 := Lib.hid hB9
     clear hS hO hT hlt hB9
     go_wp2
     go_ret3
     exact ⟨gO,gT,rfl,hwo.out,hgT2,O9.out,T9.out,HB9.out⟩
end Go.Proofs.YtfbmdlfkipipfaaGreatDoor
namespace Go.Proofs.YtfbmdlfkipipfaaGreatDoor
open Go.RowKit Go.By Go.Maps
theorem Sl.grownM {α : Type} {enc : α → Value} {w w' : World} {bm n c : Nat} {q : Option Addr} {xs : List α} {es : Array MapEntry} {ck : Nat} (h : Sl enc w q n c xs) (hg : w.grownBy w' (some bm)) (hm : w.heap[bm]? = some (.map es ck)) : Sl enc w' q n c xs :=
 ⟨h.len,h.le,h.max,h.nil,fun i hi => by
  obtain ⟨b,o,e,hc⟩ := h.rs i hi
  refine ⟨b,o,e,?_⟩
  rw [World.cell?_of_block (w := w) (hg.block b (lt_of_cell hc) (by intro e1; cases e1; unfold World.cell? at hc; simp only [hm] at hc; cases hc))]
  exact hc⟩
def knS (k : Nat) (K : List Rw) (i : Nat) : Bool := (knownS k K i).2
def knP (k : Nat) (K : List Rw) (i : Nat) : List UInt8 := (knownS k K i).1
theorem knP_len {k t : Nat} {K : List Rw} (hf : ∀ r,r ∈ K → r.2.length = t) {i : Nat} (h : knS k K i = true) : (knP k K i).length = t := by
 unfold knS at h; unfold knP
 unfold knownS at h ⊢
 split at h
 ·cases h
 ·rename_i hu
  rw [if_neg hu]
  split at h
  ·rename_i r hr
   exact hf r (List.mem_of_find?_eq_some hr)
  ·cases h
def knB (k : Nat) (K : List Rw) (j i : Nat) : Bool := decide (i < j) && knS k K i
theorem knB_zero (k : Nat) (K : List Rw) : knB k K 0 = fun _ => false := by funext i; simp [knB]
theorem knB_yes {k : Nat} {K : List Rw} {j : Nat} (h : knS k K j = true) : knB k K (j + 1) = fun i => knB k K j i || decide (i = j) := by
 funext i
 unfold knB
 by_cases h1 : i < j
 ·simp [h1,show i < j + 1 by omega,show i ≠ j by omega]
 ·by_cases h2 : i = j
  ·subst h2; simp [h]
  ·simp [h1,h2,show ¬ i < j + 1 by omega]
theorem knB_no {k : Nat} {K : List Rw} {j : Nat} (h : knS k K j = false) : knB k K (j + 1) = knB k K j := by
 funext i
 unfold knB
 by_cases h1 : i < j
 ·simp [h1,show i < j + 1 by omega]
 ·by_cases h2 : i = j
  ·subst h2; simp [h]
  ·simp [h1,show ¬ i < j + 1 by omega]
structure SomeL (k t : Nat) (K : List Rw) (bm j : Nat) (vs : List Value) (W : World) : Prop where
 map : MapC bm j k (knB k K j) vs W
 vals : VsS k t (knB k K j) (knP k K) vs W
 len : vs.length = j
theorem getD_snoc_lt {vs : List Value} {v : Value} {i : Nat} (h : i < vs.length) : (vs ++ [v]).getD i undef = vs.getD i undef := by
 rw [List.getD_eq_getElem?_getD,List.getD_eq_getElem?_getD,List.getElem?_append_left h]
theorem getD_snoc_eq {vs : List Value} {v : Value} : (vs ++ [v]).getD vs.length undef = v := by
 rw [List.getD_eq_getElem?_getD]; simp
set_option maxRecDepth 100000 in
set_option maxHeartbeats 2000000 in
theorem TSome_any (base gt be L t k D N : Nat) (M v : Value) (C : DataW Unit) (K : List Rw) (st : Nat) (w : World) (h : Tkr w base gt be L t k D N M v C K st) (hL : L ≤ 1000000) (hfit : ∀ i : Nat,i < k → i * t ≤ L) (hlm : L ≤ k * t) :
  Calls Tryz.prog 54 #[.pointer (some ⟨gt,0,none⟩)] w fun e w' => ∃ gO gT,e = .returned (.tuple #[.slice (some ⟨gO,0,none⟩) L L,.slice (some ⟨gT,0,none⟩) L L]) ∧ w.heap.size ≤ gO ∧ w.heap.size ≤ gT ∧ w'.heap[gO]? = some (.cells ((objL L t (knP k K) (knS k K)).map B8).toArray 5 (0,0)) ∧ w'.heap[gT]? = some (.cells ((toldT L (fun a => knS k K (a / t))).map Value.bool).toArray 4 (0,0)) ∧ Below w.heap.size w w' := by
 have H := Lib.hid h
 have hl := Red.le h.red
 have hk2 := h.ok.k2
 have ht1 := h.ok.t1
 have ht2 := h.ok.t2
 have hR := h.red
 have HRL : Hid (∀ r,r ∈ K → r.2.length = t) := fun r hr => (hR.kept.rows r hr).1.2
 have HKN : Hid (∀ (i : Nat) W,Below w.heap.size w W → Calls Tryz.prog 108 #[.pointer (some ⟨be,0,none⟩),.int .i64 (i : Nat)] W (RetK2 W (knownS k K i))) := fun i W hW => Known_any base be k t K.length v K i W (h.elm.keep hW) (fun r hr => by rw [HRL.out r hr]; omega)
 have HFI : Hid (∀ bm cnt S vs W,cnt ≤ 100000 → MapC bm cnt k S vs W → VsS k t S (knP k K) vs W → Calls Tryz.prog 109 #[PVal L t k D,.map (some bm)] W fun e w' => ∃ gO gT,e = .returned (.tuple #[.slice (some ⟨gO,0,none⟩) L L,.slice (some ⟨gT,0,none⟩) L L,.int .i64 0]) ∧ W.heap.size ≤ gO ∧ W.heap.size ≤ gT ∧ w'.heap[gO]? = some (.cells ((objL L t (knP k K) S).map B8).toArray 5 (0,0)) ∧ w'.heap[gT]? = some (.cells ((toldT L (fun a => S (a / t))).map Value.bool).toArray 4 (0,0)) ∧ Below W.heap.size W w') := fun bm cnt S vs W hc h1 h2 => Fill_anyS D L t k bm cnt S (knP k K) vs W hL h.ok.chk hfit hlm hc h1 h2
 have HLM : Hid (∀ a,a < L → a / t < k) := fun a ha => (Nat.div_lt_iff_lt_mul (by omega)).2 (Nat.lt_of_lt_of_le ha hlm)
 have HT1 := Lib.hid ht1
 clear h hl hL hfit hlm hR ht1 ht2
 go_enter Tryz.func54,Tryz.ntmps54
 obtain ⟨c0,c1,c2,c3,c4,c5,c6⟩ := cells_seven H.out.box
 have HK2 := Lib.hid hk2
 have hmm := run_makeMap (P := Tryz.prog) 196 w
 have a2 : ∀ o',(w.alloc o').cell? ⟨gt,2,none⟩ = _ := fun _ => calloc c2
 go_wp2_with (simp only [hmm])
 clear hmm a2
 obtain ⟨bm,hbm⟩ : ∃ bm,bm = w.heap.size := ⟨_,rfl⟩
 have HS0 : Hid (SomeL k t K bm 0 [] (w.alloc (.map #[] 0))) := by
  refine ⟨?_,fun i hi hS => ?_,rfl⟩
  ·rw [hbm,knB_zero]; exact MapC.made
  ·rw [knB_zero] at hS; cases hS
 have HBM : Hid (w.heap.size ≤ bm) := Nat.le_of_eq hbm.symm
 rw [← hbm]
 clear hbm
 go_loopw [20] (fun i wr => ∃ (j : Nat) (vs : List Value),j ≤ k ∧ i = .int .i64 (j : Nat) ∧ Hid (SomeL k t K bm j vs wr) ∧ Hid (Below w.heap.size w wr)) (fun i _ => k - (intOf i).toNat)
 case atStart => exact ⟨0,[],Nat.zero_le _,rfl,HS0.out,al (Below.refl _ _) (Nat.le_refl _)⟩
 case round =>
  obtain ⟨j,vs,hj,rfl,HS,HB⟩ := hrel
  clear c0 c1 c2 c3 c4 c5 c6 HS0
  obtain ⟨c0,c1,c2,c3,c4,c5,c6⟩ := cells_seven ((HB.out.block _ (lt_of_block H.out.box)).trans H.out.box)
  by_cases hlt : j < k
  ·have hlt' : (j : Int) < (k : Int) := by omega
   have HLT := Lib.hid hlt
   clear hlt
   go_wp2_with fail
   refine Calls.mono (HKN.out j _ HB.out) ?_
   rintro e w3 ⟨q,m,c,rfl,hs,hb⟩
   have HB3 := Lib.hid (bl HB.out hb HB.out.size)
   have hm3 := HS.out.map.keep hb
   have hv3 := HS.out.vals.keep hb
   have hl3 := HS.out.len
   have HKS : Hid (Sl B8 w3 q m c (knP k K j)) := hs
   have HJ : Hid (j < maxLen) := by have := HLT.out; have := HK2.out; show j < maxLen; unfold maxLen; omega
   have hmc : MapC bm j k (knB k K j) (vs ++ [.slice q m c]) w3 := hm3.congr (fun i hi hS => by
    have : i < j := by unfold knB at hS; simp at hS; exact hS.1
    exact (getD_snoc_lt (by omega)).symm)
   obtain ⟨es,ho,hO⟩ := hmc
   have HO := Lib.hid ho
   have HOO := Lib.hid hO
   have HV3 := Lib.hid hv3
   have HL3 := Lib.hid hl3
   clear hs hb hm3 hv3 hl3 ho hO HS HB c0 c1 c2 c3 c4 c5 c6
   by_cases hk : knS k K j = true
   ·have hk' : (knownS k K j).2 = true := hk
    have HKY := Lib.hid hk
    have hn : m = t := by rw [← HKS.out.len]; exact knP_len HRL.out hk
    subst hn
    obtain ⟨gq,oq,rfl,-⟩ := HKS.out.has HT1.out
    have hsr : slR (.slice (some ⟨gq,oq,none⟩) m c) = some (.agg [.lit (.int .i64 gq),.lit (.int .i64 oq),.lit (.int .i64 m),.lit (.int .i64 c)],[]) := rfl
    have hky := keyC j (by have := HLT.out; have := HK2.out; omega)
    clear hk
    rw [hk']
    clear hk'
    go_wp2_with (at_mapUpdate; refine wpList_mapUpdate_own _ rfl _ _ _ 196 rfl 3 22 keyedC Tryz.underlying196 slR bm j (.map es) rfl HO.out HJ.out _ _ (.int .i64 (j : Nat)) rfl rfl hky _ [] hsr ?_)
    intro w5 hown5 hg5
    have HM5 : Hid (SomeL k m K bm (j + 1) (vs ++ [.slice (some ⟨gq,oq,none⟩) m c]) w5) := by
     have eL : (vs ++ [Value.slice (some ⟨gq,oq,none⟩) m c]).getD j undef = .slice (some ⟨gq,oq,none⟩) m c := by have := getD_snoc_eq (vs := vs) (v := .slice (some ⟨gq,oq,none⟩) m c); rwa [HL3.out] at this
     obtain ⟨eM,ckM,hmb,-⟩ := HO.out
     refine ⟨?_,?_,by simp [HL3.out]⟩
     ·rw [DataW.put_eq] at hown5
      rw [knB_yes HKY.out]
      refine ⟨_,hown5,?_⟩
      have h2 := HOO.out.put HLT.out
      rw [eL] at h2
      exact h2
     ·intro i hi hS
      by_cases hij : i = j
      ·subst hij
       rw [eL]
       exact ⟨_,c,rfl,Sl.grownM HKS.out hg5 hmb⟩
      ·have hS2 : knB k K j i = true := by rw [knB_yes HKY.out] at hS; simpa [hij] using hS
       have hlt2 : i < j := by unfold knB at hS2; simp at hS2; exact hS2.1
       obtain ⟨ad,c',e',hsl⟩ := HV3.out i hi hS2
       rw [getD_snoc_lt (by have := HL3.out; omega)]
       exact ⟨ad,c',e',Sl.grownM hsl hg5 hmb⟩
    have HB5 : Hid (Below w.heap.size w w5) := HB3.out.grown hg5 HB3.out.size (fun r hr => by cases hr; exact HBM.out)
    clear hown5 hg5
    go_wp2
    go_roundw
    case rel => exact ⟨j + 1,_,by have := HLT.out; omega,by go_num,HM5.out,HB5.out⟩
    case measure => simp [intOf]; have := HLT.out; omega
   ·have hk' : (knownS k K j).2 = false := by cases h : (knownS k K j).2 with
     | false => rfl
     | true => exact absurd h hk
    have HM5 : Hid (SomeL k t K bm (j + 1) (vs ++ [.slice q m c]) w3) := by
     have hk2 : knS k K j = false := hk'
     refine ⟨?_,?_,by simp [HL3.out]⟩
     ·rw [knB_no hk2]; exact ⟨es,HO.out.mono (by omega),HOO.out⟩
     ·rw [knB_no hk2]
      intro i hi hS
      have hij : i < j := by unfold knB at hS; simp at hS; exact hS.1
      rw [getD_snoc_lt (by have := HL3.out; omega)]
      exact HV3.out i hi hS
    clear hk
    rw [hk']
    clear hk'
    go_wp2
    go_roundw
    case rel => exact ⟨j + 1,_,by have := HLT.out; omega,by go_num,HM5.out,HB3.out⟩
    case measure => simp [intOf]; have := HLT.out; omega
  ·obtain rfl : j = k := by omega
   have hlt' : ¬ (j : Int) < (j : Int) := by omega
   have HC := Lib.hid (HFI.out bm j (knB j K j) vs _ (by have := HK2.out; omega) HS.out.map HS.out.vals)
   clear hlt
   go_wp2_with fail
   refine Calls.mono HC.out ?_
   rintro e w4 ⟨gO,gT,rfl,h1,h2,h3,h4,hb⟩
   have HB4 := Lib.hid (bl HB.out hb HB.out.size)
   have hle : w.heap.size ≤ wr.heap.size := HB.out.size
   have H1 : Hid (w.heap.size ≤ gO) := Nat.le_trans hle h1
   have H2 : Hid (w.heap.size ≤ gT) := Nat.le_trans hle h2
   have e1 : ∀ a,a < L → knB j K j (a / t) = knS j K (a / t) := fun a ha => by unfold knB; rw [decide_eq_true (HLM.out a ha),Bool.true_and]
   rw [objL_congr e1] at h3
   rw [toldT_congr e1] at h4
   have H3 := Lib.hid h3
   have H4 := Lib.hid h4
   clear hb h1 h2 h3 h4 hle e1
   go_wp2
   go_ret2
   exact ⟨gO,gT,rfl,H1.out,H2.out,H3.out,H4.out,HB4.out⟩
end Go.Proofs.YtfbmdlfkipipfaaGreatDoor
