/- A region that draws its order,with one store into a block of its own: each operation has a shape that lasts. The frame behind a region that draws its order; one operation with its operands known. A guard that never ran says no. The contracts of a grid's parts: blank,row,Width,Height,Same. The contracts of grid.Of,and of the reference's Of; Few. The contracts of grid.Unit and Rows. A slice of rows that the call owns. The contracts of the reference's functions of layer 2: Dot,Scale. The contract of the reference's combination. The walk of the law KernPairs. The contracts of the reference's functions of layer 3,and its inverse. The contracts of the reference's functions of layer 3. The contracts of the reference's Less and Same of layer 3,of the law's helpers,and of Unit. The plain law of VecLeads: what is normed leads with a 1,and so on. Linear algebra over the field of 256 elements: combinations,spans,independence,exchange,elimination. Nothing of the program. Vectors of n places: units,coordinates; products of rows; rows and columns have one rank; what is inverse from the left is from the right. Rows kept one by one,as the grid's rank and the document's keep them: as many as the rank says. A region that draws its order,whose last operation waits for all others (a store): shapes for the others,then the last one. A region that draws its order,whose last operation (a store) waits for all others but one extract. The contract of the grid's Rank. -/
import Derived.Test.YtccaiiigdfieoaaGreatDoorZi1
import Derived.Deep.AppendLies
namespace Go.By
open Go.RowKit
structure StepX (B X:Nat) (w w':World):Prop where
 os:w'.os = w.os
 tape:w'.tape = w.tape
 output:w'.output = w.output
 size:w.heap.size≤w'.heap.size
 keep:∀ k,k < w.heap.size→(k < B∨∀ (cs:Array Value) fr,w.heap[k]?≠some (Obj.cells cs X fr))→w'.heap[k]? = w.heap[k]?
 cells:∀ (k:Nat) (cs:Array Value),w.heap[k]? = some (Obj.cells cs X (0,0))→∃ cs':Array Value,cs'.size = cs.size∧w'.heap[k]? = some (Obj.cells cs' X (0,0))
def Away (B X:Nat) (w:World) (p:Option Addr) (n:Nat):Prop:=∀ a,p = some a→0 < n→a.block < B∨∀ (cs:Array Value) fr,w.heap[a.block]?≠some (Obj.cells cs X fr)
section
variable {B X:Nat} {w w':World}
theorem Away.keep {α:Type} {enc:α→Value} {p:Option Addr} {n c:Nat} {xs:List α} (h:Away B X w p n) (hs:Sl enc w p n c xs) (hb:Below w.heap.size w w'):Away B X w' p n:=by
 intro a ha hn
 rcases h a ha hn with h | h
 ·exact .inl h
 ·right
  obtain ⟨b,o,hp,hlt⟩:=hs.rs.lt (by rw [hs.len];exact hn)
  rw [ha] at hp;cases hp
  rw [hb.block b hlt];exact h
theorem Away.step {α:Type} {enc:α→Value} {p:Option Addr} {n c:Nat} {xs:List α} (h:Away B X w p n) (hs:Sl enc w p n c xs) (hb:StepX B X w w'):Away B X w' p n∧Sl enc w' p n c xs:=by
 have key:∀ a,p = some a→0 < n→w'.heap[a.block]? = w.heap[a.block]?:=by
  intro a ha hn
  obtain ⟨b,o,hp,hlt⟩:=hs.rs.lt (by rw [hs.len];exact hn)
  rw [ha] at hp;cases hp
  exact hb.keep b hlt (h _ ha hn)
 refine ⟨?_,hs.len,hs.le,hs.max,hs.nil,?_⟩
 ·intro a ha hn
  rcases h a ha hn with h | h
  ·exact .inl h
  ·exact .inr (by rw [key a ha hn];exact h)
 ·intro i hi
  obtain ⟨b,o,hp,hc⟩:=hs.rs i hi
  refine ⟨b,o,hp,(World.cell?_of_block (a:=⟨b,o + i,none⟩) ?_).trans hc⟩
  exact key ⟨b,o,none⟩ hp (by rw [← hs.len];omega)
theorem Away.old {α:Type} {enc:α→Value} {W:World} {p:Option Addr} {n c:Nat} {xs:List α} (hs:Sl enc W p n c xs) (hB:W.heap.size≤B):Away B X w p n:=by
 intro a ha hn
 obtain ⟨b,o,hp,hlt⟩:=hs.rs.lt (by rw [hs.len];exact hn)
 rw [ha] at hp;cases hp
 exact .inl (by show b < B;omega)
theorem Away.own {base e n c:Nat} {p:Option Addr} {ys:List Value} (h:w.ownsRow base e 1 (.slice p n c) n ys) (he:e≠X):Away B X w p n:=by
 intro a ha hn
 right
 intro cs fr hcs
 rcases h.2 with ⟨h2,_⟩ | ⟨g,cap,cur,hv,_,hh,_⟩
 ·simp at h2;rw [h2.1] at ha;cases ha
 ·obtain ⟨rfl,_⟩:p = some ⟨g,0,none⟩∧c = cap:=by simpa using hv
  cases ha
  rw [hh] at hcs;cases hcs;exact he rfl
end
structure ShX (B X:Nat) where
 ok:Value→World→Prop
 keep:∀ (v:Value) (w w':World),ok v w→Below w.heap.size w w'→ok v w'
 step:∀ (v:Value) (w w':World),ok v w→StepX B X w w'→ok v w'
def XBytes (B X:Nat) (xs:List UInt8) (v:Value) (w:World):Prop:=∃ p n c,v = .slice p n c∧Sl B8 w p n c xs∧Away B X w p n
def XRow (B X:Nat) (r:List UInt8 × List UInt8) (v:Value) (w:World):Prop:=∃ p1 n1 c1 p2 n2 c2,v = .agg #[.slice p1 n1 c1,.slice p2 n2 c2]∧(Sl B8 w p1 n1 c1 r.1∧Away B X w p1 n1)∧(Sl B8 w p2 n2 c2 r.2∧Away B X w p2 n2)
def XBox (B X size:Nat) (v:Value) (w:World):Prop:=∃ b cs,v = .pointer (some ⟨b,0,none⟩)∧B≤b∧cs.size = size∧w.heap[b]? = some (.cells cs X (0,0))
section
variable (B X:Nat)
def ShX.val (u:Value):ShX B X:=⟨fun v _=>v = u,fun _ _ _ h _=>h,fun _ _ _ h _=>h⟩
def ShX.any:ShX B X:=⟨fun _ _=>True,fun _ _ _ h _=>h,fun _ _ _ h _=>h⟩
def ShX.bytes (xs:List UInt8):ShX B X:=⟨XBytes B X xs,fun _ _ _ ⟨p,n,c,e,h,k⟩ hb=>⟨p,n,c,e,h.keep hb,k.keep h hb⟩,fun _ _ _ ⟨p,n,c,e,h,k⟩ hb=>⟨p,n,c,e,(k.step h hb).2,(k.step h hb).1⟩⟩
theorem XRow.keep {B X:Nat} {r:List UInt8 × List UInt8} {v:Value} {w w':World} (h:XRow B X r v w) (hb:Below w.heap.size w w'):XRow B X r v w':=by
 obtain ⟨p1,n1,c1,p2,n2,c2,e,⟨h1,k1⟩,⟨h2,k2⟩⟩:=h
 exact ⟨p1,n1,c1,p2,n2,c2,e,⟨h1.keep hb,k1.keep h1 hb⟩,⟨h2.keep hb,k2.keep h2 hb⟩⟩
theorem XRow.step {B X:Nat} {r:List UInt8 × List UInt8} {v:Value} {w w':World} (h:XRow B X r v w) (hb:StepX B X w w'):XRow B X r v w':=by
 obtain ⟨p1,n1,c1,p2,n2,c2,e,⟨h1,k1⟩,⟨h2,k2⟩⟩:=h
 exact ⟨p1,n1,c1,p2,n2,c2,e,⟨(k1.step h1 hb).2,(k1.step h1 hb).1⟩,⟨(k2.step h2 hb).2,(k2.step h2 hb).1⟩⟩
def ShX.row (r:List UInt8 × List UInt8):ShX B X:=⟨XRow B X r,fun _ _ _ h hb=>h.keep hb,fun _ _ _ h hb=>h.step hb⟩
def ShX.box (size:Nat):ShX B X:=⟨XBox B X size,fun _ _ _ ⟨b,cs,e,hb,hs,hh⟩ hw=>⟨b,cs,e,hb,hs,(hw.block b (lt_of_block hh)).trans hh⟩,
 fun _ _ _ ⟨b,cs,e,hb,hs,hh⟩ hw=>by
  obtain ⟨cs',h1,h2⟩:=hw.cells b cs hh
  exact ⟨b,cs',e,hb,h1.trans hs,h2⟩⟩
end
def Boxed (B X t:Nat) (s:ShX B X) (σ:Nat→Value) (w:World):Prop:=∃ b cs,σ t = .pointer (some ⟨b,0,none⟩)∧B≤b∧w.heap[b]? = some (.cells cs X (0,0))∧s.ok (.agg cs) w
def InvX (ops:Array Oper) (B X:Nat) (sh:Nat→ShX B X) (st t:Nat) (s:ShX B X) (i:Nat) (σ:Nat→Value) (w:World):Prop :=
 if i = st then Boxed B X t s σ w else match dstOf ops i with
 | some d=>(sh i).ok (σ d) w
 | none=>True
def RX (B X st:Nat) (i:Nat) (w w':World):Prop:=if i = st then StepX B X w w' else Below w.heap.size w w'
def StepXS (P:Program) (ops:Array Oper) (Q:Exit→Act→World→Prop) (a0:Act) (W0:World) (B X:Nat) (sh:Nat→ShX B X) (st t:Nat) (s:ShX B X) (i:Nat) (o:Oper):Prop :=
 ∀ (a:Act) (w:World),Below B W0 w→a.tmps.size = a0.tmps.size→(∀ k,k ∈ preds o→InvX ops B X sh st t s k (sl a) w)→(∀ u,initAt ops i u = true→sl a u = sl a0 u) →
  if Region.wanted o (yielded ops a.tmps) = true then o.wp P a w (fun a' w'=>∃ v,a' = a.put o.dst v∧RX B X st i w w'∧(if i = st then Boxed B X t s (sl a) w' else (sh i).ok v w')) Q
  else i≠st∧(sh i).ok undef w
def EachX (P:Program) (ops:Array Oper) (Q:Exit→Act→World→Prop) (a0:Act) (W0:World) (B X:Nat) (sh:Nat→ShX B X) (st t:Nat) (s:ShX B X):List Oper→Nat→Prop
 | [],_=>True
 | o :: rest,i=>StepXS P ops Q a0 W0 B X sh st t s i o∧EachX P ops Q a0 W0 B X sh st t s rest (i + 1)
def dstsX (ops:Array Oper) (n st t:Nat):Bool:=(List.range ops.size).all fun i=>match ops[i]? with
 | some o=>(match o.dst with
  | some d=>decide (d < n) && i != st && (d != t || (match ops[st]? with
   | some os=>(preds os).contains i
   | none=>false))
  | none=>i == st)
 | none=>true
theorem eachX_of {P:Program} {ops:Array Oper} {Q:Exit→Act→World→Prop} {a0:Act} {W0:World} {B X:Nat} {sh:Nat→ShX B X} {st t:Nat} {s:ShX B X} {n:Nat} (hn:a0.tmps.size = n) (hd:dstsX ops n st t = true):∀ (l:List Oper) (k:Nat),(∀ j o,l[j]? = some o→ops[k + j]? = some o) →
  EachX P ops Q a0 W0 B X sh st t s l k→Each P ops Q a0 W0.drew (fun W w=>Below B W w) (RX B X st) (InvX ops B X sh st t s) l k:=by
 intro l
 induction l with
 | nil=>intro k _ _;trivial
 | cons o l ih =>
  intro k hk h
  refine ⟨?_,ih (k + 1) (fun j o' hj=>by have:=hk (j + 1) o' (by simpa using hj);rwa [show k + (j + 1) = k + 1 + j by omega] at this) h.2⟩
  intro a w hE hs hp hi
  have ho:ops[k]? = some o:=by have:=hk 0 o (by simp);simpa using this
  have hks:k < ops.size:=(Array.getElem?_eq_some_iff.1 ho).1
  have hdk:=List.all_eq_true.1 hd k (List.mem_range.2 hks)
  rw [ho] at hdk
  dsimp only at hdk
  have hs1:=h.1 a w ⟨hE.os,hE.tape,hE.output,hE.size,hE.block⟩ hs hp hi
  cases hdo:o.dst with
  | none =>
   rw [hdo] at hdk
   dsimp only at hdk
   have hkst:k = st:=by simpa using hdk
   split
   ·rename_i hw
    rw [if_pos hw] at hs1
    refine Oper.wp_mono ?_ hs1
    rintro a' w' ⟨v,e,hb,hok⟩
    rw [if_pos hkst] at hok
    refine ⟨v,e.trans (by rw [hdo]),hb,?_⟩
    unfold InvX
    rw [if_pos hkst,e,hdo];exact hok
   ·rename_i hw
    rw [if_neg hw] at hs1
    exact absurd hkst hs1.1
  | some d =>
   rw [hdo] at hdk
   dsimp only at hdk
   simp only [Bool.and_eq_true,decide_eq_true_eq,bne_iff_ne] at hdk
   have hkst:k≠st:=hdk.1.2
   have hdn:d < a.tmps.size:=by rw [hs,hn];exact hdk.1.1
   have hdst:dstOf ops k = some d:=by simp [dstOf,ho,hdo]
   split
   ·rename_i hw
    rw [if_pos hw] at hs1
    refine Oper.wp_mono ?_ hs1
    rintro a' w' ⟨v,e,hb,hok⟩
    rw [if_neg hkst] at hok
    refine ⟨v,e.trans (by rw [hdo]),hb,?_⟩
    unfold InvX
    rw [if_neg hkst,hdst]
    show (sh k).ok (sl a' d) w'
    rw [e,hdo,put_same _ _ _ hdn];exact hok
   ·rename_i hw
    rw [if_neg hw] at hs1
    refine ⟨?_,?_⟩
    ·unfold RX;rw [if_neg hkst];exact Below.refl _ _
    ·unfold InvX
     rw [if_neg hkst,hdst]
     show (sh k).ok (sl (a.put (some d) undef) d) w
     rw [put_same _ _ _ hdn];exact hs1.2
theorem stepX_below {B X:Nat} {W w w':World} (hE:Below B W w) (h:StepX B X w w') (hB:B≤W.heap.size):Below B W w' :=
 hE.trans ⟨h.os,h.tape,h.output,h.size,fun k hk=>h.keep k (by have:=hE.size;omega) (.inl hk)⟩
theorem wp_region_boxed {P:Program} {ops:Array Oper} {Q:Exit→Act→World→Prop} {id:Nat} {a0:Act} {w0:World} (X:Nat) (sh:Nat→ShX w0.heap.size X) (st t:Nat) (s:ShX w0.heap.size X) (n:Nat) (hn:a0.tmps.size = n) (hm:P.follows .mixedOrders = true) (hback:backB ops = true) (hdist:distB ops = true) (hdsts:dstsX ops n st t = true)
  (each:EachX P ops Q a0 w0 w0.heap.size X sh st t s ops.toList 0)
  (fin:∀ a w,Below w0.heap.size w0 w→a.tmps.size = a0.tmps.size→a.defers = a0.defers→(∀ j,j < ops.size→InvX ops w0.heap.size X sh st t s j (sl a) w)→(∀ u,(ops.toList.all fun o=>o.dst != some u) = true→sl a u = sl a0 u)→Q .normal a w) :
  (Code.region id ops true).wp P Q a0 w0:=by
 refine wp_region_each hm hback (fun W w=>Below w0.heap.size W w) (RX w0.heap.size X st) (InvX ops w0.heap.size X sh st t s) (Below.refl _ _) ?_ ?_ (eachX_of (W0:=w0) hn hdsts ops.toList 0 (fun j o hj=>by simpa using hj) each) (fun a w hE hs hd hI ht=>fin a w ⟨hE.os,hE.tape,hE.output,hE.size,hE.block⟩ hs hd hI ht)
 ·intro i w w' h hR
  unfold RX at hR
  split at hR
  ·exact stepX_below h hR (Nat.le_refl _)
  ·exact h.trans (hR.mono h.size)
 intro i j oi oj σ σ' w w' hij hoi hoj _ hI hR hσ _ hord
 have hi':i < ops.size:=(Array.getElem?_eq_some_iff.1 hoi).1
 have hj':j < ops.size:=(Array.getElem?_eq_some_iff.1 hoj).1
 have hdi:=List.all_eq_true.1 hdsts i (List.mem_range.2 hi')
 rw [hoi] at hdi
 dsimp only at hdi
 unfold InvX at hI ⊢
 by_cases hjs:j = st
 ·rw [if_pos hjs] at hI ⊢
  obtain ⟨b,cs,hb,hBb,hh,hok⟩:=hI
  have his:i≠st:=fun e=>hij (e.trans hjs.symm)
  unfold RX at hR
  rw [if_neg his] at hR
  have hne:oi.dst≠some t:=by
   intro e
   rw [e] at hdi
   dsimp only at hdi
   simp only [Bool.and_eq_true,decide_eq_true_eq,bne_self_eq_false,Bool.false_or] at hdi
   have h2:=hdi.2
   rw [← hjs,hoj] at h2
   exact hord t e (by simpa using h2)
  exact ⟨b,cs,by rw [hσ t hne];exact hb,hBb,(hR.block b (lt_of_block hh)).trans hh,s.keep _ _ _ hok hR⟩
 ·rw [if_neg hjs] at hI ⊢
  cases hdj:dstOf ops j with
  | none=>trivial
  | some d =>
   rw [hdj] at hI
   show (sh j).ok (σ' d) w'
   have hne:oi.dst≠some d:=by
    intro e
    have:=List.all_eq_true.1 (List.all_eq_true.1 hdist i (List.mem_range.2 hi')) j (List.mem_range.2 hj')
    rw [hoi,hoj] at this
    have hdj':oj.dst = some d:=by simpa [dstOf,hoj] using hdj
    simp [e,hdj',hij] at this
   rw [hσ d hne]
   unfold RX at hR
   by_cases his:i = st
   ·rw [if_pos his] at hR;exact (sh j).step _ _ _ hI hR
   ·rw [if_neg his] at hR;exact (sh j).keep _ _ _ hI hR
end Go.By
namespace Go.By
open Go.RowKit
theorem putAll_size (a:Act):∀ (ws:List Nat) (b:Act),(ws.foldl (fun b t=>b.put (some t) (sl a t)) b).tmps.size = b.tmps.size:=by
 intro ws
 induction ws with
 | nil=>intro b;rfl
 | cons t ws ih=>intro b;rw [List.foldl_cons,ih];simp [Act.put]
theorem putAll_sl (a:Act):∀ (ws:List Nat) (b:Act) (n:Nat),a.tmps.size = n→b.tmps.size = n→(∀ t,t < n→t ∉ ws→sl b t = sl a t)→∀ t,t < n→sl (ws.foldl (fun b t=>b.put (some t) (sl a t)) b) t = sl a t:=by
 intro ws
 induction ws with
 | nil=>intro b n ha hb h t ht;exact h t ht (by simp)
 | cons u ws ih =>
  intro b n ha hb h t ht
  rw [List.foldl_cons]
  refine ih _ n ha (by simp [Act.put,hb]) ?_ t ht
  intro s hs hn
  by_cases e:s = u
  ·subst e;exact put_same _ _ _ (by rw [hb];exact hs)
  ·have h1:=h s hs (by simp [e,hn])
   rw [← h1]
   simp [sl,Act.put,Array.getD_eq_getD_getElem?,Array.getElem?_setIfInBounds,show ¬ u = s from fun h=>e h.symm]
theorem putAll_defers (a:Act):∀ (ws:List Nat) (b:Act),(ws.foldl (fun b t=>b.put (some t) (sl a t)) b).defers = b.defers:=by
 intro ws
 induction ws with
 | nil=>intro b;rfl
 | cons t ws ih=>intro b;rw [List.foldl_cons,ih];rfl
theorem act_is {ops:Array Oper} {a a0:Act} (ws:List Nat) (hs:a.tmps.size = a0.tmps.size) (hd:a.defers = a0.defers) (hrest:∀ t,(ops.toList.all fun o=>o.dst != some t) = true→sl a t = sl a0 t)
  (hws:(ops.toList.all fun o=>match o.dst with | some t=>ws.contains t | none=>true) = true):a = ws.foldl (fun b t=>b.put (some t) (sl a t)) a0:=by
 have key:=putAll_sl a ws a0 a.tmps.size rfl hs.symm (by
  intro t _ hn
  refine (hrest t ?_).symm
  refine List.all_eq_true.2 fun o ho=>?_
  have:=List.all_eq_true.1 hws o ho
  cases hdo:o.dst with
  | none=>simp
  | some u =>
   rw [hdo] at this
   have hu:u ∈ ws:=by simpa using this
   have:u≠t:=fun e=>hn (e ▸ hu)
   simpa using this)
 have h1:=putAll_size a ws a0
 have h2:=putAll_defers a ws a0
 generalize ws.foldl (fun b t=>b.put (some t) (sl a t)) a0 = b at key h1 h2
 obtain ⟨ta,da⟩:=a
 obtain ⟨tb,db⟩:=b
 simp only at h1 h2 hd key hs
 have e1:ta = tb:=by
  refine Array.ext (by omega) fun i hi hj=>?_
  have:=key i hi
  simpa [sl,Array.getD_eq_getD_getElem?,hi,hj] using this.symm
 rw [e1,hd,h2]
theorem eval_tmp (a:Act) (t:Nat):a.eval (.tmp t) = sl a t:=rfl
theorem eval_const (a:Act) (v:Value):a.eval (.const v) = v:=rfl
theorem eval_func (a:Act) (f:FuncId):a.eval (.func f) = .func (.func f) #[] #[]:=rfl
theorem undrew {w W:World} (h:Below w.drew.heap.size w.drew W):Below w.heap.size w W:=⟨h.os,h.tape,h.output,h.size,h.block⟩
theorem cells2 {w:World} {b T:Nat} {u v:Value} (h:w.heap[b]? = some (.cells #[u,v] T (0,0))):w.cell? ⟨b,0,none⟩ = some u∧w.cell? ⟨b,1,none⟩ = some v :=
 ⟨cell_of_row _ _ 0 _ _ _ h,cell_of_row _ _ 1 _ _ _ h⟩
theorem XRow.of_owns {B X base e:Nat} {w:World} {r:List UInt8 × List UInt8} {q1 q2:Option Addr} {m1 k1 m2 k2:Nat} (he:e≠X) (h1:w.ownsRow base e 1 (.slice q1 m1 k1) m1 (r.1.map B8)) (h2:w.ownsRow base e 1 (.slice q2 m2 k2) m2 (r.2.map B8)) :
  XRow B X r (.agg #[.slice q1 m1 k1,.slice q2 m2 k2]) w:=⟨q1,m1,k1,q2,m2,k2,rfl,⟨Sl.of_owns h1,Away.own h1 he⟩,⟨Sl.of_owns h2,Away.own h2 he⟩⟩
theorem stepX_cell {B X b i:Nat} {w:World} {cs:Array Value} {v:Value} (hb:B≤b) (h:w.heap[b]? = some (.cells cs X (0,0))):StepX B X w (w.setCell ⟨b,i,none⟩ v):=by
 refine ⟨rfl,rfl,rfl,by simp [World.setCell],?_,?_⟩
 ·intro k hk hp
  refine Below.heap_setCell _ _ _ _ fun e=>?_
  have e:k = b:=e
  subst e
  rcases hp with hp | hp
  ·omega
  ·exact hp _ _ h
 ·intro k cs1 h1
  by_cases e:k = b
  ·subst e
   rw [h] at h1;cases h1
   exact ⟨cs.setIfInBounds i v,by simp,hss h⟩
  ·exact ⟨cs1,rfl,hsc h1 e⟩
theorem StepX.trans {B X:Nat} {w1 w2 w3:World} (h:StepX B X w1 w2) (g:StepX B X w2 w3):StepX B X w1 w3:=by
 refine ⟨g.os.trans h.os,g.tape.trans h.tape,g.output.trans h.output,Nat.le_trans h.size g.size,?_,?_⟩
 ·intro k hk hp
  have h1:=h.keep k hk hp
  rw [g.keep k (by have:=h.size;omega) (by rcases hp with hp | hp;exact .inl hp;exact .inr (by rw [h1];exact hp)),h1]
 ·intro k cs hc
  obtain ⟨c1,e1,h1⟩:=h.cells k cs hc
  obtain ⟨c2,e2,h2⟩:=g.cells k c1 h1
  exact ⟨c2,e2.trans e1,h2⟩
theorem stepX_set2 {B X b:Nat} {w:World} {u0 u1 v0 v1:Value} (hb:B≤b) (h:w.heap[b]? = some (.cells #[u0,u1] X (0,0))):StepX B X w ((w.setCell ⟨b,0,none⟩ v0).setCell ⟨b,1,none⟩ v1) :=
 (stepX_cell hb h).trans (stepX_cell hb (hss h))
theorem heap_set2 {X b:Nat} {w:World} {u0 u1 v0 v1:Value} (h:w.heap[b]? = some (.cells #[u0,u1] X (0,0))):((w.setCell ⟨b,0,none⟩ v0).setCell ⟨b,1,none⟩ v1).heap[b]? = some (.cells #[v0,v1] X (0,0)):=hss (hss h)
theorem wp_skipX {P:Program} {o:Oper} {a:Act} {w w':World} {K:Act→World→Prop} {Q:Exit→Act→World→Prop} (hrun:(execOp a.eval o).run P w = .ok .skip w') (h:K (a.put o.dst undef) w'):o.wp P a w K Q:=by
 unfold Oper.wp;rw [hrun];exact h
theorem ite_n {c:Prop} [Decidable c] {A B:Prop} (hc:¬ c) (h:B):if c then A else B:=by rw [if_neg hc];exact h
theorem wanted_no {ops:Array Oper} {o:Oper} {a:Act} {j:Nat} {b c:Bool} {d:Nat} (hg:o.guard = some (j,b)) (hd:dstOf ops j = some d) (hs:d < a.tmps.size) (hv:sl a d = .bool c) (hn:c≠b):¬ Region.wanted o (yielded ops a.tmps) = true:=by
 have h1:a.tmps[d]? = some (.bool c):=by
  have:=hv
  simp only [sl,Array.getD_eq_getD_getElem?,Array.getElem?_eq_getElem hs,Option.getD_some] at this
  rw [Array.getElem?_eq_getElem hs,this]
 unfold dstOf at hd
 simp [Region.wanted,hg,yielded,hd,h1,hn]
theorem size2 {cs:Array Value} (h:cs.size = 2):∃ u v,cs = #[u,v]:=by
 obtain ⟨l⟩:=cs
 match l,h with
 | [u,v],_=>exact ⟨u,v,rfl⟩
end Go.By
namespace Go.By
open Go.RowKit
theorem blk_lt {w:World} {b:Nat} {o:Obj} (h:w.heap[b]? = some o):b < w.heap.size:=(Array.getElem?_eq_some_iff.1 h).1
end Go.By
namespace Go.By
open Go.RowKit
theorem cells3 {w:World} {b T:Nat} {u v x:Value} (h:w.heap[b]? = some (.cells #[u,v,x] T (0,0))):w.cell? ⟨b,0,none⟩ = some u∧w.cell? ⟨b,1,none⟩ = some v∧w.cell? ⟨b,2,none⟩ = some x :=
 ⟨cell_of_row _ _ 0 _ _ _ h,cell_of_row _ _ 1 _ _ _ h,cell_of_row _ _ 2 _ _ _ h⟩
theorem Sl.mid {α:Type} {enc:α→Value} {w:World} {b o n c k m:Nat} {xs:List α} (h:Sl enc w (some ⟨b,o,none⟩) n c xs) (hk:k + m≤n):Sl enc w (some ⟨b,o + k,none⟩) m (c - k) ((xs.drop k).take m):=by
 have h1:=h.len;have h2:=h.le;have h3:=h.max
 refine ⟨by rw [List.length_take,List.length_drop];omega,by omega,by omega,fun e=>(by cases e),?_⟩
 intro i hi
 have hi':k + i < xs.length:=by rw [List.length_take,List.length_drop] at hi;omega
 obtain ⟨b',o',hp,hc⟩:=h.rs (k + i) hi'
 cases hp
 exact ⟨b,o + k,rfl,by rw [show o + k + i = o + (k + i) by omega,hc];simp⟩
theorem Sl.empty {α:Type} {enc:α→Value} {w:World} {p:Option Addr} {n c:Nat} {xs:List α} (h:Sl enc w p n c xs):Sl enc w p 0 c ([]:List α) :=
 ⟨rfl,Nat.zero_le _,h.max,fun e=>⟨rfl,(h.nil e).2⟩,Rs.nil⟩
end Go.By
namespace Go.Proofs.YtccaiiigdfieoaaGreatDoor
open Go.RowKit Go.By
end Go.Proofs.YtccaiiigdfieoaaGreatDoor
namespace Go.Proofs.YtccaiiigdfieoaaGreatDoor
open Go.RowKit Go.By
end Go.Proofs.YtccaiiigdfieoaaGreatDoor
namespace Go.By
end Go.By
namespace Go.Proofs.YtccaiiigdfieoaaGreatDoor
open Go.RowKit Go.By
theorem info_rows:(Tryz.prog.info? 22).map (fun i=>(i.zero,i.size,i.bytes)) = some (some (.slice none 0 0),1,24):=by kernel_rfl
end Go.Proofs.YtccaiiigdfieoaaGreatDoor
namespace Go.By
open Go.RowKit
def fl2 (vs:List (Value × Value)):List Value:=vs.flatMap fun u=>[u.1,u.2]
theorem fl2_append (a b:List (Value × Value)):fl2 (a ++ b) = fl2 a ++ fl2 b:=by simp [fl2]
theorem fl2_length (vs:List (Value × Value)):(fl2 vs).length = vs.length * 2:=by
 induction vs with
 | nil=>rfl
 | cons u vs ih=>show (u.1 :: u.2 :: fl2 vs).length = _;simp only [List.length_cons,ih];omega
theorem fl2_at:∀ {vs:List (Value × Value)} {i:Nat} {u:Value × Value},vs[i]? = some u→(fl2 vs)[i * 2]? = some u.1∧(fl2 vs)[i * 2 + 1]? = some u.2
 | v :: vs, 0, u, h => by obtain rfl : v = u := by simpa using h
                          exact ⟨rfl,rfl⟩
 | v :: vs,i + 1,u,h=>by
  have ih:=fl2_at (vs:=vs) (i:=i) (u:=u) (by simpa using h)
  have e:fl2 (v :: vs) = v.1 :: v.2 :: fl2 vs:=rfl
  rw [e,show (i + 1) * 2 = i * 2 + 2 by omega]
  exact ⟨by simpa using ih.1,by simpa using ih.2⟩
def Bw (T1:TypeId) (w:World) (base:Nat) (v:Value) (xs:List UInt8):Prop:=∃ q m c,v = .slice q m c∧xs.length = m∧w.ownsRow base T1 1 (.slice q m c) m (xs.map B8)
def RwL (T2 T1:TypeId) (w:World) (base:Nat) (v:Value) (n:Nat) (K:List (List UInt8 × List UInt8)):Prop :=
 ∃ vs:List (Value × Value),vs.length = n∧K.length = n∧w.ownsRow base T2 2 v n (fl2 vs)∧∀ (j:Nat) (u:Value × Value),vs[j]? = some u→∃ k,K[j]? = some k∧Bw T1 w base u.1 k.1∧Bw T1 w base u.2 k.2
section
variable {T2 T1:TypeId} {w w':World} {base n:Nat} {v:Value} {K:List (List UInt8 × List UInt8)}
theorem Bw.keep {xs:List UInt8} (h:Bw T1 w base v xs) (hb:Below w.heap.size w w'):Bw T1 w' base v xs:=by
 obtain ⟨q,m,c,e,l,o⟩:=h;exact ⟨q,m,c,e,l,owns_keep o hb⟩
theorem Bw.sl {xs:List UInt8} (h:Bw T1 w base v xs):∃ q m c,v = .slice q m c∧Sl B8 w q m c xs:=by
 obtain ⟨q,m,c,e,l,o⟩:=h;exact ⟨q,m,c,e,Sl.of_owns o⟩
theorem Bw.grown {xs:List UInt8} {u:Value} {L:List Value} {m:Nat} (h:Bw T1 w base v xs) (hT:T1≠T2) (ho:w.ownsRow base T2 2 u m L) (hg:w.grownBy w' u.ownBlock):Bw T1 w' base v xs:=by
 obtain ⟨q,m,c,e,l,o⟩:=h;exact ⟨q,m,c,e,l,owns_kept o hg (owns_ne o ho hT)⟩
theorem RwL.nil (T2 T1:TypeId) (w:World) (base:Nat):RwL T2 T1 w base (.slice none 0 0) 0 []:=⟨[],rfl,rfl,World.ownsRow_nil _ _ _ _,fun j u h=>by simp at h⟩
theorem RwL.keep (h:RwL T2 T1 w base v n K) (hb:Below w.heap.size w w'):RwL T2 T1 w' base v n K:=by
 obtain ⟨vs,a,b,o,r⟩:=h
 exact ⟨vs,a,b,owns_keepv o hb,fun j u hj=>by obtain ⟨k,hk,g1,g2⟩:=r j u hj;exact ⟨k,hk,g1.keep hb,g2.keep hb⟩⟩
theorem RwL.len (h:RwL T2 T1 w base v n K):K.length = n:=by obtain ⟨vs,a,b,o,r⟩:=h;exact b
theorem RwL.shape (h:RwL T2 T1 w base v n K):∃ q c,v = .slice q n c:=by obtain ⟨vs,a,b,o,r⟩:=h;exact owns_shape o
theorem RwL.at {q:Option Addr} {c:Nat} (h:RwL T2 T1 w base (.slice q n c) n K) {j:Nat} (hj:j < n):∃ g k q1 m1 c1 q2 m2 c2,q = some ⟨g,0,none⟩∧w.cell? ⟨g,j * 2,none⟩ = some (.slice q1 m1 c1)∧w.cell? ⟨g,j * 2 + 1,none⟩ = some (.slice q2 m2 c2) ∧
  Hid (K[j]? = some k)∧Sl B8 w q1 m1 c1 k.1∧Sl B8 w q2 m2 c2 k.2:=by
 obtain ⟨vs,a,b,o,r⟩:=h
 obtain ⟨u,hu⟩:∃ u,vs[j]? = some u:=⟨_,List.getElem?_eq_getElem (by omega)⟩
 obtain ⟨k,hk,g1,g2⟩:=r j u hu
 obtain ⟨q1,m1,c1,e1,s1⟩:=g1.sl
 obtain ⟨q2,m2,c2,e2,s2⟩:=g2.sl
 rcases o.2 with ⟨hv,_⟩ | ⟨g,cap,cur,hv,_⟩
 ·simp at hv;omega
 ·obtain ⟨rfl,rfl⟩:q = some ⟨g,0,none⟩∧c = cap:=by simpa using hv
  obtain ⟨f1,f2⟩:=fl2_at hu
  refine ⟨g,k,q1,m1,c1,q2,m2,c2,rfl,?_,?_,hk,s1,s2⟩
  ·rw [o.cellAt _ (by omega),f1,e1]
  ·rw [o.cellAt _ (by omega),f2,e2]
theorem RwL.lt (h:RwL T2 T1 w base v n K):∀ k,v.ownBlock = some k→base≤k∧k < w.heap.size:=by
 obtain ⟨vs,a,b,o,r⟩:=h;exact fun k hk=>o.lt k hk
theorem Bw.set {xs:List UInt8} {g o:Nat} {u:Value} (h:Bw T1 w base v xs) (hne:∀ k,v.ownBlock = some k→k≠g) (hg:w.grownBy w' (some g)):Bw T1 w' base v xs:=by
 obtain ⟨q,m,c,rfl,l,ho⟩:=h;exact ⟨q,m,c,rfl,l,owns_kept ho hg (fun k hk e=>hne k hk (by injection e))⟩
theorem RwL.set {g TX:Nat} {cs:Array Value} {fr:Nat × Nat} (h:RwL T2 T1 w base v n K) (hX:w.heap[g]? = some (.cells cs TX fr)) (h1:T1≠TX) (h2:v.ownBlock≠some g) (hg:w.grownBy w' (some g)):RwL T2 T1 w' base v n K:=by
 obtain ⟨vs,a,b,o,r⟩:=h
 have hB:∀ (u:Value) (xs:List UInt8),Bw T1 w base u xs→Bw T1 w' base u xs:=fun u xs hu=>by
  refine hu.set (g:=g) (o:=0) (u:=u) (fun k hk e=>?_) hg
  obtain ⟨q,m,c,rfl,l,ho⟩:=hu
  rcases ho.2 with ⟨hv,_⟩ | ⟨g',cap,cur,hv,_,hh,_⟩
  ·rw [hv] at hk;simp [Value.ownBlock] at hk
  ·rw [hv] at hk;simp [Value.ownBlock] at hk
   rw [e] at hk;rw [hk,hX] at hh
   injection hh with hh;injection hh with _ hh _;exact h1 hh.symm
 exact ⟨vs,a,b,owns_kept o hg (fun k hk e=>h2 (by rw [hk,e])),fun j u hj=>by obtain ⟨k,hk,g1,g2⟩:=r j u hj;exact ⟨k,hk,hB _ _ g1,hB _ _ g2⟩⟩
theorem RwL.push {w1:World} {v':Value} {u1 u2:Value} {k:List UInt8 × List UInt8} {vs:List (Value × Value)} (a:vs.length = n) (b:K.length = n) (o:w.ownsRow base T2 2 v n (fl2 vs))
  (r:∀ (j:Nat) (u:Value × Value),vs[j]? = some u→∃ k,K[j]? = some k∧Bw T1 w base u.1 k.1∧Bw T1 w base u.2 k.2) (hT:T1≠T2) (h1:Bw T1 w base u1 k.1) (h2:Bw T1 w base u2 k.2)
  (ho:w1.ownsRow base T2 2 v' (n + 1) (fl2 vs ++ [u1,u2])) (hg:w.grownBy w1 v.ownBlock):RwL T2 T1 w1 base v' (n + 1) (K ++ [k]):=by
 refine ⟨vs ++ [(u1,u2)],by simp [a],by simp [b],by rw [fl2_append];exact ho,?_⟩
 intro j u hj
 by_cases hjn:j < vs.length
 ·rw [List.getElem?_append_left hjn] at hj
  obtain ⟨k',hk,g1,g2⟩:=r j u hj
  exact ⟨k',by rw [List.getElem?_append_left (by omega)];exact hk,g1.grown hT o hg,g2.grown hT o hg⟩
 ·have hj2:=(List.getElem?_eq_some_iff.1 hj).1
  rw [List.length_append,List.length_singleton] at hj2
  obtain rfl:j = vs.length:=by omega
  rw [List.getElem?_append_right (Nat.le_refl _),Nat.sub_self] at hj
  have hu:(u1,u2) = u:=by simpa using hj
  subst hu
  exact ⟨k,by rw [a,← b,List.getElem?_append_right (Nat.le_refl _),Nat.sub_self];rfl,h1.grown hT o hg,h2.grown hT o hg⟩
end
end Go.By
namespace Go.Proofs.YtccaiiigdfieoaaGreatDoor
open Go.RowKit Go.By
theorem RefMul_q (a b:UInt8) (w:World):Calls Tryz.prog 206 #[B8 a,B8 b] w fun e w'=>e = .returned (B8 (Gf.gmul a b))∧w' = w :=
 (RefMul_any a b w).mono fun _ _ ⟨h1,h2⟩=>⟨h1,h2.symm⟩
theorem map_take_succ {α β:Type} (f:α→β) {xs:List α} {k:Nat} {x:α} (hx:xs[k]? = some x):(xs.take (k + 1)).map f = (xs.take k).map f ++ [f x]:=by
 obtain ⟨hk,hx⟩:=List.getElem?_eq_some_iff.1 hx
 rw [List.take_succ_eq_append_getElem hk,List.map_append,hx];rfl
set_option maxHeartbeats 400000 in
theorem RScale_any (c:UInt8) (p:Option Addr) (n cc:Nat) (xs:List UInt8) (w:World) (h:Sl B8 w p n cc xs) (hn:Room n) :
  Calls Tryz.prog 205 #[B8 c,.slice p n cc] w (RetB1 5 w (xs.map (Gf.gmul c))):=by
 obtain ⟨i0,hi,hz0,hz1,hz2⟩:=info_parts info_u8
 have hb:=h.bound
 have hm:=h.max
 have hle:=h.le
 have HL:=Lib.hid (show n≤maxLen by omega)
 clear hm hle
 have H:=Lib.hid h;clear h
 go_enter Tryz.func205,Tryz.ntmps205
 go_wp2
 go_loopw [5,6] (fun v i wr=>∃ k:Nat,k≤n∧i = .int .i64 k∧wr.ownsRow w.heap.size 5 1 v k (((xs.take k).map (Gf.gmul c)).map B8)∧Below w.heap.size w wr) (fun _ i _=>n - (intOf i).toNat)
 case atStart=>exact ⟨0,Nat.zero_le _,rfl,World.ownsRow_nil _ _ _ _,Below.refl _ _⟩
 case round =>
  obtain ⟨k,hk,rfl,ho,hw⟩:=hrel
  obtain ⟨L,eL⟩:∃ L,L = ((xs.take k).map (Gf.gmul c)).map B8:=⟨_,rfl⟩
  rw [← eL] at ho
  have HO:=Lib.hid ho;have HEL:=Lib.hid eL;clear ho eL
  by_cases hlt:k < n
  ·obtain ⟨b,o,x,rfl,hc,hx⟩:=(H.out.keep hw).at k hlt
   go_wp2_with (first
    | (go_at_call 206;refine (RefMul_any _ _ _).mono ?_;rintro e w' ⟨rfl,rfl⟩)
    | (at_builtin;refine wpList_append_rs _ rfl _ _ 22 rfl w.heap.size 5 i0 (.int .u8 0) 1 Tryz.underlying22 hi hz0 hz1 hz2 rfl _ k _ rfl (HO.out.alloc _) B8 _ _ _ [Gf.gmul c x] (fun _ _=>rfl) rfl (sl_one rfl rfl) ?c1 ?c2 ?c3 ?_))
   case c1=>have:=HL.out;omega
   case c2=>unfold Room at hn;omega
   case c3=>have:=hw.size;simp;omega
   intro v' w' ho hg
   have HO':=Lib.hid ho;clear ho
   have HB:=Lib.hid ((hw.alloc hw.size _).grown hg (by have:=hw.size;simp;omega) (fun j hj=>(HO.out.lt j hj).1))
   clear hg
   go_wp2
   go_roundw
   case rel=>exact ⟨k + 1,by omega,by go_num,by rw [map_take_succ _ hx.out,List.map_append,← HEL.out];exact HO'.out,HB.out⟩
   case measure=>simp [intOf];omega
  ·go_wp2
   go_ret
   obtain ⟨q,c',hv⟩:=owns_shape HO.out
   have:=HO.out
   rw [hv,HEL.out] at this
   have e:xs.take k = xs:=List.take_of_length_le (by have:=H.out.len;omega)
   rw [e] at this
   exact ⟨q,k,c',by have:=H.out.len;show _ = _;rw [List.length_map];omega,by rw [← hv];rfl,this,hw⟩
end Go.Proofs.YtccaiiigdfieoaaGreatDoor
namespace Go.Proofs.YtccaiiigdfieoaaGreatDoor
open Go.RowKit Go.By
def col (cs:List UInt8) (xss:List (List UInt8)) (i:Nat) (s:UInt8):UInt8:=(List.zip cs xss).foldl (fun s r=>s ^^^ Gf.gmul r.1 (r.2.getD i 0)) s
theorem combF_get (i m:Nat) (hi:i < m) (xss:List (List UInt8)) (h:∀ xs,xs ∈ xss→xs.length = m):∀ (cs z:List UInt8),z.length = m→(combF z cs xss)[i]? = some (col cs xss i (z.getD i 0)):=by
 induction xss with
 | nil=>intro cs z hz;simp [combF,col,List.getElem?_eq_getElem (show i < z.length by omega)]
 | cons x l ih =>
  intro cs z hz
  cases cs with
  | nil=>simp [combF,col,List.getElem?_eq_getElem (show i < z.length by omega)]
  | cons c cs =>
   have hx:=h x List.mem_cons_self
   have:=ih (fun xs hx=>h xs (List.mem_cons_of_mem _ hx)) cs (axpy c x z) (by rw [axpy_length _ _ _ (hx.trans hz.symm)];exact hz)
   have e:(axpy c x z).getD i 0 = z.getD i 0 ^^^ Gf.gmul c (x.getD i 0):=by
    simp [axpy,List.getD,List.getElem?_zipWith,List.getElem?_eq_getElem (show i < z.length by omega),List.getElem?_eq_getElem (show i < x.length by omega)]
   rw [e] at this
   simpa [combF,col] using this
theorem col_step {cs:List UInt8} {xss:List (List UInt8)} {k i:Nat} {c y s:UInt8} {x:List UInt8} (hc:cs[k]? = some c) (hx:xss[k]? = some x) (hy:x[i]? = some y) :
  col (cs.take (k + 1)) (xss.take (k + 1)) i s = col (cs.take k) (xss.take k) i s ^^^ Gf.gmul c y:=by
 have e:∀ j,List.zip (cs.take j) (xss.take j) = (List.zip cs xss).take j:=fun j=>by simp [List.zip,List.take_zipWith]
 have hz:(List.zip cs xss)[k]? = some (c,x):=by simp [List.zip,List.getElem?_zipWith,hc,hx]
 obtain ⟨hk,hz⟩:=List.getElem?_eq_some_iff.1 hz
 simp only [col,e]
 rw [foldl_take_succ _ _ _ _ hk,hz]
 simp [List.getD,hy]
theorem take_snoc_of {α:Type} {xs:List α} {k:Nat} {x:α} (hx:xs[k]? = some x):xs.take (k + 1) = xs.take k ++ [x]:=by
 obtain ⟨hk,hx⟩:=List.getElem?_eq_some_iff.1 hx
 rw [List.take_succ_eq_append_getElem hk,hx]
theorem noughtS_of {xss:List (List UInt8)} {x0:List UInt8} {m:Nat} (h0:xss[0]? = some x0) (hm:x0.length = m) (h:∀ xs,xs ∈ xss→xs.length = m):noughtS xss = (List.replicate m 0,0):=by
 cases xss with
 | nil=>simp at h0
 | cons x l =>
  simp at h0;subst h0;subst hm
  simp only [noughtS]
  rw [if_pos (List.all_eq_true.2 fun xs hx=>by simpa using h xs hx)]
theorem noughtS_not {xss:List (List UInt8)} {x0 x:List UInt8} (h0:xss[0]? = some x0) (hx:x ∈ xss) (h:x.length≠x0.length):noughtS xss = ([],4):=by
 cases xss with
 | nil=>simp at h0
 | cons y l =>
  simp at h0;subst h0
  simp only [noughtS]
  rw [if_neg]
  intro ha
  have:=List.all_eq_true.1 ha x hx
  simp at this;exact h this
set_option maxRecDepth 100000 in
set_option maxHeartbeats 1000000 in
theorem RComb_any (p1 p2:Option Addr) (n1 n2 c1 c2:Nat) (cs:List UInt8) (xss:List (List UInt8)) (w:World) (h1:Sl B8 w p1 n1 c1 cs) (h2:Sl2 w p2 n2 c2 xss) (hr:∀ xs,xs ∈ xss→Room xs.length) :
  Calls Tryz.prog 155 #[.slice p1 n1 c1,.slice p2 n2 c2] w (RetB 5 w (combS cs xss).1 (combS cs xss).2):=by
 obtain ⟨i0,hi,hz0,hz1,hz2⟩:=info_parts info_u8
 have b1:=h1.bound;have b2:=h2.bound
 by_cases he:n1 = n2
 ·obtain rfl:=he
  by_cases h0:n1 = 0
  ·subst h0
   have e1:cs = []:=List.eq_nil_of_length_eq_zero h1.len
   have e2:xss = []:=List.eq_nil_of_length_eq_zero h2.len
   subst e1;subst e2
   clear h1 h2 hr
   go_enter Tryz.func155,Tryz.ntmps155
   go_wp2
   go_ret2
   exact RetB.nil _ _ _ _ (Below.refl _ _)
  ·obtain ⟨b,o,q0,m0,c0,x0,rfl,hc0,hs0,hx0⟩:=h2.at 0 (by omega)
   have hS:Hid (combS cs xss = if (noughtS xss).2 = 0 then (combF (noughtS xss).1 cs xss,0) else ([],4)):=by unfold combS;rw [if_pos (h1.len.trans h2.len.symm)];rfl
   have hrm:Hid (Room m0):=by have:=hr x0 (List.mem_of_getElem? hx0.out);rw [hs0.len] at this;exact this
   have hm0:=hs0.bound
   have hmm:=Lib.hid (show m0≤maxLen by have:=hs0.le;have:=hs0.max;omega)
   have HL0:=Lib.hid hs0.len
   have H1:=Lib.hid h1;have H2:=Lib.hid h2
   have hn0:((n1:Int) == 0) = false:=by simp;omega
   have hnp:(0:Int) < (n1:Int):=by omega
   rw [Nat.add_zero] at hc0
   clear h1 h2 hr hs0 h0
   go_enter Tryz.func155,Tryz.ntmps155
   go_wp2
   go_loopw [6] (fun i wr=>∃ k:Nat,k≤n1∧i = .int .i64 k∧Below w.heap.size w wr∧Hid (∀ j x,j < k→xss[j]? = some x→x.length = m0)) (fun i _=>n1 - (intOf i).toNat)
   case atStart=>exact ⟨0,Nat.zero_le _,rfl,Below.refl _ _,fun j x hj=>by omega⟩
   case round =>
    obtain ⟨k,hk,rfl,hw,hj⟩:=hrel
    have hcz:wr.cell? ⟨b,o,none⟩ = some (.slice q0 m0 c0):=(hw.cell (p:=⟨b,o,none⟩) (lt_of_cell hc0)).trans hc0
    by_cases hlt:k < n1
    ·obtain ⟨b',o',q,m,c',row,hp,hc,hs,hy⟩:=H2.out.at k hlt
     cases hp
     have hc':=(hw.cell (p:=⟨b,o + k,none⟩) (lt_of_cell hc)).trans hc
     have hml:=Lib.hid hs.len
     have hmb:=hs.bound
     have i1:(k:Int) < (n1:Int):=by omega
     clear hc hs
     by_cases hm:m = m0
     ·subst hm
      go_wp2
      go_quiet (fail)
      go_wp2
      go_roundw
      case rel=>exact ⟨k + 1,by omega,by go_num,⟨hw.os,hw.tape,hw.output,hw.size,hw.block⟩,fun j x hj' hx=>by
       by_cases e:j = k
       ·subst e;have:=hy.out.symm.trans hx;cases this;exact hml.out
       ·exact hj.out j x (by omega) hx⟩
      case measure=>simp [intOf];omega
     ·have hne:((m:Int) != (m0:Int)) = true:=by simp;omega
      have HN:=Lib.hid hm;clear hm
      go_wp2
      go_quiet (fail)
      go_wp2
      go_ret2
      rw [hS.out,noughtS_not hx0.out (List.mem_of_getElem? hy.out) (by rw [hml.out,HL0.out];exact HN.out)]
      exact RetB.nil _ _ _ _ ⟨hw.os,hw.tape,hw.output,hw.size,hw.block⟩
    ·have HALL:Hid (∀ xs,xs ∈ xss→xs.length = m0):=fun xs hx=>by
      obtain ⟨j,hj',e⟩:=List.getElem_of_mem hx
      exact hj.out j xs (by have:=H2.out.len;omega) (by rw [List.getElem?_eq_getElem hj',e])
     have HS:Hid (combS cs xss = (combF (List.replicate m0 0) cs xss,0)):=by
      have:=hS.out
      rw [noughtS_of hx0.out HL0.out HALL.out] at this
      exact this
     have HG:Hid (∀ i,i < m0→(combF (List.replicate m0 0) cs xss)[i]? = some (col cs xss i 0)):=fun i hi'=>by
      have:=combF_get i m0 hi' xss HALL.out cs (List.replicate m0 0) (by simp)
      rw [this];simp [List.getD,hi']
     have HLen:Hid ((combF (List.replicate m0 0) cs xss).length = m0):=combF_len cs xss m0 HALL.out _ (by simp)
     clear hS hj
     generalize combF (List.replicate m0 0) cs xss = Y at *
     go_wp2
     go_loopw [7,8] (fun v i wr2=>∃ k:Nat,k≤m0∧i = .int .i64 k∧wr2.ownsRow w.heap.size 5 1 v k ((Y.take k).map B8)∧Below w.heap.size w wr2) (fun _ i _=>m0 - (intOf i).toNat)
     case atStart=>exact ⟨0,Nat.zero_le _,rfl,by simpa using World.ownsRow_nil _ _ _ _,hw⟩
     case round =>
      clear hw hcz
      obtain ⟨k2,hk2,rfl,ho,hw⟩:=hrel
      have hcz:wr.cell? ⟨b,o,none⟩ = some (.slice q0 m0 c0):=(hw.cell (p:=⟨b,o,none⟩) (lt_of_cell hc0)).trans hc0
      obtain ⟨L,eL⟩:∃ L,L = (Y.take k2).map B8:=⟨_,rfl⟩
      rw [← eL] at ho
      have HO:=Lib.hid ho;have HEL:=Lib.hid eL;clear ho eL
      by_cases hlt2:k2 < m0
      ·go_wp2
       go_loopw [9,10] (fun s i wr3=>∃ j:Nat,j≤n1∧i = .int .i64 j∧s = B8 (col (cs.take j) (xss.take j) k2 0)∧wr3.ownsRow w.heap.size 5 1 u7 k2 L∧Below w.heap.size w wr3) (fun _ i _=>n1 - (intOf i).toNat)
       case atStart=>exact ⟨0,Nat.zero_le _,rfl,by simp [col],HO.out,hw⟩
       case round =>
        clear hw hcz
        obtain ⟨j,hj,rfl,rfl,ho,hw⟩:=hrel
        have HO3:=Lib.hid ho;clear ho
        by_cases hlt3:j < n1
        ·obtain ⟨b1',o1',cj,rfl,hcj,hcx⟩:=(H1.out.keep hw).at j hlt3
         obtain ⟨b',o',q,m,c',row,hp,hc,hs,hy⟩:=H2.out.at j hlt3
         cases hp
         have hc':=(hw.cell (p:=⟨b,o + j,none⟩) (lt_of_cell hc)).trans hc
         have hmm':m = m0:=by rw [← hs.len];exact HALL.out row (List.mem_of_getElem? hy.out)
         subst hmm'
         obtain ⟨b2',o2',x,rfl,hcxx,hxx⟩:=(hs.keep hw).at k2 hlt2
         have HZ:=Lib.hid (col_step (s:=0) hcx.out hy.out hxx.out)
         generalize col (cs.take j) (xss.take j) k2 0 = s at HZ ⊢
         have i1:(j:Int) < (n1:Int):=by omega
         have i2:(k2:Int) < (m:Int):=by omega
         clear hc hs
         go_wp2
         go_quiet ((go_at_call 206;exact Calls.quiet_of_same (RefMul_q _ _ _)))
         go_wp2
         go_roundw
         case rel=>exact ⟨j + 1,by omega,by go_num,by rw [HZ.out];exact B8_congr (bits_xor _ _),HO3.out,⟨hw.os,hw.tape,hw.output,hw.size,hw.block⟩⟩
         case measure=>simp [intOf];omega
        ·have e1:cs.take j = cs:=List.take_of_length_le (by have:=H1.out.len;omega)
         have e2:xss.take j = xss:=List.take_of_length_le (by have:=H2.out.len;omega)
         rw [e1,e2]
         have HY:=Lib.hid (HG.out k2 hlt2)
         generalize col cs xss k2 0 = s at HY ⊢
         clear e1 e2
         go_wp2_with (at_builtin;refine wpList_append_rs _ rfl _ _ 22 rfl w.heap.size 5 i0 (.int .u8 0) 1 Tryz.underlying22 hi hz0 hz1 hz2 rfl _ k2 _ rfl (HO3.out.alloc _) B8 _ _ _ [s] (fun _ _=>rfl) rfl (sl_one rfl rfl) ?c1 ?c2 ?c3 ?_)
         case c1=>have:=hmm.out;omega
         case c2=>have:=hrm.out;unfold Room at this;omega
         case c3=>have:=hw.size;simp;omega
         intro v' w' ho hg
         have HO':=Lib.hid ho;clear ho
         have HB:=Lib.hid ((hw.alloc hw.size _).grown hg (by have:=hw.size;simp;omega) (fun j hj=>(HO3.out.lt j hj).1))
         clear hg
         go_wp2
         go_roundw
         case rel=>exact ⟨k2 + 1,by omega,by go_num,by rw [take_snoc_of HY.out,List.map_append,← HEL.out];exact HO'.out,HB.out⟩
         case measure=>simp [intOf];omega
      ·have hkm:k2 = m0:=by omega
       have HKM:=Lib.hid hkm;clear hkm
       go_wp2
       go_ret2
       rw [HS.out]
       obtain ⟨q,c',hv⟩:=owns_shape HO.out
       have:=HO.out
       rw [hv,HEL.out] at this
       have e:Y.take k2 = Y:=List.take_of_length_le (by have:=HLen.out;have:=HKM.out;omega)
       rw [e] at this
       exact ⟨q,k2,c',by have:=HLen.out;have:=HKM.out;show Y.length = k2;omega,by rw [← hv];rfl,this,hw⟩
 ·have HR:=Lib.hid (show combS cs xss = ([],4) by simp [combS,h1.len,h2.len,he])
  have hne:((n1:Int) != (n2:Int)) = true:=by simp;omega
  clear h1 h2 hr
  go_enter Tryz.func155,Tryz.ntmps155
  go_wp2
  go_ret2
  rw [HR.out]
  exact RetB.nil _ _ _ _ (Below.refl _ _)
end Go.Proofs.YtccaiiigdfieoaaGreatDoor
namespace Go.Proofs.YtccaiiigdfieoaaGreatDoor
open Go.RowKit Go.By
end Go.Proofs.YtccaiiigdfieoaaGreatDoor
namespace Go.Proofs.YtccaiiigdfieoaaGreatDoor
open Go.RowKit Go.By
def invOf (a:UInt8):UInt8:=if a = 0 then 0 else Gf.ginv a
theorem inv_unique {a b:UInt8} (h:Gf.gmul a b = 1):b = invOf a:=by
 have ha:a≠0:=by rintro rfl;rw [Gf.zero_gmul] at h;exact absurd h (by decide)
 rw [invOf,if_neg ha]
 have:=congrArg (Gf.gmul (Gf.ginv a)) h
 rwa [← Gf.gmul_assoc,Gf.ginv_gmul a ha,Gf.one_gmul,Gf.gmul_one] at this
theorem inv_none {a:UInt8} (h:∀ j:Nat,1≤j→j < 256→Gf.gmul a (UInt8.ofNat j)≠1):invOf a = 0:=by
 by_cases ha:a = 0
 ·simp [invOf,ha]
 ·exfalso
  have h1:=Gf.ginv_ne a ha
  refine h (Gf.ginv a).toNat ?_ (Gf.ginv a).toNat_lt ?_
  ·have:(Gf.ginv a).toNat≠0:=fun e=>h1 (UInt8.toNat_inj.1 e)
   omega
  ·rw [UInt8.ofNat_toNat];exact Gf.gmul_ginv a ha
set_option maxRecDepth 100000 in
set_option maxHeartbeats 400000 in
theorem RInv_any (a:UInt8) (w:World):Calls Tryz.prog 204 #[B8 a] w fun e w'=>e = .returned (B8 (invOf a))∧w = w':=by
 go_enter Tryz.func204,Tryz.ntmps204
 go_wp2
 go_loop [3] (fun i=>∃ k:Nat,1≤k∧k≤256∧i = .int .i64 k∧Hid (∀ j:Nat,1≤j→j < k→Gf.gmul a (UInt8.ofNat j)≠1)) (fun i=>256 - (intOf i).toNat)
 case atStart=>exact ⟨1,by omega,by omega,rfl,fun j h1 h2=>by omega⟩
 case round =>
  obtain ⟨k,hk1,hk,rfl,hj⟩:=hrel
  by_cases hlt:k < 256
  ·have C:=fun W=>RefMul_any a (UInt8.ofNat k) W
   rw [← byte_nat hlt] at C
   have HC:=Lib.hid C;clear C
   by_cases h1:Gf.gmul a (UInt8.ofNat k) = 1
   ·have HU:=Lib.hid (inv_unique h1)
    rw [h1] at HC
    clear h1
    go_wp2_with fail
    refine (HC.out _).mono ?_;rintro e w' ⟨rfl,rfl⟩
    go_wp2
    go_ret
    refine ⟨?_,rfl⟩
    rw [← HU.out,← byte_nat hlt];rfl
   ·have ht:(((Gf.gmul a (UInt8.ofNat k)).toNat:Int) == 1) = false:=by
     rw [beq_eq_false_iff_ne];intro e;exact h1 (UInt8.toNat_inj.1 (by have:(1:UInt8).toNat = 1:=rfl;omega))
    have HN:=Lib.hid h1;clear h1
    generalize Gf.gmul a (UInt8.ofNat k) = g at HC ht
    go_wp2_with fail
    refine (HC.out _).mono ?_;rintro e w' ⟨rfl,rfl⟩
    go_wp2
    go_round
    case rel=>exact ⟨k + 1,by omega,by omega,by go_num,fun j h1 h2=>by
     by_cases e:j = k
     ·subst e;exact HN.out
     ·exact hj.out j h1 (by omega)⟩
    case measure=>simp [intOf];omega
  ·go_wp2
   go_ret
   exact ⟨by rw [inv_none (fun j h1 h2=>hj.out j h1 (by omega))];rfl,rfl⟩
end Go.Proofs.YtccaiiigdfieoaaGreatDoor
namespace Go.Proofs.YtccaiiigdfieoaaGreatDoor
open Go.RowKit Go.By
set_option maxHeartbeats 400000 in
theorem RLead_any (p:Option Addr) (n c:Nat) (v:List UInt8) (w:World) (h:Sl B8 w p n c v) :
  Calls Tryz.prog 89 #[.slice p n c] w fun e w'=>e = .returned (.int .i64 (leadS v))∧w = w':=by
 have hb:=h.bound
 have H:=Lib.hid h;clear h
 go_enter Tryz.func89,Tryz.ntmps89
 go_wp2
 go_loop [3] (fun i=>∃ k:Nat,k≤n∧i = .int .i64 k∧Hid (∀ j y,j < k→v[j]? = some y→decide (y≠0) = false)) (fun i=>n - (intOf i).toNat)
 case atStart=>exact ⟨0,Nat.zero_le _,rfl,fun j y hj=>by omega⟩
 case round =>
  obtain ⟨k,hk,rfl,hj⟩:=hrel
  by_cases hlt:k < n
  ·obtain ⟨b,o,x,rfl,hc,hx⟩:=H.out.at k hlt
   have ht:=nat_ne_zero x
   by_cases h0:x = 0
   ·rw [decide_eq_false (by simpa using h0)] at ht
    have H0:=Lib.hid h0;clear h0
    go_wp2
    go_round
    case rel=>exact ⟨k + 1,by omega,by go_num,fun j y hj' hy=>by
     by_cases e:j = k
     ·subst e;have:=hx.out.symm.trans hy;cases this;simp [H0.out]
     ·exact hj.out j y (by omega) hy⟩
    case measure=>simp [intOf];omega
   ·rw [decide_eq_true (by simpa using h0)] at ht
    have H0:=Lib.hid h0;clear h0
    go_wp2
    go_ret
    exact ⟨by rw [leadS,idxf_found hx.out (by simpa using H0.out) hj.out];rfl,rfl⟩
  ·go_wp2
   go_ret
   exact ⟨by rw [leadS,idxf_none (k:=k) (by have:=H.out.len;omega) hj.out];rfl,rfl⟩
theorem leadS_cases (v:List UInt8):(leadS v = -1∧atS v (leadS v) = 0∧∀ x,x ∈ v→x = 0)∨∃ (k:Nat) (x:UInt8),leadS v = (k:Int)∧v[k]? = some x∧x≠0∧atS v (leadS v) = x∧∀ (j:Nat) (y:UInt8),j < k→v[j]? = some y→y = 0:=by
 unfold leadS idxf
 cases h:v.findIdx? (fun b=>decide (b≠0)) with
 | none =>
  left
  refine ⟨rfl,by simp [atS],?_⟩
  rw [List.findIdx?_eq_none_iff] at h
  intro x hx
  have:=h x hx
  simpa using this
 | some i =>
  right
  obtain ⟨hi,hf,hb⟩:=List.findIdx?_eq_some_iff_getElem.1 h
  refine ⟨i,v[i],rfl,List.getElem?_eq_getElem hi,by simpa using hf,by simp [atS,List.getD,hi],?_⟩
  intro j y hj hy
  obtain ⟨hj',e⟩:=List.getElem?_eq_some_iff.1 hy
  have:=hb j hj
  rw [e] at this
  simpa using this
theorem info_ref:(Tryz.prog.info? 101).map (·.size) = some 2:=by kernel_rfl
def RetS (w:World) (r:List UInt8 × List UInt8) (e:Ending) (w':World):Prop :=
 ∃ q1 m1 c1 q2 m2 c2,e = .returned (.agg #[.slice q1 m1 c1,.slice q2 m2 c2])∧Sl B8 w' q1 m1 c1 r.1∧Sl B8 w' q2 m2 c2 r.2∧Below w.heap.size w w'
set_option maxRecDepth 100000 in
set_option maxHeartbeats 1000000 in
theorem RNorm_any (p1 p2:Option Addr) (n1 c1 n2 c2:Nat) (v d:List UInt8) (w:World) (h1:Sl B8 w p1 n1 c1 v) (h2:Sl B8 w p2 n2 c2 d) (r1:Room n1) (r2:Room n2) :
  Calls Tryz.prog 153 #[.agg #[.slice p1 n1 c1,.slice p2 n2 c2]] w (RetS w (normS (v,d))):=by
 have hi:=info_ref
 have H1:=Lib.hid h1;have H2:=Lib.hid h2
 have b1:=h1.bound
 have hB:∀ o1 o2,Below w.heap.size w ((w.alloc o1).alloc o2):=fun o1 o2=>al (al (Below.refl _ _) (Nat.le_refl _)) (by simp)
 rcases leadS_cases v with ⟨e1,e2,-⟩ | ⟨k,x,e1,e2,e3,e4,-⟩
 ·have HN:Hid (normS (v,d) = (v,d)):=if_pos e2
  have CL:=Lib.hid (fun W a=>RLead_any p1 n1 c1 v W a)
  rw [e1] at CL
  clear h1 h2 e1 e2
  go_enter Tryz.func153,Tryz.ntmps153
  go_wp2_with fail
  refine (CL.out _ (H1.out.keep (hB _ _))).mono ?_;rintro e w' ⟨rfl,rfl⟩
  go_wp2
  rw [HN.out]
  refine bodyPost_ret (results_cell_row rfl _ _ _ 101 #[.slice p1 n1 c1,.slice p2 n2 c2] (0,0) _ rfl (hnew (by simp)) Tryz.underlying101 rfl hi) rfl ⟨p1,n1,c1,p2,n2,c2,rfl,H1.out.keep (hB _ _),H2.out.keep (hB _ _),hB _ _⟩
 ·have HN:Hid (normS (v,d) = (v.map (Gf.gmul (invOf x)),d.map (Gf.gmul (invOf x)))):=by
   show _ = _
   simp only [normS,e4,if_neg e3,invOf]
  have CL:=Lib.hid (fun W a=>RLead_any p1 n1 c1 v W a)
  rw [e1] at CL
  have hk:k < n1:=by have:=(List.getElem?_eq_some_iff.1 e2).1;rw [h1.len] at this;exact this
  obtain ⟨b,o,x',rfl,hc,hx⟩:=h1.at k hk
  have hxx:x' = x:=Option.some.inj (hx.out.symm.trans e2)
  subst hxx
  have hcc:∀ o1 o2,((w.alloc o1).alloc o2).cell? ⟨b,o + k,none⟩ = some (B8 x'):=fun o1 o2=>calloc (calloc hc)
  have kp:¬ ((k:Int) < 0):=by omega
  have kn:(k:Int) < (n1:Int):=by omega
  have HI:=Lib.hid (fun W=>RInv_any x' W)
  generalize invOf x' = g at *
  clear h1 h2 e1 e2 e3 e4 hx hc
  go_enter Tryz.func153,Tryz.ntmps153
  go_wp2_with fail
  refine (CL.out _ (H1.out.keep (hB _ _))).mono ?_;rintro e w' ⟨rfl,rfl⟩
  go_wp2_with fail
  refine (HI.out _).mono ?_;rintro e w' ⟨rfl,rfl⟩
  have hB':=hB (.cells #[.slice (some ⟨b,o,none⟩) n1 c1,.slice p2 n2 c2] 101) (.cells #[.slice none 0 0,.slice none 0 0] 101)
  have e1:((w.alloc (.cells #[.slice (some ⟨b,o,none⟩) n1 c1,.slice p2 n2 c2] 101)).alloc (.cells #[.slice none 0 0,.slice none 0 0] 101)).heap[w.heap.size]? = some (.cells #[.slice (some ⟨b,o,none⟩) n1 c1,.slice p2 n2 c2] 101 (0,0)):=hal (hnew rfl)
  have e2:((w.alloc (.cells #[.slice (some ⟨b,o,none⟩) n1 c1,.slice p2 n2 c2] 101)).alloc (.cells #[.slice none 0 0,.slice none 0 0] 101)).heap[w.heap.size + 1]? = some (.cells #[.slice none 0 0,.slice none 0 0] 101 (0,0)):=hnew (w:=w.alloc _) (by simp)
  have esz:w.heap.size + 2≤((w.alloc (.cells #[.slice (some ⟨b,o,none⟩) n1 c1,.slice p2 n2 c2] 101)).alloc (.cells #[.slice none 0 0,.slice none 0 0] 101)).heap.size:=by simp
  clear hB hcc
  go_wp2_with fail
  generalize (w.alloc (.cells #[.slice (some ⟨b,o,none⟩) n1 c1,.slice p2 n2 c2] 101)).alloc (.cells #[.slice none 0 0,.slice none 0 0] 101) = W at *
  have R0:∀ W',Below (w.heap.size + 2) W W'→W'.cell? ⟨w.heap.size,0,none⟩ = some (.slice (some ⟨b,o,none⟩) n1 c1):=fun W' h=>cell_of_row _ _ 0 _ _ _ ((h.block _ (by omega)).trans e1)
  have R1:∀ W',Below (w.heap.size + 2) W W'→W'.cell? ⟨w.heap.size,1,none⟩ = some (.slice p2 n2 c2):=fun W' h=>cell_of_row _ _ 1 _ _ _ ((h.block _ (by omega)).trans e1)
  have R2:∀ W',Below (w.heap.size + 2) W W'→W'.cell? ⟨w.heap.size + 1,0,none⟩ = some (.slice none 0 0):=fun W' h=>cell_of_row _ _ 0 _ _ _ ((h.block _ (by omega)).trans e2)
  have R3:∀ W',Below (w.heap.size + 2) W W'→W'.cell? ⟨w.heap.size + 1,1,none⟩ = some (.slice none 0 0):=fun W' h=>cell_of_row _ _ 1 _ _ _ ((h.block _ (by omega)).trans e2)
  have Z2:∀ W',Below (w.heap.size + 2) W W'→W'.frozen? ⟨w.heap.size + 1,0,none⟩ = false:=fun W' h=>frozen_of_row _ _ 0 _ _ ((h.block _ (by omega)).trans e2)
  have Z3:∀ W',Below (w.heap.size + 2) W W'→W'.frozen? ⟨w.heap.size + 1,1,none⟩ = false:=fun W' h=>frozen_of_row _ _ 1 _ _ ((h.block _ (by omega)).trans e2)
  have E2:=Lib.hid e2
  clear e1 e2
  have hd:Below (w.heap.size + 2) W W.drew:=(Below.refl _ _).drew
  have C1:Hid (∀ W',Below (w.heap.size + 2) W W'→Calls Tryz.prog 205 #[B8 g,.slice (some ⟨b,o,none⟩) n1 c1] W' (RetB1 5 W' (v.map (Gf.gmul g)))):=fun W' h=>RScale_any g _ n1 c1 v W' (H1.out.keep (hB'.trans (h.mono (by omega)))) r1
  have C2:Hid (∀ W',Below (w.heap.size + 2) W W'→Calls Tryz.prog 205 #[B8 g,.slice p2 n2 c2] W' (RetB1 5 W' (d.map (Gf.gmul g)))):=fun W' h=>RScale_any g p2 n2 c2 d W' (H2.out.keep (hB'.trans (h.mono (by omega)))) r2
  have hB2:=Lib.hid hB'
  clear hB'
  go_region_with (first
   | (go_at_call 205;(with_reducible refine Calls.mono (C1.out _ (by assumption)) ?_);rintro e w1 ⟨q1,m1,c1',hm1,rfl,ho1,hb1⟩;have hw1:=stp (by assumption) hb1 rfl esz)
   | (go_at_call 205;(with_reducible refine Calls.mono (C2.out _ (by assumption)) ?_);rintro e w2 ⟨q2,m2,c2',hm2,rfl,ho2,hb2⟩;have hw2:=stp (by assumption) hb2 rfl esz))
  all_goals go_wp2
  all_goals rw [HN.out]
  all_goals first
   | (refine bodyPost_ret (results_cell_row rfl _ _ _ 101 #[.slice q1 m1 c1',.slice q2 m2 c2'] (0,0) _ rfl (hss (hss ((hw2.block _ (by omega)).trans E2.out))) Tryz.underlying101 rfl hi) rfl ⟨q1,m1,c1',q2,m2,c2',rfl,Sl.of_owns (owns_set (owns_set (owns_keep ho1 hb2) (show w.heap.size + 1 < _ by have:=hw1.size;simp;omega)) (show w.heap.size + 1 < _ by have:=hw1.size;simp;omega)),Sl.of_owns (owns_set (owns_set ho2 (show w.heap.size + 1 < _ by have:=hw1.size;simp;omega)) (show w.heap.size + 1 < _ by have:=hw1.size;simp;omega)),((hB2.out.trans (hw2.mono (by omega))).setCell (by simp) _).setCell (by simp) _⟩)
   | (refine bodyPost_ret (results_cell_row rfl _ _ _ 101 #[.slice q1 m1 c1',.slice q2 m2 c2'] (0,0) _ rfl (hss (hss ((hw1.block _ (by omega)).trans E2.out))) Tryz.underlying101 rfl hi) rfl ⟨q1,m1,c1',q2,m2,c2',rfl,Sl.of_owns (owns_set (owns_set ho1 (show w.heap.size + 1 < _ by have:=hw2.size;simp;omega)) (show w.heap.size + 1 < _ by have:=hw2.size;simp;omega)),Sl.of_owns (owns_set (owns_set (owns_keep ho2 hb1) (show w.heap.size + 1 < _ by have:=hw2.size;simp;omega)) (show w.heap.size + 1 < _ by have:=hw2.size;simp;omega)),((hB2.out.trans (hw1.mono (by omega))).setCell (by simp) _).setCell (by simp) _⟩)
end Go.Proofs.YtccaiiigdfieoaaGreatDoor
namespace Go.Proofs.YtccaiiigdfieoaaGreatDoor
open Go.RowKit Go.By
theorem comb_axpy (c:UInt8) (r o:List UInt8):combS [1,c] [r,o] = axpyS c o r:=by
 unfold combS axpyS
 rw [if_pos (show [1,c].length = [r,o].length from rfl)]
 by_cases h:o.length = r.length
 ·rw [if_pos h,noughtS_of (x0:=r) (m:=r.length) rfl rfl (by intro zs hz;simp at hz;rcases hz with rfl | rfl <;> simp [h])]
  simp only [if_true]
  congr 1
  have e1:axpy 1 r (List.replicate r.length 0) = r:=by
   apply List.ext_getElem?
   intro j
   simp only [axpy,List.getElem?_zipWith]
   by_cases hj:j < r.length
   ·simp [hj,Gf.one_gmul]
   ·simp [show r.length≤j by omega]
  simp only [combF,List.zip,List.zipWith,List.foldl,e1]
 ·rw [if_neg h,noughtS_not (x0:=r) (x:=o) rfl (by simp) h]
  simp
set_option maxRecDepth 100000 in
set_option maxHeartbeats 1000000 in
theorem RLess_any (p1 p2 p3 p4:Option Addr) (n1 c1 n2 c2 n3 c3 n4 c4:Nat) (v d x y:List UInt8) (c:UInt8) (w:World) (h1:Sl B8 w p1 n1 c1 v) (h2:Sl B8 w p2 n2 c2 d) (h3:Sl B8 w p3 n3 c3 x) (h4:Sl B8 w p4 n4 c4 y) (r1:Room n1) (r2:Room n2) (r3:Room n3) (r4:Room n4) :
  Calls Tryz.prog 88 #[.agg #[.slice p1 n1 c1,.slice p2 n2 c2],B8 c,.agg #[.slice p3 n3 c3,.slice p4 n4 c4]] w (RetR2 5 w (lessS (v,d) c (x,y)).1 (lessS (v,d) c (x,y)).2):=by
 have hi:=info_ref
 have H1:=Lib.hid h1;have H2:=Lib.hid h2;have H3:=Lib.hid h3;have H4:=Lib.hid h4
 have hB:∀ o1 o2 o3,Below w.heap.size w (((w.alloc o1).alloc o2).alloc o3):=fun o1 o2 o3=>al (al (al (Below.refl _ _) (Nat.le_refl _)) (by simp)) (by simp;omega)
 have F:∀ (w1:World),(Below (w.heap.size + 3) (((w.alloc (.cells #[.slice p1 n1 c1,.slice p2 n2 c2] 101)).alloc (.cells #[.slice p3 n3 c3,.slice p4 n4 c4] 101)).alloc (.cells #[.slice none 0 0,.slice none 0 0] 101)) w1) →
   w1.heap[w.heap.size]? = some (.cells #[.slice p1 n1 c1,.slice p2 n2 c2] 101 (0,0))∧w1.heap[w.heap.size + 1]? = some (.cells #[.slice p3 n3 c3,.slice p4 n4 c4] 101 (0,0))∧w1.heap[w.heap.size + 1 + 1]? = some (.cells #[.slice none 0 0,.slice none 0 0] 101 (0,0)):=fun w1 h =>
  ⟨(h.block _ (by omega)).trans (hal (hal (hnew rfl))),(h.block _ (by omega)).trans (hal (hnew (by simp))),(h.block _ (by omega)).trans (hnew (by simp))⟩
 have hr1:∀ zs,zs ∈ [v,x]→Room zs.length:=fun zs hz=>by
  simp at hz;rcases hz with rfl | rfl
  ·rw [h1.len];exact r1
  ·rw [h3.len];exact r3
 have hr2:∀ zs,zs ∈ [d,y]→Room zs.length:=fun zs hz=>by
  simp at hz;rcases hz with rfl | rfl
  ·rw [h2.len];exact r2
  ·rw [h4.len];exact r4
 have d1:=fun p p' k k' W a b=>RComb_any p p' 2 2 k k' [1,c] [v,x] W a b hr1
 have d2:=fun p p' k k' W a b=>RComb_any p p' 2 2 k k' [1,c] [d,y] W a b hr2
 rw [comb_axpy] at d1 d2
 have D1:=Lib.hid d1;have D2:=Lib.hid d2
 have HF:=Lib.hid F
 have L1:=Lib.hid h1.len;have L2:=Lib.hid h2.len;have L3:=Lib.hid h3.len;have L4:=Lib.hid h4.len
 clear F h1 h2 h3 h4 d1 d2 hr1 hr2
 have cA:=show axpyS c x v = (axpy c x v,0)∨axpyS c x v = ([],4) by unfold axpyS;split <;> simp
 have cB:=show axpyS c y d = (axpy c y d,0)∨axpyS c y d = ([],4) by unfold axpyS;split <;> simp
 have HR:Hid (lessS (v,d) c (x,y) = if (axpyS c x v).2 = 0∧(axpyS c y d).2 = 0 then (((axpyS c x v).1,(axpyS c y d).1),0) else (([],[]),4)):=by
  show _ = _
  unfold lessS axpyS
  by_cases e1:x.length = v.length <;> by_cases e2:y.length = d.length <;> simp [e1,e2]
 have CA:=Lib.hid cA;have CB:=Lib.hid cB;clear cA cB
 generalize axpyS c x v = A at *
 generalize axpyS c y d = B at *
 go_enter Tryz.func88,Tryz.ntmps88
 go_wp2_with fail
 refine Calls.mono (D1.out _ _ _ _ _ ?_ ?_) ?_
 ·exact sl_block [1,c] 2 (hal (hnew (by simp))) rfl rfl (by simp [maxLen])
 ·exact sl2_pair (hnew (by simp)) (H1.out.keep (al (al (hB _ _ _) (by simp;omega)) (by simp;omega))) (H3.out.keep (al (al (hB _ _ _) (by simp;omega)) (by simp;omega)))
 rintro e w1 ⟨q1,m1,k1,g1,rfl,ho1,hb1⟩
 have HO1:=Lib.hid ho1;clear ho1
 have kb:Below (w.heap.size + 3) (((w.alloc (.cells #[.slice p1 n1 c1,.slice p2 n2 c2] 101)).alloc (.cells #[.slice p3 n3 c3,.slice p4 n4 c4] 101)).alloc (.cells #[.slice none 0 0,.slice none 0 0] 101)) w1:=bl (al (al (Below.refl _ _) (by simp)) (by simp)) hb1 (by simp)
 obtain ⟨f0,f1,f2⟩:=HF.out w1 kb
 have l0:w1.cell? ⟨w.heap.size,1,none⟩ = some (.slice p2 n2 c2):=cell_of_row _ _ 1 _ _ _ f0
 have l1:w1.cell? ⟨w.heap.size + 1,1,none⟩ = some (.slice p4 n4 c4):=cell_of_row _ _ 1 _ _ _ f1
 have l0':∀ o1,(w1.alloc o1).cell? ⟨w.heap.size,1,none⟩ = some (.slice p2 n2 c2):=fun o1=>calloc l0
 have l1':∀ o1,(w1.alloc o1).cell? ⟨w.heap.size + 1,1,none⟩ = some (.slice p4 n4 c4):=fun o1=>calloc l1
 have hw1:Below w.heap.size w w1:=bl (al (al (hB _ _ _) (by simp;omega)) (by simp;omega)) hb1 (by simp;omega)
 have hs1:w.heap.size + 5≤w1.heap.size:=by have:=hb1.size;simp at this;omega
 clear f0 f1 f2 hB
 go_wp2_with fail
 refine Calls.mono (D2.out _ _ _ _ _ ?_ ?_) ?_
 ·exact sl_block [1,c] 2 (hal (hnew (by simp))) rfl rfl (by simp [maxLen])
 ·exact sl2_pair (hnew (by simp)) (H2.out.keep (al (al hw1 hw1.size) (by have:=hw1.size;simp;omega))) (H4.out.keep (al (al hw1 hw1.size) (by have:=hw1.size;simp;omega)))
 rintro e w2 ⟨q2,m2,k2,g2,rfl,ho2,hb2⟩
 have HO2:=Lib.hid ho2;clear ho2
 have hx2:Below w1.heap.size w1 w2:=bl (al (al (Below.refl _ _) (Nat.le_refl _)) (by simp)) hb2 (by simp;omega)
 have kb2:=kb.trans (hx2.mono (by omega))
 have hw2:=bl hw1 hx2 hw1.size
 obtain ⟨_,_,f2⟩:=HF.out w2 kb2
 have t0:w2.cell? ⟨w.heap.size + 1 + 1,0,none⟩ = some (.slice none 0 0):=cell_of_row _ _ 0 _ _ _ f2
 have t1:w2.cell? ⟨w.heap.size + 1 + 1,1,none⟩ = some (.slice none 0 0):=cell_of_row _ _ 1 _ _ _ f2
 have z0:w2.frozen? ⟨w.heap.size + 1 + 1,0,none⟩ = false:=frozen_of_row _ _ 0 _ _ f2
 have z1:w2.frozen? ⟨w.heap.size + 1 + 1,1,none⟩ = false:=frozen_of_row _ _ 1 _ _ f2
 have E2:=Lib.hid f2;clear f2 kb kb2
 have O1:Hid (w2.ownsRow (w.heap.size + 3) 5 1 (.slice q1 m1 k1) m1 (A.1.map B8)):=owns_mono (owns_keep HO1.out hx2) (by simp)
 have O2:Hid (w2.ownsRow (w.heap.size + 3) 5 1 (.slice q2 m2 k2) m2 (B.1.map B8)):=owns_mono HO2.out (by simp;omega)
 clear HO1 HO2 hb1 hb2
 have hwb:=Lib.hid hw2
 rcases CA.out with eA | eA <;> rcases CB.out with eB | eB
 ·rw [eA,eB] at HR;rw [eA] at O1 g1;rw [eB] at O2 g2
  rw [eA,eB]
  go_wp2
  rw [HR.out]
  exact bodyPost_ret (results_cell_tmp rfl _ _ _ 101 #[.slice q1 m1 k1,.slice q2 m2 k2] (0,0) _ (.int .i64 0) rfl (hss (hss E2.out)) rfl Tryz.underlying101 rfl hi) rfl ⟨q1,m1,k1,q2,m2,k2,g1,g2,rfl,owns_mono (owns_set (owns_set O1.out (by omega)) (by omega)) (by omega),owns_mono (owns_set (owns_set O2.out (by omega)) (by omega)) (by omega),(hwb.out.setCell (by simp;omega) _).setCell (by simp;omega) _⟩
 all_goals
  rw [eA,eB] at HR
  rw [eA,eB]
  go_wp2
  rw [HR.out]
  exact bodyPost_ret (results_cell_tmp rfl _ _ _ 101 #[.slice none 0 0,.slice none 0 0] (0,0) _ (.int .i64 4) rfl (hss (hss E2.out)) rfl Tryz.underlying101 rfl hi) rfl ⟨none,0,0,none,0,0,rfl,rfl,rfl,World.ownsRow_nil _ _ _ _,World.ownsRow_nil _ _ _ _,(hwb.out.setCell (by simp;omega) _).setCell (by simp;omega) _⟩
end Go.Proofs.YtccaiiigdfieoaaGreatDoor
namespace Go.Proofs.YtccaiiigdfieoaaGreatDoor
open Go.By
theorem lead_is {v:List UInt8} {k:Nat} {x:UInt8} (h:v[k]? = some x) (hx:x≠0) (hj:∀ (j:Nat) (y:UInt8),j < k→v[j]? = some y→y = 0):leadS v = (k:Int):=by
 rcases leadS_cases v with ⟨_,_,h3⟩ | ⟨k',x',e,h1,h2,_,h4⟩
 ·exact absurd (h3 x (List.mem_of_getElem? h)) hx
 ·rw [e]
  rcases Nat.lt_trichotomy k' k with g | g | g
  ·exact absurd (hj k' x' g h1) h2
  ·rw [g]
  ·exact absurd (h4 k x g h) hx
theorem norm_cases (v d:List UInt8):(leadS v = -1∧normS (v,d) = (v,d)) ∨
  ∃ (k:Nat) (x:UInt8),leadS v = (k:Int)∧x≠0∧v[k]? = some x∧(∀ (j:Nat) (y:UInt8),j < k→v[j]? = some y→y = 0)∧normS (v,d) = (v.map (Gf.gmul (Gf.ginv x)),d.map (Gf.gmul (Gf.ginv x))):=by
 rcases leadS_cases v with ⟨h1,h2,_⟩ | ⟨k,x,e,h1,h2,h3,h4⟩
 ·exact .inl ⟨h1,if_pos h2⟩
 ·right
  refine ⟨k,x,e,h2,h1,h4,?_⟩
  unfold normS
  simp only [h3,if_neg h2]
theorem norm_lead (v d:List UInt8):leadS (normS (v,d)).1 = leadS v:=by
 rcases norm_cases v d with ⟨_,h⟩ | ⟨k,x,e,hx,hk,hj,h⟩
 ·rw [h]
 ·rw [h,e]
  refine lead_is (x:=1) ?_ (by decide) ?_
  ·simp [List.getElem?_map,hk,Gf.ginv_gmul x hx]
  ·intro j y hjk hy
   simp only [List.getElem?_map,Option.map_eq_some_iff] at hy
   obtain ⟨z,hz,rfl⟩:=hy
   rw [hj j z hjk hz,Gf.gmul_zero]
theorem at_of {v:List UInt8} {k:Nat} {x:UInt8} (h:v[k]? = some x):atS v (k:Int) = x:=by
 simp [atS,List.getD_eq_getElem?_getD,h]
end Go.Proofs.YtccaiiigdfieoaaGreatDoor
namespace Gf
abbrev V:=Nat→UInt8
def comb:List UInt8→List V→V
 | c :: cs,a :: az=>fun j=>gmul c (a j) ^^^ comb cs az j
 | _,_=>fun _=>0
theorem comb_nil (c:List UInt8) (j:Nat):comb c [] j = 0:=by cases c <;> rfl
theorem comb_nil' (A:List V) (j:Nat):comb [] A j = 0:=by cases A <;> rfl
theorem comb_cons (c:UInt8) (cs:List UInt8) (a:V) (az:List V) (j:Nat):comb (c :: cs) (a :: az) j = gmul c (a j) ^^^ comb cs az j:=rfl
theorem comb_append (c2:List UInt8) (A2:List V) (j:Nat):∀ (c1:List UInt8) (A1:List V),c1.length = A1.length→comb (c1 ++ c2) (A1 ++ A2) j = comb c1 A1 j ^^^ comb c2 A2 j
 | [],[],_=>by simp [comb_nil',zero_xor]
 | c :: cs,a :: az,h=>by
  simp only [List.cons_append,comb_cons]
  rw [comb_append c2 A2 j cs az (by simpa using h),xor_assoc]
theorem comb_add (j:Nat):∀ (c d:List UInt8) (A:List V),c.length = d.length→comb (List.zipWith (· ^^^ ·) c d) A j = comb c A j ^^^ comb d A j
 | [],[],A,_=>by simp [comb_nil',xor_self]
 | c :: cs,d :: ds,[],_=>by simp [comb_nil,xor_self]
 | c :: cs,d :: ds,a :: az,h=>by
  simp only [List.zipWith_cons_cons,comb_cons]
  rw [comb_add j cs ds az (by simpa using h),gmul_xor_left,xor4]
theorem comb_scale (x:UInt8) (j:Nat):∀ (c:List UInt8) (A:List V),comb (c.map (gmul x)) A j = gmul x (comb c A j)
 | [],A=>by simp [comb_nil',gmul_zero]
 | c :: cs,[]=>by simp [comb_nil,gmul_zero]
 | c :: cs,a :: az=>by
  simp only [List.map_cons,comb_cons]
  rw [comb_scale x j cs az,gmul_assoc,gmul_xor_right]
theorem comb_zeros (j:Nat):∀ (n:Nat) (A:List V),comb (List.replicate n 0) A j = 0
 | 0,A=>by simp [comb_nil']
 | n + 1,[]=>by simp [comb_nil]
 | n + 1,a :: az=>by simp only [List.replicate_succ,comb_cons];rw [comb_zeros j n az,zero_gmul,xor_self]
theorem comb_at_zero (j:Nat):∀ (c:List UInt8) (A:List V),(∀ a,a ∈ A→a j = 0)→comb c A j = 0
 | [],A,_=>comb_nil' _ _
 | c :: cs,[],_=>comb_nil _ _
 | c :: cs,a :: az,h=>by rw [comb_cons,h a (by simp),gmul_zero,zero_xor,comb_at_zero j cs az (fun b hb=>h b (by simp [hb]))]
def Sp (B:List V) (v:V):Prop:=∃ c:List UInt8,c.length = B.length∧v = comb c B
theorem Sp.zero (B:List V):Sp B (fun _=>0):=⟨List.replicate B.length 0,by simp,by funext j;rw [comb_zeros]⟩
theorem Sp.add {B:List V} {u v:V} (h:Sp B u) (g:Sp B v):Sp B (fun j=>u j ^^^ v j):=by
 obtain ⟨c,hc,rfl⟩:=h;obtain ⟨d,hd,rfl⟩:=g
 exact ⟨List.zipWith (· ^^^ ·) c d,by simp [hc,hd],by funext j;rw [comb_add j c d B (by rw [hc,hd])]⟩
theorem Sp.scale {B:List V} {u:V} (x:UInt8) (h:Sp B u):Sp B (fun j=>gmul x (u j)):=by
 obtain ⟨c,hc,rfl⟩:=h
 exact ⟨c.map (gmul x),by simp [hc],by funext j;rw [comb_scale]⟩
theorem Sp.cons {B:List V} {u:V} (b:V) (h:Sp B u):Sp (b :: B) u:=by
 obtain ⟨c,hc,rfl⟩:=h
 exact ⟨0 :: c,by simp [hc],by funext j;rw [comb_cons,zero_gmul,zero_xor]⟩
theorem Sp.mem {a:V}:∀ {B:List V},a ∈ B→Sp B a
 | b :: B,h=>by
  rcases List.mem_cons.1 h with rfl | h
  ·exact ⟨1 :: List.replicate B.length 0,by simp,by funext j;rw [comb_cons,one_gmul,comb_zeros,xor_zero]⟩
  ·exact (Sp.mem h).cons b
theorem Sp.comb {B:List V}:∀ (c:List UInt8) (A:List V),(∀ a,a ∈ A→Sp B a)→Sp B (Gf.comb c A)
 | [], A, _ => by have : Gf.comb [] A = fun _ => 0 := by funext j; exact comb_nil' A j
                  rw [this];exact Sp.zero B
 | c :: cs,[],_=>Sp.zero B
 | c :: cs,a :: az,h=>Sp.add (Sp.scale c (h a (by simp))) (Sp.comb cs az (fun b hb=>h b (by simp [hb])))
theorem Sp.trans {A B:List V} {v:V} (h:∀ a,a ∈ A→Sp B a) (g:Sp A v):Sp B v:=by
 obtain ⟨c,_,rfl⟩:=g;exact Sp.comb c A h
theorem Sp.sub {A B:List V} {v:V} (h:∀ a,a ∈ A→a ∈ B) (g:Sp A v):Sp B v:=Sp.trans (fun a ha=>Sp.mem (h a ha)) g
theorem Sp.at_zero {A:List V} {v:V} {j:Nat} (h:Sp A v) (hz:∀ a,a ∈ A→a j = 0):v j = 0:=by
 obtain ⟨c,_,rfl⟩:=h;exact comb_at_zero j c A hz
def Ind (A:List V):Prop:=∀ c:List UInt8,c.length = A.length→(∀ j,comb c A j = 0)→∀ x,x ∈ c→x = 0
theorem Ind.nil:Ind []:=fun c hc _ x hx=>by
 have:c = []:=List.length_eq_zero_iff.1 hc
 subst this;simp at hx
def dot:List UInt8→List UInt8→UInt8
 | c :: cs,t :: ts=>gmul c t ^^^ dot cs ts
 | _,_=>0
theorem comb_shift (a0:V) (f:V→UInt8) (j:Nat):∀ (c:List UInt8) (L:List V),c.length = L.length→comb c (L.map (fun a j=>a j ^^^ gmul (f a) (a0 j))) j = comb c L j ^^^ gmul (dot c (L.map f)) (a0 j)
 | [],[],_=>by simp [comb_nil',dot,zero_gmul,xor_self]
 | c :: cs,a :: az,h=>by
  simp only [List.map_cons,comb_cons,dot]
  rw [comb_shift a0 f j cs az (by simpa using h),gmul_xor_left,gmul_xor_right,gmul_assoc,xor4]
theorem exchange:∀ (W A:List V),Ind A→(∀ a,a ∈ A→Sp W a)→A.length≤W.length
 | [],A,hA,hS=>by
  cases A with
  | nil=>simp
  | cons a az =>
   exfalso
   obtain ⟨c,hc,ha⟩:=hS a (by simp)
   have h1:=hA (1 :: List.replicate az.length 0) (by simp) (fun j=>by rw [comb_cons,comb_zeros,ha,comb_nil];rw [gmul_zero,xor_zero]) 1 (by simp)
   exact absurd h1 (by decide)
 | w :: W,A,hA,hS=>by
  by_cases hall:∀ a,a ∈ A→Sp W a
  ·exact Nat.le_succ_of_le (exchange W A hA hall)
  ·have hex:∃ a0,a0 ∈ A∧¬ Sp W a0:=by
    apply Classical.byContradiction
    intro hn
    exact hall (fun a ha=>Classical.byContradiction fun h=>hn ⟨a,ha,h⟩)
   obtain ⟨a0,ha0,hn0⟩:=hex
   obtain ⟨A1,A2,rfl⟩:=List.append_of_mem ha0
   have part:∀ a,Sp (w :: W) a→∃ (x:UInt8) (r:V),Sp W r∧∀ j,a j = gmul x (w j) ^^^ r j:=by
    rintro a ⟨c,hc,rfl⟩
    cases c with
    | nil=>simp at hc
    | cons x cs=>exact ⟨x,Gf.comb cs W,⟨cs,by simpa using hc,rfl⟩,fun j=>rfl⟩
   obtain ⟨x0,r0,hr0,e0⟩:=part a0 (hS a0 ha0)
   have hx0:x0≠0:=fun h=>hn0 (by
    have:a0 = r0:=by funext j;rw [e0 j,h,zero_gmul,zero_xor]
    rw [this];exact hr0)
   have ht:∀ a,a ∈ A1 ++ A2→∃ t:UInt8,Sp W (fun j=>a j ^^^ gmul t (a0 j)):=by
    intro a ha
    obtain ⟨x,r,hr,e⟩:=part a (hS a (by simp at ha ⊢;rcases ha with h | h <;> simp [h]))
    refine ⟨gmul x (ginv x0),?_⟩
    have:(fun j=>a j ^^^ gmul (gmul x (ginv x0)) (a0 j)) = fun j=>r j ^^^ gmul (gmul x (ginv x0)) (r0 j):=by
     funext j
     rw [e j,e0 j,gmul_xor_right,← gmul_assoc,gmul_assoc x (ginv x0) x0,ginv_gmul x0 hx0,gmul_one,xor4,xor_self,zero_xor]
    rw [this];exact Sp.add hr (Sp.scale _ hr0)
   obtain ⟨f,hf⟩:∃ f:V→UInt8,∀ a,a ∈ A1 ++ A2→Sp W (fun j=>a j ^^^ gmul (f a) (a0 j)) :=
    ⟨fun a=>Classical.epsilon fun t=>Sp W (fun j=>a j ^^^ gmul t (a0 j)),fun a ha=>Classical.epsilon_spec (ht a ha)⟩
   have hind:Ind ((A1 ++ A2).map (fun a j=>a j ^^^ gmul (f a) (a0 j))):=by
    intro c hc hz x hx
    rw [List.length_map] at hc
    have hsplit:c = c.take A1.length ++ c.drop A1.length:=(List.take_append_drop _ _).symm
    have l1:(c.take A1.length).length = A1.length:=by rw [List.length_take,hc,List.length_append];omega
    have h2:=hA (c.take A1.length ++ dot c ((A1 ++ A2).map f) :: c.drop A1.length) (by
     rw [List.length_append,List.length_append,List.length_cons,List.length_cons,l1,List.length_drop,hc,List.length_append];omega) (fun j=>by
     rw [comb_append _ _ _ _ _ l1,comb_cons]
     have h3:=hz j
     rw [comb_shift a0 f j c (A1 ++ A2) hc] at h3
     have h4:comb c (A1 ++ A2) j = comb (c.take A1.length) A1 j ^^^ comb (c.drop A1.length) A2 j:=by
      conv=>lhs;rw [hsplit]
      exact comb_append _ _ _ _ _ l1
     rw [h4] at h3
     rw [← h3,xor_assoc];congr 1;exact xor_comm _ _)
    refine h2 x ?_
    rw [hsplit] at hx
    rcases List.mem_append.1 hx with h | h
    ·exact List.mem_append_left _ h
    ·exact List.mem_append_right _ (List.mem_cons_of_mem _ h)
   have:=exchange W _ hind (fun a ha=>by
    obtain ⟨b,hb,rfl⟩:=List.mem_map.1 ha
    exact hf b hb)
   rw [List.length_map,List.length_append] at this
   rw [List.length_append,List.length_cons,List.length_cons];omega
def Rk (A:List V) (r:Nat):Prop:=∃ B,Ind B∧B.length = r∧(∀ b,b ∈ B→Sp A b)∧∀ a,a ∈ A→Sp B a
theorem Rk.le {A C:List V} {r s:Nat} (h:Rk A r) (g:Rk C s) (hs:∀ a,a ∈ A→Sp C a):r≤s:=by
 obtain ⟨B,b1,rfl,b3,b4⟩:=h;obtain ⟨D,d1,rfl,d3,d4⟩:=g
 exact exchange D B b1 (fun b hb=>Sp.trans d4 (Sp.trans hs (b3 b hb)))
theorem Rk.unique {A:List V} {r s:Nat} (h:Rk A r) (g:Rk A s):r = s :=
 Nat.le_antisymm (h.le g fun _ ha=>Sp.mem ha) (g.le h fun _ ha=>Sp.mem ha)
theorem Rk.same {A C:List V} {r s:Nat} (h:Rk A r) (g:Rk C s) (h1:∀ a,a ∈ A→Sp C a) (h2:∀ c,c ∈ C→Sp A c):r = s:=Nat.le_antisymm (h.le g h1) (g.le h h2)
def Tri:List (V × Nat)→Prop
 | []=>True
 | (v,l) :: K=>v l = 1∧(∀ p,p ∈ K→p.1 l = 0)∧Tri K
theorem Tri.comb_zero:∀ {K:List (V × Nat)} {c:List UInt8},Tri K→c.length = K.length→(∀ p,p ∈ K→comb c (K.map (·.1)) p.2 = 0)→∀ x,x ∈ c→x = 0
 | [],[],_,_,_=>by simp
 | (v,l) :: K,c :: cs,h,hc,hz=>by
  obtain ⟨h1,h2,h3⟩:=h
  have hK:∀ a,a ∈ K.map (·.1)→a l = 0:=fun a ha=>by obtain ⟨p,hp,rfl⟩:=List.mem_map.1 ha;exact h2 p hp
  have c0:c = 0:=by
   have:=hz (v,l) (by simp)
   simp only [List.map_cons,comb_cons] at this
   rw [comb_at_zero l cs _ hK,h1,gmul_one,xor_zero] at this
   exact this
  subst c0
  have ih:=Tri.comb_zero (c:=cs) h3 (by simpa using hc) (fun p hp=>by
   have:=hz p (by simp [hp])
   simpa only [List.map_cons,comb_cons,zero_gmul,zero_xor] using this)
  intro x hx
  rcases List.mem_cons.1 hx with rfl | hx
  ·rfl
  ·exact ih x hx
theorem Tri.ind {K:List (V × Nat)} (h:Tri K):Ind (K.map (·.1)):=fun c hc hz=>h.comb_zero (by simpa using hc) (fun _ _=>hz _)
theorem Tri.span_zero {K:List (V × Nat)} {v:V} (h:Tri K) (hs:Sp (K.map (·.1)) v) (hz:∀ p,p ∈ K→v p.2 = 0):∀ j,v j = 0:=by
 obtain ⟨c,hc,rfl⟩:=hs
 have:=h.comb_zero (by simpa using hc) hz
 have e:c = List.replicate c.length 0:=List.eq_replicate_of_mem this
 intro j
 rw [e];exact comb_zeros j _ _
def red (K:List (V × Nat)) (x:V):V:=K.foldl (fun x p j=>x j ^^^ gmul (x p.2) (p.1 j)) x
theorem red_cons (p:V × Nat) (K:List (V × Nat)) (x:V):red (p :: K) x = red K (fun j=>x j ^^^ gmul (x p.2) (p.1 j)):=rfl
theorem red_span:∀ (K:List (V × Nat)) (x:V),Sp (K.map (·.1)) (fun j=>x j ^^^ red K x j)
 | [], x => by have : (fun j => x j ^^^ red [] x j) = fun _ => 0 := by funext j; exact xor_self _
               rw [this];exact Sp.zero _
 | p :: K,x=>by
  have h1:=(red_span K (fun j=>x j ^^^ gmul (x p.2) (p.1 j))).cons p.1
  have h2:Sp (p.1 :: K.map (·.1)) (fun j=>gmul (x p.2) (p.1 j)):=Sp.scale _ (Sp.mem (by simp))
  have:=Sp.add h1 h2
  rw [List.map_cons]
  have e:(fun j=>x j ^^^ red (p :: K) x j) = fun j=>((x j ^^^ gmul (x p.2) (p.1 j)) ^^^ red K (fun j=>x j ^^^ gmul (x p.2) (p.1 j)) j) ^^^ gmul (x p.2) (p.1 j):=by
   funext j
   rw [red_cons,xor_assoc (x j),xor_comm (gmul _ _) (red _ _ _),← xor_assoc (x j),xor_cancel]
  rw [e];exact this
theorem red_keeps_zero {l:Nat}:∀ {K:List (V × Nat)} {x:V},(∀ p,p ∈ K→p.1 l = 0)→x l = 0→red K x l = 0
 | [],x,_,h=>h
 | p :: K,x,hK,h=>by
  rw [red_cons]
  exact red_keeps_zero (fun q hq=>hK q (by simp [hq])) (by rw [h,hK p (by simp),gmul_zero,xor_self])
theorem red_at:∀ {K:List (V × Nat)} {x:V},Tri K→∀ p,p ∈ K→red K x p.2 = 0
 | (v,l) :: K,x,⟨h1,h2,h3⟩,p,hp=>by
  rw [red_cons]
  rcases List.mem_cons.1 hp with rfl | hp
  ·exact red_keeps_zero h2 (by simp only [h1,gmul_one,xor_self])
  ·exact red_at h3 p hp
theorem red_zero {K:List (V × Nat)} {x:V} (h:Tri K):(∀ j,red K x j = 0)↔Sp (K.map (·.1)) x:=by
 constructor
 ·intro hz
  have:=red_span K x
  have e:(fun j=>x j ^^^ red K x j) = x:=by funext j;rw [hz j,xor_zero]
  rwa [e] at this
 ·intro hs
  have h1:=Sp.add hs (red_span K x)
  have e:(fun j=>x j ^^^ (x j ^^^ red K x j)) = red K x:=by funext j;rw [← xor_assoc,xor_self,zero_xor]
  rw [e] at h1
  exact h.span_zero h1 (red_at h)
theorem Tri.snoc:∀ {K:List (V × Nat)} {y:V} {l:Nat},Tri K→(∀ p,p ∈ K→y p.2 = 0)→y l = 1→Tri (K ++ [(y,l)])
 | [],y,l,_,_,h1=>⟨h1,by simp,trivial⟩
 | (v,l0) :: K,y,l,⟨h1,h2,h3⟩,hz,hy=>by
  refine ⟨h1,?_,h3.snoc (fun p hp=>hz p (by simp [hp])) hy⟩
  intro p hp
  rcases List.mem_append.1 hp with h | h
  ·exact h2 p h
  ·simp at h;subst h;exact hz (v,l0) (by simp)
theorem Tri.append:∀ {K L:List (V × Nat)},Tri K→Tri L→(∀ p,p ∈ K→∀ q,q ∈ L→q.1 p.2 = 0)→Tri (K ++ L)
 | [],L,_,h,_=>h
 | (v,l0) :: K,L,⟨h1,h2,h3⟩,hL,hz=>by
  refine ⟨h1,?_,h3.append hL (fun p hp=>hz p (by simp [hp]))⟩
  intro p hp
  rcases List.mem_append.1 hp with h | h
  ·exact h2 p h
  ·exact hz (v,l0) (by simp) p h
theorem Tri.left:∀ {K L:List (V × Nat)},Tri (K ++ L)→Tri K
 | [],L,_=>trivial
 | (v,l0) :: K,L,⟨h1,h2,h3⟩=>⟨h1,fun p hp=>h2 p (by simp [hp]),h3.left⟩
theorem Tri.right:∀ {K L:List (V × Nat)},Tri (K ++ L)→Tri L
 | [],L,h=>h
 | (v,l0) :: K,L,⟨_,_,h3⟩=>h3.right
end Gf
namespace Gf
theorem Ind.cons {A:List V} {v:V} (h:Ind A) (hv:¬ Sp A v):Ind (v :: A):=by
 intro c hc hz
 cases c with
 | nil=>simp
 | cons x cs =>
  have hx:x = 0:=by
   apply Classical.byContradiction
   intro hx
   apply hv
   have:v = fun j=>gmul (ginv x) (comb cs A j):=by
    funext j
    have:=hz j
    rw [comb_cons] at this
    have e:=xor_eq_zero this
    rw [← e,← gmul_assoc,ginv_gmul x hx,one_gmul]
   rw [this]
   exact Sp.scale _ ⟨cs,by simpa using hc,rfl⟩
  subst hx
  have:=h cs (by simpa using hc) (fun j=>by have:=hz j;rwa [comb_cons,zero_gmul,zero_xor] at this)
  intro y hy
  rcases List.mem_cons.1 hy with rfl | hy
  ·rfl
  ·exact this y hy
theorem Rk.ind {A:List V} {r:Nat} (h:Rk A r) (hr:A.length = r):Ind A:=by
 obtain ⟨B,b1,rfl,b3,b4⟩:=h
 apply Classical.byContradiction
 intro hn
 have hex:∃ c:List UInt8,c.length = A.length∧(∀ j,comb c A j = 0)∧∃ x,x ∈ c∧x≠0:=by
  apply Classical.byContradiction
  intro hne
  apply hn
  intro c hc hz x hx
  apply Classical.byContradiction
  intro hx0
  exact hne ⟨c,hc,hz,x,hx,hx0⟩
 obtain ⟨c,hc,hz,x,hx,hx0⟩:=hex
 obtain ⟨c1,c2,rfl⟩:=List.append_of_mem hx
 have hl:c1.length < A.length:=by rw [← hc];simp
 have hA:A = A.take c1.length ++ A[c1.length] :: A.drop (c1.length + 1):=by
  rw [← List.drop_eq_getElem_cons hl,List.take_append_drop]
 obtain ⟨a,ha⟩:∃ a,a = A[c1.length]:=⟨_,rfl⟩
 rw [← ha] at hA
 obtain ⟨A1,hA1⟩:∃ A1,A1 = A.take c1.length:=⟨_,rfl⟩
 obtain ⟨A2,hA2⟩:∃ A2,A2 = A.drop (c1.length + 1):=⟨_,rfl⟩
 have l1:c1.length = A1.length:=by rw [hA1,List.length_take];omega
 have l2:c2.length = A2.length:=by rw [hA2,List.length_drop];simp at hc;omega
 rw [← hA1,← hA2] at hA
 have e:a = fun j=>gmul (ginv x) (comb c1 A1 j ^^^ comb c2 A2 j):=by
  funext j
  have:=hz j
  rw [hA,comb_append _ _ _ _ _ l1,comb_cons] at this
  have e2:gmul x (a j) = comb c1 A1 j ^^^ comb c2 A2 j:=by
   apply xor_eq_zero
   rw [← this,xor_left_comm,← xor_assoc]
  rw [← e2,← gmul_assoc,ginv_gmul x hx0,one_gmul]
 have hs:Sp (A1 ++ A2) a:=by
  rw [e]
  refine Sp.scale _ ⟨c1 ++ c2,by simp [l1,l2],?_⟩
  funext j
  rw [comb_append _ _ _ _ _ l1]
 have:=exchange (A1 ++ A2) B b1 (fun b hb=>by
  refine Sp.trans ?_ (b3 b hb)
  intro y hy
  rw [hA] at hy
  rcases List.mem_append.1 hy with h | h
  ·exact Sp.mem (by simp [h])
  ·rcases List.mem_cons.1 h with rfl | h
   ·exact hs
   ·exact Sp.mem (by simp [h]))
 have hl2:=congrArg List.length hA
 rw [List.length_append,List.length_cons] at hl2
 rw [List.length_append] at this
 omega
end Gf
namespace Go.Proofs.YtccaiiigdfieoaaGreatDoor
open Go.By Gf
abbrev Rw:=List UInt8 × List UInt8
def vf (xs:List UInt8):V:=fun j=>xs.getD j 0
def cat (r:Rw):List UInt8:=r.1 ++ r.2
def Fit (n t:Nat) (r:Rw):Prop:=r.1.length = n∧r.2.length = t
def lessF (x:Rw) (c:UInt8) (o:Rw):Rw:=(axpy c o.1 x.1,axpy c o.2 x.2)
def restF (K:List Rw) (x:Rw):Rw:=K.foldl (fun x k=>lessF x (atS x.1 (leadS k.1)) k) x
theorem vf_axpy {c:UInt8} {xs ys:List UInt8} (h:xs.length = ys.length):vf (axpy c xs ys) = fun j=>vf ys j ^^^ gmul c (vf xs j):=by
 funext j
 unfold vf axpy
 simp only [List.getD_eq_getElem?_getD,List.getElem?_zipWith]
 by_cases hj:j < xs.length
 ·rw [List.getElem?_eq_getElem hj,List.getElem?_eq_getElem (by omega:j < ys.length)];rfl
 ·rw [List.getElem?_eq_none (by omega),List.getElem?_eq_none (by omega)];simp [gmul_zero,xor_zero]
theorem vf_scale (c:UInt8) (xs:List UInt8):vf (xs.map (gmul c)) = fun j=>gmul c (vf xs j):=by
 funext j
 unfold vf
 simp only [List.getD_eq_getElem?_getD,List.getElem?_map]
 cases xs[j]? <;> simp [gmul_zero]
theorem vf_inj {xs ys:List UInt8} (h:xs.length = ys.length) (e:∀ j,j < xs.length→vf xs j = vf ys j):xs = ys:=by
 apply List.ext_getElem h
 intro i h1 h2
 have:=e i h1
 simpa [vf,List.getD_eq_getElem?_getD,h1,h2] using this
theorem vf_app_left {xs ys:List UInt8} {j:Nat} (h:j < xs.length):vf (xs ++ ys) j = vf xs j:=by
 unfold vf;rw [List.getD_eq_getElem?_getD,List.getElem?_append_left h,List.getD_eq_getElem?_getD]
theorem axpy_append (c:UInt8):∀ (xs ys us vs:List UInt8),xs.length = us.length→axpy c (xs ++ ys) (us ++ vs) = axpy c xs us ++ axpy c ys vs:=by
 intro xs ys us vs h
 unfold axpy
 exact List.zipWith_append h
theorem cat_less {n t:Nat} {x o:Rw} (c:UInt8) (hx:Fit n t x) (ho:Fit n t o):cat (lessF x c o) = axpy c (cat o) (cat x):=by
 unfold cat lessF
 rw [axpy_append]
 rw [ho.1,hx.1]
theorem Fit.less {n t:Nat} {x o:Rw} {c:UInt8} (hx:Fit n t x) (ho:Fit n t o):Fit n t (lessF x c o):=by
 unfold Fit lessF
 exact ⟨by rw [axpy_length _ _ _ (by rw [ho.1,hx.1])];exact hx.1,by rw [axpy_length _ _ _ (by rw [ho.2,hx.2])];exact hx.2⟩
theorem Fit.rest {n t:Nat}:∀ {K:List Rw} {x:Rw},(∀ k,k ∈ K→Fit n t k)→Fit n t x→Fit n t (restF K x)
 | [],x,_,hx=>hx
 | k :: K,x,hK,hx=>Fit.rest (K:=K) (fun a ha=>hK a (by simp [ha])) (hx.less (hK k (by simp)))
theorem Fit.cat {n t:Nat} {x:Rw} (h:Fit n t x):(cat x).length = n + t:=by unfold Go.Proofs.YtccaiiigdfieoaaGreatDoor.cat;rw [List.length_append,h.1,h.2]
def LeadAt (r:Rw) (l:Nat):Prop:=leadS r.1 = (l:Int)∧r.1[l]? = some 1∧∀ (j:Nat) (y:UInt8),j < l→r.1[j]? = some y→y = 0
def Led (r:Rw):Prop:=∃ l,LeadAt r l
def leadN (r:Rw):Nat:=(leadS r.1).toNat
theorem Led.at {r:Rw} (h:Led r):LeadAt r (leadN r):=by
 obtain ⟨l,hl⟩:=h
 have:leadN r = l:=by unfold leadN;rw [hl.1];rfl
 rw [this];exact hl
theorem LeadAt.lt {r:Rw} {l n t:Nat} (h:LeadAt r l) (hf:Fit n t r):l < n:=by
 have:=(List.getElem?_eq_some_iff.1 h.2.1).1;rw [hf.1] at this;exact this
def tri (K:List Rw):List (V × Nat):=K.map fun k=>(vf (cat k),leadN k)
theorem tri_fst (K:List Rw):(tri K).map (·.1) = K.map fun k=>vf (cat k):=by simp [tri,List.map_map,Function.comp_def]
theorem tri_mem {K:List Rw} {p:V × Nat} (h:p ∈ tri K):∃ k,k ∈ K∧p = (vf (cat k),leadN k):=by
 simp only [tri,List.mem_map] at h
 obtain ⟨k,hk,rfl⟩:=h;exact ⟨k,hk,rfl⟩
theorem vf_at {n t l:Nat} {x:Rw} (hx:Fit n t x) (hl:l < n):vf (cat x) l = atS x.1 (l:Int):=by
 unfold cat
 rw [vf_app_left (by rw [hx.1];exact hl)]
 simp [vf,atS]
theorem rest_red {n t:Nat}:∀ {K:List Rw} {x:Rw},(∀ k,k ∈ K→Fit n t k∧Led k)→Fit n t x→vf (cat (restF K x)) = red (tri K) (vf (cat x))
 | [],x,_,_=>rfl
 | k :: K,x,hK,hx=>by
  obtain ⟨hf,hl⟩:=hK k (by simp)
  have hL:=hl.at
  have e:(restF (k :: K) x) = restF K (lessF x (atS x.1 (leadS k.1)) k):=rfl
  rw [e,rest_red (K:=K) (fun a ha=>hK a (by simp [ha])) (hx.less hf),cat_less _ hx hf,vf_axpy (by rw [hf.cat,hx.cat])]
  have e2:atS x.1 (leadS k.1) = vf (cat x) (leadN k):=by rw [vf_at hx (hL.lt hf),hL.1]
  rw [e2];rfl
theorem axpy_zero_of {c:UInt8} (h:c = 0) {xs ys:List UInt8} (hl:xs.length = ys.length):axpy c xs ys = ys:=by
 refine vf_inj (by rw [axpy_length _ _ _ hl]) (fun j _=>?_)
 rw [vf_axpy hl]
 show vf ys j ^^^ gmul c _ = _
 rw [h,zero_gmul,xor_zero]
theorem leadS_neg {v:List UInt8} (h:leadS v < 0):∀ x,x ∈ v→x = 0:=by
 rcases leadS_cases v with ⟨_,_,h3⟩ | ⟨k,x,e,_⟩
 ·exact h3
 ·omega
theorem vf_zero {v:List UInt8} (h:∀ x,x ∈ v→x = 0):∀ j,vf v j = 0:=by
 intro j
 unfold vf
 rw [List.getD_eq_getElem?_getD]
 cases e:v[j]? with
 | none=>rfl
 | some x=>exact h x (List.mem_of_getElem? e)
theorem norm_row {n t:Nat} {y:Rw} (hy:Fit n t y) (h:¬ leadS y.1 < 0):∃ (l:Nat) (c:UInt8),c≠0∧leadS y.1 = (l:Int)∧LeadAt (normS y) l∧Fit n t (normS y)∧vf (cat (normS y)) = fun j=>gmul c (vf (cat y) j):=by
 obtain ⟨v,d⟩:=y
 rcases norm_cases v d with ⟨h1,_⟩ | ⟨k,x,e,hx,hk,hj,g⟩
 ·exact absurd (by rw [h1];decide) h
 ·refine ⟨k,ginv x,ginv_ne x hx,e,?_,?_,?_⟩
  ·rw [g]
   refine ⟨by have:=norm_lead v d;rw [g] at this;rw [this,e],by simp [List.getElem?_map,hk,ginv_gmul x hx],?_⟩
   intro j y hjk hy'
   simp only [List.getElem?_map,Option.map_eq_some_iff] at hy'
   obtain ⟨z,hz,rfl⟩:=hy'
   rw [hj j z hjk hz,gmul_zero]
  ·rw [g];exact ⟨by simpa using hy.1,by simpa using hy.2⟩
  ·rw [g]
   have:cat (v.map (gmul (ginv x)),d.map (gmul (ginv x))) = (cat (v,d)).map (gmul (ginv x)):=by simp [cat]
   rw [this,vf_scale]
def keepF (K:List Rw) (x:Rw):List Rw:=if leadS (restF K x).1 < 0 then K else K ++ [normS (restF K x)]
structure Kept (n t:Nat) (K:List Rw):Prop where
 rows:∀ k,k ∈ K→Fit n t k∧Led k
 tri:Tri (tri K)
theorem Kept.nil (n t:Nat):Kept n t []:=⟨by simp,trivial⟩
theorem tri_append (K L:List Rw):tri (K ++ L) = tri K ++ tri L:=by simp [tri]
theorem leadN_of {r:Rw} {l:Nat} (h:LeadAt r l):leadN r = l:=by unfold leadN;rw [h.1];rfl
theorem vf_lead {n t l:Nat} {r:Rw} (h:LeadAt r l) (hf:Fit n t r):vf (cat r) l = 1:=by
 rw [vf_at hf (h.lt hf),at_of h.2.1]
theorem Kept.step {n t:Nat} {K:List Rw} {x:Rw} (h:Kept n t K) (hx:Fit n t x):Kept n t (keepF K x):=by
 unfold keepF
 split
 ·exact h
 ·rename_i hn
  have hr:=hx.rest (fun k hk=>(h.rows k hk).1)
  obtain ⟨l,c,hc,hl,hL,hF,hv⟩:=norm_row hr hn
  refine ⟨?_,?_⟩
  ·intro k hk
   rcases List.mem_append.1 hk with h' | h'
   ·exact h.rows k h'
   ·simp at h';subst h';exact ⟨hF,l,hL⟩
  ·rw [tri_append]
   show Tri (Go.Proofs.YtccaiiigdfieoaaGreatDoor.tri K ++ [(vf (cat (normS (restF K x))),leadN (normS (restF K x)))])
   refine h.tri.snoc ?_ ?_
   ·intro p hp
    rw [hv]
    show gmul c (vf (cat (restF K x)) p.2) = 0
    rw [rest_red h.rows hx,red_at h.tri p hp,gmul_zero]
   ·rw [leadN_of hL];exact vf_lead hL hF
theorem kept_span {n:Nat}:∀ {K:List Rw} {x:Rw},Kept n 0 K→Fit n 0 x→(∀ k,k ∈ keepF K x→Sp (vf (cat x) :: K.map fun k=>vf (cat k)) (vf (cat k)))∧Sp ((keepF K x).map fun k=>vf (cat k)) (vf (cat x))∧(∀ k,k ∈ K→Sp ((keepF K x).map fun k=>vf (cat k)) (vf (cat k))):=by
 intro K x h hx
 have hr:=hx.rest (fun k hk=>(h.rows k hk).1)
 have hred:=rest_red h.rows hx
 have hspan:=red_span (tri K) (vf (cat x))
 rw [tri_fst] at hspan
 unfold keepF
 split
 ·rename_i hn
  have hz:∀ j,red (tri K) (vf (cat x)) j = 0:=by
   intro j
   rw [← hred]
   have e:cat (restF K x) = (restF K x).1:=by unfold cat;rw [List.length_eq_zero_iff.1 hr.2,List.append_nil]
   rw [e]
   exact vf_zero (leadS_neg hn) j
  refine ⟨fun k hk=>Sp.mem (List.mem_cons_of_mem _ (List.mem_map.2 ⟨k,hk,rfl⟩)),?_,fun k hk=>Sp.mem (List.mem_map.2 ⟨k,hk,rfl⟩)⟩
  have:=(red_zero h.tri).1 hz
  rwa [tri_fst] at this
 ·rename_i hn
  obtain ⟨l,c,hc,hl,hL,hF,hv⟩:=norm_row hr hn
  refine ⟨?_,?_,fun k hk=>Sp.mem (List.mem_map.2 ⟨k,by simp [hk],rfl⟩)⟩
  ·intro k hk
   rcases List.mem_append.1 hk with h' | h'
   ·exact Sp.mem (List.mem_cons_of_mem _ (List.mem_map.2 ⟨k,h',rfl⟩))
   ·simp at h';subst h'
    rw [hv,hred]
    refine Sp.scale c ?_
    have e:red (tri K) (vf (cat x)) = fun j=>vf (cat x) j ^^^ (vf (cat x) j ^^^ red (tri K) (vf (cat x)) j):=by funext j;rw [← xor_assoc,xor_self,zero_xor]
    rw [e]
    exact Sp.add (Sp.mem (by simp)) (hspan.cons _)
  ·have e:vf (cat x) = fun j=>gmul (ginv c) (vf (cat (normS (restF K x))) j) ^^^ (vf (cat x) j ^^^ red (tri K) (vf (cat x)) j):=by
    funext j
    rw [hv,hred]
    show _ = gmul (ginv c) (gmul c _) ^^^ _
    rw [← gmul_assoc,ginv_gmul c hc,one_gmul,xor_comm (red _ _ _),xor_cancel]
   rw [e]
   refine Sp.add (Sp.scale _ (Sp.mem (by simp))) (Sp.sub (fun a ha=>?_) hspan)
   simp only [List.mem_map] at ha ⊢
   obtain ⟨k,hk,rfl⟩:=ha
   exact ⟨k,by simp [hk],rfl⟩
theorem fold_rank {n:Nat} (Inv:List Rw→Prop) (f:List Rw→Rw→List Rw) (h0:Inv []) (hK:∀ K,Inv K→Kept n 0 K) (hf:∀ K x,Inv K→Fit n 0 x→Inv (f K x)∧(f K x).Perm (keepF K x)) (rows:List (List UInt8)) (hrows:∀ r,r ∈ rows→r.length = n) :
  Rk (rows.map vf) (rows.foldl (fun K r=>f K (r,[])) []).length:=by
 have key:∀ (todo:List (List UInt8)) (K:List Rw) (done:List V),(∀ r,r ∈ todo→r.length = n)→Inv K→(∀ k,k ∈ K→Sp done (vf (cat k)))→(∀ v,v ∈ done→Sp (K.map fun k=>vf (cat k)) v) →
   Inv (todo.foldl (fun K r=>f K (r,[])) K)∧(∀ k,k ∈ todo.foldl (fun K r=>f K (r,[])) K→Sp (done ++ todo.map vf) (vf (cat k)))∧(∀ v,v ∈ done ++ todo.map vf→Sp ((todo.foldl (fun K r=>f K (r,[])) K).map fun k=>vf (cat k)) v):=by
  intro todo
  induction todo with
  | nil=>intro K done _ h1 h2 h3;exact ⟨h1,fun k hk=>by simpa using h2 k hk,fun v hv=>h3 v (by simpa using hv)⟩
  | cons r todo ih =>
   intro K done hl h1 h2 h3
   have hx:Fit n 0 (r,[]):=⟨hl r (by simp),rfl⟩
   have ec:cat (r,[]) = r:=by simp [cat]
   obtain ⟨s1,s2,s3⟩:=kept_span (hK K h1) hx
   obtain ⟨i1,hp⟩:=hf K (r,[]) h1 hx
   have hm:∀ {v:V},Sp ((keepF K (r,[])).map fun k=>vf (cat k)) v→Sp ((f K (r,[])).map fun k=>vf (cat k)) v:=fun h=>Sp.sub (fun a ha=>by
    obtain ⟨k,hk,rfl⟩:=List.mem_map.1 ha
    exact List.mem_map.2 ⟨k,hp.mem_iff.2 hk,rfl⟩) h
   rw [ec] at s1 s2
   have:=ih (f K (r,[])) (done ++ [vf r]) (fun a ha=>hl a (by simp [ha])) i1 (fun k hk=>by
    refine Sp.trans ?_ (s1 k (hp.mem_iff.1 hk))
    intro a ha
    rcases List.mem_cons.1 ha with rfl | ha
    ·exact Sp.mem (by simp)
    ·obtain ⟨k',hk',rfl⟩:=List.mem_map.1 ha
     exact Sp.sub (fun b hb=>by simp [hb]) (h2 k' hk')) (fun v hv=>by
    rcases List.mem_append.1 hv with hv | hv
    ·refine Sp.trans ?_ (h3 v hv)
     intro a ha
     obtain ⟨k',hk',rfl⟩:=List.mem_map.1 ha
     exact hm (s3 k' hk')
    ·simp at hv;subst hv;exact hm s2)
   simpa using this
 obtain ⟨k1,k2,k3⟩:=key rows [] [] hrows h0 (by simp) (by simp)
 simp only [List.nil_append] at k2 k3
 refine ⟨_,(hK _ k1).tri.ind,?_,?_,?_⟩
 ·rw [tri_fst,List.length_map]
 ·intro b hb
  rw [tri_fst] at hb
  obtain ⟨k,hk,rfl⟩:=List.mem_map.1 hb
  exact k2 k hk
 ·intro a ha
  rw [tri_fst]
  exact k3 a ha
def insF (K:List Rw) (x:Rw):List Rw :=
 if leadS (normS (restF K x)).1 < 0 then K else K.takeWhile (fun r=>decide (leadS r.1 < leadS (normS (restF K x)).1)) ++ normS (restF K x) :: K.dropWhile (fun r=>decide (leadS r.1 < leadS (normS (restF K x)).1))
theorem norm_leadS (r:Rw):leadS (normS r).1 = leadS r.1:=by obtain ⟨v,d⟩:=r;exact norm_lead v d
theorem ins_perm (K:List Rw) (x:Rw):(insF K x).Perm (keepF K x):=by
 unfold insF keepF
 rw [norm_leadS]
 split
 ·exact List.Perm.refl _
 ·refine (List.perm_middle).trans ?_
  rw [List.takeWhile_append_dropWhile]
  exact (List.perm_append_singleton _ _).symm
structure KeptS (n t:Nat) (K:List Rw):Prop where
 rows:∀ k,k ∈ K→Fit n t k∧Led k
 sorted:K.Pairwise (fun a b=>leadN a < leadN b)
theorem vf_before {n t l:Nat} {r:Rw} (hf:Fit n t r) (h:Led r) (hl:l < leadN r):vf (cat r) l = 0:=by
 have hL:=h.at
 have:=hL.lt hf
 rw [vf_at hf (by omega)]
 have hz:=hL.2.2 l
 simp only [atS,Int.toNat_natCast,Int.natCast_nonneg,if_true,List.getD_eq_getElem?_getD]
 cases e:r.1[l]? with
 | none=>rfl
 | some y=>exact hz y hl e
theorem tri_of_sorted {n t:Nat}:∀ {K:List Rw},(∀ k,k ∈ K→Fit n t k∧Led k)→K.Pairwise (fun a b=>leadN a < leadN b)→Tri (tri K)
 | [],_,_=>trivial
 | k :: K,h1,h2=>by
  obtain ⟨g1,g2⟩:=List.pairwise_cons.1 h2
  obtain ⟨hf,hl⟩:=h1 k (by simp)
  refine ⟨vf_lead hl.at hf,?_,tri_of_sorted (fun a ha=>h1 a (by simp [ha])) g2⟩
  intro p hp
  obtain ⟨k',hk',rfl⟩:=tri_mem hp
  exact vf_before (h1 k' (by simp [hk'])).1 (h1 k' (by simp [hk'])).2 (g1 k' hk')
theorem KeptS.kept {n t:Nat} {K:List Rw} (h:KeptS n t K):Kept n t K:=⟨h.rows,tri_of_sorted h.rows h.sorted⟩
theorem KeptS.nil (n t:Nat):KeptS n t []:=⟨by simp,List.Pairwise.nil⟩
theorem mem_take {α:Type} {p:α→Bool}:∀ {l:List α} {a:α},a ∈ l.takeWhile p→p a = true
 | b :: l,a,h=>by
  rw [List.takeWhile_cons] at h
  split at h
  ·rename_i hb
   rcases List.mem_cons.1 h with rfl | h
   ·exact hb
   ·exact mem_take h
  ·simp at h
theorem drop_head {α:Type} {p:α→Bool}:∀ {l:List α} {a:α} {r:List α},l.dropWhile p = a :: r→p a = false
 | b :: l,a,r,h=>by
  rw [List.dropWhile_cons] at h
  split at h
  ·exact drop_head h
  ·rename_i hb
   simp at h
   rw [← h.1];simpa using hb
theorem KeptS.step {n t:Nat} {K:List Rw} {x:Rw} (h:KeptS n t K) (hx:Fit n t x):KeptS n t (insF K x):=by
 have hkk:=h.kept.step hx
 have hp:=ins_perm K x
 refine ⟨fun k hk=>hkk.rows k (hp.mem_iff.1 hk),?_⟩
 unfold insF
 split
 ·exact h.sorted
 ·rename_i hn
  rw [norm_leadS] at hn
  have hr:=hx.rest (fun k hk=>(h.rows k hk).1)
  obtain ⟨l,c,hc,hl,hL,hF,hv⟩:=norm_row hr hn
  have hln:=leadN_of hL
  rw [hL.1]
  have hne:∀ k,k ∈ K→leadN k≠l:=by
   intro k hk e
   have h1:vf (cat (normS (restF K x))) l = 1:=vf_lead hL hF
   have h2:vf (cat (normS (restF K x))) (leadN k) = 0:=by
    rw [hv]
    show gmul c (vf (cat (restF K x)) (leadN k)) = 0
    rw [rest_red h.rows hx,red_at h.kept.tri (vf (cat k),leadN k) (List.mem_map.2 ⟨k,hk,rfl⟩),gmul_zero]
   rw [e,h1] at h2
   exact absurd h2 (by decide)
  have hlead:∀ k,k ∈ K→leadS k.1 = (leadN k:Int):=fun k hk=>(h.rows k hk).2.at.1
  have hs:(K.takeWhile (fun r=>decide (leadS r.1 < (l:Int))) ++ K.dropWhile (fun r=>decide (leadS r.1 < (l:Int)))).Pairwise (fun a b=>leadN a < leadN b):=by
   rw [List.takeWhile_append_dropWhile];exact h.sorted
  have mT:∀ k,k ∈ K.takeWhile (fun r=>decide (leadS r.1 < (l:Int)))→k ∈ K∧leadN k < l:=by
   intro k hk
   have h1:=(List.takeWhile_sublist _).mem hk
   refine ⟨h1,?_⟩
   have:=mem_take hk
   rw [decide_eq_true_eq,hlead k h1] at this
   omega
  have mD:∀ k,k ∈ K.dropWhile (fun r=>decide (leadS r.1 < (l:Int)))→l < leadN k:=by
   obtain ⟨h1,h2,h3⟩:=List.pairwise_append.1 hs
   cases e:K.dropWhile (fun r=>decide (leadS r.1 < (l:Int))) with
   | nil=>intro k hk;simp at hk
   | cons a r =>
    have ha:a ∈ K:=(List.dropWhile_sublist _).mem (by rw [e];simp)
    have hd:=drop_head e
    rw [decide_eq_false_iff_not,hlead a ha] at hd
    have hla:l < leadN a:=by have:=hne a ha;omega
    rw [e] at h2
    intro k hk
    rcases List.mem_cons.1 hk with rfl | hk
    ·exact hla
    ·exact Nat.lt_trans hla ((List.pairwise_cons.1 h2).1 k hk)
  obtain ⟨h1,h2,h3⟩:=List.pairwise_append.1 hs
  refine List.pairwise_append.2 ⟨h1,List.pairwise_cons.2 ⟨fun k hk=>by rw [hln];exact mD k hk,h2⟩,?_⟩
  intro a ha b hb
  rcases List.mem_cons.1 hb with rfl | hb
  ·rw [hln];exact (mT a ha).2
  ·exact h3 a ha b hb
theorem ins_rank {n:Nat} (rows:List (List UInt8)) (hrows:∀ r,r ∈ rows→r.length = n):Rk (rows.map vf) (rows.foldl (fun K r=>insF K (r,[])) []).length :=
 fold_rank (KeptS n 0) insF (KeptS.nil n 0) (fun _ h=>h.kept) (fun K x h hx=>⟨h.step hx,ins_perm K x⟩) rows hrows
end Go.Proofs.YtccaiiigdfieoaaGreatDoor
namespace Go.By
open Go.RowKit
theorem wpAny_done {P:Program} {ops:Array Oper} {Q:Exit→Act→World→Prop} {listed:Array Bool} {a:Act} {w:World} (fuel:Nat) (hall:∀ j,j < ops.size→listed.getD j true = true) (h:Q .normal a w):wpAny P .any ops Q fuel listed a w:=by
 have hr:Region.ready .any ops listed = []:=by
  rw [List.eq_nil_iff_forall_not_mem]
  intro i hi
  obtain ⟨h1,h2,_⟩:=mem_ready.1 hi
  rw [hall i h1] at h2;cases h2
 cases fuel with
 | zero=>exact ⟨hr,h⟩
 | succ n=>exact ⟨fun _=>h,fun i hi=>by rw [hr] at hi;simp at hi⟩
def lastB (ops:Array Oper) (m:Nat):Bool:=decide (ops.size = m + 1) && (match ops[m]? with
 | some o=>o.guard.isNone
 | none=>false) && (List.range m).all fun i=>(List.range (m + 1)).any fun j=>decide (i < j) && match ops[j]? with
 | some o=>(preds o).contains i
 | none=>false
theorem wp_region_last {P:Program} {ops:Array Oper} {Q:Exit→Act→World→Prop} {id:Nat} {a0:Act} {w0:World} (sh:Nat→Shp) (n m:Nat) (hn:a0.tmps.size = n) (hm:P.follows .mixedOrders = true) (hback:backB ops = true) (hdist:distB ops = true)
  (hlast:lastB ops m = true) (hdsts:dstsB (ops.extract 0 m) n = true)
  (each:EachS P ops Q a0 w0.drew sh (ops.toList.take m) 0)
  (fin:∀ a w o,ops[m]? = some o→Below w0.heap.size w0 w→a.tmps.size = a0.tmps.size→a.defers = a0.defers→(∀ j,j < m→InvS ops sh j (sl a) w)→(∀ t,(ops.toList.all fun o=>o.dst != some t) = true→sl a t = sl a0 t)→o.wp P a w (fun a' w'=>Q .normal a' w') Q) :
  (Code.region id ops true).wp P Q a0 w0:=by
 unfold lastB at hlast
 rw [Bool.and_eq_true,Bool.and_eq_true] at hlast
 have hsz:ops.size = m + 1:=of_decide_eq_true hlast.1.1
 have hm':m < ops.size:=by omega
 obtain ⟨ol,hol⟩:∃ ol,ops[m]? = some ol:=⟨_,Array.getElem?_eq_getElem hm'⟩
 have hl2:=hlast.1.2
 rw [hol] at hl2
 have hguard:ol.guard = none:=by cases hg:ol.guard <;> simp [hg] at hl2 ⊢
 have hpl:∀ i,i < m→∃ j o,i < j∧j≤m∧ops[j]? = some o∧i ∈ preds o:=fun i hi=>by
  obtain ⟨j,hj,h⟩:=List.any_eq_true.1 (List.all_eq_true.1 hlast.2 i (List.mem_range.2 hi))
  have hjm:=List.mem_range.1 hj
  rw [Bool.and_eq_true] at h
  obtain ⟨oj,hoj⟩:∃ oj,ops[j]? = some oj:=⟨_,Array.getElem?_eq_getElem (by omega)⟩
  have h2:=h.2
  rw [hoj] at h2
  exact ⟨j,oj,of_decide_eq_true h.1,by omega,hoj,by simpa using h2⟩
 have hE:=each_of (Q:=Q) (P:=P) (a0:=a0) (W0:=w0.drew) (sh:=sh) hn (ops.toList.take m) 0 (fun j o hj=>by
   rw [List.getElem?_take] at hj;split at hj
   ·simpa using hj
   ·cases hj) (by
   unfold dstsB at hdsts
   have e:(ops.extract 0 m).toList = ops.toList.take m:=by simp
   rw [e] at hdsts;exact hdsts) each
 have stepAt:∀ i o,i < m→ops[i]? = some o→StepOf P ops Q a0 w0.drew (fun W w=>Below W.heap.size W w) (fun _ w w'=>Below w.heap.size w w') (InvS ops sh) i o:=fun i o hi ho=>by
  have:=Each.get _ 0 hE i o (by rw [List.getElem?_take,if_pos hi];simpa using ho)
  rwa [Nat.zero_add] at this
 have stable:∀ i j oi oj (σ σ':Nat→Value) w w',i≠j→ops[i]? = some oi→ops[j]? = some oj→InvS ops sh j σ w→Below w.heap.size w w'→(∀ t,oi.dst≠some t→σ' t = σ t)→InvS ops sh j σ' w':=by
  intro i j oi oj σ σ' w w' hij hoi hoj hI hR hσ
  unfold InvS at hI ⊢
  cases hdj:dstOf ops j with
  | none=>trivial
  | some d =>
   rw [hdj] at hI
   show (sh j).ok (σ' d) w'
   have hne:oi.dst≠some d:=by
    intro e
    have hi':i < ops.size:=(Array.getElem?_eq_some_iff.1 hoi).1
    have hj':j < ops.size:=(Array.getElem?_eq_some_iff.1 hoj).1
    have:=List.all_eq_true.1 (List.all_eq_true.1 hdist i (List.mem_range.2 hi')) j (List.mem_range.2 hj')
    rw [hoi,hoj] at this
    have hdj':oj.dst = some d:=by simpa [dstOf,hoj] using hdj
    simp [e,hdj',hij] at this
   rw [hσ d hne]
   exact (sh j).keep _ _ _ hI hR
 refine wp_region_any hm ?_
 show wpAny P .any ops Q ops.size (Array.replicate ops.size false) a0 w0.drew
 have main:∀ (fuel:Nat) (listed:Array Bool) (a:Act) (w:World),unl ops.size listed≤fuel→listed.getD m true = false→Below w0.heap.size w0 w→a.tmps.size = a0.tmps.size→a.defers = a0.defers →
   (∀ j o,listed.getD j false = true→ops[j]? = some o→∀ k,k ∈ preds o→listed.getD k false = true) →
   (∀ j,j < ops.size→listed.getD j true = true→listed.getD j false = true) →
   (∀ j,j < m→listed.getD j false = true→InvS ops sh j (sl a) w) →
   (∀ t,(∀ j o,j < m→listed.getD j false = true→ops[j]? = some o→o.dst≠some t)→sl a t = sl a0 t)→wpAny P .any ops Q fuel listed a w:=by
  intro fuel
  induction fuel with
  | zero =>
   intro listed a w hu hlm
   exfalso
   have h0:unl ops.size listed = 0:=by omega
   unfold unl at h0
   have:=List.countP_eq_zero.1 h0 m (List.mem_range.2 hm')
   simp [hlm] at this
  | succ fuel ih =>
   intro listed a w hu hlm hEw hs hd hcl hlt hI ht
   refine ⟨fun hr=>?_,fun i hi=>?_⟩
   ·exfalso
    have hall:∀ k j,j < k→j < ops.size→listed.getD j false = true:=by
     intro k
     induction k with
     | zero=>intro j hj;omega
     | succ k ihk =>
      intro j hj hjs
      refine hlt j hjs ?_
      cases hb:listed.getD j true with
      | true=>rfl
      | false =>
       exfalso
       have ho:ops[j]? = some ops[j]:=Array.getElem?_eq_getElem hjs
       have:j ∈ Region.ready .any ops listed:=mem_ready.2 ⟨hjs,hb,_,ho,fun q hq=>by
        have hbk:=List.all_eq_true.1 hback j (List.mem_range.2 hjs)
        rw [ho] at hbk
        have hkj:=of_decide_eq_true (List.all_eq_true.1 hbk q hq)
        exact ihk q (by omega) (by omega)⟩
       rw [hr] at this;cases this
    have hx:=hall (m + 1) m (by omega) hm'
    rcases Nat.lt_or_ge m listed.size with h | h
    ·simp [Array.getD_eq_getD_getElem?,h] at hlm hx;rw [hlm] at hx;cases hx
    ·simp [Array.getD_eq_getD_getElem?,Array.getElem?_eq_none h] at hx
   ·obtain ⟨h1,h2,o,ho,h3⟩:=mem_ready.1 hi
    have hnl:listed.getD i false≠true:=by
     intro hx
     rcases Nat.lt_or_ge i listed.size with h | h
     ·simp [Array.getD_eq_getD_getElem?,h] at h2 hx;rw [h2] at hx;cases hx
     ·simp [Array.getD_eq_getD_getElem?,Array.getElem?_eq_none h] at hx
    have his:i < listed.size:=by
     rcases Nat.lt_or_ge i listed.size with h | h
     ·exact h
     ·simp [Array.getD_eq_getD_getElem?,Array.getElem?_eq_none h] at h2
    have gset:∀ j (d:Bool),(listed.setIfInBounds i true).getD j d = if i = j then true else listed.getD j d:=by
     intro j d
     simp only [Array.getD_eq_getD_getElem?,Array.getElem?_setIfInBounds]
     by_cases e:i = j
     ·subst e;simp [his]
     ·simp [e]
    by_cases him:i = m
    ·subst him
     rw [hol] at ho;cases ho
     have hdown:∀ d j,i - j≤d→j < i→listed.getD j false = true:=by
      intro d
      induction d with
      | zero=>intro j h4 h5;omega
      | succ d ihd =>
       intro j h4 h5
       obtain ⟨j2,o2,g1,g2,g3,g4⟩:=hpl j h5
       by_cases e:j2 = i
       ·subst e;rw [hol] at g3;cases g3;exact h3 j g4
       ·exact hcl j2 o2 (ihd j2 (by omega) (by omega)) g3 j g4
     have hdn:∀ j,j < i→listed.getD j false = true:=fun j hj=>hdown i j (by omega) hj
     have hf:=fin a w ol hol hEw hs hd (fun j hj=>hI j hj (hdn j hj)) (fun t htt=>ht t (fun j oj hj _ hoj=>by
      have:=List.all_eq_true.1 htt oj (by rw [Array.mem_toList_iff];exact Array.mem_of_getElem? hoj)
      simpa using this))
     unfold wpOp
     rw [hol]
     show if Region.wanted ol (yielded ops a.tmps) = true then _ else _
     rw [if_pos (by simp [Region.wanted,hguard])]
     refine .inl (Oper.wp_mono (fun a' w' hq=>wpAny_done _ (fun j hj=>?_) hq) hf)
     rw [gset]
     by_cases e:i = j
     ·rw [if_pos e]
     ·rw [if_neg e]
      have hjl:=hdn j (by omega)
      rcases Nat.lt_or_ge j listed.size with h | h
      ·simp [Array.getD_eq_getD_getElem?,h] at hjl ⊢;exact hjl
      ·simp [Array.getD_eq_getD_getElem?,Array.getElem?_eq_none h]
    ·have him':i < m:=by omega
     have hst:=stepAt i o him' ho
     have hst':=hst a w ⟨hEw.os,hEw.tape,hEw.output,hEw.size,hEw.block⟩ hs (fun k hk=>hI k (by
       have hbk:=List.all_eq_true.1 hback i (List.mem_range.2 h1)
       rw [ho] at hbk
       have:=of_decide_eq_true (List.all_eq_true.1 hbk k hk);omega) (h3 k hk)) (fun t hti=>by
      refine ht t (fun j oj hj hlj hoj hdj=>?_)
      have:=List.all_eq_true.1 hti j (List.mem_range.2 (by omega))
      rw [hoj] at this
      by_cases e:j = i
      ·subst e;exact hnl hlj
      ·simp [e,hdj] at this
       exact hnl (hcl j oj hlj hoj i this))
     have next:∀ (v:Value) (w':World),Below w.heap.size w w'→InvS ops sh i (sl (a.put o.dst v)) w'→wpAny P .any ops Q fuel (listed.setIfInBounds i true) (a.put o.dst v) w':=by
      intro v w' hR hIi
      refine ih _ _ _ (by have:=unl_set (n:=ops.size) h1 h2;omega) (by rw [gset,if_neg him];exact hlm) (hEw.trans (hR.mono hEw.size)) ((put_size _ _ _).trans hs) ((put_defers _ _ _).trans hd) ?_ ?_ ?_ ?_
      ·intro j oj hj hoj k hk
       rw [gset] at hj ⊢
       by_cases e:i = k
       ·rw [if_pos e]
       ·rw [if_neg e]
        by_cases e':i = j
        ·subst e';rw [ho] at hoj;cases hoj;exact h3 k hk
        ·rw [if_neg e'] at hj;exact hcl j oj hj hoj k hk
      ·intro j hj hl
       rw [gset] at hl ⊢
       by_cases e:i = j
       ·rw [if_pos e]
       ·rw [if_neg e] at hl ⊢;exact hlt j hj hl
      ·intro j hj hl
       rw [gset] at hl
       by_cases e:i = j
       ·subst e;exact hIi
       ·rw [if_neg e] at hl
        have hoj:ops[j]? = some ops[j]:=Array.getElem?_eq_getElem (by omega)
        exact stable i j o _ (sl a) _ w w' e ho hoj (hI j hj hl) hR (fun t h=>put_sl _ _ _ _ h)
      ·intro t htt
       have hdt:o.dst≠some t:=htt i o him' (by rw [gset,if_pos rfl]) ho
       rw [put_sl _ _ _ _ hdt]
       exact ht t (fun j oj hj hl hoj=>htt j oj hj (by rw [gset];split <;> simp [hl]) hoj)
     unfold wpOp
     rw [ho]
     show if Region.wanted o (yielded ops a.tmps) = true then _ else _
     split
     ·rename_i hw
      rw [if_pos hw] at hst'
      exact .inl (Oper.wp_mono (fun a' w' ⟨v,e,hR,hIi⟩=>by rw [e] at hIi ⊢;exact next v w' hR hIi) hst')
     ·rename_i hw
      rw [if_neg hw] at hst'
      exact next undef w hst'.1 hst'.2
 refine main ops.size _ a0 w0.drew ?_ ?_ ⟨rfl,rfl,rfl,Nat.le_refl _,fun _ _=>rfl⟩ rfl rfl ?_ ?_ ?_ ?_
 ·unfold unl;exact Nat.le_trans List.countP_le_length (by simp)
 ·simp [Array.getD_eq_getD_getElem?,Array.getElem?_replicate,hm']
 ·intro j o hj;simp [Array.getD_eq_getD_getElem?,Array.getElem?_replicate] at hj
  split at hj <;> simp at hj
 ·intro j hj hl;simp [Array.getD_eq_getD_getElem?,Array.getElem?_replicate,hj] at hl
 ·intro j hj hl;simp [Array.getD_eq_getD_getElem?,Array.getElem?_replicate,show j < ops.size by omega] at hl
 ·intro t _;rfl
theorem wp_skip_none {P:Program} {o:Oper} {a:Act} {w w':World} {K:Act→World→Prop} {Q:Exit→Act→World→Prop} (hd:o.dst = none) (hrun:(execOp a.eval o).run P w = .ok .skip w') (h:K a w'):o.wp P a w K Q :=
 wp_skipX hrun (by rw [hd];exact h)
end Go.By
namespace Go.By
open Go.RowKit
def lateB (ops:Array Oper) (m e:Nat):Bool:=decide (ops.size = m + 1) && decide (e < m) && match ops[m]? with
 | some o=>o.guard.isNone && o.dst.isNone && (List.range m).all fun i=>i == e || (preds o).contains i
 | none=>false
theorem wpAny_one {P:Program} {ops:Array Oper} {Q:Exit→Act→World→Prop} {listed:Array Bool} {a:Act} {w:World} {e:Nat} {oe:Oper} (fuel:Nat) (he:ops[e]? = some oe) (hall:∀ j,j < ops.size→j≠e→listed.getD j true = true) (hle:listed.getD e true = false) (hpe:∀ k,k ∈ preds oe→listed.getD k false = true)
  (hu:unl ops.size listed≤fuel) (hg:oe.guard = none) (h:oe.wp P a w (fun a' w'=>Q .normal a' w') Q):wpAny P .any ops Q fuel listed a w:=by
 have hes:e < ops.size:=(Array.getElem?_eq_some_iff.1 he).1
 have hin:e ∈ Region.ready .any ops listed:=mem_ready.2 ⟨hes,hle,oe,he,hpe⟩
 cases fuel with
 | zero =>
  exfalso
  have h0:unl ops.size listed = 0:=by omega
  unfold unl at h0
  have:=List.countP_eq_zero.1 h0 e (List.mem_range.2 hes)
  simp [hle] at this
 | succ n =>
  refine ⟨fun hr=>by rw [hr] at hin;simp at hin,fun i hi=>?_⟩
  have hie:i = e:=by
   apply Classical.byContradiction
   intro hne
   obtain ⟨h1,h2,_⟩:=mem_ready.1 hi
   rw [hall i h1 hne] at h2;cases h2
  subst hie
  unfold wpOp
  rw [he]
  show if Region.wanted oe (yielded ops a.tmps) = true then _ else _
  rw [if_pos (by simp [Region.wanted,hg])]
  have his:i < listed.size:=by
   rcases Nat.lt_or_ge i listed.size with h | h
   ·exact h
   ·simp [Array.getD_eq_getD_getElem?,Array.getElem?_eq_none h] at hle
  refine .inl (Oper.wp_mono (fun a' w' hq=>wpAny_done _ (fun j hj=>?_) hq) h)
  simp only [Array.getD_eq_getD_getElem?,Array.getElem?_setIfInBounds]
  by_cases e2:i = j
  ·subst e2;simp [his]
  ·rw [if_neg e2]
   have:=hall j hj (fun h=>e2 h.symm)
   simpa [Array.getD_eq_getD_getElem?] using this
theorem wp_region_late {P:Program} {ops:Array Oper} {Q:Exit→Act→World→Prop} {id:Nat} {a0:Act} {w0:World} (sh:Nat→Shp) (n m e t d:Nat) (hn:a0.tmps.size = n) (hm:P.follows .mixedOrders = true) (hback:backB ops = true) (hdist:distB ops = true)
  (hlast:lateB ops m e = true) (oe:Oper) (hoe:ops[e]? = some oe) (hge:oe.guard = none) (hde:oe.dst = some d) (hdn:d < n)
  (hrun:∀ (a:Act) (u x:Value) (w:World),sl a t = .tuple #[u,x]→∃ v,(execOp a.eval oe).run P w = .ok (.value v) w) (hdsts:dstsB (ops.extract 0 m) n = true)
  (each:EachS P ops Q a0 w0.drew sh (ops.toList.take m) 0)
  (fin:∀ a w o,ops[m]? = some o→Below w0.heap.size w0 w→a.tmps.size = a0.tmps.size→a.defers = a0.defers→(∀ j,j < m→j≠e→InvS ops sh j (sl a) w)→(∀ t,(ops.toList.all fun o=>o.dst != some t) = true→sl a t = sl a0 t) →
   (∃ u x,sl a t = .tuple #[u,x])∧o.wp P a w (fun a' w'=>a' = a∧∀ b:Act,b.tmps.size = a0.tmps.size→b.defers = a0.defers→(∀ t',t'≠d→sl b t' = sl a t')→Q .normal b w') Q) :
  (Code.region id ops true).wp P Q a0 w0:=by
 unfold lateB at hlast
 rw [Bool.and_eq_true,Bool.and_eq_true] at hlast
 have hsz:ops.size = m + 1:=of_decide_eq_true hlast.1.1
 have hem:e < m:=of_decide_eq_true hlast.1.2
 have hm':m < ops.size:=by omega
 obtain ⟨ol,hol⟩:∃ ol,ops[m]? = some ol:=⟨_,Array.getElem?_eq_getElem hm'⟩
 have hl2:=hlast.2
 rw [hol] at hl2
 simp only [Bool.and_eq_true] at hl2
 have hguard:ol.guard = none:=by cases hg:ol.guard <;> simp [hg] at hl2 ⊢
 have hdst:ol.dst = none:=by cases hg:ol.dst <;> simp [hg] at hl2 ⊢
 have hpl:∀ i,i < m→i≠e→i ∈ preds ol:=fun i hi hne=>by
  have:=List.all_eq_true.1 hl2.2 i (List.mem_range.2 hi)
  simpa [hne] using this
 have hE:=each_of (Q:=Q) (P:=P) (a0:=a0) (W0:=w0.drew) (sh:=sh) hn (ops.toList.take m) 0 (fun j o hj=>by
   rw [List.getElem?_take] at hj;split at hj
   ·simpa using hj
   ·cases hj) (by
   unfold dstsB at hdsts
   have e:(ops.extract 0 m).toList = ops.toList.take m:=by simp
   rw [e] at hdsts;exact hdsts) each
 have stepAt:∀ i o,i < m→ops[i]? = some o→StepOf P ops Q a0 w0.drew (fun W w=>Below W.heap.size W w) (fun _ w w'=>Below w.heap.size w w') (InvS ops sh) i o:=fun i o hi ho=>by
  have:=Each.get _ 0 hE i o (by rw [List.getElem?_take,if_pos hi];simpa using ho)
  rwa [Nat.zero_add] at this
 have stable:∀ i j oi oj (σ σ':Nat→Value) w w',i≠j→ops[i]? = some oi→ops[j]? = some oj→InvS ops sh j σ w→Below w.heap.size w w'→(∀ t,oi.dst≠some t→σ' t = σ t)→InvS ops sh j σ' w':=by
  intro i j oi oj σ σ' w w' hij hoi hoj hI hR hσ
  unfold InvS at hI ⊢
  cases hdj:dstOf ops j with
  | none=>trivial
  | some d =>
   rw [hdj] at hI
   show (sh j).ok (σ' d) w'
   have hne:oi.dst≠some d:=by
    intro e
    have hi':i < ops.size:=(Array.getElem?_eq_some_iff.1 hoi).1
    have hj':j < ops.size:=(Array.getElem?_eq_some_iff.1 hoj).1
    have:=List.all_eq_true.1 (List.all_eq_true.1 hdist i (List.mem_range.2 hi')) j (List.mem_range.2 hj')
    rw [hoi,hoj] at this
    have hdj':oj.dst = some d:=by simpa [dstOf,hoj] using hdj
    simp [e,hdj',hij] at this
   rw [hσ d hne]
   exact (sh j).keep _ _ _ hI hR
 refine wp_region_any hm ?_
 show wpAny P .any ops Q ops.size (Array.replicate ops.size false) a0 w0.drew
 have main:∀ (fuel:Nat) (listed:Array Bool) (a:Act) (w:World),unl ops.size listed≤fuel→listed.getD m true = false→Below w0.heap.size w0 w→a.tmps.size = a0.tmps.size→a.defers = a0.defers →
   (∀ j o,listed.getD j false = true→ops[j]? = some o→∀ k,k ∈ preds o→listed.getD k false = true) →
   (∀ j,j < ops.size→listed.getD j true = true→listed.getD j false = true) →
   (∀ j,j < m→listed.getD j false = true→InvS ops sh j (sl a) w) →
   (∀ t,(∀ j o,j < m→listed.getD j false = true→ops[j]? = some o→o.dst≠some t)→sl a t = sl a0 t)→wpAny P .any ops Q fuel listed a w:=by
  intro fuel
  induction fuel with
  | zero =>
   intro listed a w hu hlm
   exfalso
   have h0:unl ops.size listed = 0:=by omega
   unfold unl at h0
   have:=List.countP_eq_zero.1 h0 m (List.mem_range.2 hm')
   simp [hlm] at this
  | succ fuel ih =>
   intro listed a w hu hlm hEw hs hd hcl hlt hI ht
   refine ⟨fun hr=>?_,fun i hi=>?_⟩
   ·exfalso
    have hall:∀ k j,j < k→j < ops.size→listed.getD j false = true:=by
     intro k
     induction k with
     | zero=>intro j hj;omega
     | succ k ihk =>
      intro j hj hjs
      refine hlt j hjs ?_
      cases hb:listed.getD j true with
      | true=>rfl
      | false =>
       exfalso
       have ho:ops[j]? = some ops[j]:=Array.getElem?_eq_getElem hjs
       have:j ∈ Region.ready .any ops listed:=mem_ready.2 ⟨hjs,hb,_,ho,fun q hq=>by
        have hbk:=List.all_eq_true.1 hback j (List.mem_range.2 hjs)
        rw [ho] at hbk
        have hkj:=of_decide_eq_true (List.all_eq_true.1 hbk q hq)
        exact ihk q (by omega) (by omega)⟩
       rw [hr] at this;cases this
    have hx:=hall (m + 1) m (by omega) hm'
    rcases Nat.lt_or_ge m listed.size with h | h
    ·simp [Array.getD_eq_getD_getElem?,h] at hlm hx;rw [hlm] at hx;cases hx
    ·simp [Array.getD_eq_getD_getElem?,Array.getElem?_eq_none h] at hx
   ·obtain ⟨h1,h2,o,ho,h3⟩:=mem_ready.1 hi
    have hnl:listed.getD i false≠true:=by
     intro hx
     rcases Nat.lt_or_ge i listed.size with h | h
     ·simp [Array.getD_eq_getD_getElem?,h] at h2 hx;rw [h2] at hx;cases hx
     ·simp [Array.getD_eq_getD_getElem?,Array.getElem?_eq_none h] at hx
    have his:i < listed.size:=by
     rcases Nat.lt_or_ge i listed.size with h | h
     ·exact h
     ·simp [Array.getD_eq_getD_getElem?,Array.getElem?_eq_none h] at h2
    have gset:∀ j (d:Bool),(listed.setIfInBounds i true).getD j d = if i = j then true else listed.getD j d:=by
     intro j d
     simp only [Array.getD_eq_getD_getElem?,Array.getElem?_setIfInBounds]
     by_cases e:i = j
     ·subst e;simp [his]
     ·simp [e]
    by_cases him:i = m
    ·subst him
     rw [hol] at ho;cases ho
     obtain ⟨⟨u,x,htu⟩,hf⟩:=fin a w ol hol hEw hs hd (fun j hj hje=>hI j hj (h3 j (hpl j hj hje))) (fun t htt=>ht t (fun j oj hj _ hoj=>by
      have:=List.all_eq_true.1 htt oj (by rw [Array.mem_toList_iff];exact Array.mem_of_getElem? hoj)
      simpa using this))
     unfold wpOp
     rw [hol]
     show if Region.wanted ol (yielded ops a.tmps) = true then _ else _
     rw [if_pos (by simp [Region.wanted,hguard])]
     have toT:∀ j,listed.getD j false = true→listed.getD j true = true:=fun j hjl=>by
      rcases Nat.lt_or_ge j listed.size with h | h
      ·simp [Array.getD_eq_getD_getElem?,h] at hjl ⊢;exact hjl
      ·simp [Array.getD_eq_getD_getElem?,Array.getElem?_eq_none h] at hjl
     refine .inl (Oper.wp_mono (fun a' w' hq=>?_) hf)
     obtain ⟨rfl,hq⟩:=hq
     cases hle:listed.getD e true with
     | true =>
      refine wpAny_done _ (fun j hj=>?_) (hq a' hs hd (fun _ _=>rfl))
      rw [gset]
      by_cases e2:i = j
      ·rw [if_pos e2]
      ·rw [if_neg e2]
       by_cases e3:j = e
       ·subst e3;exact hle
       ·exact toT j (h3 j (hpl j (by omega) e3))
     | false =>
      obtain ⟨v,hv⟩:=hrun a' u x w' htu
      refine wpAny_one _ hoe (fun j hj hje=>?_) (by rw [gset,if_neg (by omega)];exact hle) (fun k hk=>?_) (by have:=unl_set (n:=ops.size) h1 h2;omega) hge ?_
      ·rw [gset]
       by_cases e2:i = j
       ·rw [if_pos e2]
       ·rw [if_neg e2];exact toT j (h3 j (hpl j (by omega) hje))
      ·have hbk:=List.all_eq_true.1 hback e (List.mem_range.2 (by omega))
       rw [hoe] at hbk
       have hke:=of_decide_eq_true (List.all_eq_true.1 hbk k hk)
       rw [gset,if_neg (by omega)]
       exact h3 k (hpl k (by omega) (by omega))
      ·refine wp_val v hv ?_
       refine hq _ ((put_size _ _ _).trans hs) ((put_defers _ _ _).trans hd) (fun t' ht'=>?_)
       rw [hde,put_sl _ _ _ _ (fun h=>ht' (by injection h with h;exact h.symm))]
    ·have him':i < m:=by omega
     have hst:=stepAt i o him' ho
     have hst':=hst a w ⟨hEw.os,hEw.tape,hEw.output,hEw.size,hEw.block⟩ hs (fun k hk=>hI k (by
       have hbk:=List.all_eq_true.1 hback i (List.mem_range.2 h1)
       rw [ho] at hbk
       have:=of_decide_eq_true (List.all_eq_true.1 hbk k hk);omega) (h3 k hk)) (fun t hti=>by
      refine ht t (fun j oj hj hlj hoj hdj=>?_)
      have:=List.all_eq_true.1 hti j (List.mem_range.2 (by omega))
      rw [hoj] at this
      by_cases e:j = i
      ·subst e;exact hnl hlj
      ·simp [e,hdj] at this
       exact hnl (hcl j oj hlj hoj i this))
     have next:∀ (v:Value) (w':World),Below w.heap.size w w'→InvS ops sh i (sl (a.put o.dst v)) w'→wpAny P .any ops Q fuel (listed.setIfInBounds i true) (a.put o.dst v) w':=by
      intro v w' hR hIi
      refine ih _ _ _ (by have:=unl_set (n:=ops.size) h1 h2;omega) (by rw [gset,if_neg him];exact hlm) (hEw.trans (hR.mono hEw.size)) ((put_size _ _ _).trans hs) ((put_defers _ _ _).trans hd) ?_ ?_ ?_ ?_
      ·intro j oj hj hoj k hk
       rw [gset] at hj ⊢
       by_cases e:i = k
       ·rw [if_pos e]
       ·rw [if_neg e]
        by_cases e':i = j
        ·subst e';rw [ho] at hoj;cases hoj;exact h3 k hk
        ·rw [if_neg e'] at hj;exact hcl j oj hj hoj k hk
      ·intro j hj hl
       rw [gset] at hl ⊢
       by_cases e:i = j
       ·rw [if_pos e]
       ·rw [if_neg e] at hl ⊢;exact hlt j hj hl
      ·intro j hj hl
       rw [gset] at hl
       by_cases e:i = j
       ·subst e;exact hIi
       ·rw [if_neg e] at hl
        have hoj:ops[j]? = some ops[j]:=Array.getElem?_eq_getElem (by omega)
        exact stable i j o _ (sl a) _ w w' e ho hoj (hI j hj hl) hR (fun t h=>put_sl _ _ _ _ h)
      ·intro t htt
       have hdt:o.dst≠some t:=htt i o him' (by rw [gset,if_pos rfl]) ho
       rw [put_sl _ _ _ _ hdt]
       exact ht t (fun j oj hj hl hoj=>htt j oj hj (by rw [gset];split <;> simp [hl]) hoj)
     unfold wpOp
     rw [ho]
     show if Region.wanted o (yielded ops a.tmps) = true then _ else _
     split
     ·rename_i hw
      rw [if_pos hw] at hst'
      exact .inl (Oper.wp_mono (fun a' w' ⟨v,e,hR,hIi⟩=>by rw [e] at hIi ⊢;exact next v w' hR hIi) hst')
     ·rename_i hw
      rw [if_neg hw] at hst'
      exact next undef w hst'.1 hst'.2
 refine main ops.size _ a0 w0.drew ?_ ?_ ⟨rfl,rfl,rfl,Nat.le_refl _,fun _ _=>rfl⟩ rfl rfl ?_ ?_ ?_ ?_
 ·unfold unl;exact Nat.le_trans List.countP_le_length (by simp)
 ·simp [Array.getD_eq_getD_getElem?,Array.getElem?_replicate,hm']
 ·intro j o hj;simp [Array.getD_eq_getD_getElem?,Array.getElem?_replicate] at hj
  split at hj <;> simp at hj
 ·intro j hj hl;simp [Array.getD_eq_getD_getElem?,Array.getElem?_replicate,hj] at hl
 ·intro j hj hl;simp [Array.getD_eq_getD_getElem?,Array.getElem?_replicate,show j < ops.size by omega] at hl
 ·intro t _;rfl
def RowN (B:Nat) (r:List UInt8 × List UInt8) (v:Value) (w:World):Prop:=∃ p1 n1 c1 p2 n2 c2,v = .agg #[.slice p1 n1 c1,.slice p2 n2 c2]∧Sl B8 w p1 n1 c1 r.1∧Sl B8 w p2 n2 c2 r.2∧(∀ a,p1 = some a→B≤a.block)∧∀ a,p2 = some a→B≤a.block
def Shp.rowN (B:Nat) (r:List UInt8 × List UInt8):Shp:=⟨RowN B r,fun _ _ _ ⟨p1,n1,c1,p2,n2,c2,e,h1,h2,h3,h4⟩ hb=>⟨p1,n1,c1,p2,n2,c2,e,h1.keep hb,h2.keep hb,h3,h4⟩⟩
def RowTN (B:Nat) (r:List UInt8 × List UInt8) (code:Int) (v:Value) (w:World):Prop:=∃ u,v = .tuple #[u,.int .i64 code]∧RowN B r u w
def Shp.rowTN (B:Nat) (r:List UInt8 × List UInt8) (code:Int):Shp:=⟨RowTN B r code,fun _ _ _ ⟨u,e,h⟩ hb=>⟨u,e,(Shp.rowN B r).keep _ _ _ h hb⟩⟩
theorem grownBy_setCell' (w:World) (g o:Nat) (v:Value):w.grownBy (w.setCell ⟨g,o,none⟩ v) (some g) :=
 ⟨rfl,rfl,rfl,by simp,fun b hb hne=>Below.heap_setCell _ _ _ _ (fun e=>hne (by rw [e]))⟩
theorem Sl.set {α:Type} {enc:α→Value} {w:World} {p:Option Addr} {n c g o:Nat} {v:Value} {xs:List α} (h:Sl enc w p n c xs) (hne:∀ a,p = some a→a.block≠g):Sl enc (w.setCell ⟨g,o,none⟩ v) p n c xs :=
 h.grown (grownBy_setCell' w g o v) (fun a ha e=>hne a ha (by injection e))
theorem run_extract1 {P:Program} {a:Act} {u x:Value} {w:World} {t:Nat} (oe:Oper) (hop:oe.op = .extract (.tmp t) 1) (h:sl a t = .tuple #[u,x]):∃ v,(execOp a.eval oe).run P w = .ok (.value v) w :=
 ⟨x,by unfold execOp;rw [hop];simp only [eval_tmp,h];rfl⟩
end Go.By
namespace Go.Proofs.YtccaiiigdfieoaaGreatDoor
open Go.RowKit Go.By
theorem info_vrow:(Tryz.prog.info? 99).map (fun i=>(i.zero,i.size,i.bytes)) = some (some (.agg #[.slice none 0 0,.slice none 0 0]),2,48):=by kernel_rfl
theorem keepF_len (K:List Rw) (x:Rw):(keepF K x).length≤K.length + 1:=by unfold keepF;split <;> simp
theorem restF_snoc (K:List Rw) (k x:Rw):restF (K ++ [k]) x = lessF (restF K x) (atS (restF K x).1 (leadS k.1)) k:=by unfold restF;rw [List.foldl_append];rfl
theorem restF_take {K:List Rw} {j:Nat} {k x:Rw} (h:K[j]? = some k):restF (K.take (j + 1)) x = lessF (restF (K.take j) x) (atS (restF (K.take j) x).1 (leadS k.1)) k:=by
 have e:K.take (j + 1) = K.take j ++ [k]:=by
  rw [List.take_add_one,h];rfl
 rw [e,restF_snoc]
theorem lessS_fit {n t:Nat} {x k:Rw} {c:UInt8} (hx:Fit n t x) (hk:Fit n t k):lessS x c k = (lessF x c k,0):=by
 unfold lessS lessF
 rw [if_pos ⟨by rw [hx.1,hk.1],by rw [hx.2,hk.2]⟩]
end Go.Proofs.YtccaiiigdfieoaaGreatDoor
