/- A region that draws its order,op by op: an invariant in place of the orders. Any program. Slices of byte slices that the call itself makes. A region that draws its order and stores nothing: each operation has a shape that lasts. A region that draws its order,with one store into a block of its own: each operation has a shape that lasts. The frame behind a region that draws its order; one operation with its operands known. A guard that never ran says no. A region that draws its order,whose last operation waits for all others (a store): shapes for the others,then the last one. A region that draws its order,whose first m operations are shapes,and whose others wait each for the one ahead of it: these are walked in their order. Plain: the sum of 32 bits,half a byte at a time and bit by bit. Plain: numbers of 32 bits as four bytes; sums of parts. Chapter 4: sum.Put,Start,Sum (under way). Chapter 4: sum.Start,With,Sum,Of,Get. Chapter 4: sum.Of,Get. Small laws for packets: parts of slices,literal slices of slices,results that read. Plain: words between blanks,decimal numbers. No program in sight. Plain: bytes as digits of base 16,and back. No program in sight. Chapter 24,the reference: a digit. A builder in a block of its own; the digits of base 16. An append stays in its own block,or goes to a new one. The contracts of slices.Grow and Concat at bytes; of the whole of the symbols. The contracts of a grid's parts: blank,row,Width,Height,Same. The contracts of grid.Of,and of the reference's Of; Few. The contracts of grid.Unit and Rows. A slice of rows that the call owns. The contracts of the reference's functions of layer 2: Dot,Scale. The contract of the reference's combination. The walk of the law KernPairs. The contracts of the reference's functions of layer 3,and its inverse. The contracts of the reference's functions of layer 3. The contracts of the reference's Less and Same of layer 3,of the law's helpers,and of Unit. The plain law of VecLeads: what is normed leads with a 1,and so on. Linear algebra over the field of 256 elements: combinations,spans,independence,exchange,elimination. Nothing of the program. Vectors of n places: units,coordinates; products of rows; rows and columns have one rank; what is inverse from the left is from the right. -/
import Derived.Test.YtccaiiigdfieoaaGreatDoorZm1
import Derived.RegionTactic
import Derived.WalkKit
import Derived.Lib.AppendZeros
import Derived.BigFrame
import Derived.Lib.SplitLaws
import Derived.Lib.ItoaNum
import Derived.Lib.Join
import Derived.Laws.AppendOwn
import Derived.Deep.AppendLies
namespace Go.By
open Go.RowKit
def preds (o:Oper):List Nat:=(o.after.toList.filter (fun e=>Region.binds .any e)).map (·.on)
def sl (a:Act) (t:Nat):Value:=a.tmps.getD t undef
def initAt (ops:Array Oper) (i t:Nat):Bool:=(List.range ops.size).all fun j=>j == i || match ops[j]? with
 | some o=>(o.dst != some t) || (preds o).contains i
 | none=>true
def backB (ops:Array Oper):Bool:=(List.range ops.size).all fun i=>match ops[i]? with
 | some o=>(preds o).all (fun k=>decide (k < i))
 | none=>true
theorem mem_ready {ops:Array Oper} {listed:Array Bool} {i:Nat}:i ∈ Region.ready .any ops listed↔i < ops.size∧listed.getD i true = false∧∃ o,ops[i]? = some o∧∀ k,k ∈ preds o→listed.getD k false = true:=by
 simp only [Region.ready,List.mem_filter,List.mem_range,Bool.and_eq_true,Bool.not_eq_true',preds]
 constructor
 ·rintro ⟨h1,h2,h3⟩
  refine ⟨h1,h2,?_⟩
  have ho:ops[i]? = some ops[i]:=Array.getElem?_eq_getElem h1
  refine ⟨_,ho,?_⟩
  rw [ho] at h3
  simp only [Option.map_some,Option.getD_some,Array.all_eq_true_iff_forall_mem,Bool.or_eq_true,Bool.not_eq_true'] at h3
  intro k hk
  obtain ⟨e,he,rfl⟩:=List.mem_map.1 hk
  obtain ⟨he1,he2⟩:=List.mem_filter.1 he
  rcases h3 e (by simpa using he1) with h | h
  ·rw [h] at he2;cases he2
  ·exact h
 ·rintro ⟨h1,h2,o,ho,h3⟩
  refine ⟨h1,h2,?_⟩
  rw [ho]
  simp only [Option.map_some,Option.getD_some,Array.all_eq_true_iff_forall_mem,Bool.or_eq_true,Bool.not_eq_true']
  intro e he
  by_cases hb:Region.binds .any e = true
  ·right
   exact h3 e.on (List.mem_map.2 ⟨e,List.mem_filter.2 ⟨by simpa using he,hb⟩,rfl⟩)
  ·left;simpa using hb
def unl (n:Nat) (listed:Array Bool):Nat:=(List.range n).countP (fun i=>!listed.getD i true)
theorem countP_lt {l:List Nat} {p q:Nat→Bool} (h:∀ x,x ∈ l→q x = true→p x = true) {i:Nat} (hi:i ∈ l) (hp:p i = true) (hq:q i = false):l.countP q < l.countP p:=by
 induction l with
 | nil=>simp at hi
 | cons x l ih =>
  have hmono:l.countP q≤l.countP p:=List.countP_mono_left (fun y hy hqy=>h y (List.mem_cons_of_mem _ hy) hqy)
  rw [List.countP_cons,List.countP_cons]
  rcases List.mem_cons.1 hi with rfl | hi'
  ·simp [hp,hq];omega
  ·have:=ih (fun y hy=>h y (List.mem_cons_of_mem _ hy)) hi'
   have hx:=h x List.mem_cons_self
   by_cases hqx:q x = true
   ·simp [hqx,hx hqx];omega
   ·simp [hqx];split <;> omega
theorem unl_set {n:Nat} {listed:Array Bool} {i:Nat} (hi:i < n) (hl:listed.getD i true = false):unl n (listed.setIfInBounds i true) < unl n listed:=by
 refine countP_lt (i:=i) ?_ (List.mem_range.2 hi) (by simpa using hl) ?_
 ·intro x _ hx
  by_cases e:i = x
  ·subst e;simpa using hl
  ·simp only [Array.getD_eq_getD_getElem?,Array.getElem?_setIfInBounds,if_neg e] at hx ⊢
   exact hx
 ·have hs:i < listed.size:=by
   rcases Nat.lt_or_ge i listed.size with h | h
   ·exact h
   ·simp [Array.getD_eq_getD_getElem?,Array.getElem?_eq_none h] at hl
  simp [Array.getD_eq_getD_getElem?,Array.getElem?_setIfInBounds,hs]
section
variable {P:Program} {ops:Array Oper} {Q:Exit→Act→World→Prop}
def StepOf (P:Program) (ops:Array Oper) (Q:Exit→Act→World→Prop) (a0:Act) (w0:World) (E:World→World→Prop) (R:Nat→World→World→Prop) (Inv:Nat→(Nat→Value)→World→Prop) (i:Nat) (o:Oper):Prop :=
 ∀ (a:Act) (w:World),E w0 w→a.tmps.size = a0.tmps.size→(∀ k,k ∈ preds o→Inv k (sl a) w)→(∀ t,initAt ops i t = true→sl a t = sl a0 t) →
  if Region.wanted o (yielded ops a.tmps) = true then o.wp P a w (fun a' w'=>∃ v,a' = a.put o.dst v∧R i w w'∧Inv i (sl a') w') Q
  else R i w w∧Inv i (sl (a.put o.dst undef)) w
def Each (P:Program) (ops:Array Oper) (Q:Exit→Act→World→Prop) (a0:Act) (w0:World) (E:World→World→Prop) (R:Nat→World→World→Prop) (Inv:Nat→(Nat→Value)→World→Prop):List Oper→Nat→Prop
 | [],_=>True
 | o :: rest,i=>StepOf P ops Q a0 w0 E R Inv i o∧Each P ops Q a0 w0 E R Inv rest (i + 1)
theorem Each.get {a0:Act} {w0:World} {E:World→World→Prop} {R:Nat→World→World→Prop} {Inv:Nat→(Nat→Value)→World→Prop}:∀ (l:List Oper) (k:Nat),Each P ops Q a0 w0 E R Inv l k→∀ j o,l[j]? = some o→StepOf P ops Q a0 w0 E R Inv (k + j) o:=by
 intro l
 induction l with
 | nil=>intro k _ j o h;simp at h
 | cons x l ih =>
  intro k h j o hj
  cases j with
  | zero=>simp at hj;subst hj;exact h.1
  | succ j =>
   have:=ih (k + 1) h.2 j o (by simpa using hj)
   rwa [show k + 1 + j = k + (j + 1) by omega] at this
theorem put_sl (a:Act) (d:Option Nat) (v:Value) (t:Nat) (h:d≠some t):sl (a.put d v) t = sl a t:=by
 cases d with
 | none=>rfl
 | some x =>
  have:x≠t:=fun e=>h (by rw [e])
  simp [sl,Act.put,Array.getD_eq_getD_getElem?,Array.getElem?_setIfInBounds,this]
theorem put_size (a:Act) (d:Option Nat) (v:Value):(a.put d v).tmps.size = a.tmps.size:=by
 cases d <;> simp [Act.put]
theorem put_defers (a:Act) (d:Option Nat) (v:Value):(a.put d v).defers = a.defers:=by
 cases d <;> simp [Act.put]
theorem put_same (a:Act) (x:Nat) (v:Value) (h:x < a.tmps.size):sl (a.put (some x) v) x = v:=by
 simp [sl,Act.put,Array.getD_eq_getD_getElem?,Array.getElem?_setIfInBounds,h]
theorem wp_region_each {id:Nat} {a0:Act} {w0:World} (hm:P.follows .mixedOrders = true) (hback:backB ops = true)
  (E:World→World→Prop) (R:Nat→World→World→Prop) (Inv:Nat→(Nat→Value)→World→Prop)
  (E0:E w0.drew w0.drew) (ER:∀ i w w',E w0.drew w→R i w w'→E w0.drew w')
  (stable:∀ i j oi oj (σ σ':Nat→Value) w w',i≠j→ops[i]? = some oi→ops[j]? = some oj→i ∉ preds oj∨True→Inv j σ w→R i w w'→(∀ t,oi.dst≠some t→σ' t = σ t)→(j ∉ preds oi→True)→(∀ d,oi.dst = some d→i ∈ preds oj→False)→Inv j σ' w')
  (each:Each P ops Q a0 w0.drew E R Inv ops.toList 0)
  (fin:∀ a w,E w0.drew w→a.tmps.size = a0.tmps.size→a.defers = a0.defers→(∀ j,j < ops.size→Inv j (sl a) w)→(∀ t,(ops.toList.all fun o=>o.dst != some t) = true→sl a t = sl a0 t)→Q .normal a w) :
  (Code.region id ops true).wp P Q a0 w0:=by
 refine wp_region_any hm ?_
 show wpAny P .any ops Q ops.size (Array.replicate ops.size false) a0 w0.drew
 have main:∀ (fuel:Nat) (listed:Array Bool) (a:Act) (w:World),unl ops.size listed≤fuel→E w0.drew w→a.tmps.size = a0.tmps.size→a.defers = a0.defers →
   (∀ j o,listed.getD j false = true→ops[j]? = some o→∀ k,k ∈ preds o→listed.getD k false = true) →
   (∀ j,j < ops.size→listed.getD j true = true→listed.getD j false = true) →
   (∀ j,j < ops.size→listed.getD j false = true→Inv j (sl a) w) →
   (∀ t,(∀ j o,j < ops.size→listed.getD j false = true→ops[j]? = some o→o.dst≠some t)→sl a t = sl a0 t)→wpAny P .any ops Q fuel listed a w:=by
  intro fuel
  induction fuel with
  | zero =>
   intro listed a w hu hE hs hd hcl hlt hI ht
   have hall:∀ j,j < ops.size→listed.getD j false = true:=by
    intro j hj
    refine hlt j hj ?_
    have h0:unl ops.size listed = 0:=by omega
    unfold unl at h0
    have:=List.countP_eq_zero.1 h0 j (List.mem_range.2 hj)
    simpa using this
   refine ⟨?_,fin a w hE hs hd (fun j hj=>hI j hj (hall j hj)) (fun t htt=>ht t (fun j o _ _ ho=>?_))⟩
   ·rw [List.eq_nil_iff_forall_not_mem]
    intro i hi
    obtain ⟨h1,h2,_⟩:=mem_ready.1 hi
    have hx:=hall i h1
    rcases Nat.lt_or_ge i listed.size with h | h
    ·simp [Array.getD_eq_getD_getElem?,h] at h2 hx;rw [h2] at hx;cases hx
    ·simp [Array.getD_eq_getD_getElem?,Array.getElem?_eq_none h] at hx
   ·have:=List.all_eq_true.1 htt o (by rw [Array.mem_toList_iff];exact Array.mem_of_getElem? ho)
    simpa using this
  | succ fuel ih =>
   intro listed a w hu hE hs hd hcl hlt hI ht
   refine ⟨fun hr=>?_,fun i hi=>?_⟩
   ·have hall:∀ n j,j < n→j < ops.size→listed.getD j false = true:=by
     intro n
     induction n with
     | zero=>intro j hj;omega
     | succ n ihn =>
      intro j hj hjs
      refine hlt j hjs ?_
      cases hb:listed.getD j true with
      | true=>rfl
      | false =>
       exfalso
       have ho:ops[j]? = some ops[j]:=Array.getElem?_eq_getElem hjs
       have:j ∈ Region.ready .any ops listed:=mem_ready.2 ⟨hjs,hb,_,ho,fun k hk=>by
        have hbk:=List.all_eq_true.1 hback j (List.mem_range.2 hjs)
        rw [ho] at hbk
        have hkj:=of_decide_eq_true (List.all_eq_true.1 hbk k hk)
        exact ihn k (by omega) (by omega)⟩
       rw [hr] at this;cases this
    exact fin a w hE hs hd (fun j hj=>hI j hj (hall (j + 1) j (by omega) hj)) (fun t htt=>ht t (fun j o _ _ ho=>by
     have:=List.all_eq_true.1 htt o (by rw [Array.mem_toList_iff];exact Array.mem_of_getElem? ho)
     simpa using this))
   ·obtain ⟨h1,h2,o,ho,h3⟩:=mem_ready.1 hi
    have hst:=Each.get ops.toList 0 each i o (by simpa using ho)
    rw [Nat.zero_add] at hst
    have hnl:listed.getD i false≠true:=by
     intro hx
     rcases Nat.lt_or_ge i listed.size with h | h
     ·simp [Array.getD_eq_getD_getElem?,h] at h2 hx;rw [h2] at hx;cases hx
     ·simp [Array.getD_eq_getD_getElem?,Array.getElem?_eq_none h] at hx
    have his:i < listed.size:=by
     rcases Nat.lt_or_ge i listed.size with h | h
     ·exact h
     ·simp [Array.getD_eq_getD_getElem?,Array.getElem?_eq_none h] at h2
    have gset:∀ j (d:Bool),(listed.setIfInBounds i true).getD j d = if i = j then true else listed.getD j d:=by
     intro j d
     simp only [Array.getD_eq_getD_getElem?,Array.getElem?_setIfInBounds]
     by_cases e:i = j
     ·subst e;simp [his]
     ·simp [e]
    have hst':=hst a w hE hs (fun k hk=>hI k (by
      have hbk:=List.all_eq_true.1 hback i (List.mem_range.2 h1)
      rw [ho] at hbk
      have:=of_decide_eq_true (List.all_eq_true.1 hbk k hk);omega) (h3 k hk)) (fun t hti=>by
     refine ht t (fun j oj hj hlj hoj hdj=>?_)
     have:=List.all_eq_true.1 hti j (List.mem_range.2 hj)
     rw [hoj] at this
     by_cases e:j = i
     ·subst e;exact hnl hlj
     ·simp [e,hdj] at this
      exact hnl (hcl j oj hlj hoj i this))
    have next:∀ (v:Value) (w':World),R i w w'→Inv i (sl (a.put o.dst v)) w'→wpAny P .any ops Q fuel (listed.setIfInBounds i true) (a.put o.dst v) w':=by
     intro v w' hR hIi
     refine ih _ _ _ (by have:=unl_set (n:=ops.size) h1 h2;omega) (ER i w w' hE hR) ((put_size _ _ _).trans hs) ((put_defers _ _ _).trans hd) ?_ ?_ ?_ ?_
     ·intro j oj hj hoj k hk
      rw [gset] at hj ⊢
      by_cases e:i = k
      ·rw [if_pos e]
      ·rw [if_neg e]
       by_cases e':i = j
       ·subst e';rw [ho] at hoj;cases hoj;exact h3 k hk
       ·rw [if_neg e'] at hj;exact hcl j oj hj hoj k hk
     ·intro j hj hl
      rw [gset] at hl ⊢
      by_cases e:i = j
      ·rw [if_pos e]
      ·rw [if_neg e] at hl ⊢;exact hlt j hj hl
     ·intro j hj hl
      rw [gset] at hl
      by_cases e:i = j
      ·subst e;exact hIi
      ·rw [if_neg e] at hl
       have hoj:ops[j]? = some ops[j]:=Array.getElem?_eq_getElem hj
       exact stable i j o _ (sl a) _ w w' e ho hoj (.inr trivial) (hI j hj hl) hR (fun t h=>put_sl _ _ _ _ h) (fun _=>trivial) (fun d hdd hp=>hnl (hcl j _ hl hoj i hp))
     ·intro t htt
      have hdt:o.dst≠some t:=htt i o h1 (by rw [gset,if_pos rfl]) ho
      rw [put_sl _ _ _ _ hdt]
      exact ht t (fun j oj hj hl hoj=>htt j oj hj (by rw [gset];split <;> simp [hl]) hoj)
    unfold wpOp
    rw [ho]
    show if Region.wanted o (yielded ops a.tmps) = true then _ else _
    split
    ·rename_i hw
     rw [if_pos hw] at hst'
     exact .inl (Oper.wp_mono (fun a' w' ⟨v,e,hR,hIi⟩=>by rw [e] at hIi ⊢;exact next v w' hR hIi) hst')
    ·rename_i hw
     rw [if_neg hw] at hst'
     exact next undef w hst'.1 hst'.2
 refine main ops.size _ a0 w0.drew ?_ E0 rfl rfl ?_ ?_ ?_ ?_
 ·unfold unl;exact Nat.le_trans List.countP_le_length (by simp)
 ·intro j o hj;simp [Array.getD_eq_getD_getElem?,Array.getElem?_replicate] at hj
  split at hj <;> simp at hj
 ·intro j hj hl;simp [Array.getD_eq_getD_getElem?,Array.getElem?_replicate,hj] at hl
 ·intro j hj hl;simp [Array.getD_eq_getD_getElem?,Array.getElem?_replicate,hj] at hl
 ·intro t _;rfl
end
end Go.By
namespace Go.By
open Go.RowKit
section
variable {T2 T1:TypeId} {w w':World} {base n:Nat} {v:Value} {xss:List (List UInt8)}
theorem owns_kept {e size:Nat} {v:Value} {ys:List Value} {row:Option Nat} (h:w.ownsRow base e size v n ys) (hg:w.grownBy w' row) (hne:∀ k,v.ownBlock = some k→some k≠row):w'.ownsRow base e size v n ys :=
 h.kept hg (by
  cases hv:v.ownBlock with
  | none=>exact .inl rfl
  | some k=>exact .inr (fun e=>hne k hv e))
theorem owns_ne {b1 b2 e1 e2 s1 s2 n1 n2:Nat} {v1 v2:Value} {ys1 ys2:List Value} (h1:w.ownsRow b1 e1 s1 v1 n1 ys1) (h2:w.ownsRow b2 e2 s2 v2 n2 ys2) (he:e1≠e2):∀ k,v1.ownBlock = some k→some k≠v2.ownBlock:=by
 intro k hk
 rcases h1.2 with ⟨rfl,_⟩ | ⟨g1,c1,cur1,rfl,_,hh1,_⟩
 ·simp [Value.ownBlock] at hk
 ·simp [Value.ownBlock] at hk;subst hk
  rcases h2.2 with ⟨rfl,_⟩ | ⟨g2,c2,cur2,rfl,_,hh2,_⟩
  ·simp [Value.ownBlock]
  ·simp only [Value.ownBlock]
   intro e
   cases e
   rw [hh1] at hh2
   cases hh2;exact he rfl
theorem owns_keepv {e size:Nat} {ys:List Value} (h:w.ownsRow base e size v n ys) (hb:Below w.heap.size w w'):w'.ownsRow base e size v n ys:=by
 obtain ⟨q,c,rfl⟩:=owns_shape h
 exact owns_keep h hb
end
end Go.By
namespace Go.By
open Go.RowKit
structure Shp where
 ok:Value→World→Prop
 keep:∀ (v:Value) (w w':World),ok v w→Below w.heap.size w w'→ok v w'
def Shp.val (u:Value):Shp:=⟨fun v _=>v = u,fun _ _ _ h _=>h⟩
def Shp.any:Shp:=⟨fun _ _=>True,fun _ _ _ h _=>h⟩
def BytesIs (xs:List UInt8) (v:Value) (w:World):Prop:=∃ p n c,v = .slice p n c∧Sl B8 w p n c xs
def RowIs (r:List UInt8 × List UInt8) (v:Value) (w:World):Prop:=∃ p1 n1 c1 p2 n2 c2,v = .agg #[.slice p1 n1 c1,.slice p2 n2 c2]∧Sl B8 w p1 n1 c1 r.1∧Sl B8 w p2 n2 c2 r.2
def RowsIs (xss:List (List UInt8)) (v:Value) (w:World):Prop:=∃ p n c,v = .slice p n c∧Sl2 w p n c xss
def Shp.bytes (xs:List UInt8):Shp:=⟨BytesIs xs,fun _ _ _ ⟨p,n,c,e,h⟩ hb=>⟨p,n,c,e,h.keep hb⟩⟩
def Shp.row (r:List UInt8 × List UInt8):Shp:=⟨RowIs r,fun _ _ _ ⟨p1,n1,c1,p2,n2,c2,e,h1,h2⟩ hb=>⟨p1,n1,c1,p2,n2,c2,e,h1.keep hb,h2.keep hb⟩⟩
def Shp.rows (xss:List (List UInt8)):Shp:=⟨RowsIs xss,fun _ _ _ ⟨p,n,c,e,h⟩ hb=>⟨p,n,c,e,h.keep hb⟩⟩
def distB (ops:Array Oper):Bool:=(List.range ops.size).all fun i=>(List.range ops.size).all fun j=>i == j || match ops[i]?,ops[j]? with
 | some oi,some oj=>(match oi.dst,oj.dst with
  | some x,some y=>x != y
  | _,_=>true)
 | _,_=>true
def dstOf (ops:Array Oper) (i:Nat):Option Nat:=(ops[i]?).bind (·.dst)
def InvS (ops:Array Oper) (sh:Nat→Shp) (i:Nat) (σ:Nat→Value) (w:World):Prop:=match dstOf ops i with
 | some d=>(sh i).ok (σ d) w
 | none=>True
def StepS (P:Program) (ops:Array Oper) (Q:Exit→Act→World→Prop) (a0:Act) (W0:World) (sh:Nat→Shp) (i:Nat) (o:Oper):Prop :=
 ∀ (a:Act) (w:World),Below W0.heap.size W0 w→a.tmps.size = a0.tmps.size→(∀ k,k ∈ preds o→InvS ops sh k (sl a) w)→(∀ t,initAt ops i t = true→sl a t = sl a0 t) →
  if Region.wanted o (yielded ops a.tmps) = true then o.wp P a w (fun a' w'=>∃ v,a' = a.put o.dst v∧Below w.heap.size w w'∧(sh i).ok v w') Q
  else (sh i).ok undef w
def EachS (P:Program) (ops:Array Oper) (Q:Exit→Act→World→Prop) (a0:Act) (W0:World) (sh:Nat→Shp):List Oper→Nat→Prop
 | [],_=>True
 | o :: rest,i=>StepS P ops Q a0 W0 sh i o∧EachS P ops Q a0 W0 sh rest (i + 1)
def dstsB (ops:Array Oper) (n:Nat):Bool:=ops.toList.all fun o=>match o.dst with
 | some d=>decide (d < n)
 | none=>false
theorem each_of {P:Program} {ops:Array Oper} {Q:Exit→Act→World→Prop} {a0:Act} {W0:World} {sh:Nat→Shp} {n:Nat} (hn:a0.tmps.size = n):∀ (l:List Oper) (k:Nat),(∀ j o,l[j]? = some o→ops[k + j]? = some o)→(l.all fun o=>match o.dst with | some d=>decide (d < n) | none=>false) = true →
  EachS P ops Q a0 W0 sh l k→Each P ops Q a0 W0 (fun W w=>Below W.heap.size W w) (fun _ w w'=>Below w.heap.size w w') (InvS ops sh) l k:=by
 intro l
 induction l with
 | nil=>intro k _ _ _;trivial
 | cons o l ih =>
  intro k hk hd h
  simp only [List.all_cons,Bool.and_eq_true] at hd
  refine ⟨?_,ih (k + 1) (fun j o' hj=>by have:=hk (j + 1) o' (by simpa using hj);rwa [show k + (j + 1) = k + 1 + j by omega] at this) hd.2 h.2⟩
  intro a w hE hs hp hi
  have ho:ops[k]? = some o:=by have:=hk 0 o (by simp);simpa using this
  have hs1:=h.1 a w hE hs hp hi
  cases hdo:o.dst with
  | none=>rw [hdo] at hd;simp at hd
  | some d =>
   rw [hdo] at hd
   have hd1:d < n:=of_decide_eq_true hd.1
   have hdn:d < a.tmps.size:=by rw [hs,hn];exact hd1
   have hdst:dstOf ops k = some d:=by simp [dstOf,ho,hdo]
   split
   ·rename_i hw
    rw [if_pos hw] at hs1
    refine Oper.wp_mono ?_ hs1
    rintro a' w' ⟨v,e,hb,hok⟩
    refine ⟨v,e.trans (by rw [hdo]),hb,?_⟩
    unfold InvS
    rw [hdst]
    show (sh k).ok (sl a' d) w'
    rw [e,hdo,put_same _ _ _ hdn];exact hok
   ·rename_i hw
    rw [if_neg hw] at hs1
    refine ⟨Below.refl _ _,?_⟩
    unfold InvS
    rw [hdst]
    show (sh k).ok (sl (a.put (some d) undef) d) w
    rw [put_same _ _ _ hdn];exact hs1
theorem wp_region_shapes {P:Program} {ops:Array Oper} {Q:Exit→Act→World→Prop} {id:Nat} {a0:Act} {w0:World} (sh:Nat→Shp) (n:Nat) (hn:a0.tmps.size = n) (hm:P.follows .mixedOrders = true) (hback:backB ops = true) (hdist:distB ops = true) (hdsts:dstsB ops n = true)
  (each:EachS P ops Q a0 w0.drew sh ops.toList 0)
  (fin:∀ a w,Below w0.heap.size w0 w→a.tmps.size = a0.tmps.size→a.defers = a0.defers→(∀ j,j < ops.size→InvS ops sh j (sl a) w)→(∀ t,(ops.toList.all fun o=>o.dst != some t) = true→sl a t = sl a0 t)→Q .normal a w) :
  (Code.region id ops true).wp P Q a0 w0:=by
 refine wp_region_each hm hback (fun W w=>Below W.heap.size W w) (fun _ w w'=>Below w.heap.size w w') (InvS ops sh) (Below.refl _ _) (fun i w w' h hR=>h.trans (hR.mono h.size)) ?_ (each_of hn _ 0 (fun j o hj=>by simpa using hj) hdsts each) (fun a w hE hs hd hI ht=>fin a w ⟨hE.os,hE.tape,hE.output,hE.size,hE.block⟩ hs hd hI ht)
 intro i j oi oj σ σ' w w' hij hoi hoj _ hI hR hσ _ _
 unfold InvS at hI ⊢
 cases hdj:dstOf ops j with
 | none=>trivial
 | some d =>
  rw [hdj] at hI
  show (sh j).ok (σ' d) w'
  have hne:oi.dst≠some d:=by
   intro e
   have hi':i < ops.size:=(Array.getElem?_eq_some_iff.1 hoi).1
   have hj':j < ops.size:=(Array.getElem?_eq_some_iff.1 hoj).1
   have:=List.all_eq_true.1 (List.all_eq_true.1 hdist i (List.mem_range.2 hi')) j (List.mem_range.2 hj')
   rw [hoi,hoj] at this
   have hdj':oj.dst = some d:=by simpa [dstOf,hoj] using hdj
   simp [e,hdj',hij] at this
  rw [hσ d hne]
  exact (sh j).keep _ _ _ hI hR
theorem wanted_yes {ops:Array Oper} {o:Oper} {a:Act} {j:Nat} {b:Bool} {d:Nat} (hg:o.guard = some (j,b)) (hd:dstOf ops j = some d) (hs:d < a.tmps.size) (hv:sl a d = .bool b):Region.wanted o (yielded ops a.tmps) = true:=by
 have h1:a.tmps[d]? = some (.bool b):=by
  have:=hv
  simp only [sl,Array.getD_eq_getD_getElem?,Array.getElem?_eq_getElem hs,Option.getD_some] at this
  rw [Array.getElem?_eq_getElem hs,this]
 unfold dstOf at hd
 simp [Region.wanted,hg,yielded,hd,h1]
theorem ite_y {c:Prop} [Decidable c] {A B:Prop} (hc:c) (h:A):if c then A else B:=by rw [if_pos hc];exact h
theorem wp_val {P:Program} {o:Oper} {a:Act} {w:World} {K:Act→World→Prop} {Q:Exit→Act→World→Prop} (v:Value) (hrun:(execOp a.eval o).run P w = .ok (.value v) w) (h:K (a.put o.dst v) w):o.wp P a w K Q:=by
 unfold Oper.wp;rw [hrun];exact h
theorem wp_val' {P:Program} {o:Oper} {a:Act} {w w':World} {K:Act→World→Prop} {Q:Exit→Act→World→Prop} (v:Value) (hrun:(execOp a.eval o).run P w = .ok (.value v) w') (h:K (a.put o.dst v) w'):o.wp P a w K Q:=by
 unfold Oper.wp;rw [hrun];exact h
theorem wp_enter {P:Program} {o:Oper} {a:Act} {w:World} {K:Act→World→Prop} {Q:Exit→Act→World→Prop} (f:FuncId) (args:Array Value) (hrun:(execOp a.eval o).run P w = .ok (.enter f args) w)
  {R:Ending→World→Prop} (hc:Calls P f args w R) (h:∀ e w',R e w'→∃ v,e = .returned v∧K (a.put o.dst v) w'):o.wp P a w K Q:=by
 unfold Oper.wp;rw [hrun]
 show Calls P f args w _
 refine hc.mono ?_
 intro e w' hr
 obtain ⟨v,rfl,hk⟩:=h e w' hr
 exact hk
end Go.By
namespace Go.By
open Go.RowKit
section
variable {B X:Nat} {w w':World}
end
section
variable (B X:Nat)
end
end Go.By
namespace Go.By
open Go.RowKit
theorem putAll_size (a:Act):∀ (ws:List Nat) (b:Act),(ws.foldl (fun b t=>b.put (some t) (sl a t)) b).tmps.size = b.tmps.size:=by
 intro ws
 induction ws with
 | nil=>intro b;rfl
 | cons t ws ih=>intro b;rw [List.foldl_cons,ih];simp [Act.put]
theorem putAll_sl (a:Act):∀ (ws:List Nat) (b:Act) (n:Nat),a.tmps.size = n→b.tmps.size = n→(∀ t,t < n→t ∉ ws→sl b t = sl a t)→∀ t,t < n→sl (ws.foldl (fun b t=>b.put (some t) (sl a t)) b) t = sl a t:=by
 intro ws
 induction ws with
 | nil=>intro b n ha hb h t ht;exact h t ht (by simp)
 | cons u ws ih =>
  intro b n ha hb h t ht
  rw [List.foldl_cons]
  refine ih _ n ha (by simp [Act.put,hb]) ?_ t ht
  intro s hs hn
  by_cases e:s = u
  ·subst e;exact put_same _ _ _ (by rw [hb];exact hs)
  ·have h1:=h s hs (by simp [e,hn])
   rw [← h1]
   simp [sl,Act.put,Array.getD_eq_getD_getElem?,Array.getElem?_setIfInBounds,show ¬ u = s from fun h=>e h.symm]
theorem putAll_defers (a:Act):∀ (ws:List Nat) (b:Act),(ws.foldl (fun b t=>b.put (some t) (sl a t)) b).defers = b.defers:=by
 intro ws
 induction ws with
 | nil=>intro b;rfl
 | cons t ws ih=>intro b;rw [List.foldl_cons,ih];rfl
theorem act_is {ops:Array Oper} {a a0:Act} (ws:List Nat) (hs:a.tmps.size = a0.tmps.size) (hd:a.defers = a0.defers) (hrest:∀ t,(ops.toList.all fun o=>o.dst != some t) = true→sl a t = sl a0 t)
  (hws:(ops.toList.all fun o=>match o.dst with | some t=>ws.contains t | none=>true) = true):a = ws.foldl (fun b t=>b.put (some t) (sl a t)) a0:=by
 have key:=putAll_sl a ws a0 a.tmps.size rfl hs.symm (by
  intro t _ hn
  refine (hrest t ?_).symm
  refine List.all_eq_true.2 fun o ho=>?_
  have:=List.all_eq_true.1 hws o ho
  cases hdo:o.dst with
  | none=>simp
  | some u =>
   rw [hdo] at this
   have hu:u ∈ ws:=by simpa using this
   have:u≠t:=fun e=>hn (e ▸ hu)
   simpa using this)
 have h1:=putAll_size a ws a0
 have h2:=putAll_defers a ws a0
 generalize ws.foldl (fun b t=>b.put (some t) (sl a t)) a0 = b at key h1 h2
 obtain ⟨ta,da⟩:=a
 obtain ⟨tb,db⟩:=b
 simp only at h1 h2 hd key hs
 have e1:ta = tb:=by
  refine Array.ext (by omega) fun i hi hj=>?_
  have:=key i hi
  simpa [sl,Array.getD_eq_getD_getElem?,hi,hj] using this.symm
 rw [e1,hd,h2]
theorem eval_tmp (a:Act) (t:Nat):a.eval (.tmp t) = sl a t:=rfl
theorem eval_const (a:Act) (v:Value):a.eval (.const v) = v:=rfl
theorem eval_func (a:Act) (f:FuncId):a.eval (.func f) = .func (.func f) #[] #[]:=rfl
theorem undrew {w W:World} (h:Below w.drew.heap.size w.drew W):Below w.heap.size w W:=⟨h.os,h.tape,h.output,h.size,h.block⟩
theorem cells2 {w:World} {b T:Nat} {u v:Value} (h:w.heap[b]? = some (.cells #[u,v] T (0,0))):w.cell? ⟨b,0,none⟩ = some u∧w.cell? ⟨b,1,none⟩ = some v :=
 ⟨cell_of_row _ _ 0 _ _ _ h,cell_of_row _ _ 1 _ _ _ h⟩
theorem wp_skipX {P:Program} {o:Oper} {a:Act} {w w':World} {K:Act→World→Prop} {Q:Exit→Act→World→Prop} (hrun:(execOp a.eval o).run P w = .ok .skip w') (h:K (a.put o.dst undef) w'):o.wp P a w K Q:=by
 unfold Oper.wp;rw [hrun];exact h
end Go.By
namespace Go.By
open Go.RowKit
theorem blk_lt {w:World} {b:Nat} {o:Obj} (h:w.heap[b]? = some o):b < w.heap.size:=(Array.getElem?_eq_some_iff.1 h).1
end Go.By
namespace Go.By
open Go.RowKit
theorem wpAny_done {P:Program} {ops:Array Oper} {Q:Exit→Act→World→Prop} {listed:Array Bool} {a:Act} {w:World} (fuel:Nat) (hall:∀ j,j < ops.size→listed.getD j true = true) (h:Q .normal a w):wpAny P .any ops Q fuel listed a w:=by
 have hr:Region.ready .any ops listed = []:=by
  rw [List.eq_nil_iff_forall_not_mem]
  intro i hi
  obtain ⟨h1,h2,_⟩:=mem_ready.1 hi
  rw [hall i h1] at h2;cases h2
 cases fuel with
 | zero=>exact ⟨hr,h⟩
 | succ n=>exact ⟨fun _=>h,fun i hi=>by rw [hr] at hi;simp at hi⟩
def lastB (ops:Array Oper) (m:Nat):Bool:=decide (ops.size = m + 1) && (match ops[m]? with
 | some o=>o.guard.isNone
 | none=>false) && (List.range m).all fun i=>(List.range (m + 1)).any fun j=>decide (i < j) && match ops[j]? with
 | some o=>(preds o).contains i
 | none=>false
theorem wp_region_last {P:Program} {ops:Array Oper} {Q:Exit→Act→World→Prop} {id:Nat} {a0:Act} {w0:World} (sh:Nat→Shp) (n m:Nat) (hn:a0.tmps.size = n) (hm:P.follows .mixedOrders = true) (hback:backB ops = true) (hdist:distB ops = true)
  (hlast:lastB ops m = true) (hdsts:dstsB (ops.extract 0 m) n = true)
  (each:EachS P ops Q a0 w0.drew sh (ops.toList.take m) 0)
  (fin:∀ a w o,ops[m]? = some o→Below w0.heap.size w0 w→a.tmps.size = a0.tmps.size→a.defers = a0.defers→(∀ j,j < m→InvS ops sh j (sl a) w)→(∀ t,(ops.toList.all fun o=>o.dst != some t) = true→sl a t = sl a0 t)→o.wp P a w (fun a' w'=>Q .normal a' w') Q) :
  (Code.region id ops true).wp P Q a0 w0:=by
 unfold lastB at hlast
 rw [Bool.and_eq_true,Bool.and_eq_true] at hlast
 have hsz:ops.size = m + 1:=of_decide_eq_true hlast.1.1
 have hm':m < ops.size:=by omega
 obtain ⟨ol,hol⟩:∃ ol,ops[m]? = some ol:=⟨_,Array.getElem?_eq_getElem hm'⟩
 have hl2:=hlast.1.2
 rw [hol] at hl2
 have hguard:ol.guard = none:=by cases hg:ol.guard <;> simp [hg] at hl2 ⊢
 have hpl:∀ i,i < m→∃ j o,i < j∧j≤m∧ops[j]? = some o∧i ∈ preds o:=fun i hi=>by
  obtain ⟨j,hj,h⟩:=List.any_eq_true.1 (List.all_eq_true.1 hlast.2 i (List.mem_range.2 hi))
  have hjm:=List.mem_range.1 hj
  rw [Bool.and_eq_true] at h
  obtain ⟨oj,hoj⟩:∃ oj,ops[j]? = some oj:=⟨_,Array.getElem?_eq_getElem (by omega)⟩
  have h2:=h.2
  rw [hoj] at h2
  exact ⟨j,oj,of_decide_eq_true h.1,by omega,hoj,by simpa using h2⟩
 have hE:=each_of (Q:=Q) (P:=P) (a0:=a0) (W0:=w0.drew) (sh:=sh) hn (ops.toList.take m) 0 (fun j o hj=>by
   rw [List.getElem?_take] at hj;split at hj
   ·simpa using hj
   ·cases hj) (by
   unfold dstsB at hdsts
   have e:(ops.extract 0 m).toList = ops.toList.take m:=by simp
   rw [e] at hdsts;exact hdsts) each
 have stepAt:∀ i o,i < m→ops[i]? = some o→StepOf P ops Q a0 w0.drew (fun W w=>Below W.heap.size W w) (fun _ w w'=>Below w.heap.size w w') (InvS ops sh) i o:=fun i o hi ho=>by
  have:=Each.get _ 0 hE i o (by rw [List.getElem?_take,if_pos hi];simpa using ho)
  rwa [Nat.zero_add] at this
 have stable:∀ i j oi oj (σ σ':Nat→Value) w w',i≠j→ops[i]? = some oi→ops[j]? = some oj→InvS ops sh j σ w→Below w.heap.size w w'→(∀ t,oi.dst≠some t→σ' t = σ t)→InvS ops sh j σ' w':=by
  intro i j oi oj σ σ' w w' hij hoi hoj hI hR hσ
  unfold InvS at hI ⊢
  cases hdj:dstOf ops j with
  | none=>trivial
  | some d =>
   rw [hdj] at hI
   show (sh j).ok (σ' d) w'
   have hne:oi.dst≠some d:=by
    intro e
    have hi':i < ops.size:=(Array.getElem?_eq_some_iff.1 hoi).1
    have hj':j < ops.size:=(Array.getElem?_eq_some_iff.1 hoj).1
    have:=List.all_eq_true.1 (List.all_eq_true.1 hdist i (List.mem_range.2 hi')) j (List.mem_range.2 hj')
    rw [hoi,hoj] at this
    have hdj':oj.dst = some d:=by simpa [dstOf,hoj] using hdj
    simp [e,hdj',hij] at this
   rw [hσ d hne]
   exact (sh j).keep _ _ _ hI hR
 refine wp_region_any hm ?_
 show wpAny P .any ops Q ops.size (Array.replicate ops.size false) a0 w0.drew
 have main:∀ (fuel:Nat) (listed:Array Bool) (a:Act) (w:World),unl ops.size listed≤fuel→listed.getD m true = false→Below w0.heap.size w0 w→a.tmps.size = a0.tmps.size→a.defers = a0.defers →
   (∀ j o,listed.getD j false = true→ops[j]? = some o→∀ k,k ∈ preds o→listed.getD k false = true) →
   (∀ j,j < ops.size→listed.getD j true = true→listed.getD j false = true) →
   (∀ j,j < m→listed.getD j false = true→InvS ops sh j (sl a) w) →
   (∀ t,(∀ j o,j < m→listed.getD j false = true→ops[j]? = some o→o.dst≠some t)→sl a t = sl a0 t)→wpAny P .any ops Q fuel listed a w:=by
  intro fuel
  induction fuel with
  | zero =>
   intro listed a w hu hlm
   exfalso
   have h0:unl ops.size listed = 0:=by omega
   unfold unl at h0
   have:=List.countP_eq_zero.1 h0 m (List.mem_range.2 hm')
   simp [hlm] at this
  | succ fuel ih =>
   intro listed a w hu hlm hEw hs hd hcl hlt hI ht
   refine ⟨fun hr=>?_,fun i hi=>?_⟩
   ·exfalso
    have hall:∀ k j,j < k→j < ops.size→listed.getD j false = true:=by
     intro k
     induction k with
     | zero=>intro j hj;omega
     | succ k ihk =>
      intro j hj hjs
      refine hlt j hjs ?_
      cases hb:listed.getD j true with
      | true=>rfl
      | false =>
       exfalso
       have ho:ops[j]? = some ops[j]:=Array.getElem?_eq_getElem hjs
       have:j ∈ Region.ready .any ops listed:=mem_ready.2 ⟨hjs,hb,_,ho,fun q hq=>by
        have hbk:=List.all_eq_true.1 hback j (List.mem_range.2 hjs)
        rw [ho] at hbk
        have hkj:=of_decide_eq_true (List.all_eq_true.1 hbk q hq)
        exact ihk q (by omega) (by omega)⟩
       rw [hr] at this;cases this
    have hx:=hall (m + 1) m (by omega) hm'
    rcases Nat.lt_or_ge m listed.size with h | h
    ·simp [Array.getD_eq_getD_getElem?,h] at hlm hx;rw [hlm] at hx;cases hx
    ·simp [Array.getD_eq_getD_getElem?,Array.getElem?_eq_none h] at hx
   ·obtain ⟨h1,h2,o,ho,h3⟩:=mem_ready.1 hi
    have hnl:listed.getD i false≠true:=by
     intro hx
     rcases Nat.lt_or_ge i listed.size with h | h
     ·simp [Array.getD_eq_getD_getElem?,h] at h2 hx;rw [h2] at hx;cases hx
     ·simp [Array.getD_eq_getD_getElem?,Array.getElem?_eq_none h] at hx
    have his:i < listed.size:=by
     rcases Nat.lt_or_ge i listed.size with h | h
     ·exact h
     ·simp [Array.getD_eq_getD_getElem?,Array.getElem?_eq_none h] at h2
    have gset:∀ j (d:Bool),(listed.setIfInBounds i true).getD j d = if i = j then true else listed.getD j d:=by
     intro j d
     simp only [Array.getD_eq_getD_getElem?,Array.getElem?_setIfInBounds]
     by_cases e:i = j
     ·subst e;simp [his]
     ·simp [e]
    by_cases him:i = m
    ·subst him
     rw [hol] at ho;cases ho
     have hdown:∀ d j,i - j≤d→j < i→listed.getD j false = true:=by
      intro d
      induction d with
      | zero=>intro j h4 h5;omega
      | succ d ihd =>
       intro j h4 h5
       obtain ⟨j2,o2,g1,g2,g3,g4⟩:=hpl j h5
       by_cases e:j2 = i
       ·subst e;rw [hol] at g3;cases g3;exact h3 j g4
       ·exact hcl j2 o2 (ihd j2 (by omega) (by omega)) g3 j g4
     have hdn:∀ j,j < i→listed.getD j false = true:=fun j hj=>hdown i j (by omega) hj
     have hf:=fin a w ol hol hEw hs hd (fun j hj=>hI j hj (hdn j hj)) (fun t htt=>ht t (fun j oj hj _ hoj=>by
      have:=List.all_eq_true.1 htt oj (by rw [Array.mem_toList_iff];exact Array.mem_of_getElem? hoj)
      simpa using this))
     unfold wpOp
     rw [hol]
     show if Region.wanted ol (yielded ops a.tmps) = true then _ else _
     rw [if_pos (by simp [Region.wanted,hguard])]
     refine .inl (Oper.wp_mono (fun a' w' hq=>wpAny_done _ (fun j hj=>?_) hq) hf)
     rw [gset]
     by_cases e:i = j
     ·rw [if_pos e]
     ·rw [if_neg e]
      have hjl:=hdn j (by omega)
      rcases Nat.lt_or_ge j listed.size with h | h
      ·simp [Array.getD_eq_getD_getElem?,h] at hjl ⊢;exact hjl
      ·simp [Array.getD_eq_getD_getElem?,Array.getElem?_eq_none h]
    ·have him':i < m:=by omega
     have hst:=stepAt i o him' ho
     have hst':=hst a w ⟨hEw.os,hEw.tape,hEw.output,hEw.size,hEw.block⟩ hs (fun k hk=>hI k (by
       have hbk:=List.all_eq_true.1 hback i (List.mem_range.2 h1)
       rw [ho] at hbk
       have:=of_decide_eq_true (List.all_eq_true.1 hbk k hk);omega) (h3 k hk)) (fun t hti=>by
      refine ht t (fun j oj hj hlj hoj hdj=>?_)
      have:=List.all_eq_true.1 hti j (List.mem_range.2 (by omega))
      rw [hoj] at this
      by_cases e:j = i
      ·subst e;exact hnl hlj
      ·simp [e,hdj] at this
       exact hnl (hcl j oj hlj hoj i this))
     have next:∀ (v:Value) (w':World),Below w.heap.size w w'→InvS ops sh i (sl (a.put o.dst v)) w'→wpAny P .any ops Q fuel (listed.setIfInBounds i true) (a.put o.dst v) w':=by
      intro v w' hR hIi
      refine ih _ _ _ (by have:=unl_set (n:=ops.size) h1 h2;omega) (by rw [gset,if_neg him];exact hlm) (hEw.trans (hR.mono hEw.size)) ((put_size _ _ _).trans hs) ((put_defers _ _ _).trans hd) ?_ ?_ ?_ ?_
      ·intro j oj hj hoj k hk
       rw [gset] at hj ⊢
       by_cases e:i = k
       ·rw [if_pos e]
       ·rw [if_neg e]
        by_cases e':i = j
        ·subst e';rw [ho] at hoj;cases hoj;exact h3 k hk
        ·rw [if_neg e'] at hj;exact hcl j oj hj hoj k hk
      ·intro j hj hl
       rw [gset] at hl ⊢
       by_cases e:i = j
       ·rw [if_pos e]
       ·rw [if_neg e] at hl ⊢;exact hlt j hj hl
      ·intro j hj hl
       rw [gset] at hl
       by_cases e:i = j
       ·subst e;exact hIi
       ·rw [if_neg e] at hl
        have hoj:ops[j]? = some ops[j]:=Array.getElem?_eq_getElem (by omega)
        exact stable i j o _ (sl a) _ w w' e ho hoj (hI j hj hl) hR (fun t h=>put_sl _ _ _ _ h)
      ·intro t htt
       have hdt:o.dst≠some t:=htt i o him' (by rw [gset,if_pos rfl]) ho
       rw [put_sl _ _ _ _ hdt]
       exact ht t (fun j oj hj hl hoj=>htt j oj hj (by rw [gset];split <;> simp [hl]) hoj)
     unfold wpOp
     rw [ho]
     show if Region.wanted o (yielded ops a.tmps) = true then _ else _
     split
     ·rename_i hw
      rw [if_pos hw] at hst'
      exact .inl (Oper.wp_mono (fun a' w' ⟨v,e,hR,hIi⟩=>by rw [e] at hIi ⊢;exact next v w' hR hIi) hst')
     ·rename_i hw
      rw [if_neg hw] at hst'
      exact next undef w hst'.1 hst'.2
 refine main ops.size _ a0 w0.drew ?_ ?_ ⟨rfl,rfl,rfl,Nat.le_refl _,fun _ _=>rfl⟩ rfl rfl ?_ ?_ ?_ ?_
 ·unfold unl;exact Nat.le_trans List.countP_le_length (by simp)
 ·simp [Array.getD_eq_getD_getElem?,Array.getElem?_replicate,hm']
 ·intro j o hj;simp [Array.getD_eq_getD_getElem?,Array.getElem?_replicate] at hj
  split at hj <;> simp at hj
 ·intro j hj hl;simp [Array.getD_eq_getD_getElem?,Array.getElem?_replicate,hj] at hl
 ·intro j hj hl;simp [Array.getD_eq_getD_getElem?,Array.getElem?_replicate,show j < ops.size by omega] at hl
 ·intro t _;rfl
theorem wp_skip_none {P:Program} {o:Oper} {a:Act} {w w':World} {K:Act→World→Prop} {Q:Exit→Act→World→Prop} (hd:o.dst = none) (hrun:(execOp a.eval o).run P w = .ok .skip w') (h:K a w'):o.wp P a w K Q :=
 wp_skipX hrun (by rw [hd];exact h)
end Go.By
namespace Go.By
open Go.RowKit
def tailB (ops:Array Oper) (m:Nat):Bool:=decide (m < ops.size) && ((List.range m).all fun i=>(List.range (m + 1)).any fun j=>decide (i < j) && match ops[j]? with
 | some o=>(preds o).contains i
 | none=>false) && (List.range ops.size).all fun j=>!decide (m < j) || match ops[j]? with
 | some o=>(preds o).contains (j - 1)
 | none=>false
theorem wpOp_of_list {P:Program} {ops:Array Oper} {Q:Exit→Act→World→Prop} {k:Nat} {a:Act} {w:World} {K:Act→World→Prop} (hk:k < ops.size) (h:wpList P ops Q (ops.toList.drop k) a w) (hK:∀ a w,wpList P ops Q (ops.toList.drop (k + 1)) a w→K a w):wpOp P ops Q k K a w:=by
 have e:ops.toList.drop k = ops[k] :: ops.toList.drop (k + 1):=by
  rw [List.drop_eq_getElem_cons (by simpa using hk)];simp
 rw [e] at h
 unfold wpOp
 rw [Array.getElem?_eq_getElem hk]
 show if Region.wanted ops[k] (yielded ops a.tmps) = true then _ else _
 unfold wpList at h
 split at h
 ·rename_i hw;rw [if_pos hw];exact h.imp (Oper.wp_mono hK) id
 ·rename_i hw;rw [if_neg hw];exact hK _ _ h
theorem getD_both {listed:Array Bool} {i:Nat} (h2:listed.getD i true = false):listed.getD i false≠true∧i < listed.size:=by
 rcases Nat.lt_or_ge i listed.size with h | h
 ·refine ⟨fun hx=>?_,h⟩
  simp [Array.getD_eq_getD_getElem?,h] at h2 hx;rw [h2] at hx;cases hx
 ·simp [Array.getD_eq_getD_getElem?,Array.getElem?_eq_none h] at h2
theorem wpAny_tail {P:Program} {ops:Array Oper} {Q:Exit→Act→World→Prop} {m:Nat} (hback:backB ops = true)
  (hchain:∀ j o,m < j→ops[j]? = some o→(preds o).contains (j - 1) = true) :
  ∀ (fuel k:Nat) (listed:Array Bool) (a:Act) (w:World),m≤k→unl ops.size listed≤fuel→(∀ j,j < k→j < ops.size→listed.getD j false = true∧listed.getD j true = true)→(∀ j,k≤j→j < ops.size→listed.getD j true = false) →
   wpList P ops Q (ops.toList.drop k) a w→wpAny P .any ops Q fuel listed a w:=by
 intro fuel
 induction fuel with
 | zero =>
  intro k listed a w hmk hu hlo hhi h
  rcases Nat.lt_or_ge k ops.size with hk | hk
  ·exfalso
   have h0:unl ops.size listed = 0:=by omega
   unfold unl at h0
   have:=List.countP_eq_zero.1 h0 k (List.mem_range.2 hk)
   simp [hhi k (Nat.le_refl _) hk] at this
  ·rw [List.drop_eq_nil_of_le (by simpa using hk)] at h
   exact wpAny_done _ (fun j hj=>(hlo j (by omega) hj).2) h
 | succ fuel ih =>
  intro k listed a w hmk hu hlo hhi h
  rcases Nat.lt_or_ge k ops.size with hk | hk
  ·refine ⟨fun hr=>?_,fun i hi=>?_⟩
   ·exfalso
    have:k ∈ Region.ready .any ops listed:=mem_ready.2 ⟨hk,hhi k (Nat.le_refl _) hk,_,Array.getElem?_eq_getElem hk,fun q hq=>by
     have hbk:=List.all_eq_true.1 hback k (List.mem_range.2 hk)
     rw [Array.getElem?_eq_getElem hk] at hbk
     have hkj:=of_decide_eq_true (List.all_eq_true.1 hbk q hq)
     exact (hlo q (by omega) (by omega)).1⟩
    rw [hr] at this;cases this
   ·obtain ⟨h1,h2,o,ho,h3⟩:=mem_ready.1 hi
    obtain ⟨hnl,his⟩:=getD_both h2
    have hki:k≤i:=by
     rcases Nat.lt_or_ge i k with hx | hx
     ·exact absurd (hlo i hx h1).1 hnl
     ·exact hx
    have hik:i = k:=by
     rcases Nat.eq_or_lt_of_le hki with hx | hx
     ·exact hx.symm
     ·exfalso
      have:=h3 (i - 1) (by simpa using hchain i o (by omega) ho)
      have h5:=hhi (i - 1) (by omega) (by omega)
      exact (getD_both h5).1 this
    subst hik
    have gset:∀ j (d:Bool),(listed.setIfInBounds i true).getD j d = if i = j then true else listed.getD j d:=by
     intro j d
     simp only [Array.getD_eq_getD_getElem?,Array.getElem?_setIfInBounds]
     by_cases e:i = j
     ·subst e;simp [his]
     ·simp [e]
    refine wpOp_of_list h1 h fun a' w' h'=>ih (i + 1) _ a' w' (by omega) (by have:=unl_set (n:=ops.size) h1 h2;omega) (fun j hj hjs=>?_) (fun j hj hjs=>?_) h'
    ·rw [gset,gset]
     by_cases e:i = j
     ·rw [if_pos e,if_pos e];exact ⟨rfl,rfl⟩
     ·rw [if_neg e,if_neg e];exact hlo j (by omega) hjs
    ·rw [gset,if_neg (by omega)];exact hhi j (by omega) hjs
  ·rw [List.drop_eq_nil_of_le (by simpa using hk)] at h
   exact wpAny_done _ (fun j hj=>(hlo j (by omega) hj).2) h
theorem wp_region_tail {P:Program} {ops:Array Oper} {Q:Exit→Act→World→Prop} {id:Nat} {a0:Act} {w0:World} (sh:Nat→Shp) (n m:Nat) (hn:a0.tmps.size = n) (hm:P.follows .mixedOrders = true) (hback:backB ops = true) (hdist:distB ops = true)
  (htail:tailB ops m = true) (hdsts:dstsB (ops.extract 0 m) n = true)
  (each:EachS P ops Q a0 w0.drew sh (ops.toList.take m) 0)
  (fin:∀ a w,Below w0.heap.size w0 w→a.tmps.size = a0.tmps.size→a.defers = a0.defers→(∀ j,j < m→InvS ops sh j (sl a) w)→(∀ t,(ops.toList.all fun o=>o.dst != some t) = true→sl a t = sl a0 t)→wpList P ops Q (ops.toList.drop m) a w) :
  (Code.region id ops true).wp P Q a0 w0:=by
 unfold tailB at htail
 simp only [Bool.and_eq_true,decide_eq_true_eq] at htail
 obtain ⟨⟨hm',htl⟩,hch⟩:=htail
 have hchain:∀ j o,m < j→ops[j]? = some o→(preds o).contains (j - 1) = true:=fun j o hj ho=>by
  have:=List.all_eq_true.1 hch j (List.mem_range.2 (Array.getElem?_eq_some_iff.1 ho).1)
  rw [ho] at this
  simpa [hj] using this
 have hpl:∀ i,i < m→∃ j o,i < j∧j≤m∧ops[j]? = some o∧i ∈ preds o:=fun i hi=>by
  obtain ⟨j,hj,h⟩:=List.any_eq_true.1 (List.all_eq_true.1 htl i (List.mem_range.2 hi))
  have hjm:=List.mem_range.1 hj
  rw [Bool.and_eq_true] at h
  obtain ⟨oj,hoj⟩:∃ oj,ops[j]? = some oj:=⟨_,Array.getElem?_eq_getElem (by omega)⟩
  have h2:=h.2
  rw [hoj] at h2
  exact ⟨j,oj,of_decide_eq_true h.1,by omega,hoj,by simpa using h2⟩
 have hE:=each_of (Q:=Q) (P:=P) (a0:=a0) (W0:=w0.drew) (sh:=sh) hn (ops.toList.take m) 0 (fun j o hj=>by
   rw [List.getElem?_take] at hj;split at hj
   ·simpa using hj
   ·cases hj) (by
   unfold dstsB at hdsts
   have e:(ops.extract 0 m).toList = ops.toList.take m:=by simp
   rw [e] at hdsts;exact hdsts) each
 have stepAt:∀ i o,i < m→ops[i]? = some o→StepOf P ops Q a0 w0.drew (fun W w=>Below W.heap.size W w) (fun _ w w'=>Below w.heap.size w w') (InvS ops sh) i o:=fun i o hi ho=>by
  have:=Each.get _ 0 hE i o (by rw [List.getElem?_take,if_pos hi];simpa using ho)
  rwa [Nat.zero_add] at this
 have stable:∀ i j oi oj (σ σ':Nat→Value) w w',i≠j→ops[i]? = some oi→ops[j]? = some oj→InvS ops sh j σ w→Below w.heap.size w w'→(∀ t,oi.dst≠some t→σ' t = σ t)→InvS ops sh j σ' w':=by
  intro i j oi oj σ σ' w w' hij hoi hoj hI hR hσ
  unfold InvS at hI ⊢
  cases hdj:dstOf ops j with
  | none=>trivial
  | some d =>
   rw [hdj] at hI
   show (sh j).ok (σ' d) w'
   have hne:oi.dst≠some d:=by
    intro e
    have hi':i < ops.size:=(Array.getElem?_eq_some_iff.1 hoi).1
    have hj':j < ops.size:=(Array.getElem?_eq_some_iff.1 hoj).1
    have:=List.all_eq_true.1 (List.all_eq_true.1 hdist i (List.mem_range.2 hi')) j (List.mem_range.2 hj')
    rw [hoi,hoj] at this
    have hdj':oj.dst = some d:=by simpa [dstOf,hoj] using hdj
    simp [e,hdj',hij] at this
   rw [hσ d hne]
   exact (sh j).keep _ _ _ hI hR
 refine wp_region_any hm ?_
 show wpAny P .any ops Q ops.size (Array.replicate ops.size false) a0 w0.drew
 have main:∀ (fuel:Nat) (listed:Array Bool) (a:Act) (w:World),unl ops.size listed≤fuel→listed.getD m true = false→Below w0.heap.size w0 w→a.tmps.size = a0.tmps.size→a.defers = a0.defers →
   (∀ j o,listed.getD j false = true→ops[j]? = some o→∀ k,k ∈ preds o→listed.getD k false = true) →
   (∀ j,j < ops.size→listed.getD j true = true→listed.getD j false = true) →
   (∀ j,j < m→listed.getD j false = true→InvS ops sh j (sl a) w) →
   (∀ t,(∀ j o,j < m→listed.getD j false = true→ops[j]? = some o→o.dst≠some t)→sl a t = sl a0 t)→wpAny P .any ops Q fuel listed a w:=by
  intro fuel
  induction fuel with
  | zero =>
   intro listed a w hu hlm
   exfalso
   have h0:unl ops.size listed = 0:=by omega
   unfold unl at h0
   have:=List.countP_eq_zero.1 h0 m (List.mem_range.2 hm')
   simp [hlm] at this
  | succ fuel ih =>
   intro listed a w hu hlm hEw hs hd hcl hlt hI ht
   have hup:∀ d j,j = m + d→j < ops.size→listed.getD j false = true→False:=by
    intro d
    induction d with
    | zero=>intro j e hj hl;rw [show j = m by omega] at hl;exact (getD_both hlm).1 hl
    | succ d ihd =>
     intro j e hj hl
     have hoj:ops[j]? = some ops[j]:=Array.getElem?_eq_getElem hj
     exact ihd (j - 1) (by omega) (by omega) (hcl j _ hl hoj (j - 1) (by simpa using hchain j _ (by omega) hoj))
   refine ⟨fun hr=>?_,fun i hi=>?_⟩
   ·exfalso
    have hall:∀ k j,j < k→j < ops.size→listed.getD j false = true:=by
     intro k
     induction k with
     | zero=>intro j hj;omega
     | succ k ihk =>
      intro j hj hjs
      refine hlt j hjs ?_
      cases hb:listed.getD j true with
      | true=>rfl
      | false =>
       exfalso
       have ho:ops[j]? = some ops[j]:=Array.getElem?_eq_getElem hjs
       have:j ∈ Region.ready .any ops listed:=mem_ready.2 ⟨hjs,hb,_,ho,fun q hq=>by
        have hbk:=List.all_eq_true.1 hback j (List.mem_range.2 hjs)
        rw [ho] at hbk
        have hkj:=of_decide_eq_true (List.all_eq_true.1 hbk q hq)
        exact ihk q (by omega) (by omega)⟩
       rw [hr] at this;cases this
    have hx:=hall (m + 1) m (by omega) hm'
    rcases Nat.lt_or_ge m listed.size with h | h
    ·simp [Array.getD_eq_getD_getElem?,h] at hlm hx;rw [hlm] at hx;cases hx
    ·simp [Array.getD_eq_getD_getElem?,Array.getElem?_eq_none h] at hx
   ·obtain ⟨h1,h2,o,ho,h3⟩:=mem_ready.1 hi
    have hnl:listed.getD i false≠true:=by
     intro hx
     rcases Nat.lt_or_ge i listed.size with h | h
     ·simp [Array.getD_eq_getD_getElem?,h] at h2 hx;rw [h2] at hx;cases hx
     ·simp [Array.getD_eq_getD_getElem?,Array.getElem?_eq_none h] at hx
    have his:i < listed.size:=by
     rcases Nat.lt_or_ge i listed.size with h | h
     ·exact h
     ·simp [Array.getD_eq_getD_getElem?,Array.getElem?_eq_none h] at h2
    have gset:∀ j (d:Bool),(listed.setIfInBounds i true).getD j d = if i = j then true else listed.getD j d:=by
     intro j d
     simp only [Array.getD_eq_getD_getElem?,Array.getElem?_setIfInBounds]
     by_cases e:i = j
     ·subst e;simp [his]
     ·simp [e]
    by_cases him:i = m
    ·subst him
     have hol:ops[i]? = some o:=ho
     have hdown:∀ d j,i - j≤d→j < i→listed.getD j false = true:=by
      intro d
      induction d with
      | zero=>intro j h4 h5;omega
      | succ d ihd =>
       intro j h4 h5
       obtain ⟨j2,o2,g1,g2,g3,g4⟩:=hpl j h5
       by_cases e:j2 = i
       ·subst e;rw [hol] at g3;cases g3;exact h3 j g4
       ·exact hcl j2 o2 (ihd j2 (by omega) (by omega)) g3 j g4
     have hdn:∀ j,j < i→listed.getD j false = true:=fun j hj=>hdown i j (by omega) hj
     have hf:=fin a w hEw hs hd (fun j hj=>hI j hj (hdn j hj)) (fun t htt=>ht t (fun j oj hj _ hoj=>by
      have:=List.all_eq_true.1 htt oj (by rw [Array.mem_toList_iff];exact Array.mem_of_getElem? hoj)
      simpa using this))
     refine wpOp_of_list h1 hf fun a' w' h'=>wpAny_tail (m:=i) hback hchain fuel (i + 1) _ a' w' (by omega) (by have:=unl_set (n:=ops.size) h1 h2;omega) (fun j hj hjs=>?_) (fun j hj hjs=>?_) h'
     ·rw [gset,gset]
      by_cases e:i = j
      ·rw [if_pos e,if_pos e];exact ⟨rfl,rfl⟩
      ·rw [if_neg e,if_neg e]
       have hjl:=hdn j (by omega)
       refine ⟨hjl,?_⟩
       cases hb:listed.getD j true with
       | true=>rfl
       | false=>exact absurd hjl (getD_both hb).1
     ·rw [gset,if_neg (by omega)]
      cases hb:listed.getD j true with
      | false=>rfl
      | true=>exact (hup (j - i) j (by omega) hjs (hlt j hjs hb)).elim
    ·have him':i < m:=by
      rcases Nat.lt_or_ge i m with hx | hx
      ·exact hx
      ·exact (hup (i - 1 - m) (i - 1) (by omega) (by omega) (h3 (i - 1) (by simpa using hchain i o (by omega) ho))).elim
     have hst:=stepAt i o him' ho
     have hst':=hst a w ⟨hEw.os,hEw.tape,hEw.output,hEw.size,hEw.block⟩ hs (fun k hk=>hI k (by
       have hbk:=List.all_eq_true.1 hback i (List.mem_range.2 h1)
       rw [ho] at hbk
       have:=of_decide_eq_true (List.all_eq_true.1 hbk k hk);omega) (h3 k hk)) (fun t hti=>by
      refine ht t (fun j oj hj hlj hoj hdj=>?_)
      have:=List.all_eq_true.1 hti j (List.mem_range.2 (by omega))
      rw [hoj] at this
      by_cases e:j = i
      ·subst e;exact hnl hlj
      ·simp [e,hdj] at this
       exact hnl (hcl j oj hlj hoj i this))
     have next:∀ (v:Value) (w':World),Below w.heap.size w w'→InvS ops sh i (sl (a.put o.dst v)) w'→wpAny P .any ops Q fuel (listed.setIfInBounds i true) (a.put o.dst v) w':=by
      intro v w' hR hIi
      refine ih _ _ _ (by have:=unl_set (n:=ops.size) h1 h2;omega) (by rw [gset,if_neg him];exact hlm) (hEw.trans (hR.mono hEw.size)) ((put_size _ _ _).trans hs) ((put_defers _ _ _).trans hd) ?_ ?_ ?_ ?_
      ·intro j oj hj hoj k hk
       rw [gset] at hj ⊢
       by_cases e:i = k
       ·rw [if_pos e]
       ·rw [if_neg e]
        by_cases e':i = j
        ·subst e';rw [ho] at hoj;cases hoj;exact h3 k hk
        ·rw [if_neg e'] at hj;exact hcl j oj hj hoj k hk
      ·intro j hj hl
       rw [gset] at hl ⊢
       by_cases e:i = j
       ·rw [if_pos e]
       ·rw [if_neg e] at hl ⊢;exact hlt j hj hl
      ·intro j hj hl
       rw [gset] at hl
       by_cases e:i = j
       ·subst e;exact hIi
       ·rw [if_neg e] at hl
        have hoj:ops[j]? = some ops[j]:=Array.getElem?_eq_getElem (by omega)
        exact stable i j o _ (sl a) _ w w' e ho hoj (hI j hj hl) hR (fun t h=>put_sl _ _ _ _ h)
      ·intro t htt
       have hdt:o.dst≠some t:=htt i o him' (by rw [gset,if_pos rfl]) ho
       rw [put_sl _ _ _ _ hdt]
       exact ht t (fun j oj hj hl hoj=>htt j oj hj (by rw [gset];split <;> simp [hl]) hoj)
     unfold wpOp
     rw [ho]
     show if Region.wanted o (yielded ops a.tmps) = true then _ else _
     split
     ·rename_i hw
      rw [if_pos hw] at hst'
      exact .inl (Oper.wp_mono (fun a' w' ⟨v,e,hR,hIi⟩=>by rw [e] at hIi ⊢;exact next v w' hR hIi) hst')
     ·rename_i hw
      rw [if_neg hw] at hst'
      exact next undef w hst'.1 hst'.2
 refine main ops.size _ a0 w0.drew ?_ ?_ ⟨rfl,rfl,rfl,Nat.le_refl _,fun _ _=>rfl⟩ rfl rfl ?_ ?_ ?_ ?_
 ·unfold unl;exact Nat.le_trans List.countP_le_length (by simp)
 ·simp [Array.getD_eq_getD_getElem?,Array.getElem?_replicate,hm']
 ·intro j o hj;simp [Array.getD_eq_getD_getElem?,Array.getElem?_replicate] at hj
  split at hj <;> simp at hj
 ·intro j hj hl;simp [Array.getD_eq_getD_getElem?,Array.getElem?_replicate,hj] at hl
 ·intro j hj hl;simp [Array.getD_eq_getD_getElem?,Array.getElem?_replicate,show j < ops.size by omega] at hl
 ·intro t _;rfl
end Go.By
namespace Go.By
def crcTab:List Nat:=[0x00000000,0x1DB71064,0x3B6E20C8,0x26D930AC,0x76DC4190,0x6B6B51F4,0x4DB26158,0x5005713C,0xEDB88320,0xF00F9344,0xD6D6A3E8,0xCB61B38C,0x9B64C2B0,0x86D3D2D4,0xA00AE278,0xBDBDF21C]
def crcHalf (r:Nat):Nat:=(r / 16) ^^^ (crcTab.getD (r % 16) 0)
def crcByte (r:Nat) (b:UInt8):Nat:=crcHalf (crcHalf (r ^^^ b.toNat))
def crcRun (r:Nat) (l:List UInt8):Nat:=l.foldl crcByte r
theorem crcRun_append (r:Nat) (a b:List UInt8):crcRun r (a ++ b) = crcRun (crcRun r a) b:=List.foldl_append ..
theorem crcTab_lt:∀ t:Fin 16,crcTab.getD t.val 0 < 2 ^ 32:=by decide
theorem crcHalf_lt {r:Nat} (h:r < 2 ^ 32):crcHalf r < 2 ^ 32:=by
 unfold crcHalf
 exact Nat.xor_lt_two_pow (by omega) (crcTab_lt ⟨r % 16,Nat.mod_lt _ (by omega)⟩)
theorem crcByte_lt {r:Nat} {b:UInt8} (h:r < 2 ^ 32):crcByte r b < 2 ^ 32:=crcHalf_lt (crcHalf_lt (Nat.xor_lt_two_pow h (Nat.lt_trans b.toNat_lt (by decide))))
theorem crcRun_lt:∀ {l:List UInt8} {r:Nat},r < 2 ^ 32→crcRun r l < 2 ^ 32
 | [],_,h=>h
 | b :: l,r,h=>crcRun_lt (l:=l) (crcByte_lt h)
def crcS (l:List UInt8):Nat:=4294967295 - crcRun 4294967295 l
end Go.By
namespace Go.By
def put4 (n:Nat):List UInt8:=[UInt8.ofNat n,UInt8.ofNat (n / 256),UInt8.ofNat (n / 65536),UInt8.ofNat (n / 16777216)]
def get4:List UInt8→Nat
 | [a,b,c,d]=>a.toNat + 256 * b.toNat + 65536 * c.toNat + 16777216 * d.toNat
 | _=>0
theorem put4_len (n:Nat):(put4 n).length = 4:=rfl
theorem get4_put4 {n:Nat} (h:n < 4294967296):get4 (put4 n) = n:=by
 show (UInt8.ofNat n).toNat + 256 * (UInt8.ofNat (n / 256)).toNat + 65536 * (UInt8.ofNat (n / 65536)).toNat + 16777216 * (UInt8.ofNat (n / 16777216)).toNat = n
 simp only [UInt8.toNat_ofNat']
 omega
theorem crcS_lt (l:List UInt8):crcS l < 4294967296:=by unfold crcS;omega
end Go.By
namespace Go.Proofs.YtccaiiigdfieoaaGreatDoor
open Go.RowKit Go.By
theorem u8_of (n:Nat):((n:Int) % 256) = ((UInt8.ofNat n).toNat:Int):=by
 rw [UInt8.toNat_ofNat'];omega
theorem put4_cells (n:Nat) (h:n < 4294967296):([.int .u8 ((n:Int) % 256),.int .u8 ((n:Int) / 256 % 256),.int .u8 ((n:Int) / 65536 % 256),.int .u8 ((n:Int) / 16777216)]:List Value) = (put4 n).map B8:=by
 have e0:=u8_of n
 have e1:=u8_of (n / 256)
 have e2:=u8_of (n / 65536)
 have e3:=u8_of (n / 16777216)
 have f3:((n / 16777216:Nat):Int) % 256 = (n:Int) / 16777216:=by omega
 rw [f3] at e3
 have f1:((n / 256:Nat):Int) = (n:Int) / 256:=by omega
 have f2:((n / 65536:Nat):Int) = (n:Int) / 65536:=by omega
 rw [f1] at e1
 rw [f2] at e2
 rw [e0,e1,e2,e3]
 rfl
set_option maxHeartbeats 1000000 in
theorem SPut_any (n:Nat) (h:n < 4294967296) (w:World) :
  Calls Tryz.prog 138 #[.int .u32 (n:Int)] w fun e w'=>∃ g,e = .returned (.slice (some ⟨g,0,none⟩) 4 4)∧w.heap.size≤g∧w'.heap[g]? = some (.cells ((put4 n).map B8).toArray 5 (0,0))∧Below w.heap.size w w':=by
 have e0:=put4_cells n h
 go_enter Tryz.func138,Tryz.ntmps138
 go_wp2
 rw [← e0]
 go_ret
 exact ⟨w.heap.size,rfl,Nat.le_refl _,hnew rfl,al (Below.refl _ _) (Nat.le_refl _)⟩
end Go.Proofs.YtccaiiigdfieoaaGreatDoor
namespace Go.By
open Go.RowKit
theorem bits_and32 {a b:Nat} (ha:a < 2 ^ 32) (hb:b < 2 ^ 32):bits .and .u32 (a:Int) (b:Int) = ((a &&& b:Nat):Int) :=
 (bits_nat .u32 32 (by decide) (fun n h1 h2=>by rw [IntKind.wrap_u32];omega) a b ha hb).1
theorem bits_or32 {a b:Nat} (ha:a < 2 ^ 32) (hb:b < 2 ^ 32):bits .or .u32 (a:Int) (b:Int) = ((a ||| b:Nat):Int) :=
 (bits_nat .u32 32 (by decide) (fun n h1 h2=>by rw [IntKind.wrap_u32];omega) a b ha hb).2
theorem bits_xor32 {a b:Nat} (ha:a < 2 ^ 32) (hb:b < 2 ^ 32):bits .xor .u32 (a:Int) (b:Int) = ((a ^^^ b:Nat):Int) :=
 bits_xor_nat .u32 32 (by decide) (fun n h1 h2=>by rw [IntKind.wrap_u32];omega) a b ha hb
theorem or_add {a b k:Nat} (hb:b < 2 ^ k) (ha:a % 2 ^ k = 0):a ||| b = a + b:=by
 obtain ⟨q,rfl⟩:∃ q,a = 2 ^ k * q:=⟨a / 2 ^ k,by have:=Nat.div_add_mod a (2 ^ k);rw [ha] at this;omega⟩
 exact (Nat.two_pow_add_eq_or_of_lt hb q).symm
theorem not32 {r:Nat} (h:r < 4294967296):4294967295 ^^^ r = 4294967295 - r:=by
 apply Nat.eq_of_testBit_eq
 intro i
 rw [Nat.testBit_xor]
 have e1:=Nat.testBit_two_pow_sub_one 32 i
 have e2:=Nat.testBit_two_pow_sub_succ (n:=32) (x:=r) h i
 rw [show 2 ^ 32 - (r + 1) = 4294967295 - r by omega] at e2
 rw [show 2 ^ 32 - 1 = 4294967295 by rfl] at e1
 rw [e1,e2]
 by_cases hi:i < 32
 ·simp [hi]
 ·have:r.testBit i = false:=Nat.testBit_lt_two_pow (Nat.lt_of_lt_of_le h (by rw [show (4294967296:Nat) = 2 ^ 32 by rfl];exact Nat.pow_le_pow_right (by decide) (by omega)))
  simp [hi,this]
end Go.By
namespace Go.Proofs.YtccaiiigdfieoaaGreatDoor
open Go.RowKit Go.By
def HalfT (w:World):Prop:=∀ i,i < 16→w.cell? ⟨0,i,none⟩ = some (.int .u32 (crcTab.getD i 0:Nat))
theorem HalfT.keep {w w':World} (h:HalfT w) (hb:Below w.heap.size w w'):HalfT w':=fun i hi=>(hb.cell (p:=⟨0,i,none⟩) (lt_of_cell (h i hi))).trans (h i hi)
theorem HalfT.pos {w:World} (h:HalfT w):0 < w.heap.size:=lt_of_cell (h 0 (by decide))
theorem info_run:(Tryz.prog.info? 274).map (·.size) = some 1:=by kernel_rfl
theorem SStart_any (w:World):Calls Tryz.prog 198 #[] w fun e w'=>e = .returned (.agg #[.int .u32 (4294967295:Nat)])∧Below w.heap.size w w':=by
 have hinfo:=info_run
 go_enter Tryz.func198,Tryz.ntmps198
 go_wp2
 exact bodyPost_ret (results_cell_row rfl _ _ _ 274 #[.int .u32 (4294967295:Nat)] (0,0) _ rfl (hnew rfl) Tryz.underlying274 rfl hinfo) rfl ⟨rfl,((Below.refl _ _).alloc (Nat.le_refl _) _)⟩
theorem SSum_any (r:Nat) (h:r < 4294967296) (w:World):Calls Tryz.prog 200 #[.agg #[.int .u32 (r:Nat)]] w fun e w'=>e = .returned (.int .u32 (4294967295 - r:Nat))∧Below w.heap.size w w':=by
 have e0:bits BinOp.xor IntKind.u32 IntKind.u32.max (r:Int) = ((4294967295 - r:Nat):Int):=by
  rw [show IntKind.u32.max = ((4294967295:Nat):Int) by decide,bits_xor32 (by omega) (by omega)]
  congr 1
  exact not32 h
 go_enter Tryz.func200,Tryz.ntmps200
 go_wp2
 go_ret
 exact ⟨rfl,(Below.refl _ _).alloc (Nat.le_refl _) _⟩
structure RS (T:TypeId) (w0:World) (r:Nat) (wr:World):Prop where
 b:wr.heap[w0.heap.size]? = some (.cells #[.int .u32 (r:Nat)] T (0,0))
 c:wr.heap[w0.heap.size + 1]? = some (.cells #[.int .u32 0] T (0,0))
 below:Below w0.heap.size w0 wr
theorem RS.set {T:TypeId} {w0 wr:World} {r:Nat} (h:RS T w0 r wr) (r':Nat):RS T w0 r' (wr.setCell ⟨w0.heap.size,0,none⟩ (.int .u32 (r':Nat))) :=
 ⟨hss h.b,hsc h.c (by show w0.heap.size + 1≠w0.heap.size;omega),h.below.setCell (Nat.le_refl _) _⟩
theorem RS.cells {T:TypeId} {w0 wr:World} {r:Nat} (h:RS T w0 r wr):wr.cell? ⟨w0.heap.size,0,none⟩ = some (.int .u32 (r:Nat))∧wr.frozen? ⟨w0.heap.size,0,none⟩ = false∧wr.cell? ⟨w0.heap.size + 1,0,none⟩ = some (.int .u32 0)∧wr.frozen? ⟨w0.heap.size + 1,0,none⟩ = false :=
 ⟨cell_of_row _ _ 0 _ _ _ h.b,frozen_of_row _ _ 0 _ _ h.b,cell_of_row _ _ 0 _ _ _ h.c,frozen_of_row _ _ 0 _ _ h.c⟩
theorem RS.keep {T:TypeId} {w0 w1 w2:World} {r:Nat} (h:RS T w0 r w1) (hb:Below w1.heap.size w1 w2):RS T w0 r w2 :=
 ⟨(hb.block _ (lt_of_block h.b)).trans h.b,(hb.block _ (lt_of_block h.c)).trans h.c,bl h.below hb h.below.size⟩
set_option maxRecDepth 100000 in
set_option maxHeartbeats 4000000 in
theorem SWith_any (r:Nat) (hr:r < 4294967296) (p:Option Addr) (n c:Nat) (xss:List (List UInt8)) (w:World) (h:Sl2 w p n c xss) (hT:HalfT w) :
  Calls Tryz.prog 199 #[.agg #[.int .u32 (r:Nat)],.slice p n c] w fun e w'=>e = .returned (.agg #[.int .u32 (crcRun r xss.flatten:Nat)])∧Below w.heap.size w w':=by
 have hn:=h.bound
 obtain ⟨F,hF⟩:∃ F:Nat→Nat,F = fun k=>crcRun r (xss.take k).flatten:=⟨_,rfl⟩
 have HF:Hid (∀ k xs,xss[k]? = some xs→F (k + 1) = crcRun (F k) xs):=fun k xs hx=>by
  subst hF
  obtain ⟨hk,hx⟩:=List.getElem?_eq_some_iff.1 hx
  show crcRun r (xss.take (k + 1)).flatten = crcRun (crcRun r (xss.take k).flatten) xs
  rw [← crcRun_append,List.take_succ_eq_append_getElem hk,hx,List.flatten_append];simp
 have HL:Hid (∀ k,F k < 4294967296):=fun k=>by subst hF;exact crcRun_lt hr
 have HN:Hid (F n = crcRun r xss.flatten):=by subst hF;show crcRun r (xss.take n).flatten = _;rw [List.take_of_length_le (by rw [h.len];omega)]
 have H0:F 0 = r:=by subst hF;rfl
 have H:=Lib.hid h
 have HT:=Lib.hid hT
 have HP:Hid (0 < w.heap.size):=hT.pos
 clear h hF hT hr
 rw [← HN.out]
 go_enter Tryz.func199,Tryz.ntmps199
 go_wp2
 go_loopw [11] (fun i wr=>∃ k:Nat,k≤n∧i = .int .i64 k∧Hid (RS 274 w (F k) wr)) (fun i _=>n - (intOf i).toNat)
 case atStart =>
  refine ⟨0,Nat.zero_le _,rfl,?_⟩
  rw [H0]
  refine ⟨hal (hnew rfl),hnew (by simp),al (al (Below.refl _ _) (Nat.le_refl _)) (by simp)⟩
 case round =>
  obtain ⟨k,hk,rfl,hS⟩:=hrel
  by_cases hlt:k < n
  ·obtain ⟨b,o,q,m,c',xs,rfl,hc,hs,hx⟩:=H.out.at k hlt
   have hcw:=(hS.out.below.cell (p:=⟨b,o + k,none⟩) (lt_of_cell hc)).trans hc
   have hm:=hs.bound
   have HS:=Lib.hid hs
   have E0:F (k + 1) = crcRun (F k) xs:=HF.out k xs hx.out
   have EL:=HL.out k
   obtain ⟨G,hG⟩:∃ G:Nat→Nat,G = fun j=>crcRun (F k) (xs.take j):=⟨_,rfl⟩
   have G0:Hid (G 0 = F k):=by subst hG;rfl
   have GN:Hid (G m = F (k + 1)):=by subst hG;rw [E0];show crcRun _ (xs.take m) = _;rw [List.take_of_length_le (by rw [hs.len];omega)]
   have GS:Hid (∀ j x,xs[j]? = some x→G (j + 1) = crcHalf (crcHalf (G j ^^^ x.toNat))):=fun j x hj=>by
    subst hG
    obtain ⟨hj1,hj2⟩:=List.getElem?_eq_some_iff.1 hj
    show crcRun (F k) (xs.take (j + 1)) = crcByte (crcRun (F k) (xs.take j)) x
    rw [List.take_succ_eq_append_getElem hj1,hj2,crcRun_append];rfl
   have GL:Hid (∀ j,G j < 4294967296):=fun j=>by subst hG;exact crcRun_lt EL
   clear hs hG E0 EL
   go_wp2
   go_loopw [17] (fun i wr=>∃ j:Nat,j≤m∧i = .int .i64 j∧Hid (RS 274 w (G j) wr)) (fun i _=>m - (intOf i).toNat)
   case atStart=>exact ⟨0,Nat.zero_le _,rfl,by rw [G0.out];exact hS⟩
   case round =>
    obtain ⟨j,hj,rfl,hS2⟩:=hrel
    by_cases hjm:j < m
    ·obtain ⟨bb,oo,x,rfl,hcx,hxx⟩:=HS.out.at j hjm
     have hcx2:=(hS2.out.below.cell (p:=⟨bb,oo + j,none⟩) (lt_of_cell hcx)).trans hcx
     have hx8:=x.toNat_lt
     have g1:=GL.out j
     have hxor:=bits_xor32 (a:=G j) (b:=x.toNat) (by omega) (by omega)
     have hlt2:G j ^^^ x.toNat < 4294967296:=Nat.xor_lt_two_pow (n:=32) (by omega) (by omega)
     obtain ⟨cb,zb,cr,zr⟩:=hS2.out.cells
     have hsz:=hS2.out.below.size
     have HS3:=Lib.hid (hS2.out.set (G j ^^^ x.toNat))
     have GS2:=Lib.hid (GS.out j x hxx.out)
     generalize hV:G j ^^^ x.toNat = V at *
     clear hV
     go_wp2
     clear hxor
     go_loopw [27] (fun i wr=>∃ l v:Nat,l≤2∧i = .int .i64 l∧v < 4294967296∧Hid (l = 0∧v = V∨l = 1∧v = crcHalf V∨l = 2∧v = crcHalf (crcHalf V))∧Hid (RS 274 w v wr)) (fun i _=>2 - (intOf i).toNat)
     case atStart=>exact ⟨0,V,by omega,rfl,hlt2,Or.inl ⟨rfl,rfl⟩,HS3⟩
     case round =>
      obtain ⟨l,v,hl,rfl,hv,hor,hS4⟩:=hrel
      clear cb zb cr zr
      obtain ⟨cb,zb,cr,zr⟩:=hS4.out.cells
      by_cases hl2:l < 2
      ·have hst:=hS4.out.below.size
       have hTc:=(HT.out.keep (hS4.out.below)) (v % 16) (Nat.mod_lt _ (by omega))
       have hand:bits .and .u32 (v:Int) (15:Int) = ((v % 16:Nat):Int):=by
        rw [show (15:Int) = ((15:Nat):Int) by rfl,bits_and32 hv (by decide),show (15:Nat) = 2 ^ 4 - 1 by rfl,Nat.and_two_pow_sub_one_eq_mod]
       have htl:crcTab.getD (v % 16) 0 < 2 ^ 32:=crcTab_lt ⟨v % 16,Nat.mod_lt _ (by omega)⟩
       have hxo:bits .xor .u32 ((v:Int) / 16) (crcTab.getD (v % 16) 0:Nat) = ((crcHalf v:Nat):Int):=by
        have:=bits_xor32 (a:=v / 16) (b:=crcTab.getD (v % 16) 0) (by omega) htl
        rw [show ((v / 16:Nat):Int) = (v:Int) / 16 by omega] at this
        exact this
       have hvl:=crcHalf_lt hv
       have hm16:¬ (16:Int)≤((v % 16:Nat):Int):=by omega
       generalize hM:v % 16 = M at *
       generalize hU:crcTab.getD M 0 = U at *
       generalize hX:crcHalf v = X at *
       have hXe:=Lib.hid hX
       clear hX hM hU
       go_wp2_with fail
       refine wp_region_last (fun ix=>([.val (.pointer (some ⟨w.heap.size,0,none⟩)),.val (.int .u32 (v:Nat)),.val (.int .u32 ((v:Int) / 16)),.val (.pointer (some ⟨w.heap.size,0,none⟩)),.val (.int .u32 (v:Nat)),.val (.int .u32 (M:Nat)),.val (.pointer (some ⟨0,M,none⟩)),.val (.int .u32 (U:Nat)),.val (.int .u32 (X:Nat)),.val (.pointer (some ⟨w.heap.size,0,none⟩)),.any][ix]?).getD (.any)) 43 10 rfl (by kernel_rfl) (by decide) (by decide) (by decide) (by decide) ?_ ?_
       ·refine ⟨?_,?_,?_,?_,?_,?_,?_,?_,?_,?_,trivial⟩
        ·intro a W hb0 hs hp hi;have hb:=undrew hb0;clear hb0
         have t2:sl a 2 = .pointer (some ⟨w.heap.size,0,none⟩):=hi 2 (by decide)
         refine ite_y rfl (wp_val (.pointer (some ⟨w.heap.size,0,none⟩)) ?_ ?_)
         ·simp only [execOp,eval_tmp,eval_const,t2];simp [go_sem]
         ·exact ⟨_,rfl,Below.refl _ _,rfl⟩
        ·intro a W hb0 hs hp hi;have hb:=undrew hb0;clear hb0
         have tt:sl a 29 = .pointer (some ⟨w.heap.size,0,none⟩):=hp 0 (by decide)
         have dd:=(hb.cell (p:=⟨w.heap.size,0,none⟩) (lt_of_cell cb)).trans cb
         refine ite_y rfl (wp_val (.int .u32 (v:Nat)) ?_ ?_)
         ·simp only [execOp,eval_tmp,tt];simp [go_sem,dd]
         ·exact ⟨_,rfl,Below.refl _ _,rfl⟩
        ·intro a W hb0 hs hp hi;have hb:=undrew hb0;clear hb0
         have t30:sl a 30 = .int .u32 (v:Nat):=hp 1 (by decide)
         refine ite_y rfl (wp_val (.int .u32 ((v:Int) / 16)) ?_ ?_)
         ·simp only [execOp,eval_tmp,eval_const,t30];simp [go_sem]
         ·exact ⟨_,rfl,Below.refl _ _,rfl⟩
        ·intro a W hb0 hs hp hi;have hb:=undrew hb0;clear hb0
         have t2:sl a 2 = .pointer (some ⟨w.heap.size,0,none⟩):=hi 2 (by decide)
         refine ite_y rfl (wp_val (.pointer (some ⟨w.heap.size,0,none⟩)) ?_ ?_)
         ·simp only [execOp,eval_tmp,eval_const,t2];simp [go_sem]
         ·exact ⟨_,rfl,Below.refl _ _,rfl⟩
        ·intro a W hb0 hs hp hi;have hb:=undrew hb0;clear hb0
         have tt:sl a 32 = .pointer (some ⟨w.heap.size,0,none⟩):=hp 3 (by decide)
         have dd:=(hb.cell (p:=⟨w.heap.size,0,none⟩) (lt_of_cell cb)).trans cb
         refine ite_y rfl (wp_val (.int .u32 (v:Nat)) ?_ ?_)
         ·simp only [execOp,eval_tmp,tt];simp [go_sem,dd]
         ·exact ⟨_,rfl,Below.refl _ _,rfl⟩
        ·intro a W hb0 hs hp hi;have hb:=undrew hb0;clear hb0
         have t33:sl a 33 = .int .u32 (v:Nat):=hp 4 (by decide)
         refine ite_y rfl (wp_val (.int .u32 (M:Nat)) ?_ ?_)
         ·simp only [execOp,eval_tmp,eval_const,t33];simp [go_sem,hand]
         ·exact ⟨_,rfl,Below.refl _ _,rfl⟩
        ·intro a W hb0 hs hp hi;have hb:=undrew hb0;clear hb0
         have tt:sl a 34 = .int .u32 (M:Nat):=hp 5 (by decide)
         refine ite_y rfl (wp_val (.pointer (some ⟨0,M,none⟩)) ?_ ?_)
         ·simp only [execOp,eval_tmp,BigFrame.eval_global,tt];simp [go_sem,hm16]
         ·exact ⟨_,rfl,Below.refl _ _,rfl⟩
        ·intro a W hb0 hs hp hi;have hb:=undrew hb0;clear hb0
         have tt:sl a 35 = .pointer (some ⟨0,M,none⟩):=hp 6 (by decide)
         have dd:=(hb.cell (p:=⟨0,M,none⟩) (lt_of_cell hTc)).trans hTc
         refine ite_y rfl (wp_val (.int .u32 (U:Nat)) ?_ ?_)
         ·simp only [execOp,eval_tmp,tt];simp [go_sem,dd]
         ·exact ⟨_,rfl,Below.refl _ _,rfl⟩
        ·intro a W hb0 hs hp hi;have hb:=undrew hb0;clear hb0
         have t31:sl a 31 = .int .u32 ((v:Int) / 16):=hp 2 (by decide)
         have t36:sl a 36 = .int .u32 (U:Nat):=hp 7 (by decide)
         refine ite_y rfl (wp_val (.int .u32 (X:Nat)) ?_ ?_)
         ·simp only [execOp,eval_tmp,eval_const,t31,t36];simp [go_sem,hxo]
         ·exact ⟨_,rfl,Below.refl _ _,rfl⟩
        ·intro a W hb0 hs hp hi;have hb:=undrew hb0;clear hb0
         have t2:sl a 2 = .pointer (some ⟨w.heap.size,0,none⟩):=hi 2 (by decide)
         refine ite_y rfl (wp_val (.pointer (some ⟨w.heap.size,0,none⟩)) ?_ ?_)
         ·simp only [execOp,eval_tmp,eval_const,t2];simp [go_sem]
         ·exact ⟨_,rfl,Below.refl _ _,rfl⟩
       intro a w9 o ho hb hs hd hI ht
       have ha:=act_is [29,30,31,32,33,34,35,36,37,38] hs hd ht (by decide)
       simp at ho;subst ho
       have t37:sl a 37 = .int .u32 (X:Nat):=hI 8 (by decide)
       have t38:sl a 38 = .pointer (some ⟨w.heap.size,0,none⟩):=hI 9 (by decide)
       have c9:=(hb.cell (p:=⟨w.heap.size,0,none⟩) (lt_of_cell cb)).trans cb
       have z9:w9.frozen? ⟨w.heap.size,0,none⟩ = false:=frozen_of_row _ _ 0 _ _ ((hb.block _ (lt_of_block hS4.out.b)).trans hS4.out.b)
       have HS5:Hid (RS 274 w X (w9.setCell ⟨w.heap.size,0,none⟩ (.int .u32 (X:Nat)))):=(hS4.out.keep hb).set X
       refine wp_skip_none rfl (w':=w9.setCell ⟨w.heap.size,0,none⟩ (.int .u32 (X:Nat))) ?_ ?_
       ·simp only [execOp,eval_tmp,t37,t38];simp [go_sem,c9,z9]
       simp only [List.foldl,t37,t38] at ha
       generalize sl a 29 = u29 at ha
       generalize sl a 30 = u30 at ha
       generalize sl a 31 = u31 at ha
       generalize sl a 32 = u32 at ha
       generalize sl a 33 = u33 at ha
       generalize sl a 34 = u34 at ha
       generalize sl a 35 = u35 at ha
       generalize sl a 36 = u36 at ha
       simp only [Act.put,List.setIfInBounds_toArray,List.set_cons_zero,List.set_cons_succ] at ha
       rw [ha];clear ha hI ht hs hd t37 t38 c9 z9 hb
       go_wp2
       go_roundw
       case rel=>exact ⟨l + 1,X,by omega,by go_num,hvl,by
        rcases hor.out with ⟨rfl,rfl⟩ | ⟨rfl,rfl⟩ | ⟨rfl,rfl⟩
        ·exact Or.inr (Or.inl ⟨rfl,hXe.out.symm⟩)
        ·exact Or.inr (Or.inr ⟨rfl,hXe.out.symm⟩)
        ·omega,HS5⟩
       case measure=>simp [intOf];omega
      ·have hl2':l = 2:=by omega
       subst hl2'
       have HV:v = G (j + 1):=by
        rcases hor.out with ⟨h1,_⟩ | ⟨h1,_⟩ | ⟨_,h1⟩
        ·omega
        ·omega
        ·rw [GS2.out,h1]
       clear hor
       go_wp2
       go_roundw
       case rel=>exact ⟨j + 1,by omega,by go_num,by rw [← HV];exact hS4⟩
       case measure=>simp [intOf];omega
    ·have hjm':j = m:=by omega
     subst hjm'
     go_wp2
     go_roundw
     case rel=>exact ⟨k + 1,by omega,by go_num,by rw [← GN.out];exact hS2⟩
     case measure=>simp [intOf];omega
  ·have hkn:k = n:=by omega
   subst hkn
   obtain ⟨cb,zb,cr,zr⟩:=hS.out.cells
   have hinfo:=info_run
   go_wp2
   exact bodyPost_ret (results_cell_row rfl _ _ _ 274 #[.int .u32 (F k:Nat)] (0,0) _ rfl (hss hS.out.c) Tryz.underlying274 rfl hinfo) rfl ⟨rfl,hS.out.below.setCell (Nat.le_succ _) _⟩
end Go.Proofs.YtccaiiigdfieoaaGreatDoor
namespace Go.Proofs.YtccaiiigdfieoaaGreatDoor
open Go.RowKit Go.By
set_option maxHeartbeats 1000000 in
theorem SOf_any (p:Option Addr) (n c:Nat) (xss:List (List UInt8)) (w:World) (h:Sl2 w p n c xss) (hT:HalfT w) :
  Calls Tryz.prog 139 #[.slice p n c] w fun e w'=>e = .returned (.int .u32 (crcS xss.flatten:Nat))∧Below w.heap.size w w':=by
 have H:=Lib.hid h
 have HT:=Lib.hid hT
 have HL:Hid (crcRun 4294967295 xss.flatten < 4294967296):=crcRun_lt (by decide)
 clear h hT
 go_enter Tryz.func139,Tryz.ntmps139
 go_wp2_with fail
 refine Calls.mono (SStart_any w) ?_
 rintro e w1 ⟨rfl,hb1⟩
 go_wp2_with fail
 refine Calls.mono (SWith_any 4294967295 (by decide) p n c xss w1 (H.out.keep hb1) (HT.out.keep hb1)) ?_
 rintro e w2 ⟨rfl,hb2⟩
 have HB:=Lib.hid (bl hb1 hb2 hb1.size)
 clear hb1 hb2
 go_wp2_with fail
 refine Calls.mono (SSum_any _ HL.out w2) ?_
 rintro e w3 ⟨rfl,hb3⟩
 have HB3:=Lib.hid (bl HB.out hb3 HB.out.size)
 clear hb3
 go_wp2
 go_ret
 exact ⟨rfl,HB3.out⟩
set_option maxRecDepth 100000 in
set_option maxHeartbeats 2000000 in
theorem SGet_any (p:Option Addr) (n c:Nat) (xs:List UInt8) (w:World) (h:Sl B8 w p n c xs) :
  Calls Tryz.prog 174 #[.slice p n c] w fun e w'=>e = .returned (.tuple #[.int .u32 (get4 xs:Nat),.int .i64 (if n = 4 then 0 else 4)])∧Below w.heap.size w w':=by
 have hn:=h.bound
 by_cases h4:n = 4
 ·subst h4
  obtain ⟨b,o,x0,rfl,k0,y0⟩:=h.at 0 (by omega)
  obtain ⟨_,_,x1,e1,k1,y1⟩:=h.at 1 (by omega)
  obtain ⟨_,_,x2,e2,k2,y2⟩:=h.at 2 (by omega)
  obtain ⟨_,_,x3,e3,k3,y3⟩:=h.at 3 (by omega)
  cases e1;cases e2;cases e3
  rw [Nat.add_zero] at k0
  have hl:=h.len
  have hxs:xs = [x0,x1,x2,x3]:=by
   match xs,hl,y0.out,y1.out,y2.out,y3.out with
   | [a,b,c,d],_,h0,h1,h2,h3=>simp at h0 h1 h2 h3;rw [h0,h1,h2,h3]
  subst hxs
  clear h hl y0 y1 y2 y3 hn
  rw [if_pos rfl]
  have l0:=x0.toNat_lt;have l1:=x1.toNat_lt;have l2:=x2.toNat_lt;have l3:=x3.toNat_lt
  have hG:Hid (get4 [x0,x1,x2,x3] = x0.toNat + 256 * x1.toNat + 65536 * x2.toNat + 16777216 * x3.toNat):=rfl
  have s1:IntKind.u32.wrap ((x1.toNat:Int) * 256) = ((256 * x1.toNat:Nat):Int):=by rw [IntKind.wrap_u32];omega
  have s2:IntKind.u32.wrap ((x2.toNat:Int) * 65536) = ((65536 * x2.toNat:Nat):Int):=by rw [IntKind.wrap_u32];omega
  have s3:IntKind.u32.wrap ((x3.toNat:Int) * 16777216) = ((16777216 * x3.toNat:Nat):Int):=by rw [IntKind.wrap_u32];omega
  have o1:bits .or .u32 (x0.toNat:Int) ((256 * x1.toNat:Nat):Int) = ((x0.toNat + 256 * x1.toNat:Nat):Int):=by
   rw [bits_or32 (by omega) (by omega),Nat.or_comm,or_add (k:=8) (by omega) (by omega),Nat.add_comm]
  have o2:bits .or .u32 ((x0.toNat + 256 * x1.toNat:Nat):Int) ((65536 * x2.toNat:Nat):Int) = ((x0.toNat + 256 * x1.toNat + 65536 * x2.toNat:Nat):Int):=by
   rw [bits_or32 (by omega) (by omega),Nat.or_comm,or_add (k:=16) (by omega) (by omega),Nat.add_comm]
  have o3:bits .or .u32 ((x0.toNat + 256 * x1.toNat + 65536 * x2.toNat:Nat):Int) ((16777216 * x3.toNat:Nat):Int) = ((x0.toNat + 256 * x1.toNat + 65536 * x2.toNat + 16777216 * x3.toNat:Nat):Int):=by
   rw [bits_or32 (by omega) (by omega),Nat.or_comm,or_add (k:=24) (by omega) (by omega),Nat.add_comm]
  rw [hG.out]
  generalize hA1:256 * x1.toNat = a1 at *
  generalize hA2:65536 * x2.toNat = a2 at *
  generalize hA3:16777216 * x3.toNat = a3 at *
  generalize hB1:x0.toNat + a1 = b1 at *
  generalize hB2:b1 + a2 = b2 at *
  generalize hB3:b2 + a3 = b3 at *
  clear hA1 hA2 hA3 hB1 hB2 hB3 hG
  go_enter Tryz.func174,Tryz.ntmps174
  go_wp2_with fail
  refine wp_region_shapes (fun ix=>([.val (.slice (some ⟨b,o,none⟩) 4 c),.val (.pointer (some ⟨b,o,none⟩)),.val (B8 x0),.val (.int .u32 (x0.toNat:Nat)),.val (.slice (some ⟨b,o,none⟩) 4 c),.val (.pointer (some ⟨b,o + 1,none⟩)),.val (B8 x1),.val (.int .u32 (x1.toNat:Nat)),.val (.int .u32 (a1:Nat)),.val (.int .u32 (b1:Nat)),.val (.slice (some ⟨b,o,none⟩) 4 c),.val (.pointer (some ⟨b,o + 2,none⟩)),.val (B8 x2),.val (.int .u32 (x2.toNat:Nat)),.val (.int .u32 (a2:Nat)),.val (.int .u32 (b2:Nat)),.val (.slice (some ⟨b,o,none⟩) 4 c),.val (.pointer (some ⟨b,o + 3,none⟩)),.val (B8 x3),.val (.int .u32 (x3.toNat:Nat)),.val (.int .u32 (a3:Nat)),.val (.int .u32 (b3:Nat)),.val (.int .u32 (b3:Nat)),.val (.int .i64 0)][ix]?).getD (.any)) 29 rfl (by kernel_rfl) (by decide) (by decide) (by decide) ?_ ?_
  ·refine ⟨?_,?_,?_,?_,?_,?_,?_,?_,?_,?_,?_,?_,?_,?_,?_,?_,?_,?_,?_,?_,?_,?_,?_,?_,trivial⟩
   ·intro a W hb0 hs hp hi;have hb:=undrew hb0;clear hb0
    have t0:sl a 0 = .slice (some ⟨b,o,none⟩) 4 c:=hi 0 (by decide)
    exact ite_y rfl (wp_val (sl a 0) rfl ⟨_,rfl,Below.refl _ _,t0⟩)
   ·intro a W hb0 hs hp hi;have hb:=undrew hb0;clear hb0
    have ti0:sl a 7 = .slice (some ⟨b,o,none⟩) 4 c:=hp 0 (by decide)
    refine ite_y rfl (wp_val (.pointer (some ⟨b,o,none⟩)) ?_ ?_)
    ·simp only [execOp,eval_tmp,eval_const,ti0];simp [go_sem]
    ·exact ⟨_,rfl,Below.refl _ _,rfl⟩
   ·intro a W hb0 hs hp hi;have hb:=undrew hb0;clear hb0
    have tt:sl a 8 = .pointer (some ⟨b,o,none⟩):=hp 1 (by decide)
    have dd:=(hb.cell (p:=⟨b,o,none⟩) (lt_of_cell k0)).trans k0
    refine ite_y rfl (wp_val (B8 x0) ?_ ?_)
    ·simp only [execOp,eval_tmp,tt];simp [go_sem,dd]
    ·exact ⟨_,rfl,Below.refl _ _,rfl⟩
   ·intro a W hb0 hs hp hi;have hb:=undrew hb0;clear hb0
    have tt:sl a 9 = B8 x0:=hp 2 (by decide)
    refine ite_y rfl (wp_val (.int .u32 (x0.toNat:Nat)) ?_ ?_)
    ·simp only [execOp,eval_tmp,tt];simp [go_sem,Tryz.underlying5,Tryz.underlying23,show IntKind.u32.wrap (x0.toNat:Int) = x0.toNat by rw [IntKind.wrap_u32];omega]
    ·exact ⟨_,rfl,Below.refl _ _,rfl⟩
   ·intro a W hb0 hs hp hi;have hb:=undrew hb0;clear hb0
    have t0:sl a 0 = .slice (some ⟨b,o,none⟩) 4 c:=hi 0 (by decide)
    exact ite_y rfl (wp_val (sl a 0) rfl ⟨_,rfl,Below.refl _ _,t0⟩)
   ·intro a W hb0 hs hp hi;have hb:=undrew hb0;clear hb0
    have ti0:sl a 11 = .slice (some ⟨b,o,none⟩) 4 c:=hp 4 (by decide)
    refine ite_y rfl (wp_val (.pointer (some ⟨b,o + 1,none⟩)) ?_ ?_)
    ·simp only [execOp,eval_tmp,eval_const,ti0];simp [go_sem]
    ·exact ⟨_,rfl,Below.refl _ _,rfl⟩
   ·intro a W hb0 hs hp hi;have hb:=undrew hb0;clear hb0
    have tt:sl a 12 = .pointer (some ⟨b,o + 1,none⟩):=hp 5 (by decide)
    have dd:=(hb.cell (p:=⟨b,o + 1,none⟩) (lt_of_cell k1)).trans k1
    refine ite_y rfl (wp_val (B8 x1) ?_ ?_)
    ·simp only [execOp,eval_tmp,tt];simp [go_sem,dd]
    ·exact ⟨_,rfl,Below.refl _ _,rfl⟩
   ·intro a W hb0 hs hp hi;have hb:=undrew hb0;clear hb0
    have tt:sl a 13 = B8 x1:=hp 6 (by decide)
    refine ite_y rfl (wp_val (.int .u32 (x1.toNat:Nat)) ?_ ?_)
    ·simp only [execOp,eval_tmp,tt];simp [go_sem,Tryz.underlying5,Tryz.underlying23,show IntKind.u32.wrap (x1.toNat:Int) = x1.toNat by rw [IntKind.wrap_u32];omega]
    ·exact ⟨_,rfl,Below.refl _ _,rfl⟩
   ·intro a W hb0 hs hp hi;have hb:=undrew hb0;clear hb0
    have t14:sl a 14 = .int .u32 (x1.toNat:Nat):=hp 7 (by decide)
    refine ite_y rfl (wp_val (.int .u32 (a1:Nat)) ?_ ?_)
    ·simp only [execOp,eval_tmp,eval_const,t14];simp [go_sem,s1]
    ·exact ⟨_,rfl,Below.refl _ _,rfl⟩
   ·intro a W hb0 hs hp hi;have hb:=undrew hb0;clear hb0
    have t10:sl a 10 = .int .u32 (x0.toNat:Nat):=hp 3 (by decide)
    have t15:sl a 15 = .int .u32 (a1:Nat):=hp 8 (by decide)
    refine ite_y rfl (wp_val (.int .u32 (b1:Nat)) ?_ ?_)
    ·simp only [execOp,eval_tmp,eval_const,t10,t15];simp [go_sem,o1]
    ·exact ⟨_,rfl,Below.refl _ _,rfl⟩
   ·intro a W hb0 hs hp hi;have hb:=undrew hb0;clear hb0
    have t0:sl a 0 = .slice (some ⟨b,o,none⟩) 4 c:=hi 0 (by decide)
    exact ite_y rfl (wp_val (sl a 0) rfl ⟨_,rfl,Below.refl _ _,t0⟩)
   ·intro a W hb0 hs hp hi;have hb:=undrew hb0;clear hb0
    have ti0:sl a 17 = .slice (some ⟨b,o,none⟩) 4 c:=hp 10 (by decide)
    refine ite_y rfl (wp_val (.pointer (some ⟨b,o + 2,none⟩)) ?_ ?_)
    ·simp only [execOp,eval_tmp,eval_const,ti0];simp [go_sem]
    ·exact ⟨_,rfl,Below.refl _ _,rfl⟩
   ·intro a W hb0 hs hp hi;have hb:=undrew hb0;clear hb0
    have tt:sl a 18 = .pointer (some ⟨b,o + 2,none⟩):=hp 11 (by decide)
    have dd:=(hb.cell (p:=⟨b,o + 2,none⟩) (lt_of_cell k2)).trans k2
    refine ite_y rfl (wp_val (B8 x2) ?_ ?_)
    ·simp only [execOp,eval_tmp,tt];simp [go_sem,dd]
    ·exact ⟨_,rfl,Below.refl _ _,rfl⟩
   ·intro a W hb0 hs hp hi;have hb:=undrew hb0;clear hb0
    have tt:sl a 19 = B8 x2:=hp 12 (by decide)
    refine ite_y rfl (wp_val (.int .u32 (x2.toNat:Nat)) ?_ ?_)
    ·simp only [execOp,eval_tmp,tt];simp [go_sem,Tryz.underlying5,Tryz.underlying23,show IntKind.u32.wrap (x2.toNat:Int) = x2.toNat by rw [IntKind.wrap_u32];omega]
    ·exact ⟨_,rfl,Below.refl _ _,rfl⟩
   ·intro a W hb0 hs hp hi;have hb:=undrew hb0;clear hb0
    have t20:sl a 20 = .int .u32 (x2.toNat:Nat):=hp 13 (by decide)
    refine ite_y rfl (wp_val (.int .u32 (a2:Nat)) ?_ ?_)
    ·simp only [execOp,eval_tmp,eval_const,t20];simp [go_sem,s2]
    ·exact ⟨_,rfl,Below.refl _ _,rfl⟩
   ·intro a W hb0 hs hp hi;have hb:=undrew hb0;clear hb0
    have t16:sl a 16 = .int .u32 (b1:Nat):=hp 9 (by decide)
    have t21:sl a 21 = .int .u32 (a2:Nat):=hp 14 (by decide)
    refine ite_y rfl (wp_val (.int .u32 (b2:Nat)) ?_ ?_)
    ·simp only [execOp,eval_tmp,eval_const,t16,t21];simp [go_sem,o2]
    ·exact ⟨_,rfl,Below.refl _ _,rfl⟩
   ·intro a W hb0 hs hp hi;have hb:=undrew hb0;clear hb0
    have t0:sl a 0 = .slice (some ⟨b,o,none⟩) 4 c:=hi 0 (by decide)
    exact ite_y rfl (wp_val (sl a 0) rfl ⟨_,rfl,Below.refl _ _,t0⟩)
   ·intro a W hb0 hs hp hi;have hb:=undrew hb0;clear hb0
    have ti0:sl a 23 = .slice (some ⟨b,o,none⟩) 4 c:=hp 16 (by decide)
    refine ite_y rfl (wp_val (.pointer (some ⟨b,o + 3,none⟩)) ?_ ?_)
    ·simp only [execOp,eval_tmp,eval_const,ti0];simp [go_sem]
    ·exact ⟨_,rfl,Below.refl _ _,rfl⟩
   ·intro a W hb0 hs hp hi;have hb:=undrew hb0;clear hb0
    have tt:sl a 24 = .pointer (some ⟨b,o + 3,none⟩):=hp 17 (by decide)
    have dd:=(hb.cell (p:=⟨b,o + 3,none⟩) (lt_of_cell k3)).trans k3
    refine ite_y rfl (wp_val (B8 x3) ?_ ?_)
    ·simp only [execOp,eval_tmp,tt];simp [go_sem,dd]
    ·exact ⟨_,rfl,Below.refl _ _,rfl⟩
   ·intro a W hb0 hs hp hi;have hb:=undrew hb0;clear hb0
    have tt:sl a 25 = B8 x3:=hp 18 (by decide)
    refine ite_y rfl (wp_val (.int .u32 (x3.toNat:Nat)) ?_ ?_)
    ·simp only [execOp,eval_tmp,tt];simp [go_sem,Tryz.underlying5,Tryz.underlying23,show IntKind.u32.wrap (x3.toNat:Int) = x3.toNat by rw [IntKind.wrap_u32];omega]
    ·exact ⟨_,rfl,Below.refl _ _,rfl⟩
   ·intro a W hb0 hs hp hi;have hb:=undrew hb0;clear hb0
    have t26:sl a 26 = .int .u32 (x3.toNat:Nat):=hp 19 (by decide)
    refine ite_y rfl (wp_val (.int .u32 (a3:Nat)) ?_ ?_)
    ·simp only [execOp,eval_tmp,eval_const,t26];simp [go_sem,s3]
    ·exact ⟨_,rfl,Below.refl _ _,rfl⟩
   ·intro a W hb0 hs hp hi;have hb:=undrew hb0;clear hb0
    have t22:sl a 22 = .int .u32 (b2:Nat):=hp 15 (by decide)
    have t27:sl a 27 = .int .u32 (a3:Nat):=hp 20 (by decide)
    refine ite_y rfl (wp_val (.int .u32 (b3:Nat)) ?_ ?_)
    ·simp only [execOp,eval_tmp,eval_const,t22,t27];simp [go_sem,o3]
    ·exact ⟨_,rfl,Below.refl _ _,rfl⟩
   ·intro a W hb0 hs hp hi;have hb:=undrew hb0;clear hb0
    have t28:sl a 28 = .int .u32 (b3:Nat):=hp 21 (by decide)
    exact ite_y rfl (wp_val (sl a 28) rfl ⟨_,rfl,Below.refl _ _,t28⟩)
   ·intro a W hb0 hs hp hi;have hb:=undrew hb0;clear hb0
    exact ite_y rfl (wp_val (.int .i64 0) rfl ⟨_,rfl,Below.refl _ _,rfl⟩)
  intro a w9 hb hs hd hI ht
  have ha:=act_is [7,8,9,10,11,12,13,14,15,16,17,18,19,20,21,22,23,24,25,26,27,28,2,3] hs hd ht (by decide)
  have t2:sl a 2 = .int .u32 (b3:Nat):=hI 22 (by decide)
  have t3:sl a 3 = .int .i64 0:=hI 23 (by decide)
  simp only [List.foldl,t2,t3] at ha
  generalize sl a 7 = u7 at ha
  generalize sl a 8 = u8 at ha
  generalize sl a 9 = u9 at ha
  generalize sl a 10 = u10 at ha
  generalize sl a 11 = u11 at ha
  generalize sl a 12 = u12 at ha
  generalize sl a 13 = u13 at ha
  generalize sl a 14 = u14 at ha
  generalize sl a 15 = u15 at ha
  generalize sl a 16 = u16 at ha
  generalize sl a 17 = u17 at ha
  generalize sl a 18 = u18 at ha
  generalize sl a 19 = u19 at ha
  generalize sl a 20 = u20 at ha
  generalize sl a 21 = u21 at ha
  generalize sl a 22 = u22 at ha
  generalize sl a 23 = u23 at ha
  generalize sl a 24 = u24 at ha
  generalize sl a 25 = u25 at ha
  generalize sl a 26 = u26 at ha
  generalize sl a 27 = u27 at ha
  generalize sl a 28 = u28 at ha
  simp only [Act.put,List.setIfInBounds_toArray,List.set_cons_zero,List.set_cons_succ] at ha
  rw [ha]
  clear ha hI ht
  go_wp2
  go_ret2
  exact ⟨rfl,hb⟩
 ·have hG:get4 xs = 0:=by
   have hl:=h.len
   unfold get4;split
   ·simp at hl;omega
   ·rfl
  rw [hG,if_neg h4]
  have h4':¬ ((n:Int) = 4):=by omega
  clear hG h
  go_enter Tryz.func174,Tryz.ntmps174
  go_wp2
  go_ret2
  exact ⟨rfl,Below.refl _ _⟩
end Go.Proofs.YtccaiiigdfieoaaGreatDoor
namespace Go.By
open Go.RowKit
theorem sl2_three {W:World} {g T:Nat} {fr:Nat × Nat} {p1 p2 p3:Option Addr} {n1 n2 n3 c1 c2 c3:Nat} {xs ys zs:List UInt8} (hW:W.heap[g]? = some (.cells #[.slice p1 n1 c1,.slice p2 n2 c2,.slice p3 n3 c3] T fr)) (h1:Sl B8 W p1 n1 c1 xs) (h2:Sl B8 W p2 n2 c2 ys) (h3:Sl B8 W p3 n3 c3 zs) :
  Sl2 W (some ⟨g,0,none⟩) 3 3 [xs,ys,zs]:=by
 refine sl2_block [xs,ys,zs] 3 hW rfl rfl (by simp [maxLen]) ?_
 intro i u hi
 match i,hi with
 | 0,hi=>simp at hi;subst hi;exact ⟨p1,n1,c1,rfl,h1⟩
 | 1,hi=>simp at hi;subst hi;exact ⟨p2,n2,c2,rfl,h2⟩
 | 2,hi=>simp at hi;subst hi;exact ⟨p3,n3,c3,rfl,h3⟩
theorem sl2_four {W:World} {g T:Nat} {fr:Nat × Nat} {p1 p2 p3 p4:Option Addr} {n1 n2 n3 n4 c1 c2 c3 c4:Nat} {xs ys zs us:List UInt8} (hW:W.heap[g]? = some (.cells #[.slice p1 n1 c1,.slice p2 n2 c2,.slice p3 n3 c3,.slice p4 n4 c4] T fr)) (h1:Sl B8 W p1 n1 c1 xs) (h2:Sl B8 W p2 n2 c2 ys) (h3:Sl B8 W p3 n3 c3 zs) (h4:Sl B8 W p4 n4 c4 us) :
  Sl2 W (some ⟨g,0,none⟩) 4 4 [xs,ys,zs,us]:=by
 refine sl2_block [xs,ys,zs,us] 4 hW rfl rfl (by simp [maxLen]) ?_
 intro i u hi
 match i,hi with
 | 0,hi=>simp at hi;subst hi;exact ⟨p1,n1,c1,rfl,h1⟩
 | 1,hi=>simp at hi;subst hi;exact ⟨p2,n2,c2,rfl,h2⟩
 | 2,hi=>simp at hi;subst hi;exact ⟨p3,n3,c3,rfl,h3⟩
 | 3,hi=>simp at hi;subst hi;exact ⟨p4,n4,c4,rfl,h4⟩
theorem sl2_one {W:World} {g T:Nat} {fr:Nat × Nat} {p1:Option Addr} {n1 c1:Nat} {xs:List UInt8} (hW:W.heap[g]? = some (.cells #[.slice p1 n1 c1] T fr)) (h1:Sl B8 W p1 n1 c1 xs) :
  Sl2 W (some ⟨g,0,none⟩) 1 1 [xs]:=by
 refine sl2_block [xs] 1 hW rfl rfl (by simp [maxLen]) ?_
 intro i u hi
 match i,hi with
 | 0,hi=>simp at hi;subst hi;exact ⟨p1,n1,c1,rfl,h1⟩
theorem cells_three {w:World} {b T:Nat} {u v x:Value} (h:w.heap[b]? = some (.cells #[u,v,x] T (0,0))):w.cell? ⟨b,0,none⟩ = some u∧w.cell? ⟨b,1,none⟩ = some v∧w.cell? ⟨b,2,none⟩ = some x :=
 ⟨cell_of_row _ _ 0 _ _ _ h,cell_of_row _ _ 1 _ _ _ h,cell_of_row _ _ 2 _ _ _ h⟩
theorem cells_four {w:World} {b T:Nat} {u v x y:Value} (h:w.heap[b]? = some (.cells #[u,v,x,y] T (0,0))):w.cell? ⟨b,0,none⟩ = some u∧w.cell? ⟨b,1,none⟩ = some v∧w.cell? ⟨b,2,none⟩ = some x∧w.cell? ⟨b,3,none⟩ = some y :=
 ⟨cell_of_row _ _ 0 _ _ _ h,cell_of_row _ _ 1 _ _ _ h,cell_of_row _ _ 2 _ _ _ h,cell_of_row _ _ 3 _ _ _ h⟩
theorem cells_five {w:World} {b T:Nat} {u v x y z:Value} (h:w.heap[b]? = some (.cells #[u,v,x,y,z] T (0,0))):w.cell? ⟨b,0,none⟩ = some u∧w.cell? ⟨b,1,none⟩ = some v∧w.cell? ⟨b,2,none⟩ = some x∧w.cell? ⟨b,3,none⟩ = some y∧w.cell? ⟨b,4,none⟩ = some z :=
 ⟨cell_of_row _ _ 0 _ _ _ h,cell_of_row _ _ 1 _ _ _ h,cell_of_row _ _ 2 _ _ _ h,cell_of_row _ _ 3 _ _ _ h,cell_of_row _ _ 4 _ _ _ h⟩
theorem below_row {B g:Nat} {a w:World} {cs:Array Value} (h:Below B a w) (hg:B≤g):Below B a (w.setRow g cs):=by
 refine ⟨h.os,h.tape,h.output,?_,fun i hi=>?_⟩
 ·have:=h.size;simpa [World.setRow] using this
 ·rw [← h.block i hi]
  simp only [World.setRow,Array.getElem?_modify]
  rw [if_neg (by omega)]
theorem cell_setRow {w:World} {b o g:Nat} {v:Value} {cs:Array Value} (h:w.cell? ⟨b,o,none⟩ = some v) (hne:b≠g):(w.setRow g cs).cell? ⟨b,o,none⟩ = some v:=by
 refine (World.cell?_of_block (a:=⟨b,o,none⟩) ?_).trans h
 simp only [World.setRow,Array.getElem?_modify]
 rw [if_neg (by omega)]
theorem sl_setRow {α:Type} {enc:α→Value} {w:World} {p:Option Addr} {n c g:Nat} {xs:List α} {cs:Array Value} (h:Sl enc w p n c xs) (hne:∀ a,p = some a→a.block≠g):Sl enc (w.setRow g cs) p n c xs :=
 ⟨h.len,h.le,h.max,h.nil,fun i hi=>by
  obtain ⟨b,o,e,hc⟩:=h.rs i hi
  exact ⟨b,o,e,cell_setRow hc (hne _ e)⟩⟩
def NewP (B:Nat) (q:Option Addr):Prop:=∀ a,q = some a→B≤a.block
structure Fresh (T:TypeId) (B:Nat) (w:World) (q:Option Addr) (n c:Nat) (xs:List UInt8):Prop where
 sl:Sl B8 w q n c xs
 new:NewP B q
 ty:∀ a,q = some a→∃ cs fr,w.heap[a.block]? = some (.cells cs T fr)
theorem Fresh.of_owns {T:TypeId} {B:Nat} {w:World} {q:Option Addr} {n c:Nat} {xs:List UInt8} (h:w.ownsRow B T 1 (.slice q n c) n (xs.map B8)):Fresh T B w q n c xs:=by
 refine ⟨Sl.of_owns h,fun a ha=>(owns_new h a ha).1,fun a ha=>?_⟩
 rcases h.2 with ⟨h2,_⟩ | ⟨g,cap,cur,hv,_,hh,_⟩
 ·subst ha;cases h2
 ·subst ha;cases hv;exact ⟨_,_,hh⟩
theorem Fresh.none (T:TypeId) (B:Nat) (w:World):Fresh T B w none 0 0 []:=⟨Sl.nil0 _ _,fun a ha=>(by cases ha),fun a ha=>(by cases ha)⟩
theorem Fresh.keep {T:TypeId} {B:Nat} {w w':World} {q:Option Addr} {n c:Nat} {xs:List UInt8} (h:Fresh T B w q n c xs) (hb:Below w.heap.size w w'):Fresh T B w' q n c xs :=
 ⟨h.sl.keep hb,h.new,fun a ha=>by obtain ⟨cs,fr,e⟩:=h.ty a ha;exact ⟨cs,fr,(hb.block _ (lt_of_block e)).trans e⟩⟩
theorem Fresh.mono {T:TypeId} {B B':Nat} {w:World} {q:Option Addr} {n c:Nat} {xs:List UInt8} (h:Fresh T B w q n c xs) (hB:B'≤B):Fresh T B' w q n c xs:=⟨h.sl,fun a ha=>Nat.le_trans hB (h.new a ha),h.ty⟩
theorem Fresh.row {T T':TypeId} {B g:Nat} {w:World} {q:Option Addr} {n c:Nat} {xs:List UInt8} {cs old:Array Value} {fr:Nat × Nat} (h:Fresh T B w q n c xs) (hg:w.heap[g]? = some (.cells old T' fr)) (hne:T'≠T):Fresh T B (w.setRow g cs) q n c xs:=by
 have hd:∀ a,q = some a→a.block≠g:=fun a ha e=>by
  obtain ⟨c2,f2,e2⟩:=h.ty a ha
  rw [e,hg] at e2
  injection e2 with e2
  injection e2 with _ e3 _
  exact hne e3
 exact ⟨sl_setRow h.sl hd,h.new,fun a ha=>by obtain ⟨c2,f2,e2⟩:=h.ty a ha;exact ⟨c2,f2,hro e2 (hd a ha)⟩⟩
theorem one_of {w w1:World} {A:Obj} (hb:Below (w.alloc A).heap.size (w.alloc A) w1):Below w.heap.size w w1∧w1.heap[w.heap.size]? = some A∧w.heap.size + 1≤w1.heap.size :=
 ⟨(al (Below.refl _ _) (Nat.le_refl _)).trans (hb.mono (by simp)),(hb.block _ (by simp)).trans (hnew rfl),by have:=hb.size;simpa using this⟩
theorem two_of {w w1:World} {A B:Obj} (hb:Below ((w.alloc A).alloc B).heap.size ((w.alloc A).alloc B) w1):Below w.heap.size w w1∧w1.heap[w.heap.size]? = some A∧w1.heap[w.heap.size + 1]? = some B∧w.heap.size + 2≤w1.heap.size :=
 ⟨(al (al (Below.refl _ _) (Nat.le_refl _)) (by simp)).trans (hb.mono (by simp;omega)),(hb.block _ (by simp;omega)).trans (hal (hnew rfl)),(hb.block _ (by simp)).trans (hnew (by simp)),by have:=hb.size;simp at this;omega⟩
theorem Sl.part {α:Type} {enc:α→Value} {w:World} {b o n c k m:Nat} {xs:List α} (h:Sl enc w (some ⟨b,o,none⟩) n c xs) (hk:k + m≤n):Sl enc w (some ⟨b,o + k,none⟩) m (c - k) ((xs.drop k).take m):=by
 have h1:=h.len;have h2:=h.le;have h3:=h.max
 refine ⟨by simp;omega,by omega,by omega,fun hp=>(by cases hp),?_⟩
 intro i hi
 simp at hi
 obtain ⟨b',o',e,hc⟩:=h.rs (k + i) (by omega)
 cases e
 refine ⟨_,_,rfl,?_⟩
 rw [Nat.add_assoc,hc]
 simp
theorem Sl.tail {α:Type} {enc:α→Value} {w:World} {b o n c:Nat} {xs:List α} (k:Nat) (h:Sl enc w (some ⟨b,o,none⟩) n c xs) (hk:k≤n):Sl enc w (if c = k then some ⟨b,o,none⟩ else some ⟨b,o + k,none⟩) (n - k) (c - k) (xs.drop k):=by
 have h1:=h.len;have h2:=h.le;have h3:=h.max
 refine ⟨by simp;omega,by omega,by omega,fun hp=>(by split at hp <;> cases hp),?_⟩
 intro i hi
 simp at hi
 rw [if_neg (by omega)]
 obtain ⟨b',o',e,hc⟩:=h.rs (k + i) (by omega)
 cases e
 refine ⟨_,_,rfl,?_⟩
 rw [Nat.add_assoc,hc]
 simp
theorem Sl.read {α:Type} {enc:α→Value} {w:World} {p:Option Addr} {n c:Nat} {xs ys:List α} (h:Sl enc w p n c xs) (e:xs = ys):Sl enc w p n c ys:=e ▸ h
theorem Sl.has {α:Type} {enc:α→Value} {w:World} {p:Option Addr} {n c:Nat} {xs:List α} (h:Sl enc w p n c xs) (hn:0 < n):∃ b o,p = some ⟨b,o,none⟩∧b < w.heap.size:=h.rs.lt (by rw [h.len];exact hn)
def SRet (w:World) (ys:List UInt8) (code:Int) (e:Ending) (w':World):Prop :=
 ∃ q n c,e = .returned (.tuple #[.slice q n c,.int .i64 code])∧Sl B8 w' q n c ys∧Below w.heap.size w w'
def SRet1 (w:World) (ys:List UInt8) (e:Ending) (w':World):Prop :=
 ∃ q n c,e = .returned (.slice q n c)∧Sl B8 w' q n c ys∧Below w.heap.size w w'
def SRetF (T:TypeId) (w:World) (ys:List UInt8) (code:Int) (e:Ending) (w':World):Prop :=
 ∃ q n c,e = .returned (.tuple #[.slice q n c,.int .i64 code])∧Fresh T w.heap.size w' q n c ys∧Below w.heap.size w w'
theorem SRetF.ret {T:TypeId} {w w':World} {ys:List UInt8} {code:Int} {e:Ending} (h:SRetF T w ys code e w'):SRet w ys code e w':=by
 obtain ⟨q,n,c,e,hf,hb⟩:=h
 exact ⟨q,n,c,e,hf.sl,hb⟩
theorem SRetF.nil (T:TypeId) (w w':World) (code:Int) (hb:Below w.heap.size w w'):SRetF T w [] code (.returned (.tuple #[.slice none 0 0,.int .i64 code])) w':=⟨none,0,0,rfl,Fresh.none _ _ _,hb⟩
theorem Fresh.block {T B g n:Nat} {w:World} {fr:Nat × Nat} {xs:List UInt8} (h:w.heap[g]? = some (.cells (xs.map B8).toArray T fr)) (hl:xs.length = n) (hn:n≤maxLen) (hg:B≤g):Fresh T B w (some ⟨g,0,Option.none⟩) n n xs :=
 ⟨sl_block xs n h rfl hl hn,fun a ha=>by cases ha;exact hg,fun a ha=>by cases ha;exact ⟨_,_,h⟩⟩
theorem Fresh.read {T B n c:Nat} {w:World} {q:Option Addr} {xs ys:List UInt8} (h:Fresh T B w q n c xs) (e:xs = ys):Fresh T B w q n c ys:=e ▸ h
def FrT (T B:Nat) (ys:List UInt8) (v:Value) (w:World):Prop:=∃ q n c,v = .slice q n c∧Fresh T B w q n c ys
def ShF (T B:Nat) (ys:List UInt8):Shp:=⟨FrT T B ys,fun _ _ _ ⟨q,n,c,e,h⟩ hb=>⟨q,n,c,e,h.keep hb⟩⟩
def SRTF (T B:Nat) (ys:List UInt8) (code:Int) (v:Value) (w:World):Prop:=∃ q n c,v = .tuple #[.slice q n c,.int .i64 code]∧Fresh T B w q n c ys
def ShSRF (T B:Nat) (ys:List UInt8) (code:Int):Shp:=⟨SRTF T B ys code,fun _ _ _ ⟨q,n,c,e,h⟩ hb=>⟨q,n,c,e,h.keep hb⟩⟩
theorem SRet.nil (w w':World) (code:Int) (hb:Below w.heap.size w w'):SRet w [] code (.returned (.tuple #[.slice none 0 0,.int .i64 code])) w':=⟨none,0,0,rfl,Sl.nil0 _ _,hb⟩
theorem SRet1.of {T:TypeId} {w w':World} {ys:List UInt8} {e:Ending} (h:RetB1 T w ys e w'):SRet1 w ys e w':=by
 obtain ⟨q,m,c,_,e,ho,hb⟩:=h
 exact ⟨q,m,c,e,Sl.of_owns ho,hb⟩
theorem SRet.of {T:TypeId} {w w':World} {ys:List UInt8} {code:Int} {e:Ending} (h:RetB T w ys code e w'):SRet w ys code e w':=by
 obtain ⟨q,m,c,_,e,ho,hb⟩:=h
 exact ⟨q,m,c,e,Sl.of_owns ho,hb⟩
theorem res_ctt {P:Program} {fn:Func} {p u u2:Tmp} {ty:TypeId} (h:fn.results = #[.cell p ty,.tmp u,.tmp u2]) (tmps:Array Value) (w:World) (g:Nat) (t:TypeId) (cs:Array Value) (fr:Nat × Nat) (d:TypeDesc) (v v2:Value)
  (hp:tmps.getD p undef = .pointer (some ⟨g,0,none⟩)) (hg:w.heap[g]? = some (.cells cs t fr)) (hv:tmps.getD u undef = v) (hv2:tmps.getD u2 undef = v2)
  (hu:P.underlying ty = some d) (hd:(match d with | .struct _ | .array _ _=>true | _=>false) = true) (hi:(P.info? ty).map (·.size) = some cs.size) :
  (results fn tmps).run P w = .ok (.tuple #[.agg cs,v,v2]) w:=by
 have hp':tmps[p]?.getD undef = .pointer (some ⟨g,0,none⟩):=by simpa using hp
 have hv':tmps[u]?.getD undef = v:=by simpa using hv
 have hv2':tmps[u2]?.getD undef = v2:=by simpa using hv2
 simp [results,h,hp',hv',hv2',asAddr,run_loadVar_row w g t ty cs fr d hg hu hd hi]
theorem res_ct {P:Program} {fn:Func} {p u:Tmp} {ty:TypeId} (h:fn.results = #[.cell p ty,.tmp u]) (tmps:Array Value) (w:World) (g:Nat) (t:TypeId) (cs:Array Value) (fr:Nat × Nat) (d:TypeDesc) (v:Value)
  (hp:tmps.getD p undef = .pointer (some ⟨g,0,none⟩)) (hg:w.heap[g]? = some (.cells cs t fr)) (hv:tmps.getD u undef = v)
  (hu:P.underlying ty = some d) (hd:(match d with | .struct _ | .array _ _=>true | _=>false) = true) (hi:(P.info? ty).map (·.size) = some cs.size) :
  (results fn tmps).run P w = .ok (.tuple #[.agg cs,v]) w:=by
 have hp':tmps[p]?.getD undef = .pointer (some ⟨g,0,none⟩):=by simpa using hp
 have hv':tmps[u]?.getD undef = v:=by simpa using hv
 simp [results,h,hp',hv',asAddr,run_loadVar_row w g t ty cs fr d hg hu hd hi]
end Go.By
namespace Go.By
open Go.Lib
end Go.By
namespace Go.Proofs.YtccaiiigdfieoaaGreatDoor
end Go.Proofs.YtccaiiigdfieoaaGreatDoor
namespace Go.Proofs.YtccaiiigdfieoaaGreatDoor
open Go.RowKit Go.By
end Go.Proofs.YtccaiiigdfieoaaGreatDoor
namespace Go.Proofs.YtccaiiigdfieoaaGreatDoor
open Go.RowKit Go.By
end Go.Proofs.YtccaiiigdfieoaaGreatDoor
namespace Go.By
open Go
section
variable {P:Program} (w:World)
theorem run_append_where (base:Nat) (t ty e:TypeId) (i:TypeInfo) (z:Value) (size bytes:Nat) (ht:P.underlying t = some (.slice e)) (hi:P.info? e = some i) (hz:i.zero = some z)
  (hsize:i.size = size) (hby:i.bytes = bytes) (hzs:z.cells.size = size) (hsz:0 < size)
  (v:Value) (n:Nat) (xs:List Value) (hown:w.ownsRow base e size v n xs)
  (a:Addr) (m c:Nat) (news:List Value) (hl:news.length = m * size) (hnews:∀ j u,news[j]? = some u→w.cell? (a.add j) = some u) (h1:∀ u ∈ news,u.oneCell' = true)
  (h63:n + m≤maxLen) (hbytes:(n + m) * bytes≤140737488355328) (hbase:base≤w.heap.size) (hm:0 < m) :
  ∃ v' w',(Builtin.append_ #[t,t] ty #[v,.slice (some a) m c]).run P w = .ok v' w'∧w'.ownsRow base e size v' (n + m) (xs ++ news)∧w.grownBy w' v.ownBlock∧(v'.ownBlock = v.ownBlock∨v'.ownBlock = some w.heap.size):=by
 obtain ⟨v',w',hr,h2,h3,-⟩:=run_append_own w base t ty e i z size bytes ht hi hz hsize hby hzs hsz v n xs hown a m c news hl hnews h1 h63 hbytes hbase
 refine ⟨v',w',hr,h2,h3,?_⟩
 subst hsize
 subst hby
 have hm':n + m≤9223372036854775807:=by simp only [maxLen] at h63;omega
 rcases hown.2 with ⟨rfl,rfl⟩ | ⟨g,cap,cur,rfl,hbg,hg,hnc,hcm,hcs,htake⟩
 ·have hr2:=run_append_nil (P:=P) w t ty e i z ht hi hz a m c news hl hnews (by omega) (by omega) (by have hb:=hbytes;simp only [Nat.zero_add] at hb;omega)
  have e2:=hr.symm.trans hr2
  cases e2
  exact .inr rfl
 ·by_cases hroom:n + m≤cap
  ·have hfit:n * i.size + news.length≤cur.size:=by rw [hl,hcs,← Nat.add_mul];exact Nat.mul_le_mul_right _ hroom
   have hr2:=run_append_room (P:=P) w t ty e i ht hi g n cap cur hg a m c news hl hnews h1 hroom hfit
   have e2:=hr.symm.trans hr2
   cases e2
   exact .inl rfl
  ·have holds:∀ j u,xs[j]? = some u→w.cell? ((⟨g,0,none⟩:Addr).add j) = some u:=hown.cells (g:=g) rfl
   have hr2:=run_append_grow (P:=P) w t ty e i z ht hi hz ⟨g,0,none⟩ n cap xs hown.1 holds a m c news hl hnews (by omega) (by omega) (growslice_fits (by omega) hbytes)
   have e2:=hr.symm.trans hr2
   cases e2
   exact .inr rfl
theorem wpList_append_where {ops:Array Oper} {rest:List Oper} {o:Oper} {a:Act} {Q:Exit→Act→World→Prop} (hgd:o.guard = none) (s x:Operand) (t:TypeId)
  (ho:o.op = .call { callee:=.builtin .append,args:=#[s,x],argTypes:=#[t,t] })
  (base:Nat) (e:TypeId) (i:TypeInfo) (z:Value) (size bytes:Nat) (ht:P.underlying t = some (.slice e)) (hi:P.info? e = some i) (hz:i.zero = some z)
  (hsize:i.size = size) (hby:i.bytes = bytes) (hzs:z.cells.size = size) (hsz:0 < size)
  (v:Value) (n:Nat) (xs:List Value) (hs:a.eval s = v) (hown:w.ownsRow base e size v n xs)
  (ad:Addr) (m c:Nat) (news:List Value) (hx:a.eval x = .slice (some ad) m c) (hl:news.length = m * size) (hnews:∀ j u,news[j]? = some u→w.cell? (ad.add j) = some u) (h1:∀ u ∈ news,u.oneCell' = true)
  (h63:n + m≤maxLen) (hbytes:(n + m) * bytes≤140737488355328) (hbase:base≤w.heap.size) (hm:0 < m)
  (h:∀ v' w',w'.ownsRow base e size v' (n + m) (xs ++ news)→w.grownBy w' v.ownBlock→(v'.ownBlock = v.ownBlock∨v'.ownBlock = some w.heap.size)→wpList P ops Q rest (a.put o.dst v') w'):wpList P ops Q (o :: rest) a w:=by
 refine wpList_plain hgd fun _ hK=>?_
 obtain ⟨v',w',hr,h2,h3,h4⟩:=run_append_where (P:=P) w base t o.type e i z size bytes ht hi hz hsize hby hzs hsz v n xs hown ad m c news hl hnews h1 h63 hbytes hbase hm
 unfold Oper.wp execOp
 simp only [ho,resolve,invoke,builtin,Sem.run_bind,Sem.run_pure,Result.andThen_ok,List.map_toArray,List.map_cons,List.map_nil,hs,hx,hr]
 exact hK _ _ (h v' w' h2 h3 h4)
end
end Go.By
namespace Go.Proofs.YtccaiiigdfieoaaGreatDoor
open Go.RowKit Go.By
set_option maxRecDepth 100000 in
set_option maxHeartbeats 1000000 in
theorem GrowNil_any (N:Nat) (w:World) (hN:Room N) :
  Calls Tryz.prog 197 #[.slice none 0 0,.int .i64 N] w fun e w'=>∃ q c',e = .returned (.slice q 0 c')∧w'.ownsRow w.heap.size 5 1 (.slice q 0 c') 0 []∧Below w.heap.size w w':=by
 obtain ⟨i0,hi,hz0,hz1,hz2⟩:=info_parts info_u8
 by_cases h0:N = 0
 ·subst h0
  go_enter Tryz.func197,Tryz.ntmps197
  go_wp2
  go_ret
  exact ⟨none,0,rfl,World.ownsRow_nil _ _ _ _,Below.refl _ _⟩
 ·have hp:0 < N:=by omega
  unfold Room at hN
  have hr:=fun ty=>Lib.run_append_nil_zeros (P:=Tryz.prog) w 22 3 ty 5 i0 (.int .u8 0) .i64 .i64 Tryz.underlying22 Tryz.underlying3 hi hz0 N hp (by rw [hz1];omega) (by omega) (by rw [hz2];omega)
  have g1:=grownCap_ge w N 0 5
  have g2:=grownCap_le_maxLen w N 0 5 (by unfold maxLen;omega)
  generalize grownCap w N 0 5 = G at *
  have G2:=Lib.hid g2
  unfold maxLen at g2
  have HR:=Lib.hid hr;clear hr
  clear h0
  go_enter Tryz.func197,Tryz.ntmps197
  go_wp2_with (at_builtin;refine Lib.wpList_append_run _ rfl _ _ _ _ rfl _ _ rfl rfl _ _ (HR.out _) ?_)
  go_ret
  refine ⟨_,G,rfl,⟨rfl,.inr ⟨w.heap.size,G,_,rfl,Nat.le_refl _,hnew rfl,Nat.zero_le _,G2.out,?_,by simp⟩⟩,al (w1:=w.drew) ⟨rfl,rfl,rfl,Nat.le_refl _,fun _ _=>rfl⟩ (Nat.le_refl _)⟩
  simp [size_zeroCells,Value.cells];omega
theorem flat_take {xss:List (List UInt8)} {k:Nat} {xs:List UInt8} (h:xss[k]? = some xs):(xss.take (k + 1)).flatten = (xss.take k).flatten ++ xs:=by
 obtain ⟨hk,h⟩:=List.getElem?_eq_some_iff.1 h
 rw [List.take_succ_eq_append_getElem hk,h,List.flatten_append];simp
theorem flat_le (xss:List (List UInt8)) (k:Nat):(xss.take k).flatten.length≤xss.flatten.length:=by
 have:xss.flatten = (xss.take k).flatten ++ (xss.drop k).flatten:=by rw [← List.flatten_append,List.take_append_drop]
 rw [this];simp
set_option maxRecDepth 100000 in
set_option maxHeartbeats 1000000 in
theorem Concat_any (p:Option Addr) (n c:Nat) (xss:List (List UInt8)) (w:World) (h:Sl2 w p n c xss) (hr:Room xss.flatten.length) :
  Calls Tryz.prog 137 #[.slice p n c] w (RetB1 5 w xss.flatten):=by
 obtain ⟨i0,hi,hz0,hz1,hz2⟩:=info_parts info_u8
 have hn:=h.bound
 obtain ⟨F,hF⟩:∃ F:Nat→List UInt8,F = fun k=>(xss.take k).flatten:=⟨_,rfl⟩
 have HF:Hid (∀ k xs,xss[k]? = some xs→F (k + 1) = F k ++ xs):=fun k xs hx=>by subst hF;exact flat_take hx
 have HM:Hid (∀ k,(F k).length≤140737488355328):=fun k=>by subst hF;exact Nat.le_trans (flat_le xss k) hr
 have HN:Hid (F n = xss.flatten):=by subst hF;show (xss.take n).flatten = _;rw [List.take_of_length_le (by rw [h.len];omega)]
 have H0:Hid (F 0 = []):=by subst hF;rfl
 obtain ⟨T,hT⟩:∃ T:Nat→Nat,T = fun k=>(F k).length:=⟨_,rfl⟩
 have HL:Hid (∀ k,(F k).length = T k):=fun k=>by subst hT;rfl
 have HT0:T 0 = 0:=by rw [← HL.out,H0.out];rfl
 have H:=Lib.hid h
 have HTn:Hid (∀ k,T k≤140737488355328):=fun k=>by rw [← HL.out];exact HM.out k
 clear h hr hF hT
 go_enter Tryz.func137,Tryz.ntmps137
 go_wp2
 go_loop [3,11] (fun s i=>∃ k:Nat,k≤n∧i = .int .i64 k∧s = .int .i64 (T k)) (fun _ i=>n - (intOf i).toNat)
 case atStart=>exact ⟨0,Nat.zero_le _,rfl,by rw [HT0];rfl⟩
 case round =>
  obtain ⟨k,hk,rfl,rfl⟩:=hrel
  have t1:=HTn.out k
  by_cases hlt:k < n
  ·obtain ⟨b,o,q,m,c',xs,rfl,hc,hs,hx⟩:=H.out.at k hlt
   have e1:T (k + 1) = T k + m:=by rw [← HL.out,HF.out k xs hx.out,List.length_append,HL.out,hs.len]
   have t2:=HTn.out (k + 1)
   have hm:=hs.bound
   have t3:T k + m≤140737488355328:=by omega
   have E1:=Lib.hid e1
   clear e1 t2 hs
   go_wp2
   go_round
   case rel=>exact ⟨k + 1,by omega,by go_num,by rw [E1.out];go_num⟩
   case measure=>simp [intOf];omega
  ·have hkn:k = n:=by omega
   subst hkn
   go_wp2_with fail
   refine (GrowNil_any (T k) w t1).mono ?_;rintro e w1 ⟨q0,c0,rfl,ho,hb⟩
   have HO:=Lib.hid ho;clear ho
   go_wp2
   go_loopw [6,27] (fun v i wr=>∃ (j:Nat) (q:Option Addr) (c':Nat),j≤k∧i = .int .i64 j∧v = .slice q (T j) c'∧Hid (wr.ownsRow w.heap.size 5 1 (.slice q (T j) c') (T j) ((F j).map B8))∧Below w.heap.size w wr) (fun _ i _=>k - (intOf i).toNat)
   case atStart=>exact ⟨0,q0,c0,Nat.zero_le _,rfl,by rw [HT0],by rw [HT0,H0.out];exact HO.out,hb⟩
   case round =>
    obtain ⟨j,q,c',hj,rfl,rfl,hov,hbv⟩:=hrel
    have s1:=HTn.out j
    by_cases hjk:j < k
    ·obtain ⟨b,o,q',m,c'',xs,rfl,hc,hs,hx⟩:=H.out.at j hjk
     have hcw:=(hbv.cell (p:=⟨b,o + j,none⟩) (lt_of_cell hc)).trans hc
     have e1:T (j + 1) = T j + m:=by rw [← HL.out,HF.out j xs hx.out,List.length_append,HL.out,hs.len]
     have e2:F (j + 1) = F j ++ xs:=HF.out j xs hx.out
     have t2:=HTn.out (j + 1)
     have hm:=hs.bound
     have t3:T j + m≤140737488355328:=by omega
     have HS:=Lib.hid hs
     have E1:=Lib.hid e1;have E2:=Lib.hid e2
     clear e1 e2 t2 hs
     go_wp2_with (at_builtin;refine wpList_append_rs _ rfl _ _ 22 rfl w.heap.size 5 i0 (.int .u8 0) 1 Tryz.underlying22 hi hz0 hz1 hz2 rfl _ (T j) _ rfl hov.out B8 _ _ _ xs (fun _ _=>rfl) rfl (HS.out.keep hbv) ?c1 ?c2 ?c3 ?_)
     case c1=>unfold maxLen;omega
     case c2=>omega
     case c3=>exact hbv.size
     intro v' w' ho' hg'
     obtain ⟨q2,c2,rfl⟩:=owns_shape ho'
     have hb':Below w.heap.size w w':=hbv.grown hg' hbv.size (fun r hr'=>(hov.out.lt r hr').1)
     clear hg'
     go_wp2
     go_roundw
     case rel=>exact ⟨j + 1,q2,c2,by omega,by go_num,by rw [E1.out],by rw [E1.out,E2.out,List.map_append];exact ho',hb'⟩
     case measure=>simp [intOf];omega
    ·have hjk':j = k:=by omega
     subst hjk'
     go_wp2
     go_ret
     refine ⟨q,T j,c',?_,rfl,?_,hbv⟩
     ·rw [← HN.out];exact HL.out j
     ·rw [← HN.out];exact hov.out
end Go.Proofs.YtccaiiigdfieoaaGreatDoor
namespace Go.By
open Go.RowKit
theorem cells3 {w:World} {b T:Nat} {u v x:Value} (h:w.heap[b]? = some (.cells #[u,v,x] T (0,0))):w.cell? ⟨b,0,none⟩ = some u∧w.cell? ⟨b,1,none⟩ = some v∧w.cell? ⟨b,2,none⟩ = some x :=
 ⟨cell_of_row _ _ 0 _ _ _ h,cell_of_row _ _ 1 _ _ _ h,cell_of_row _ _ 2 _ _ _ h⟩
theorem Sl.mid {α:Type} {enc:α→Value} {w:World} {b o n c k m:Nat} {xs:List α} (h:Sl enc w (some ⟨b,o,none⟩) n c xs) (hk:k + m≤n):Sl enc w (some ⟨b,o + k,none⟩) m (c - k) ((xs.drop k).take m):=by
 have h1:=h.len;have h2:=h.le;have h3:=h.max
 refine ⟨by rw [List.length_take,List.length_drop];omega,by omega,by omega,fun e=>(by cases e),?_⟩
 intro i hi
 have hi':k + i < xs.length:=by rw [List.length_take,List.length_drop] at hi;omega
 obtain ⟨b',o',hp,hc⟩:=h.rs (k + i) hi'
 cases hp
 exact ⟨b,o + k,rfl,by rw [show o + k + i = o + (k + i) by omega,hc];simp⟩
end Go.By
namespace Go.Proofs.YtccaiiigdfieoaaGreatDoor
open Go.RowKit Go.By
end Go.Proofs.YtccaiiigdfieoaaGreatDoor
namespace Go.Proofs.YtccaiiigdfieoaaGreatDoor
open Go.RowKit Go.By
end Go.Proofs.YtccaiiigdfieoaaGreatDoor
namespace Go.By
end Go.By
namespace Go.Proofs.YtccaiiigdfieoaaGreatDoor
open Go.RowKit Go.By
end Go.Proofs.YtccaiiigdfieoaaGreatDoor
namespace Go.By
open Go.RowKit
def fl2 (vs:List (Value × Value)):List Value:=vs.flatMap fun u=>[u.1,u.2]
theorem fl2_append (a b:List (Value × Value)):fl2 (a ++ b) = fl2 a ++ fl2 b:=by simp [fl2]
theorem fl2_length (vs:List (Value × Value)):(fl2 vs).length = vs.length * 2:=by
 induction vs with
 | nil=>rfl
 | cons u vs ih=>show (u.1 :: u.2 :: fl2 vs).length = _;simp only [List.length_cons,ih];omega
theorem fl2_at:∀ {vs:List (Value × Value)} {i:Nat} {u:Value × Value},vs[i]? = some u→(fl2 vs)[i * 2]? = some u.1∧(fl2 vs)[i * 2 + 1]? = some u.2
 | v :: vs, 0, u, h => by obtain rfl : v = u := by simpa using h
                          exact ⟨rfl,rfl⟩
 | v :: vs,i + 1,u,h=>by
  have ih:=fl2_at (vs:=vs) (i:=i) (u:=u) (by simpa using h)
  have e:fl2 (v :: vs) = v.1 :: v.2 :: fl2 vs:=rfl
  rw [e,show (i + 1) * 2 = i * 2 + 2 by omega]
  exact ⟨by simpa using ih.1,by simpa using ih.2⟩
def Bw (T1:TypeId) (w:World) (base:Nat) (v:Value) (xs:List UInt8):Prop:=∃ q m c,v = .slice q m c∧xs.length = m∧w.ownsRow base T1 1 (.slice q m c) m (xs.map B8)
def RwL (T2 T1:TypeId) (w:World) (base:Nat) (v:Value) (n:Nat) (K:List (List UInt8 × List UInt8)):Prop :=
 ∃ vs:List (Value × Value),vs.length = n∧K.length = n∧w.ownsRow base T2 2 v n (fl2 vs)∧∀ (j:Nat) (u:Value × Value),vs[j]? = some u→∃ k,K[j]? = some k∧Bw T1 w base u.1 k.1∧Bw T1 w base u.2 k.2
section
variable {T2 T1:TypeId} {w w':World} {base n:Nat} {v:Value} {K:List (List UInt8 × List UInt8)}
theorem Bw.keep {xs:List UInt8} (h:Bw T1 w base v xs) (hb:Below w.heap.size w w'):Bw T1 w' base v xs:=by
 obtain ⟨q,m,c,e,l,o⟩:=h;exact ⟨q,m,c,e,l,owns_keep o hb⟩
theorem Bw.sl {xs:List UInt8} (h:Bw T1 w base v xs):∃ q m c,v = .slice q m c∧Sl B8 w q m c xs:=by
 obtain ⟨q,m,c,e,l,o⟩:=h;exact ⟨q,m,c,e,Sl.of_owns o⟩
theorem Bw.grown {xs:List UInt8} {u:Value} {L:List Value} {m:Nat} (h:Bw T1 w base v xs) (hT:T1≠T2) (ho:w.ownsRow base T2 2 u m L) (hg:w.grownBy w' u.ownBlock):Bw T1 w' base v xs:=by
 obtain ⟨q,m,c,e,l,o⟩:=h;exact ⟨q,m,c,e,l,owns_kept o hg (owns_ne o ho hT)⟩
theorem RwL.nil (T2 T1:TypeId) (w:World) (base:Nat):RwL T2 T1 w base (.slice none 0 0) 0 []:=⟨[],rfl,rfl,World.ownsRow_nil _ _ _ _,fun j u h=>by simp at h⟩
theorem RwL.keep (h:RwL T2 T1 w base v n K) (hb:Below w.heap.size w w'):RwL T2 T1 w' base v n K:=by
 obtain ⟨vs,a,b,o,r⟩:=h
 exact ⟨vs,a,b,owns_keepv o hb,fun j u hj=>by obtain ⟨k,hk,g1,g2⟩:=r j u hj;exact ⟨k,hk,g1.keep hb,g2.keep hb⟩⟩
theorem RwL.len (h:RwL T2 T1 w base v n K):K.length = n:=by obtain ⟨vs,a,b,o,r⟩:=h;exact b
theorem RwL.shape (h:RwL T2 T1 w base v n K):∃ q c,v = .slice q n c:=by obtain ⟨vs,a,b,o,r⟩:=h;exact owns_shape o
theorem RwL.at {q:Option Addr} {c:Nat} (h:RwL T2 T1 w base (.slice q n c) n K) {j:Nat} (hj:j < n):∃ g k q1 m1 c1 q2 m2 c2,q = some ⟨g,0,none⟩∧w.cell? ⟨g,j * 2,none⟩ = some (.slice q1 m1 c1)∧w.cell? ⟨g,j * 2 + 1,none⟩ = some (.slice q2 m2 c2) ∧
  Hid (K[j]? = some k)∧Sl B8 w q1 m1 c1 k.1∧Sl B8 w q2 m2 c2 k.2:=by
 obtain ⟨vs,a,b,o,r⟩:=h
 obtain ⟨u,hu⟩:∃ u,vs[j]? = some u:=⟨_,List.getElem?_eq_getElem (by omega)⟩
 obtain ⟨k,hk,g1,g2⟩:=r j u hu
 obtain ⟨q1,m1,c1,e1,s1⟩:=g1.sl
 obtain ⟨q2,m2,c2,e2,s2⟩:=g2.sl
 rcases o.2 with ⟨hv,_⟩ | ⟨g,cap,cur,hv,_⟩
 ·simp at hv;omega
 ·obtain ⟨rfl,rfl⟩:q = some ⟨g,0,none⟩∧c = cap:=by simpa using hv
  obtain ⟨f1,f2⟩:=fl2_at hu
  refine ⟨g,k,q1,m1,c1,q2,m2,c2,rfl,?_,?_,hk,s1,s2⟩
  ·rw [o.cellAt _ (by omega),f1,e1]
  ·rw [o.cellAt _ (by omega),f2,e2]
theorem RwL.lt (h:RwL T2 T1 w base v n K):∀ k,v.ownBlock = some k→base≤k∧k < w.heap.size:=by
 obtain ⟨vs,a,b,o,r⟩:=h;exact fun k hk=>o.lt k hk
theorem Bw.set {xs:List UInt8} {g o:Nat} {u:Value} (h:Bw T1 w base v xs) (hne:∀ k,v.ownBlock = some k→k≠g) (hg:w.grownBy w' (some g)):Bw T1 w' base v xs:=by
 obtain ⟨q,m,c,rfl,l,ho⟩:=h;exact ⟨q,m,c,rfl,l,owns_kept ho hg (fun k hk e=>hne k hk (by injection e))⟩
theorem RwL.set {g TX:Nat} {cs:Array Value} {fr:Nat × Nat} (h:RwL T2 T1 w base v n K) (hX:w.heap[g]? = some (.cells cs TX fr)) (h1:T1≠TX) (h2:v.ownBlock≠some g) (hg:w.grownBy w' (some g)):RwL T2 T1 w' base v n K:=by
 obtain ⟨vs,a,b,o,r⟩:=h
 have hB:∀ (u:Value) (xs:List UInt8),Bw T1 w base u xs→Bw T1 w' base u xs:=fun u xs hu=>by
  refine hu.set (g:=g) (o:=0) (u:=u) (fun k hk e=>?_) hg
  obtain ⟨q,m,c,rfl,l,ho⟩:=hu
  rcases ho.2 with ⟨hv,_⟩ | ⟨g',cap,cur,hv,_,hh,_⟩
  ·rw [hv] at hk;simp [Value.ownBlock] at hk
  ·rw [hv] at hk;simp [Value.ownBlock] at hk
   rw [e] at hk;rw [hk,hX] at hh
   injection hh with hh;injection hh with _ hh _;exact h1 hh.symm
 exact ⟨vs,a,b,owns_kept o hg (fun k hk e=>h2 (by rw [hk,e])),fun j u hj=>by obtain ⟨k,hk,g1,g2⟩:=r j u hj;exact ⟨k,hk,hB _ _ g1,hB _ _ g2⟩⟩
theorem RwL.push {w1:World} {v':Value} {u1 u2:Value} {k:List UInt8 × List UInt8} {vs:List (Value × Value)} (a:vs.length = n) (b:K.length = n) (o:w.ownsRow base T2 2 v n (fl2 vs))
  (r:∀ (j:Nat) (u:Value × Value),vs[j]? = some u→∃ k,K[j]? = some k∧Bw T1 w base u.1 k.1∧Bw T1 w base u.2 k.2) (hT:T1≠T2) (h1:Bw T1 w base u1 k.1) (h2:Bw T1 w base u2 k.2)
  (ho:w1.ownsRow base T2 2 v' (n + 1) (fl2 vs ++ [u1,u2])) (hg:w.grownBy w1 v.ownBlock):RwL T2 T1 w1 base v' (n + 1) (K ++ [k]):=by
 refine ⟨vs ++ [(u1,u2)],by simp [a],by simp [b],by rw [fl2_append];exact ho,?_⟩
 intro j u hj
 by_cases hjn:j < vs.length
 ·rw [List.getElem?_append_left hjn] at hj
  obtain ⟨k',hk,g1,g2⟩:=r j u hj
  exact ⟨k',by rw [List.getElem?_append_left (by omega)];exact hk,g1.grown hT o hg,g2.grown hT o hg⟩
 ·have hj2:=(List.getElem?_eq_some_iff.1 hj).1
  rw [List.length_append,List.length_singleton] at hj2
  obtain rfl:j = vs.length:=by omega
  rw [List.getElem?_append_right (Nat.le_refl _),Nat.sub_self] at hj
  have hu:(u1,u2) = u:=by simpa using hj
  subst hu
  exact ⟨k,by rw [a,← b,List.getElem?_append_right (Nat.le_refl _),Nat.sub_self];rfl,h1.grown hT o hg,h2.grown hT o hg⟩
end
end Go.By
namespace Go.Proofs.YtccaiiigdfieoaaGreatDoor
open Go.RowKit Go.By
end Go.Proofs.YtccaiiigdfieoaaGreatDoor
namespace Go.Proofs.YtccaiiigdfieoaaGreatDoor
open Go.RowKit Go.By
theorem noughtS_of {xss:List (List UInt8)} {x0:List UInt8} {m:Nat} (h0:xss[0]? = some x0) (hm:x0.length = m) (h:∀ xs,xs ∈ xss→xs.length = m):noughtS xss = (List.replicate m 0,0):=by
 cases xss with
 | nil=>simp at h0
 | cons x l =>
  simp at h0;subst h0;subst hm
  simp only [noughtS]
  rw [if_pos (List.all_eq_true.2 fun xs hx=>by simpa using h xs hx)]
end Go.Proofs.YtccaiiigdfieoaaGreatDoor
namespace Go.Proofs.YtccaiiigdfieoaaGreatDoor
open Go.RowKit Go.By
end Go.Proofs.YtccaiiigdfieoaaGreatDoor
namespace Go.Proofs.YtccaiiigdfieoaaGreatDoor
open Go.RowKit Go.By
end Go.Proofs.YtccaiiigdfieoaaGreatDoor
namespace Go.Proofs.YtccaiiigdfieoaaGreatDoor
open Go.RowKit Go.By
theorem leadS_cases (v:List UInt8):(leadS v = -1∧atS v (leadS v) = 0∧∀ x,x ∈ v→x = 0)∨∃ (k:Nat) (x:UInt8),leadS v = (k:Int)∧v[k]? = some x∧x≠0∧atS v (leadS v) = x∧∀ (j:Nat) (y:UInt8),j < k→v[j]? = some y→y = 0:=by
 unfold leadS idxf
 cases h:v.findIdx? (fun b=>decide (b≠0)) with
 | none =>
  left
  refine ⟨rfl,by simp [atS],?_⟩
  rw [List.findIdx?_eq_none_iff] at h
  intro x hx
  have:=h x hx
  simpa using this
 | some i =>
  right
  obtain ⟨hi,hf,hb⟩:=List.findIdx?_eq_some_iff_getElem.1 h
  refine ⟨i,v[i],rfl,List.getElem?_eq_getElem hi,by simpa using hf,by simp [atS,List.getD,hi],?_⟩
  intro j y hj hy
  obtain ⟨hj',e⟩:=List.getElem?_eq_some_iff.1 hy
  have:=hb j hj
  rw [e] at this
  simpa using this
end Go.Proofs.YtccaiiigdfieoaaGreatDoor
namespace Go.Proofs.YtccaiiigdfieoaaGreatDoor
open Go.RowKit Go.By
end Go.Proofs.YtccaiiigdfieoaaGreatDoor
namespace Go.Proofs.YtccaiiigdfieoaaGreatDoor
open Go.By
theorem lead_is {v:List UInt8} {k:Nat} {x:UInt8} (h:v[k]? = some x) (hx:x≠0) (hj:∀ (j:Nat) (y:UInt8),j < k→v[j]? = some y→y = 0):leadS v = (k:Int):=by
 rcases leadS_cases v with ⟨_,_,h3⟩ | ⟨k',x',e,h1,h2,_,h4⟩
 ·exact absurd (h3 x (List.mem_of_getElem? h)) hx
 ·rw [e]
  rcases Nat.lt_trichotomy k' k with g | g | g
  ·exact absurd (hj k' x' g h1) h2
  ·rw [g]
  ·exact absurd (h4 k x g h) hx
theorem norm_cases (v d:List UInt8):(leadS v = -1∧normS (v,d) = (v,d)) ∨
  ∃ (k:Nat) (x:UInt8),leadS v = (k:Int)∧x≠0∧v[k]? = some x∧(∀ (j:Nat) (y:UInt8),j < k→v[j]? = some y→y = 0)∧normS (v,d) = (v.map (Gf.gmul (Gf.ginv x)),d.map (Gf.gmul (Gf.ginv x))):=by
 rcases leadS_cases v with ⟨h1,h2,_⟩ | ⟨k,x,e,h1,h2,h3,h4⟩
 ·exact .inl ⟨h1,if_pos h2⟩
 ·right
  refine ⟨k,x,e,h2,h1,h4,?_⟩
  unfold normS
  simp only [h3,if_neg h2]
theorem norm_lead (v d:List UInt8):leadS (normS (v,d)).1 = leadS v:=by
 rcases norm_cases v d with ⟨_,h⟩ | ⟨k,x,e,hx,hk,hj,h⟩
 ·rw [h]
 ·rw [h,e]
  refine lead_is (x:=1) ?_ (by decide) ?_
  ·simp [List.getElem?_map,hk,Gf.ginv_gmul x hx]
  ·intro j y hjk hy
   simp only [List.getElem?_map,Option.map_eq_some_iff] at hy
   obtain ⟨z,hz,rfl⟩:=hy
   rw [hj j z hjk hz,Gf.gmul_zero]
theorem at_of {v:List UInt8} {k:Nat} {x:UInt8} (h:v[k]? = some x):atS v (k:Int) = x:=by
 simp [atS,List.getD_eq_getElem?_getD,h]
end Go.Proofs.YtccaiiigdfieoaaGreatDoor
namespace Gf
abbrev V:=Nat→UInt8
def comb:List UInt8→List V→V
 | c :: cs,a :: az=>fun j=>gmul c (a j) ^^^ comb cs az j
 | _,_=>fun _=>0
theorem comb_nil (c:List UInt8) (j:Nat):comb c [] j = 0:=by cases c <;> rfl
theorem comb_nil' (A:List V) (j:Nat):comb [] A j = 0:=by cases A <;> rfl
theorem comb_cons (c:UInt8) (cs:List UInt8) (a:V) (az:List V) (j:Nat):comb (c :: cs) (a :: az) j = gmul c (a j) ^^^ comb cs az j:=rfl
theorem comb_add (j:Nat):∀ (c d:List UInt8) (A:List V),c.length = d.length→comb (List.zipWith (· ^^^ ·) c d) A j = comb c A j ^^^ comb d A j
 | [],[],A,_=>by simp [comb_nil',xor_self]
 | c :: cs,d :: ds,[],_=>by simp [comb_nil,xor_self]
 | c :: cs,d :: ds,a :: az,h=>by
  simp only [List.zipWith_cons_cons,comb_cons]
  rw [comb_add j cs ds az (by simpa using h),gmul_xor_left,xor4]
theorem comb_scale (x:UInt8) (j:Nat):∀ (c:List UInt8) (A:List V),comb (c.map (gmul x)) A j = gmul x (comb c A j)
 | [],A=>by simp [comb_nil',gmul_zero]
 | c :: cs,[]=>by simp [comb_nil,gmul_zero]
 | c :: cs,a :: az=>by
  simp only [List.map_cons,comb_cons]
  rw [comb_scale x j cs az,gmul_assoc,gmul_xor_right]
theorem comb_zeros (j:Nat):∀ (n:Nat) (A:List V),comb (List.replicate n 0) A j = 0
 | 0,A=>by simp [comb_nil']
 | n + 1,[]=>by simp [comb_nil]
 | n + 1,a :: az=>by simp only [List.replicate_succ,comb_cons];rw [comb_zeros j n az,zero_gmul,xor_self]
theorem comb_at_zero (j:Nat):∀ (c:List UInt8) (A:List V),(∀ a,a ∈ A→a j = 0)→comb c A j = 0
 | [],A,_=>comb_nil' _ _
 | c :: cs,[],_=>comb_nil _ _
 | c :: cs,a :: az,h=>by rw [comb_cons,h a (by simp),gmul_zero,zero_xor,comb_at_zero j cs az (fun b hb=>h b (by simp [hb]))]
def Sp (B:List V) (v:V):Prop:=∃ c:List UInt8,c.length = B.length∧v = comb c B
theorem Sp.zero (B:List V):Sp B (fun _=>0):=⟨List.replicate B.length 0,by simp,by funext j;rw [comb_zeros]⟩
theorem Sp.add {B:List V} {u v:V} (h:Sp B u) (g:Sp B v):Sp B (fun j=>u j ^^^ v j):=by
 obtain ⟨c,hc,rfl⟩:=h;obtain ⟨d,hd,rfl⟩:=g
 exact ⟨List.zipWith (· ^^^ ·) c d,by simp [hc,hd],by funext j;rw [comb_add j c d B (by rw [hc,hd])]⟩
theorem Sp.scale {B:List V} {u:V} (x:UInt8) (h:Sp B u):Sp B (fun j=>gmul x (u j)):=by
 obtain ⟨c,hc,rfl⟩:=h
 exact ⟨c.map (gmul x),by simp [hc],by funext j;rw [comb_scale]⟩
theorem Sp.cons {B:List V} {u:V} (b:V) (h:Sp B u):Sp (b :: B) u:=by
 obtain ⟨c,hc,rfl⟩:=h
 exact ⟨0 :: c,by simp [hc],by funext j;rw [comb_cons,zero_gmul,zero_xor]⟩
theorem Sp.mem {a:V}:∀ {B:List V},a ∈ B→Sp B a
 | b :: B,h=>by
  rcases List.mem_cons.1 h with rfl | h
  ·exact ⟨1 :: List.replicate B.length 0,by simp,by funext j;rw [comb_cons,one_gmul,comb_zeros,xor_zero]⟩
  ·exact (Sp.mem h).cons b
theorem Sp.comb {B:List V}:∀ (c:List UInt8) (A:List V),(∀ a,a ∈ A→Sp B a)→Sp B (Gf.comb c A)
 | [], A, _ => by have : Gf.comb [] A = fun _ => 0 := by funext j; exact comb_nil' A j
                  rw [this];exact Sp.zero B
 | c :: cs,[],_=>Sp.zero B
 | c :: cs,a :: az,h=>Sp.add (Sp.scale c (h a (by simp))) (Sp.comb cs az (fun b hb=>h b (by simp [hb])))
theorem Sp.trans {A B:List V} {v:V} (h:∀ a,a ∈ A→Sp B a) (g:Sp A v):Sp B v:=by
 obtain ⟨c,_,rfl⟩:=g;exact Sp.comb c A h
theorem Sp.sub {A B:List V} {v:V} (h:∀ a,a ∈ A→a ∈ B) (g:Sp A v):Sp B v:=Sp.trans (fun a ha=>Sp.mem (h a ha)) g
theorem Sp.at_zero {A:List V} {v:V} {j:Nat} (h:Sp A v) (hz:∀ a,a ∈ A→a j = 0):v j = 0:=by
 obtain ⟨c,_,rfl⟩:=h;exact comb_at_zero j c A hz
def Tri:List (V × Nat)→Prop
 | []=>True
 | (v,l) :: K=>v l = 1∧(∀ p,p ∈ K→p.1 l = 0)∧Tri K
def red (K:List (V × Nat)) (x:V):V:=K.foldl (fun x p j=>x j ^^^ gmul (x p.2) (p.1 j)) x
theorem red_cons (p:V × Nat) (K:List (V × Nat)) (x:V):red (p :: K) x = red K (fun j=>x j ^^^ gmul (x p.2) (p.1 j)):=rfl
theorem red_span:∀ (K:List (V × Nat)) (x:V),Sp (K.map (·.1)) (fun j=>x j ^^^ red K x j)
 | [], x => by have : (fun j => x j ^^^ red [] x j) = fun _ => 0 := by funext j; exact xor_self _
               rw [this];exact Sp.zero _
 | p :: K,x=>by
  have h1:=(red_span K (fun j=>x j ^^^ gmul (x p.2) (p.1 j))).cons p.1
  have h2:Sp (p.1 :: K.map (·.1)) (fun j=>gmul (x p.2) (p.1 j)):=Sp.scale _ (Sp.mem (by simp))
  have:=Sp.add h1 h2
  rw [List.map_cons]
  have e:(fun j=>x j ^^^ red (p :: K) x j) = fun j=>((x j ^^^ gmul (x p.2) (p.1 j)) ^^^ red K (fun j=>x j ^^^ gmul (x p.2) (p.1 j)) j) ^^^ gmul (x p.2) (p.1 j):=by
   funext j
   rw [red_cons,xor_assoc (x j),xor_comm (gmul _ _) (red _ _ _),← xor_assoc (x j),xor_cancel]
  rw [e];exact this
theorem red_keeps_zero {l:Nat}:∀ {K:List (V × Nat)} {x:V},(∀ p,p ∈ K→p.1 l = 0)→x l = 0→red K x l = 0
 | [],x,_,h=>h
 | p :: K,x,hK,h=>by
  rw [red_cons]
  exact red_keeps_zero (fun q hq=>hK q (by simp [hq])) (by rw [h,hK p (by simp),gmul_zero,xor_self])
theorem red_at:∀ {K:List (V × Nat)} {x:V},Tri K→∀ p,p ∈ K→red K x p.2 = 0
 | (v,l) :: K,x,⟨h1,h2,h3⟩,p,hp=>by
  rw [red_cons]
  rcases List.mem_cons.1 hp with rfl | hp
  ·exact red_keeps_zero h2 (by simp only [h1,gmul_one,xor_self])
  ·exact red_at h3 p hp
theorem Tri.snoc:∀ {K:List (V × Nat)} {y:V} {l:Nat},Tri K→(∀ p,p ∈ K→y p.2 = 0)→y l = 1→Tri (K ++ [(y,l)])
 | [],y,l,_,_,h1=>⟨h1,by simp,trivial⟩
 | (v,l0) :: K,y,l,⟨h1,h2,h3⟩,hz,hy=>by
  refine ⟨h1,?_,h3.snoc (fun p hp=>hz p (by simp [hp])) hy⟩
  intro p hp
  rcases List.mem_append.1 hp with h | h
  ·exact h2 p h
  ·simp at h;subst h;exact hz (v,l0) (by simp)
theorem Tri.append:∀ {K L:List (V × Nat)},Tri K→Tri L→(∀ p,p ∈ K→∀ q,q ∈ L→q.1 p.2 = 0)→Tri (K ++ L)
 | [],L,_,h,_=>h
 | (v,l0) :: K,L,⟨h1,h2,h3⟩,hL,hz=>by
  refine ⟨h1,?_,h3.append hL (fun p hp=>hz p (by simp [hp]))⟩
  intro p hp
  rcases List.mem_append.1 hp with h | h
  ·exact h2 p h
  ·exact hz (v,l0) (by simp) p h
theorem Tri.left:∀ {K L:List (V × Nat)},Tri (K ++ L)→Tri K
 | [],L,_=>trivial
 | (v,l0) :: K,L,⟨h1,h2,h3⟩=>⟨h1,fun p hp=>h2 p (by simp [hp]),h3.left⟩
theorem Tri.right:∀ {K L:List (V × Nat)},Tri (K ++ L)→Tri L
 | [],L,h=>h
 | (v,l0) :: K,L,⟨_,_,h3⟩=>h3.right
end Gf
namespace Gf
def unit (i:Nat):V:=fun j=>if i = j then 1 else 0
theorem lin_zero {L:V→V} (hs:∀ x u,L (fun j=>gmul x (u j)) = fun j=>gmul x (L u j)):L (fun _=>0) = fun _=>0:=by
 have:=hs 0 (fun _=>0)
 simp only [zero_gmul] at this
 exact this
def mulV (n:Nat) (B:List V) (a:V):V:=comb ((List.range n).map a) B
theorem mulV_add (n:Nat) (B:List V) (u v:V):mulV n B (fun j=>u j ^^^ v j) = fun j=>mulV n B u j ^^^ mulV n B v j:=by
 funext j
 unfold mulV
 rw [← comb_add j _ _ _ (by simp)]
 congr 1
 apply List.ext_getElem?
 intro k
 simp only [List.getElem?_map,List.getElem?_zipWith]
 cases (List.range n)[k]? <;> rfl
theorem mulV_scale (n:Nat) (B:List V) (x:UInt8) (u:V):mulV n B (fun j=>gmul x (u j)) = fun j=>gmul x (mulV n B u j):=by
 funext j
 unfold mulV
 rw [← comb_scale,List.map_map];rfl
theorem comb_single (j:Nat):∀ (B:List V) (i k n:Nat) (b:V),B.length = n→B[i]? = some b→comb ((List.range n).map (fun m=>unit (i + k) (m + k))) B j = b j
 | [],i,k,n,b,_,h=>by simp at h
 | b0 :: B,0,k,n,b,hn,h=>by
  obtain rfl:b0 = b:=by simpa using h
  cases n with
  | zero=>simp at hn
  | succ n =>
   rw [List.range_succ_eq_map]
   simp only [List.map_cons,List.map_map,comb_cons]
   have e:((List.range n).map ((fun m=>unit (0 + k) (m + k)) ∘ Nat.succ)) = List.replicate n 0:=by
    rw [List.eq_replicate_iff]
    refine ⟨by simp,?_⟩
    intro x hx
    simp only [List.mem_map,Function.comp] at hx
    obtain ⟨m,_,rfl⟩:=hx
    simp [unit]
   rw [e,comb_zeros]
   simp [unit,one_gmul,xor_zero]
 | b0 :: B,i + 1,k,n,b,hn,h=>by
  cases n with
  | zero=>simp at hn
  | succ n =>
   rw [List.range_succ_eq_map]
   simp only [List.map_cons,List.map_map,comb_cons]
   have ih:=comb_single j B i (k + 1) n b (by simpa using hn) (by simpa using h)
   have e:((fun m=>unit (i + 1 + k) (m + k)) ∘ Nat.succ) = fun m=>unit (i + (k + 1)) (m + (k + 1)):=by
    funext m;simp only [Function.comp];congr 1 <;> omega
   rw [e,ih]
   have e0:unit (i + 1 + k) (0 + k) = 0:=by simp [unit]
   rw [e0,zero_gmul,zero_xor]
theorem mulV_unit {n i:Nat} {B:List V} {b:V} (hn:B.length = n) (h:B[i]? = some b):mulV n B (unit i) = b:=by
 funext j
 exact comb_single j B i 0 n b hn h
end Gf
