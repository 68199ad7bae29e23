/- Slices of byte slices that the call itself makes. A region that draws its order and stores nothing: each operation has a shape that lasts. A region that draws its order,with one store into a block of its own: each operation has a shape that lasts. The frame behind a region that draws its order; one operation with its operands known. A guard that never ran says no. The contracts of a grid's parts: blank,row,Width,Height,Same. The contracts of grid.Of,and of the reference's Of; Few. The contracts of grid.Unit and Rows. A slice of rows that the call owns. The contracts of the reference's functions of layer 2: Dot,Scale. The contract of the reference's combination. The walk of the law KernPairs. The contracts of the reference's functions of layer 3,and its inverse. The contracts of the reference's functions of layer 3. The contracts of the reference's Less and Same of layer 3,of the law's helpers,and of Unit. The plain law of VecLeads: what is normed leads with a 1,and so on. Linear algebra over the field of 256 elements: combinations,spans,independence,exchange,elimination. Nothing of the program. Vectors of n places: units,coordinates; products of rows; rows and columns have one rank; what is inverse from the left is from the right. Rows kept one by one,as the grid's rank and the document's keep them: as many as the rank says. A region that draws its order,whose last operation waits for all others (a store): shapes for the others,then the last one. A region that draws its order,whose last operation (a store) waits for all others but one extract. The contract of the grid's Rank. Slices of rows that read so; the contract of the reference's Rest. Appends of rows: any part of a slice of rows onto a slice that the call owns. The contract of the reference's Insert. The contract of the reference's Turned. The contract of the reference's Rank. Determinants by the first row,over the field of 256 elements: linear in each row,nought where two rows are the same; what row steps do to them. Gauss-Jordan on rows with data: what each step keeps. slices.IndexFunc of rows; the closure of Inverse. slices.ContainsFunc of rows. Rows that lead,reduced: what they span tells them; a row more,as a system of equations puts it. A row more into reduced rows (putF); reduced rows out of rows that lead by rising places (backB); both are the same. The document's reduced rows: one behind the other cleared,in place; they are the system's. The contract of a grid's Turned. The contracts of grid.Of where rows fit,or are uneven. The contract of the law's Made. The contract of a grid's Mul. A region that draws its order,with two stores (an exchange): each value that comes up is told ahead; the world is one of two till the last store. A system of equations in memory; New,Size,Rank. The contract of a system's Rest. The contract of sort.Search. -/
import Derived.Test.YtccaiiigdfieoaaGreatDoorZk1
import Derived.Deep.AppendLies
import Derived.Laws.AppendOwnNone
import Derived.Deep.RegionWith
import Derived.Laws.CopyOwn
import Derived.BigRegion
namespace Go.By
open Go.RowKit
def Own2 (T2 T1:TypeId) (w:World) (base:Nat) (v:Value) (n:Nat) (xss:List (List UInt8)):Prop :=
 ∃ vs:List Value,w.ownsRow base T2 1 v n vs∧xss.length = n∧∀ (j:Nat) (val:Value),vs[j]? = some val→∃ xs q c',xss[j]? = some xs∧val = Value.slice q xs.length c'∧w.ownsRow base T1 1 (.slice q xs.length c') xs.length (xs.map B8)
section
variable {T2 T1:TypeId} {w w':World} {base n:Nat} {v:Value} {xss:List (List UInt8)}
theorem Own2.nil (T2 T1:TypeId) (w:World) (base:Nat):Own2 T2 T1 w base (.slice none 0 0) 0 []:=⟨[],World.ownsRow_nil _ _ _ _,rfl,fun j val h=>by simp at h⟩
theorem owns_kept {e size:Nat} {v:Value} {ys:List Value} {row:Option Nat} (h:w.ownsRow base e size v n ys) (hg:w.grownBy w' row) (hne:∀ k,v.ownBlock = some k→some k≠row):w'.ownsRow base e size v n ys :=
 h.kept hg (by
  cases hv:v.ownBlock with
  | none=>exact .inl rfl
  | some k=>exact .inr (fun e=>hne k hv e))
theorem owns_ne {b1 b2 e1 e2 s1 s2 n1 n2:Nat} {v1 v2:Value} {ys1 ys2:List Value} (h1:w.ownsRow b1 e1 s1 v1 n1 ys1) (h2:w.ownsRow b2 e2 s2 v2 n2 ys2) (he:e1≠e2):∀ k,v1.ownBlock = some k→some k≠v2.ownBlock:=by
 intro k hk
 rcases h1.2 with ⟨rfl,_⟩ | ⟨g1,c1,cur1,rfl,_,hh1,_⟩
 ·simp [Value.ownBlock] at hk
 ·simp [Value.ownBlock] at hk;subst hk
  rcases h2.2 with ⟨rfl,_⟩ | ⟨g2,c2,cur2,rfl,_,hh2,_⟩
  ·simp [Value.ownBlock]
  ·simp only [Value.ownBlock]
   intro e
   cases e
   rw [hh1] at hh2
   cases hh2;exact he rfl
theorem owns_keepv {e size:Nat} {ys:List Value} (h:w.ownsRow base e size v n ys) (hb:Below w.heap.size w w'):w'.ownsRow base e size v n ys:=by
 obtain ⟨q,c,rfl⟩:=owns_shape h
 exact owns_keep h hb
theorem Own2.keep (h:Own2 T2 T1 w base v n xss) (hb:Below w.heap.size w w'):Own2 T2 T1 w' base v n xss:=by
 obtain ⟨vs,h1,h2,h3⟩:=h
 exact ⟨vs,owns_keepv h1 hb,h2,fun j val hj=>by
  obtain ⟨xs,q,c',a,b,c⟩:=h3 j val hj
  exact ⟨xs,q,c',a,b,owns_keep c hb⟩⟩
theorem Own2.sl2 {p:Option Addr} {c:Nat} (h:Own2 T2 T1 w base (.slice p n c) n xss):Sl2 w p n c xss:=by
 obtain ⟨vs,h1,h2,h3⟩:=h
 have hs:Sl id w p n c vs:=Sl.of_owns (by rw [List.map_id];exact h1)
 refine ⟨h2,hs.le,hs.max,hs.nil,?_⟩
 intro i xs hi
 have hlt:i < vs.length:=by
  have:=(List.getElem?_eq_some_iff.1 hi).1
  rw [hs.len];omega
 obtain ⟨b,o,hp,hc⟩:=hs.rs i hlt
 obtain ⟨xs',q,c',a1,a2,a3⟩:=h3 i _ (List.getElem?_eq_getElem hlt)
 have e:=hi.symm.trans a1
 cases e
 exact ⟨b,o,q,c',hp,by rw [hc,id,a2],Sl.of_owns a3⟩
theorem Own2.push {q:Option Addr} {m c:Nat} {xs:List UInt8} {vs:List Value} {v':Value} (hT:T1≠T2) (h2:xss.length = n)
  (h3:∀ (j:Nat) (val:Value),vs[j]? = some val→∃ xs q c',xss[j]? = some xs∧val = Value.slice q xs.length c'∧w.ownsRow base T1 1 (.slice q xs.length c') xs.length (xs.map B8))
  (h1:w.ownsRow base T2 1 v n vs) (hr:w.ownsRow base T1 1 (.slice q m c) m (xs.map B8)) (ho:w'.ownsRow base T2 1 v' (n + 1) (vs ++ [.slice q m c])) (hg:w.grownBy w' v.ownBlock):Own2 T2 T1 w' base v' (n + 1) (xss ++ [xs]):=by
 have hvl:vs.length = n:=by simpa using h1.1
 have hml:m = xs.length:=by have:=hr.1;simp at this;exact this.symm
 refine ⟨_,ho,by simp [h2],?_⟩
 intro j val hj
 by_cases hjn:j < n
 ·rw [List.getElem?_append_left (by omega)] at hj
  obtain ⟨ys,q',c',a,b,d⟩:=h3 j val hj
  exact ⟨ys,q',c',by rw [List.getElem?_append_left (by omega)];exact a,b,owns_kept d hg (owns_ne d h1 hT)⟩
 ·rw [List.getElem?_append_right (by omega)] at hj
  have hj0:j = n:=by
   have:=(List.getElem?_eq_some_iff.1 hj).1
   simp at this;omega
  subst hj0
  rw [hvl] at hj
  simp at hj
  subst hj
  refine ⟨xs,q,c,by rw [List.getElem?_append_right (by omega),h2];simp,by rw [hml],?_⟩
  have:=owns_kept hr hg (owns_ne hr h1 hT)
  rwa [hml] at this
end
end Go.By
namespace Go.By
open Go.RowKit
structure Shp where
 ok:Value→World→Prop
 keep:∀ (v:Value) (w w':World),ok v w→Below w.heap.size w w'→ok v w'
def Shp.val (u:Value):Shp:=⟨fun v _=>v = u,fun _ _ _ h _=>h⟩
def Shp.any:Shp:=⟨fun _ _=>True,fun _ _ _ h _=>h⟩
def BytesIs (xs:List UInt8) (v:Value) (w:World):Prop:=∃ p n c,v = .slice p n c∧Sl B8 w p n c xs
def RowIs (r:List UInt8 × List UInt8) (v:Value) (w:World):Prop:=∃ p1 n1 c1 p2 n2 c2,v = .agg #[.slice p1 n1 c1,.slice p2 n2 c2]∧Sl B8 w p1 n1 c1 r.1∧Sl B8 w p2 n2 c2 r.2
def RowsIs (xss:List (List UInt8)) (v:Value) (w:World):Prop:=∃ p n c,v = .slice p n c∧Sl2 w p n c xss
def Shp.bytes (xs:List UInt8):Shp:=⟨BytesIs xs,fun _ _ _ ⟨p,n,c,e,h⟩ hb=>⟨p,n,c,e,h.keep hb⟩⟩
def Shp.row (r:List UInt8 × List UInt8):Shp:=⟨RowIs r,fun _ _ _ ⟨p1,n1,c1,p2,n2,c2,e,h1,h2⟩ hb=>⟨p1,n1,c1,p2,n2,c2,e,h1.keep hb,h2.keep hb⟩⟩
def Shp.rows (xss:List (List UInt8)):Shp:=⟨RowsIs xss,fun _ _ _ ⟨p,n,c,e,h⟩ hb=>⟨p,n,c,e,h.keep hb⟩⟩
def distB (ops:Array Oper):Bool:=(List.range ops.size).all fun i=>(List.range ops.size).all fun j=>i == j || match ops[i]?,ops[j]? with
 | some oi,some oj=>(match oi.dst,oj.dst with
  | some x,some y=>x != y
  | _,_=>true)
 | _,_=>true
def dstOf (ops:Array Oper) (i:Nat):Option Nat:=(ops[i]?).bind (·.dst)
def InvS (ops:Array Oper) (sh:Nat→Shp) (i:Nat) (σ:Nat→Value) (w:World):Prop:=match dstOf ops i with
 | some d=>(sh i).ok (σ d) w
 | none=>True
def StepS (P:Program) (ops:Array Oper) (Q:Exit→Act→World→Prop) (a0:Act) (W0:World) (sh:Nat→Shp) (i:Nat) (o:Oper):Prop :=
 ∀ (a:Act) (w:World),Below W0.heap.size W0 w→a.tmps.size = a0.tmps.size→(∀ k,k ∈ preds o→InvS ops sh k (sl a) w)→(∀ t,initAt ops i t = true→sl a t = sl a0 t) →
  if Region.wanted o (yielded ops a.tmps) = true then o.wp P a w (fun a' w'=>∃ v,a' = a.put o.dst v∧Below w.heap.size w w'∧(sh i).ok v w') Q
  else (sh i).ok undef w
def EachS (P:Program) (ops:Array Oper) (Q:Exit→Act→World→Prop) (a0:Act) (W0:World) (sh:Nat→Shp):List Oper→Nat→Prop
 | [],_=>True
 | o :: rest,i=>StepS P ops Q a0 W0 sh i o∧EachS P ops Q a0 W0 sh rest (i + 1)
def dstsB (ops:Array Oper) (n:Nat):Bool:=ops.toList.all fun o=>match o.dst with
 | some d=>decide (d < n)
 | none=>false
theorem each_of {P:Program} {ops:Array Oper} {Q:Exit→Act→World→Prop} {a0:Act} {W0:World} {sh:Nat→Shp} {n:Nat} (hn:a0.tmps.size = n):∀ (l:List Oper) (k:Nat),(∀ j o,l[j]? = some o→ops[k + j]? = some o)→(l.all fun o=>match o.dst with | some d=>decide (d < n) | none=>false) = true →
  EachS P ops Q a0 W0 sh l k→Each P ops Q a0 W0 (fun W w=>Below W.heap.size W w) (fun _ w w'=>Below w.heap.size w w') (InvS ops sh) l k:=by
 intro l
 induction l with
 | nil=>intro k _ _ _;trivial
 | cons o l ih =>
  intro k hk hd h
  simp only [List.all_cons,Bool.and_eq_true] at hd
  refine ⟨?_,ih (k + 1) (fun j o' hj=>by have:=hk (j + 1) o' (by simpa using hj);rwa [show k + (j + 1) = k + 1 + j by omega] at this) hd.2 h.2⟩
  intro a w hE hs hp hi
  have ho:ops[k]? = some o:=by have:=hk 0 o (by simp);simpa using this
  have hs1:=h.1 a w hE hs hp hi
  cases hdo:o.dst with
  | none=>rw [hdo] at hd;simp at hd
  | some d =>
   rw [hdo] at hd
   have hd1:d < n:=of_decide_eq_true hd.1
   have hdn:d < a.tmps.size:=by rw [hs,hn];exact hd1
   have hdst:dstOf ops k = some d:=by simp [dstOf,ho,hdo]
   split
   ·rename_i hw
    rw [if_pos hw] at hs1
    refine Oper.wp_mono ?_ hs1
    rintro a' w' ⟨v,e,hb,hok⟩
    refine ⟨v,e.trans (by rw [hdo]),hb,?_⟩
    unfold InvS
    rw [hdst]
    show (sh k).ok (sl a' d) w'
    rw [e,hdo,put_same _ _ _ hdn];exact hok
   ·rename_i hw
    rw [if_neg hw] at hs1
    refine ⟨Below.refl _ _,?_⟩
    unfold InvS
    rw [hdst]
    show (sh k).ok (sl (a.put (some d) undef) d) w
    rw [put_same _ _ _ hdn];exact hs1
theorem wp_region_shapes {P:Program} {ops:Array Oper} {Q:Exit→Act→World→Prop} {id:Nat} {a0:Act} {w0:World} (sh:Nat→Shp) (n:Nat) (hn:a0.tmps.size = n) (hm:P.follows .mixedOrders = true) (hback:backB ops = true) (hdist:distB ops = true) (hdsts:dstsB ops n = true)
  (each:EachS P ops Q a0 w0.drew sh ops.toList 0)
  (fin:∀ a w,Below w0.heap.size w0 w→a.tmps.size = a0.tmps.size→a.defers = a0.defers→(∀ j,j < ops.size→InvS ops sh j (sl a) w)→(∀ t,(ops.toList.all fun o=>o.dst != some t) = true→sl a t = sl a0 t)→Q .normal a w) :
  (Code.region id ops true).wp P Q a0 w0:=by
 refine wp_region_each hm hback (fun W w=>Below W.heap.size W w) (fun _ w w'=>Below w.heap.size w w') (InvS ops sh) (Below.refl _ _) (fun i w w' h hR=>h.trans (hR.mono h.size)) ?_ (each_of hn _ 0 (fun j o hj=>by simpa using hj) hdsts each) (fun a w hE hs hd hI ht=>fin a w ⟨hE.os,hE.tape,hE.output,hE.size,hE.block⟩ hs hd hI ht)
 intro i j oi oj σ σ' w w' hij hoi hoj _ hI hR hσ _ _
 unfold InvS at hI ⊢
 cases hdj:dstOf ops j with
 | none=>trivial
 | some d =>
  rw [hdj] at hI
  show (sh j).ok (σ' d) w'
  have hne:oi.dst≠some d:=by
   intro e
   have hi':i < ops.size:=(Array.getElem?_eq_some_iff.1 hoi).1
   have hj':j < ops.size:=(Array.getElem?_eq_some_iff.1 hoj).1
   have:=List.all_eq_true.1 (List.all_eq_true.1 hdist i (List.mem_range.2 hi')) j (List.mem_range.2 hj')
   rw [hoi,hoj] at this
   have hdj':oj.dst = some d:=by simpa [dstOf,hoj] using hdj
   simp [e,hdj',hij] at this
  rw [hσ d hne]
  exact (sh j).keep _ _ _ hI hR
theorem wanted_yes {ops:Array Oper} {o:Oper} {a:Act} {j:Nat} {b:Bool} {d:Nat} (hg:o.guard = some (j,b)) (hd:dstOf ops j = some d) (hs:d < a.tmps.size) (hv:sl a d = .bool b):Region.wanted o (yielded ops a.tmps) = true:=by
 have h1:a.tmps[d]? = some (.bool b):=by
  have:=hv
  simp only [sl,Array.getD_eq_getD_getElem?,Array.getElem?_eq_getElem hs,Option.getD_some] at this
  rw [Array.getElem?_eq_getElem hs,this]
 unfold dstOf at hd
 simp [Region.wanted,hg,yielded,hd,h1]
theorem ite_y {c:Prop} [Decidable c] {A B:Prop} (hc:c) (h:A):if c then A else B:=by rw [if_pos hc];exact h
theorem wp_val {P:Program} {o:Oper} {a:Act} {w:World} {K:Act→World→Prop} {Q:Exit→Act→World→Prop} (v:Value) (hrun:(execOp a.eval o).run P w = .ok (.value v) w) (h:K (a.put o.dst v) w):o.wp P a w K Q:=by
 unfold Oper.wp;rw [hrun];exact h
theorem wp_val' {P:Program} {o:Oper} {a:Act} {w w':World} {K:Act→World→Prop} {Q:Exit→Act→World→Prop} (v:Value) (hrun:(execOp a.eval o).run P w = .ok (.value v) w') (h:K (a.put o.dst v) w'):o.wp P a w K Q:=by
 unfold Oper.wp;rw [hrun];exact h
theorem wp_enter {P:Program} {o:Oper} {a:Act} {w:World} {K:Act→World→Prop} {Q:Exit→Act→World→Prop} (f:FuncId) (args:Array Value) (hrun:(execOp a.eval o).run P w = .ok (.enter f args) w)
  {R:Ending→World→Prop} (hc:Calls P f args w R) (h:∀ e w',R e w'→∃ v,e = .returned v∧K (a.put o.dst v) w'):o.wp P a w K Q:=by
 unfold Oper.wp;rw [hrun]
 show Calls P f args w _
 refine hc.mono ?_
 intro e w' hr
 obtain ⟨v,rfl,hk⟩:=h e w' hr
 exact hk
end Go.By
namespace Go.By
open Go.RowKit
section
variable {B X:Nat} {w w':World}
end
section
variable (B X:Nat)
end
end Go.By
namespace Go.By
open Go.RowKit
theorem putAll_size (a:Act):∀ (ws:List Nat) (b:Act),(ws.foldl (fun b t=>b.put (some t) (sl a t)) b).tmps.size = b.tmps.size:=by
 intro ws
 induction ws with
 | nil=>intro b;rfl
 | cons t ws ih=>intro b;rw [List.foldl_cons,ih];simp [Act.put]
theorem putAll_sl (a:Act):∀ (ws:List Nat) (b:Act) (n:Nat),a.tmps.size = n→b.tmps.size = n→(∀ t,t < n→t ∉ ws→sl b t = sl a t)→∀ t,t < n→sl (ws.foldl (fun b t=>b.put (some t) (sl a t)) b) t = sl a t:=by
 intro ws
 induction ws with
 | nil=>intro b n ha hb h t ht;exact h t ht (by simp)
 | cons u ws ih =>
  intro b n ha hb h t ht
  rw [List.foldl_cons]
  refine ih _ n ha (by simp [Act.put,hb]) ?_ t ht
  intro s hs hn
  by_cases e:s = u
  ·subst e;exact put_same _ _ _ (by rw [hb];exact hs)
  ·have h1:=h s hs (by simp [e,hn])
   rw [← h1]
   simp [sl,Act.put,Array.getD_eq_getD_getElem?,Array.getElem?_setIfInBounds,show ¬ u = s from fun h=>e h.symm]
theorem putAll_defers (a:Act):∀ (ws:List Nat) (b:Act),(ws.foldl (fun b t=>b.put (some t) (sl a t)) b).defers = b.defers:=by
 intro ws
 induction ws with
 | nil=>intro b;rfl
 | cons t ws ih=>intro b;rw [List.foldl_cons,ih];rfl
theorem act_is {ops:Array Oper} {a a0:Act} (ws:List Nat) (hs:a.tmps.size = a0.tmps.size) (hd:a.defers = a0.defers) (hrest:∀ t,(ops.toList.all fun o=>o.dst != some t) = true→sl a t = sl a0 t)
  (hws:(ops.toList.all fun o=>match o.dst with | some t=>ws.contains t | none=>true) = true):a = ws.foldl (fun b t=>b.put (some t) (sl a t)) a0:=by
 have key:=putAll_sl a ws a0 a.tmps.size rfl hs.symm (by
  intro t _ hn
  refine (hrest t ?_).symm
  refine List.all_eq_true.2 fun o ho=>?_
  have:=List.all_eq_true.1 hws o ho
  cases hdo:o.dst with
  | none=>simp
  | some u =>
   rw [hdo] at this
   have hu:u ∈ ws:=by simpa using this
   have:u≠t:=fun e=>hn (e ▸ hu)
   simpa using this)
 have h1:=putAll_size a ws a0
 have h2:=putAll_defers a ws a0
 generalize ws.foldl (fun b t=>b.put (some t) (sl a t)) a0 = b at key h1 h2
 obtain ⟨ta,da⟩:=a
 obtain ⟨tb,db⟩:=b
 simp only at h1 h2 hd key hs
 have e1:ta = tb:=by
  refine Array.ext (by omega) fun i hi hj=>?_
  have:=key i hi
  simpa [sl,Array.getD_eq_getD_getElem?,hi,hj] using this.symm
 rw [e1,hd,h2]
theorem eval_tmp (a:Act) (t:Nat):a.eval (.tmp t) = sl a t:=rfl
theorem eval_const (a:Act) (v:Value):a.eval (.const v) = v:=rfl
theorem eval_func (a:Act) (f:FuncId):a.eval (.func f) = .func (.func f) #[] #[]:=rfl
theorem undrew {w W:World} (h:Below w.drew.heap.size w.drew W):Below w.heap.size w W:=⟨h.os,h.tape,h.output,h.size,h.block⟩
theorem cells2 {w:World} {b T:Nat} {u v:Value} (h:w.heap[b]? = some (.cells #[u,v] T (0,0))):w.cell? ⟨b,0,none⟩ = some u∧w.cell? ⟨b,1,none⟩ = some v :=
 ⟨cell_of_row _ _ 0 _ _ _ h,cell_of_row _ _ 1 _ _ _ h⟩
theorem wp_skipX {P:Program} {o:Oper} {a:Act} {w w':World} {K:Act→World→Prop} {Q:Exit→Act→World→Prop} (hrun:(execOp a.eval o).run P w = .ok .skip w') (h:K (a.put o.dst undef) w'):o.wp P a w K Q:=by
 unfold Oper.wp;rw [hrun];exact h
theorem ite_n {c:Prop} [Decidable c] {A B:Prop} (hc:¬ c) (h:B):if c then A else B:=by rw [if_neg hc];exact h
theorem wanted_no {ops:Array Oper} {o:Oper} {a:Act} {j:Nat} {b c:Bool} {d:Nat} (hg:o.guard = some (j,b)) (hd:dstOf ops j = some d) (hs:d < a.tmps.size) (hv:sl a d = .bool c) (hn:c≠b):¬ Region.wanted o (yielded ops a.tmps) = true:=by
 have h1:a.tmps[d]? = some (.bool c):=by
  have:=hv
  simp only [sl,Array.getD_eq_getD_getElem?,Array.getElem?_eq_getElem hs,Option.getD_some] at this
  rw [Array.getElem?_eq_getElem hs,this]
 unfold dstOf at hd
 simp [Region.wanted,hg,yielded,hd,h1,hn]
end Go.By
namespace Go.By
open Go.RowKit
theorem blk_lt {w:World} {b:Nat} {o:Obj} (h:w.heap[b]? = some o):b < w.heap.size:=(Array.getElem?_eq_some_iff.1 h).1
end Go.By
namespace Go.By
open Go.RowKit
theorem cells3 {w:World} {b T:Nat} {u v x:Value} (h:w.heap[b]? = some (.cells #[u,v,x] T (0,0))):w.cell? ⟨b,0,none⟩ = some u∧w.cell? ⟨b,1,none⟩ = some v∧w.cell? ⟨b,2,none⟩ = some x :=
 ⟨cell_of_row _ _ 0 _ _ _ h,cell_of_row _ _ 1 _ _ _ h,cell_of_row _ _ 2 _ _ _ h⟩
theorem Sl.mid {α:Type} {enc:α→Value} {w:World} {b o n c k m:Nat} {xs:List α} (h:Sl enc w (some ⟨b,o,none⟩) n c xs) (hk:k + m≤n):Sl enc w (some ⟨b,o + k,none⟩) m (c - k) ((xs.drop k).take m):=by
 have h1:=h.len;have h2:=h.le;have h3:=h.max
 refine ⟨by rw [List.length_take,List.length_drop];omega,by omega,by omega,fun e=>(by cases e),?_⟩
 intro i hi
 have hi':k + i < xs.length:=by rw [List.length_take,List.length_drop] at hi;omega
 obtain ⟨b',o',hp,hc⟩:=h.rs (k + i) hi'
 cases hp
 exact ⟨b,o + k,rfl,by rw [show o + k + i = o + (k + i) by omega,hc];simp⟩
theorem Sl.empty {α:Type} {enc:α→Value} {w:World} {p:Option Addr} {n c:Nat} {xs:List α} (h:Sl enc w p n c xs):Sl enc w p 0 c ([]:List α) :=
 ⟨rfl,Nat.zero_le _,h.max,fun e=>⟨rfl,(h.nil e).2⟩,Rs.nil⟩
end Go.By
namespace Go.Proofs.YtccaiiigdfieoaaGreatDoor
open Go.RowKit Go.By
end Go.Proofs.YtccaiiigdfieoaaGreatDoor
namespace Go.Proofs.YtccaiiigdfieoaaGreatDoor
open Go.RowKit Go.By
end Go.Proofs.YtccaiiigdfieoaaGreatDoor
namespace Go.By
end Go.By
namespace Go.Proofs.YtccaiiigdfieoaaGreatDoor
open Go.RowKit Go.By
theorem info_rows:(Tryz.prog.info? 22).map (fun i=>(i.zero,i.size,i.bytes)) = some (some (.slice none 0 0),1,24):=by kernel_rfl
end Go.Proofs.YtccaiiigdfieoaaGreatDoor
namespace Go.By
open Go.RowKit
def fl2 (vs:List (Value × Value)):List Value:=vs.flatMap fun u=>[u.1,u.2]
theorem fl2_append (a b:List (Value × Value)):fl2 (a ++ b) = fl2 a ++ fl2 b:=by simp [fl2]
theorem fl2_length (vs:List (Value × Value)):(fl2 vs).length = vs.length * 2:=by
 induction vs with
 | nil=>rfl
 | cons u vs ih=>show (u.1 :: u.2 :: fl2 vs).length = _;simp only [List.length_cons,ih];omega
theorem fl2_at:∀ {vs:List (Value × Value)} {i:Nat} {u:Value × Value},vs[i]? = some u→(fl2 vs)[i * 2]? = some u.1∧(fl2 vs)[i * 2 + 1]? = some u.2
 | v :: vs, 0, u, h => by obtain rfl : v = u := by simpa using h
                          exact ⟨rfl,rfl⟩
 | v :: vs,i + 1,u,h=>by
  have ih:=fl2_at (vs:=vs) (i:=i) (u:=u) (by simpa using h)
  have e:fl2 (v :: vs) = v.1 :: v.2 :: fl2 vs:=rfl
  rw [e,show (i + 1) * 2 = i * 2 + 2 by omega]
  exact ⟨by simpa using ih.1,by simpa using ih.2⟩
def Bw (T1:TypeId) (w:World) (base:Nat) (v:Value) (xs:List UInt8):Prop:=∃ q m c,v = .slice q m c∧xs.length = m∧w.ownsRow base T1 1 (.slice q m c) m (xs.map B8)
def RwL (T2 T1:TypeId) (w:World) (base:Nat) (v:Value) (n:Nat) (K:List (List UInt8 × List UInt8)):Prop :=
 ∃ vs:List (Value × Value),vs.length = n∧K.length = n∧w.ownsRow base T2 2 v n (fl2 vs)∧∀ (j:Nat) (u:Value × Value),vs[j]? = some u→∃ k,K[j]? = some k∧Bw T1 w base u.1 k.1∧Bw T1 w base u.2 k.2
section
variable {T2 T1:TypeId} {w w':World} {base n:Nat} {v:Value} {K:List (List UInt8 × List UInt8)}
theorem Bw.keep {xs:List UInt8} (h:Bw T1 w base v xs) (hb:Below w.heap.size w w'):Bw T1 w' base v xs:=by
 obtain ⟨q,m,c,e,l,o⟩:=h;exact ⟨q,m,c,e,l,owns_keep o hb⟩
theorem Bw.sl {xs:List UInt8} (h:Bw T1 w base v xs):∃ q m c,v = .slice q m c∧Sl B8 w q m c xs:=by
 obtain ⟨q,m,c,e,l,o⟩:=h;exact ⟨q,m,c,e,Sl.of_owns o⟩
theorem Bw.grown {xs:List UInt8} {u:Value} {L:List Value} {m:Nat} (h:Bw T1 w base v xs) (hT:T1≠T2) (ho:w.ownsRow base T2 2 u m L) (hg:w.grownBy w' u.ownBlock):Bw T1 w' base v xs:=by
 obtain ⟨q,m,c,e,l,o⟩:=h;exact ⟨q,m,c,e,l,owns_kept o hg (owns_ne o ho hT)⟩
theorem RwL.nil (T2 T1:TypeId) (w:World) (base:Nat):RwL T2 T1 w base (.slice none 0 0) 0 []:=⟨[],rfl,rfl,World.ownsRow_nil _ _ _ _,fun j u h=>by simp at h⟩
theorem RwL.keep (h:RwL T2 T1 w base v n K) (hb:Below w.heap.size w w'):RwL T2 T1 w' base v n K:=by
 obtain ⟨vs,a,b,o,r⟩:=h
 exact ⟨vs,a,b,owns_keepv o hb,fun j u hj=>by obtain ⟨k,hk,g1,g2⟩:=r j u hj;exact ⟨k,hk,g1.keep hb,g2.keep hb⟩⟩
theorem RwL.len (h:RwL T2 T1 w base v n K):K.length = n:=by obtain ⟨vs,a,b,o,r⟩:=h;exact b
theorem RwL.shape (h:RwL T2 T1 w base v n K):∃ q c,v = .slice q n c:=by obtain ⟨vs,a,b,o,r⟩:=h;exact owns_shape o
theorem RwL.at {q:Option Addr} {c:Nat} (h:RwL T2 T1 w base (.slice q n c) n K) {j:Nat} (hj:j < n):∃ g k q1 m1 c1 q2 m2 c2,q = some ⟨g,0,none⟩∧w.cell? ⟨g,j * 2,none⟩ = some (.slice q1 m1 c1)∧w.cell? ⟨g,j * 2 + 1,none⟩ = some (.slice q2 m2 c2) ∧
  Hid (K[j]? = some k)∧Sl B8 w q1 m1 c1 k.1∧Sl B8 w q2 m2 c2 k.2:=by
 obtain ⟨vs,a,b,o,r⟩:=h
 obtain ⟨u,hu⟩:∃ u,vs[j]? = some u:=⟨_,List.getElem?_eq_getElem (by omega)⟩
 obtain ⟨k,hk,g1,g2⟩:=r j u hu
 obtain ⟨q1,m1,c1,e1,s1⟩:=g1.sl
 obtain ⟨q2,m2,c2,e2,s2⟩:=g2.sl
 rcases o.2 with ⟨hv,_⟩ | ⟨g,cap,cur,hv,_⟩
 ·simp at hv;omega
 ·obtain ⟨rfl,rfl⟩:q = some ⟨g,0,none⟩∧c = cap:=by simpa using hv
  obtain ⟨f1,f2⟩:=fl2_at hu
  refine ⟨g,k,q1,m1,c1,q2,m2,c2,rfl,?_,?_,hk,s1,s2⟩
  ·rw [o.cellAt _ (by omega),f1,e1]
  ·rw [o.cellAt _ (by omega),f2,e2]
theorem RwL.lt (h:RwL T2 T1 w base v n K):∀ k,v.ownBlock = some k→base≤k∧k < w.heap.size:=by
 obtain ⟨vs,a,b,o,r⟩:=h;exact fun k hk=>o.lt k hk
theorem Bw.set {xs:List UInt8} {g o:Nat} {u:Value} (h:Bw T1 w base v xs) (hne:∀ k,v.ownBlock = some k→k≠g) (hg:w.grownBy w' (some g)):Bw T1 w' base v xs:=by
 obtain ⟨q,m,c,rfl,l,ho⟩:=h;exact ⟨q,m,c,rfl,l,owns_kept ho hg (fun k hk e=>hne k hk (by injection e))⟩
theorem RwL.set {g TX:Nat} {cs:Array Value} {fr:Nat × Nat} (h:RwL T2 T1 w base v n K) (hX:w.heap[g]? = some (.cells cs TX fr)) (h1:T1≠TX) (h2:v.ownBlock≠some g) (hg:w.grownBy w' (some g)):RwL T2 T1 w' base v n K:=by
 obtain ⟨vs,a,b,o,r⟩:=h
 have hB:∀ (u:Value) (xs:List UInt8),Bw T1 w base u xs→Bw T1 w' base u xs:=fun u xs hu=>by
  refine hu.set (g:=g) (o:=0) (u:=u) (fun k hk e=>?_) hg
  obtain ⟨q,m,c,rfl,l,ho⟩:=hu
  rcases ho.2 with ⟨hv,_⟩ | ⟨g',cap,cur,hv,_,hh,_⟩
  ·rw [hv] at hk;simp [Value.ownBlock] at hk
  ·rw [hv] at hk;simp [Value.ownBlock] at hk
   rw [e] at hk;rw [hk,hX] at hh
   injection hh with hh;injection hh with _ hh _;exact h1 hh.symm
 exact ⟨vs,a,b,owns_kept o hg (fun k hk e=>h2 (by rw [hk,e])),fun j u hj=>by obtain ⟨k,hk,g1,g2⟩:=r j u hj;exact ⟨k,hk,hB _ _ g1,hB _ _ g2⟩⟩
theorem RwL.push {w1:World} {v':Value} {u1 u2:Value} {k:List UInt8 × List UInt8} {vs:List (Value × Value)} (a:vs.length = n) (b:K.length = n) (o:w.ownsRow base T2 2 v n (fl2 vs))
  (r:∀ (j:Nat) (u:Value × Value),vs[j]? = some u→∃ k,K[j]? = some k∧Bw T1 w base u.1 k.1∧Bw T1 w base u.2 k.2) (hT:T1≠T2) (h1:Bw T1 w base u1 k.1) (h2:Bw T1 w base u2 k.2)
  (ho:w1.ownsRow base T2 2 v' (n + 1) (fl2 vs ++ [u1,u2])) (hg:w.grownBy w1 v.ownBlock):RwL T2 T1 w1 base v' (n + 1) (K ++ [k]):=by
 refine ⟨vs ++ [(u1,u2)],by simp [a],by simp [b],by rw [fl2_append];exact ho,?_⟩
 intro j u hj
 by_cases hjn:j < vs.length
 ·rw [List.getElem?_append_left hjn] at hj
  obtain ⟨k',hk,g1,g2⟩:=r j u hj
  exact ⟨k',by rw [List.getElem?_append_left (by omega)];exact hk,g1.grown hT o hg,g2.grown hT o hg⟩
 ·have hj2:=(List.getElem?_eq_some_iff.1 hj).1
  rw [List.length_append,List.length_singleton] at hj2
  obtain rfl:j = vs.length:=by omega
  rw [List.getElem?_append_right (Nat.le_refl _),Nat.sub_self] at hj
  have hu:(u1,u2) = u:=by simpa using hj
  subst hu
  exact ⟨k,by rw [a,← b,List.getElem?_append_right (Nat.le_refl _),Nat.sub_self];rfl,h1.grown hT o hg,h2.grown hT o hg⟩
end
end Go.By
namespace Go.Proofs.YtccaiiigdfieoaaGreatDoor
open Go.RowKit Go.By
end Go.Proofs.YtccaiiigdfieoaaGreatDoor
namespace Go.Proofs.YtccaiiigdfieoaaGreatDoor
open Go.RowKit Go.By
theorem noughtS_of {xss:List (List UInt8)} {x0:List UInt8} {m:Nat} (h0:xss[0]? = some x0) (hm:x0.length = m) (h:∀ xs,xs ∈ xss→xs.length = m):noughtS xss = (List.replicate m 0,0):=by
 cases xss with
 | nil=>simp at h0
 | cons x l =>
  simp at h0;subst h0;subst hm
  simp only [noughtS]
  rw [if_pos (List.all_eq_true.2 fun xs hx=>by simpa using h xs hx)]
end Go.Proofs.YtccaiiigdfieoaaGreatDoor
namespace Go.Proofs.YtccaiiigdfieoaaGreatDoor
open Go.RowKit Go.By
end Go.Proofs.YtccaiiigdfieoaaGreatDoor
namespace Go.Proofs.YtccaiiigdfieoaaGreatDoor
open Go.RowKit Go.By
end Go.Proofs.YtccaiiigdfieoaaGreatDoor
namespace Go.Proofs.YtccaiiigdfieoaaGreatDoor
open Go.RowKit Go.By
theorem leadS_cases (v:List UInt8):(leadS v = -1∧atS v (leadS v) = 0∧∀ x,x ∈ v→x = 0)∨∃ (k:Nat) (x:UInt8),leadS v = (k:Int)∧v[k]? = some x∧x≠0∧atS v (leadS v) = x∧∀ (j:Nat) (y:UInt8),j < k→v[j]? = some y→y = 0:=by
 unfold leadS idxf
 cases h:v.findIdx? (fun b=>decide (b≠0)) with
 | none =>
  left
  refine ⟨rfl,by simp [atS],?_⟩
  rw [List.findIdx?_eq_none_iff] at h
  intro x hx
  have:=h x hx
  simpa using this
 | some i =>
  right
  obtain ⟨hi,hf,hb⟩:=List.findIdx?_eq_some_iff_getElem.1 h
  refine ⟨i,v[i],rfl,List.getElem?_eq_getElem hi,by simpa using hf,by simp [atS,List.getD,hi],?_⟩
  intro j y hj hy
  obtain ⟨hj',e⟩:=List.getElem?_eq_some_iff.1 hy
  have:=hb j hj
  rw [e] at this
  simpa using this
end Go.Proofs.YtccaiiigdfieoaaGreatDoor
namespace Go.Proofs.YtccaiiigdfieoaaGreatDoor
open Go.RowKit Go.By
end Go.Proofs.YtccaiiigdfieoaaGreatDoor
namespace Go.Proofs.YtccaiiigdfieoaaGreatDoor
open Go.By
theorem lead_is {v:List UInt8} {k:Nat} {x:UInt8} (h:v[k]? = some x) (hx:x≠0) (hj:∀ (j:Nat) (y:UInt8),j < k→v[j]? = some y→y = 0):leadS v = (k:Int):=by
 rcases leadS_cases v with ⟨_,_,h3⟩ | ⟨k',x',e,h1,h2,_,h4⟩
 ·exact absurd (h3 x (List.mem_of_getElem? h)) hx
 ·rw [e]
  rcases Nat.lt_trichotomy k' k with g | g | g
  ·exact absurd (hj k' x' g h1) h2
  ·rw [g]
  ·exact absurd (h4 k x g h) hx
theorem norm_cases (v d:List UInt8):(leadS v = -1∧normS (v,d) = (v,d)) ∨
  ∃ (k:Nat) (x:UInt8),leadS v = (k:Int)∧x≠0∧v[k]? = some x∧(∀ (j:Nat) (y:UInt8),j < k→v[j]? = some y→y = 0)∧normS (v,d) = (v.map (Gf.gmul (Gf.ginv x)),d.map (Gf.gmul (Gf.ginv x))):=by
 rcases leadS_cases v with ⟨h1,h2,_⟩ | ⟨k,x,e,h1,h2,h3,h4⟩
 ·exact .inl ⟨h1,if_pos h2⟩
 ·right
  refine ⟨k,x,e,h2,h1,h4,?_⟩
  unfold normS
  simp only [h3,if_neg h2]
theorem norm_lead (v d:List UInt8):leadS (normS (v,d)).1 = leadS v:=by
 rcases norm_cases v d with ⟨_,h⟩ | ⟨k,x,e,hx,hk,hj,h⟩
 ·rw [h]
 ·rw [h,e]
  refine lead_is (x:=1) ?_ (by decide) ?_
  ·simp [List.getElem?_map,hk,Gf.ginv_gmul x hx]
  ·intro j y hjk hy
   simp only [List.getElem?_map,Option.map_eq_some_iff] at hy
   obtain ⟨z,hz,rfl⟩:=hy
   rw [hj j z hjk hz,Gf.gmul_zero]
theorem at_of {v:List UInt8} {k:Nat} {x:UInt8} (h:v[k]? = some x):atS v (k:Int) = x:=by
 simp [atS,List.getD_eq_getElem?_getD,h]
end Go.Proofs.YtccaiiigdfieoaaGreatDoor
namespace Gf
abbrev V:=Nat→UInt8
def comb:List UInt8→List V→V
 | c :: cs,a :: az=>fun j=>gmul c (a j) ^^^ comb cs az j
 | _,_=>fun _=>0
theorem comb_nil (c:List UInt8) (j:Nat):comb c [] j = 0:=by cases c <;> rfl
theorem comb_nil' (A:List V) (j:Nat):comb [] A j = 0:=by cases A <;> rfl
theorem comb_cons (c:UInt8) (cs:List UInt8) (a:V) (az:List V) (j:Nat):comb (c :: cs) (a :: az) j = gmul c (a j) ^^^ comb cs az j:=rfl
theorem comb_add (j:Nat):∀ (c d:List UInt8) (A:List V),c.length = d.length→comb (List.zipWith (· ^^^ ·) c d) A j = comb c A j ^^^ comb d A j
 | [],[],A,_=>by simp [comb_nil',xor_self]
 | c :: cs,d :: ds,[],_=>by simp [comb_nil,xor_self]
 | c :: cs,d :: ds,a :: az,h=>by
  simp only [List.zipWith_cons_cons,comb_cons]
  rw [comb_add j cs ds az (by simpa using h),gmul_xor_left,xor4]
theorem comb_scale (x:UInt8) (j:Nat):∀ (c:List UInt8) (A:List V),comb (c.map (gmul x)) A j = gmul x (comb c A j)
 | [],A=>by simp [comb_nil',gmul_zero]
 | c :: cs,[]=>by simp [comb_nil,gmul_zero]
 | c :: cs,a :: az=>by
  simp only [List.map_cons,comb_cons]
  rw [comb_scale x j cs az,gmul_assoc,gmul_xor_right]
theorem comb_zeros (j:Nat):∀ (n:Nat) (A:List V),comb (List.replicate n 0) A j = 0
 | 0,A=>by simp [comb_nil']
 | n + 1,[]=>by simp [comb_nil]
 | n + 1,a :: az=>by simp only [List.replicate_succ,comb_cons];rw [comb_zeros j n az,zero_gmul,xor_self]
theorem comb_at_zero (j:Nat):∀ (c:List UInt8) (A:List V),(∀ a,a ∈ A→a j = 0)→comb c A j = 0
 | [],A,_=>comb_nil' _ _
 | c :: cs,[],_=>comb_nil _ _
 | c :: cs,a :: az,h=>by rw [comb_cons,h a (by simp),gmul_zero,zero_xor,comb_at_zero j cs az (fun b hb=>h b (by simp [hb]))]
def Sp (B:List V) (v:V):Prop:=∃ c:List UInt8,c.length = B.length∧v = comb c B
theorem Sp.zero (B:List V):Sp B (fun _=>0):=⟨List.replicate B.length 0,by simp,by funext j;rw [comb_zeros]⟩
theorem Sp.add {B:List V} {u v:V} (h:Sp B u) (g:Sp B v):Sp B (fun j=>u j ^^^ v j):=by
 obtain ⟨c,hc,rfl⟩:=h;obtain ⟨d,hd,rfl⟩:=g
 exact ⟨List.zipWith (· ^^^ ·) c d,by simp [hc,hd],by funext j;rw [comb_add j c d B (by rw [hc,hd])]⟩
theorem Sp.scale {B:List V} {u:V} (x:UInt8) (h:Sp B u):Sp B (fun j=>gmul x (u j)):=by
 obtain ⟨c,hc,rfl⟩:=h
 exact ⟨c.map (gmul x),by simp [hc],by funext j;rw [comb_scale]⟩
theorem Sp.cons {B:List V} {u:V} (b:V) (h:Sp B u):Sp (b :: B) u:=by
 obtain ⟨c,hc,rfl⟩:=h
 exact ⟨0 :: c,by simp [hc],by funext j;rw [comb_cons,zero_gmul,zero_xor]⟩
theorem Sp.mem {a:V}:∀ {B:List V},a ∈ B→Sp B a
 | b :: B,h=>by
  rcases List.mem_cons.1 h with rfl | h
  ·exact ⟨1 :: List.replicate B.length 0,by simp,by funext j;rw [comb_cons,one_gmul,comb_zeros,xor_zero]⟩
  ·exact (Sp.mem h).cons b
theorem Sp.comb {B:List V}:∀ (c:List UInt8) (A:List V),(∀ a,a ∈ A→Sp B a)→Sp B (Gf.comb c A)
 | [], A, _ => by have : Gf.comb [] A = fun _ => 0 := by funext j; exact comb_nil' A j
                  rw [this];exact Sp.zero B
 | c :: cs,[],_=>Sp.zero B
 | c :: cs,a :: az,h=>Sp.add (Sp.scale c (h a (by simp))) (Sp.comb cs az (fun b hb=>h b (by simp [hb])))
theorem Sp.trans {A B:List V} {v:V} (h:∀ a,a ∈ A→Sp B a) (g:Sp A v):Sp B v:=by
 obtain ⟨c,_,rfl⟩:=g;exact Sp.comb c A h
theorem Sp.at_zero {A:List V} {v:V} {j:Nat} (h:Sp A v) (hz:∀ a,a ∈ A→a j = 0):v j = 0:=by
 obtain ⟨c,_,rfl⟩:=h;exact comb_at_zero j c A hz
def Tri:List (V × Nat)→Prop
 | []=>True
 | (v,l) :: K=>v l = 1∧(∀ p,p ∈ K→p.1 l = 0)∧Tri K
def red (K:List (V × Nat)) (x:V):V:=K.foldl (fun x p j=>x j ^^^ gmul (x p.2) (p.1 j)) x
theorem red_cons (p:V × Nat) (K:List (V × Nat)) (x:V):red (p :: K) x = red K (fun j=>x j ^^^ gmul (x p.2) (p.1 j)):=rfl
theorem red_span:∀ (K:List (V × Nat)) (x:V),Sp (K.map (·.1)) (fun j=>x j ^^^ red K x j)
 | [], x => by have : (fun j => x j ^^^ red [] x j) = fun _ => 0 := by funext j; exact xor_self _
               rw [this];exact Sp.zero _
 | p :: K,x=>by
  have h1:=(red_span K (fun j=>x j ^^^ gmul (x p.2) (p.1 j))).cons p.1
  have h2:Sp (p.1 :: K.map (·.1)) (fun j=>gmul (x p.2) (p.1 j)):=Sp.scale _ (Sp.mem (by simp))
  have:=Sp.add h1 h2
  rw [List.map_cons]
  have e:(fun j=>x j ^^^ red (p :: K) x j) = fun j=>((x j ^^^ gmul (x p.2) (p.1 j)) ^^^ red K (fun j=>x j ^^^ gmul (x p.2) (p.1 j)) j) ^^^ gmul (x p.2) (p.1 j):=by
   funext j
   rw [red_cons,xor_assoc (x j),xor_comm (gmul _ _) (red _ _ _),← xor_assoc (x j),xor_cancel]
  rw [e];exact this
theorem red_keeps_zero {l:Nat}:∀ {K:List (V × Nat)} {x:V},(∀ p,p ∈ K→p.1 l = 0)→x l = 0→red K x l = 0
 | [],x,_,h=>h
 | p :: K,x,hK,h=>by
  rw [red_cons]
  exact red_keeps_zero (fun q hq=>hK q (by simp [hq])) (by rw [h,hK p (by simp),gmul_zero,xor_self])
theorem red_at:∀ {K:List (V × Nat)} {x:V},Tri K→∀ p,p ∈ K→red K x p.2 = 0
 | (v,l) :: K,x,⟨h1,h2,h3⟩,p,hp=>by
  rw [red_cons]
  rcases List.mem_cons.1 hp with rfl | hp
  ·exact red_keeps_zero h2 (by simp only [h1,gmul_one,xor_self])
  ·exact red_at h3 p hp
theorem Tri.snoc:∀ {K:List (V × Nat)} {y:V} {l:Nat},Tri K→(∀ p,p ∈ K→y p.2 = 0)→y l = 1→Tri (K ++ [(y,l)])
 | [],y,l,_,_,h1=>⟨h1,by simp,trivial⟩
 | (v,l0) :: K,y,l,⟨h1,h2,h3⟩,hz,hy=>by
  refine ⟨h1,?_,h3.snoc (fun p hp=>hz p (by simp [hp])) hy⟩
  intro p hp
  rcases List.mem_append.1 hp with h | h
  ·exact h2 p h
  ·simp at h;subst h;exact hz (v,l0) (by simp)
theorem Tri.append:∀ {K L:List (V × Nat)},Tri K→Tri L→(∀ p,p ∈ K→∀ q,q ∈ L→q.1 p.2 = 0)→Tri (K ++ L)
 | [],L,_,h,_=>h
 | (v,l0) :: K,L,⟨h1,h2,h3⟩,hL,hz=>by
  refine ⟨h1,?_,h3.append hL (fun p hp=>hz p (by simp [hp]))⟩
  intro p hp
  rcases List.mem_append.1 hp with h | h
  ·exact h2 p h
  ·exact hz (v,l0) (by simp) p h
theorem Tri.left:∀ {K L:List (V × Nat)},Tri (K ++ L)→Tri K
 | [],L,_=>trivial
 | (v,l0) :: K,L,⟨h1,h2,h3⟩=>⟨h1,fun p hp=>h2 p (by simp [hp]),h3.left⟩
theorem Tri.right:∀ {K L:List (V × Nat)},Tri (K ++ L)→Tri L
 | [],L,h=>h
 | (v,l0) :: K,L,⟨_,_,h3⟩=>h3.right
end Gf
namespace Gf
end Gf
namespace Go.Proofs.YtccaiiigdfieoaaGreatDoor
open Go.By Gf
abbrev Rw:=List UInt8 × List UInt8
def vf (xs:List UInt8):V:=fun j=>xs.getD j 0
def cat (r:Rw):List UInt8:=r.1 ++ r.2
def Fit (n t:Nat) (r:Rw):Prop:=r.1.length = n∧r.2.length = t
def lessF (x:Rw) (c:UInt8) (o:Rw):Rw:=(axpy c o.1 x.1,axpy c o.2 x.2)
def restF (K:List Rw) (x:Rw):Rw:=K.foldl (fun x k=>lessF x (atS x.1 (leadS k.1)) k) x
theorem vf_axpy {c:UInt8} {xs ys:List UInt8} (h:xs.length = ys.length):vf (axpy c xs ys) = fun j=>vf ys j ^^^ gmul c (vf xs j):=by
 funext j
 unfold vf axpy
 simp only [List.getD_eq_getElem?_getD,List.getElem?_zipWith]
 by_cases hj:j < xs.length
 ·rw [List.getElem?_eq_getElem hj,List.getElem?_eq_getElem (by omega:j < ys.length)];rfl
 ·rw [List.getElem?_eq_none (by omega),List.getElem?_eq_none (by omega)];simp [gmul_zero,xor_zero]
theorem vf_scale (c:UInt8) (xs:List UInt8):vf (xs.map (gmul c)) = fun j=>gmul c (vf xs j):=by
 funext j
 unfold vf
 simp only [List.getD_eq_getElem?_getD,List.getElem?_map]
 cases xs[j]? <;> simp [gmul_zero]
theorem vf_inj {xs ys:List UInt8} (h:xs.length = ys.length) (e:∀ j,j < xs.length→vf xs j = vf ys j):xs = ys:=by
 apply List.ext_getElem h
 intro i h1 h2
 have:=e i h1
 simpa [vf,List.getD_eq_getElem?_getD,h1,h2] using this
theorem vf_app_left {xs ys:List UInt8} {j:Nat} (h:j < xs.length):vf (xs ++ ys) j = vf xs j:=by
 unfold vf;rw [List.getD_eq_getElem?_getD,List.getElem?_append_left h,List.getD_eq_getElem?_getD]
theorem axpy_append (c:UInt8):∀ (xs ys us vs:List UInt8),xs.length = us.length→axpy c (xs ++ ys) (us ++ vs) = axpy c xs us ++ axpy c ys vs:=by
 intro xs ys us vs h
 unfold axpy
 exact List.zipWith_append h
theorem cat_less {n t:Nat} {x o:Rw} (c:UInt8) (hx:Fit n t x) (ho:Fit n t o):cat (lessF x c o) = axpy c (cat o) (cat x):=by
 unfold cat lessF
 rw [axpy_append]
 rw [ho.1,hx.1]
theorem Fit.less {n t:Nat} {x o:Rw} {c:UInt8} (hx:Fit n t x) (ho:Fit n t o):Fit n t (lessF x c o):=by
 unfold Fit lessF
 exact ⟨by rw [axpy_length _ _ _ (by rw [ho.1,hx.1])];exact hx.1,by rw [axpy_length _ _ _ (by rw [ho.2,hx.2])];exact hx.2⟩
theorem Fit.rest {n t:Nat}:∀ {K:List Rw} {x:Rw},(∀ k,k ∈ K→Fit n t k)→Fit n t x→Fit n t (restF K x)
 | [],x,_,hx=>hx
 | k :: K,x,hK,hx=>Fit.rest (K:=K) (fun a ha=>hK a (by simp [ha])) (hx.less (hK k (by simp)))
theorem Fit.cat {n t:Nat} {x:Rw} (h:Fit n t x):(cat x).length = n + t:=by unfold Go.Proofs.YtccaiiigdfieoaaGreatDoor.cat;rw [List.length_append,h.1,h.2]
def LeadAt (r:Rw) (l:Nat):Prop:=leadS r.1 = (l:Int)∧r.1[l]? = some 1∧∀ (j:Nat) (y:UInt8),j < l→r.1[j]? = some y→y = 0
def Led (r:Rw):Prop:=∃ l,LeadAt r l
def leadN (r:Rw):Nat:=(leadS r.1).toNat
theorem Led.at {r:Rw} (h:Led r):LeadAt r (leadN r):=by
 obtain ⟨l,hl⟩:=h
 have:leadN r = l:=by unfold leadN;rw [hl.1];rfl
 rw [this];exact hl
theorem LeadAt.lt {r:Rw} {l n t:Nat} (h:LeadAt r l) (hf:Fit n t r):l < n:=by
 have:=(List.getElem?_eq_some_iff.1 h.2.1).1;rw [hf.1] at this;exact this
def tri (K:List Rw):List (V × Nat):=K.map fun k=>(vf (cat k),leadN k)
theorem tri_fst (K:List Rw):(tri K).map (·.1) = K.map fun k=>vf (cat k):=by simp [tri,List.map_map,Function.comp_def]
theorem tri_mem {K:List Rw} {p:V × Nat} (h:p ∈ tri K):∃ k,k ∈ K∧p = (vf (cat k),leadN k):=by
 simp only [tri,List.mem_map] at h
 obtain ⟨k,hk,rfl⟩:=h;exact ⟨k,hk,rfl⟩
theorem vf_at {n t l:Nat} {x:Rw} (hx:Fit n t x) (hl:l < n):vf (cat x) l = atS x.1 (l:Int):=by
 unfold cat
 rw [vf_app_left (by rw [hx.1];exact hl)]
 simp [vf,atS]
theorem rest_red {n t:Nat}:∀ {K:List Rw} {x:Rw},(∀ k,k ∈ K→Fit n t k∧Led k)→Fit n t x→vf (cat (restF K x)) = red (tri K) (vf (cat x))
 | [],x,_,_=>rfl
 | k :: K,x,hK,hx=>by
  obtain ⟨hf,hl⟩:=hK k (by simp)
  have hL:=hl.at
  have e:(restF (k :: K) x) = restF K (lessF x (atS x.1 (leadS k.1)) k):=rfl
  rw [e,rest_red (K:=K) (fun a ha=>hK a (by simp [ha])) (hx.less hf),cat_less _ hx hf,vf_axpy (by rw [hf.cat,hx.cat])]
  have e2:atS x.1 (leadS k.1) = vf (cat x) (leadN k):=by rw [vf_at hx (hL.lt hf),hL.1]
  rw [e2];rfl
theorem axpy_zero_of {c:UInt8} (h:c = 0) {xs ys:List UInt8} (hl:xs.length = ys.length):axpy c xs ys = ys:=by
 refine vf_inj (by rw [axpy_length _ _ _ hl]) (fun j _=>?_)
 rw [vf_axpy hl]
 show vf ys j ^^^ gmul c _ = _
 rw [h,zero_gmul,xor_zero]
theorem leadS_neg {v:List UInt8} (h:leadS v < 0):∀ x,x ∈ v→x = 0:=by
 rcases leadS_cases v with ⟨_,_,h3⟩ | ⟨k,x,e,_⟩
 ·exact h3
 ·omega
theorem vf_zero {v:List UInt8} (h:∀ x,x ∈ v→x = 0):∀ j,vf v j = 0:=by
 intro j
 unfold vf
 rw [List.getD_eq_getElem?_getD]
 cases e:v[j]? with
 | none=>rfl
 | some x=>exact h x (List.mem_of_getElem? e)
theorem norm_row {n t:Nat} {y:Rw} (hy:Fit n t y) (h:¬ leadS y.1 < 0):∃ (l:Nat) (c:UInt8),c≠0∧leadS y.1 = (l:Int)∧LeadAt (normS y) l∧Fit n t (normS y)∧vf (cat (normS y)) = fun j=>gmul c (vf (cat y) j):=by
 obtain ⟨v,d⟩:=y
 rcases norm_cases v d with ⟨h1,_⟩ | ⟨k,x,e,hx,hk,hj,g⟩
 ·exact absurd (by rw [h1];decide) h
 ·refine ⟨k,ginv x,ginv_ne x hx,e,?_,?_,?_⟩
  ·rw [g]
   refine ⟨by have:=norm_lead v d;rw [g] at this;rw [this,e],by simp [List.getElem?_map,hk,ginv_gmul x hx],?_⟩
   intro j y hjk hy'
   simp only [List.getElem?_map,Option.map_eq_some_iff] at hy'
   obtain ⟨z,hz,rfl⟩:=hy'
   rw [hj j z hjk hz,gmul_zero]
  ·rw [g];exact ⟨by simpa using hy.1,by simpa using hy.2⟩
  ·rw [g]
   have:cat (v.map (gmul (ginv x)),d.map (gmul (ginv x))) = (cat (v,d)).map (gmul (ginv x)):=by simp [cat]
   rw [this,vf_scale]
def keepF (K:List Rw) (x:Rw):List Rw:=if leadS (restF K x).1 < 0 then K else K ++ [normS (restF K x)]
structure Kept (n t:Nat) (K:List Rw):Prop where
 rows:∀ k,k ∈ K→Fit n t k∧Led k
 tri:Tri (tri K)
theorem Kept.nil (n t:Nat):Kept n t []:=⟨by simp,trivial⟩
theorem tri_append (K L:List Rw):tri (K ++ L) = tri K ++ tri L:=by simp [tri]
theorem leadN_of {r:Rw} {l:Nat} (h:LeadAt r l):leadN r = l:=by unfold leadN;rw [h.1];rfl
theorem vf_lead {n t l:Nat} {r:Rw} (h:LeadAt r l) (hf:Fit n t r):vf (cat r) l = 1:=by
 rw [vf_at hf (h.lt hf),at_of h.2.1]
theorem Kept.step {n t:Nat} {K:List Rw} {x:Rw} (h:Kept n t K) (hx:Fit n t x):Kept n t (keepF K x):=by
 unfold keepF
 split
 ·exact h
 ·rename_i hn
  have hr:=hx.rest (fun k hk=>(h.rows k hk).1)
  obtain ⟨l,c,hc,hl,hL,hF,hv⟩:=norm_row hr hn
  refine ⟨?_,?_⟩
  ·intro k hk
   rcases List.mem_append.1 hk with h' | h'
   ·exact h.rows k h'
   ·simp at h';subst h';exact ⟨hF,l,hL⟩
  ·rw [tri_append]
   show Tri (Go.Proofs.YtccaiiigdfieoaaGreatDoor.tri K ++ [(vf (cat (normS (restF K x))),leadN (normS (restF K x)))])
   refine h.tri.snoc ?_ ?_
   ·intro p hp
    rw [hv]
    show gmul c (vf (cat (restF K x)) p.2) = 0
    rw [rest_red h.rows hx,red_at h.tri p hp,gmul_zero]
   ·rw [leadN_of hL];exact vf_lead hL hF
def insF (K:List Rw) (x:Rw):List Rw :=
 if leadS (normS (restF K x)).1 < 0 then K else K.takeWhile (fun r=>decide (leadS r.1 < leadS (normS (restF K x)).1)) ++ normS (restF K x) :: K.dropWhile (fun r=>decide (leadS r.1 < leadS (normS (restF K x)).1))
theorem norm_leadS (r:Rw):leadS (normS r).1 = leadS r.1:=by obtain ⟨v,d⟩:=r;exact norm_lead v d
theorem ins_perm (K:List Rw) (x:Rw):(insF K x).Perm (keepF K x):=by
 unfold insF keepF
 rw [norm_leadS]
 split
 ·exact List.Perm.refl _
 ·refine (List.perm_middle).trans ?_
  rw [List.takeWhile_append_dropWhile]
  exact (List.perm_append_singleton _ _).symm
structure KeptS (n t:Nat) (K:List Rw):Prop where
 rows:∀ k,k ∈ K→Fit n t k∧Led k
 sorted:K.Pairwise (fun a b=>leadN a < leadN b)
theorem vf_before {n t l:Nat} {r:Rw} (hf:Fit n t r) (h:Led r) (hl:l < leadN r):vf (cat r) l = 0:=by
 have hL:=h.at
 have:=hL.lt hf
 rw [vf_at hf (by omega)]
 have hz:=hL.2.2 l
 simp only [atS,Int.toNat_natCast,Int.natCast_nonneg,if_true,List.getD_eq_getElem?_getD]
 cases e:r.1[l]? with
 | none=>rfl
 | some y=>exact hz y hl e
theorem tri_of_sorted {n t:Nat}:∀ {K:List Rw},(∀ k,k ∈ K→Fit n t k∧Led k)→K.Pairwise (fun a b=>leadN a < leadN b)→Tri (tri K)
 | [],_,_=>trivial
 | k :: K,h1,h2=>by
  obtain ⟨g1,g2⟩:=List.pairwise_cons.1 h2
  obtain ⟨hf,hl⟩:=h1 k (by simp)
  refine ⟨vf_lead hl.at hf,?_,tri_of_sorted (fun a ha=>h1 a (by simp [ha])) g2⟩
  intro p hp
  obtain ⟨k',hk',rfl⟩:=tri_mem hp
  exact vf_before (h1 k' (by simp [hk'])).1 (h1 k' (by simp [hk'])).2 (g1 k' hk')
theorem KeptS.kept {n t:Nat} {K:List Rw} (h:KeptS n t K):Kept n t K:=⟨h.rows,tri_of_sorted h.rows h.sorted⟩
theorem KeptS.nil (n t:Nat):KeptS n t []:=⟨by simp,List.Pairwise.nil⟩
theorem mem_take {α:Type} {p:α→Bool}:∀ {l:List α} {a:α},a ∈ l.takeWhile p→p a = true
 | b :: l,a,h=>by
  rw [List.takeWhile_cons] at h
  split at h
  ·rename_i hb
   rcases List.mem_cons.1 h with rfl | h
   ·exact hb
   ·exact mem_take h
  ·simp at h
theorem drop_head {α:Type} {p:α→Bool}:∀ {l:List α} {a:α} {r:List α},l.dropWhile p = a :: r→p a = false
 | b :: l,a,r,h=>by
  rw [List.dropWhile_cons] at h
  split at h
  ·exact drop_head h
  ·rename_i hb
   simp at h
   rw [← h.1];simpa using hb
theorem KeptS.step {n t:Nat} {K:List Rw} {x:Rw} (h:KeptS n t K) (hx:Fit n t x):KeptS n t (insF K x):=by
 have hkk:=h.kept.step hx
 have hp:=ins_perm K x
 refine ⟨fun k hk=>hkk.rows k (hp.mem_iff.1 hk),?_⟩
 unfold insF
 split
 ·exact h.sorted
 ·rename_i hn
  rw [norm_leadS] at hn
  have hr:=hx.rest (fun k hk=>(h.rows k hk).1)
  obtain ⟨l,c,hc,hl,hL,hF,hv⟩:=norm_row hr hn
  have hln:=leadN_of hL
  rw [hL.1]
  have hne:∀ k,k ∈ K→leadN k≠l:=by
   intro k hk e
   have h1:vf (cat (normS (restF K x))) l = 1:=vf_lead hL hF
   have h2:vf (cat (normS (restF K x))) (leadN k) = 0:=by
    rw [hv]
    show gmul c (vf (cat (restF K x)) (leadN k)) = 0
    rw [rest_red h.rows hx,red_at h.kept.tri (vf (cat k),leadN k) (List.mem_map.2 ⟨k,hk,rfl⟩),gmul_zero]
   rw [e,h1] at h2
   exact absurd h2 (by decide)
  have hlead:∀ k,k ∈ K→leadS k.1 = (leadN k:Int):=fun k hk=>(h.rows k hk).2.at.1
  have hs:(K.takeWhile (fun r=>decide (leadS r.1 < (l:Int))) ++ K.dropWhile (fun r=>decide (leadS r.1 < (l:Int)))).Pairwise (fun a b=>leadN a < leadN b):=by
   rw [List.takeWhile_append_dropWhile];exact h.sorted
  have mT:∀ k,k ∈ K.takeWhile (fun r=>decide (leadS r.1 < (l:Int)))→k ∈ K∧leadN k < l:=by
   intro k hk
   have h1:=(List.takeWhile_sublist _).mem hk
   refine ⟨h1,?_⟩
   have:=mem_take hk
   rw [decide_eq_true_eq,hlead k h1] at this
   omega
  have mD:∀ k,k ∈ K.dropWhile (fun r=>decide (leadS r.1 < (l:Int)))→l < leadN k:=by
   obtain ⟨h1,h2,h3⟩:=List.pairwise_append.1 hs
   cases e:K.dropWhile (fun r=>decide (leadS r.1 < (l:Int))) with
   | nil=>intro k hk;simp at hk
   | cons a r =>
    have ha:a ∈ K:=(List.dropWhile_sublist _).mem (by rw [e];simp)
    have hd:=drop_head e
    rw [decide_eq_false_iff_not,hlead a ha] at hd
    have hla:l < leadN a:=by have:=hne a ha;omega
    rw [e] at h2
    intro k hk
    rcases List.mem_cons.1 hk with rfl | hk
    ·exact hla
    ·exact Nat.lt_trans hla ((List.pairwise_cons.1 h2).1 k hk)
  obtain ⟨h1,h2,h3⟩:=List.pairwise_append.1 hs
  refine List.pairwise_append.2 ⟨h1,List.pairwise_cons.2 ⟨fun k hk=>by rw [hln];exact mD k hk,h2⟩,?_⟩
  intro a ha b hb
  rcases List.mem_cons.1 hb with rfl | hb
  ·rw [hln];exact (mT a ha).2
  ·exact h3 a ha b hb
end Go.Proofs.YtccaiiigdfieoaaGreatDoor
namespace Go.By
open Go.RowKit
theorem wpAny_done {P:Program} {ops:Array Oper} {Q:Exit→Act→World→Prop} {listed:Array Bool} {a:Act} {w:World} (fuel:Nat) (hall:∀ j,j < ops.size→listed.getD j true = true) (h:Q .normal a w):wpAny P .any ops Q fuel listed a w:=by
 have hr:Region.ready .any ops listed = []:=by
  rw [List.eq_nil_iff_forall_not_mem]
  intro i hi
  obtain ⟨h1,h2,_⟩:=mem_ready.1 hi
  rw [hall i h1] at h2;cases h2
 cases fuel with
 | zero=>exact ⟨hr,h⟩
 | succ n=>exact ⟨fun _=>h,fun i hi=>by rw [hr] at hi;simp at hi⟩
def lastB (ops:Array Oper) (m:Nat):Bool:=decide (ops.size = m + 1) && (match ops[m]? with
 | some o=>o.guard.isNone
 | none=>false) && (List.range m).all fun i=>(List.range (m + 1)).any fun j=>decide (i < j) && match ops[j]? with
 | some o=>(preds o).contains i
 | none=>false
theorem wp_region_last {P:Program} {ops:Array Oper} {Q:Exit→Act→World→Prop} {id:Nat} {a0:Act} {w0:World} (sh:Nat→Shp) (n m:Nat) (hn:a0.tmps.size = n) (hm:P.follows .mixedOrders = true) (hback:backB ops = true) (hdist:distB ops = true)
  (hlast:lastB ops m = true) (hdsts:dstsB (ops.extract 0 m) n = true)
  (each:EachS P ops Q a0 w0.drew sh (ops.toList.take m) 0)
  (fin:∀ a w o,ops[m]? = some o→Below w0.heap.size w0 w→a.tmps.size = a0.tmps.size→a.defers = a0.defers→(∀ j,j < m→InvS ops sh j (sl a) w)→(∀ t,(ops.toList.all fun o=>o.dst != some t) = true→sl a t = sl a0 t)→o.wp P a w (fun a' w'=>Q .normal a' w') Q) :
  (Code.region id ops true).wp P Q a0 w0:=by
 unfold lastB at hlast
 rw [Bool.and_eq_true,Bool.and_eq_true] at hlast
 have hsz:ops.size = m + 1:=of_decide_eq_true hlast.1.1
 have hm':m < ops.size:=by omega
 obtain ⟨ol,hol⟩:∃ ol,ops[m]? = some ol:=⟨_,Array.getElem?_eq_getElem hm'⟩
 have hl2:=hlast.1.2
 rw [hol] at hl2
 have hguard:ol.guard = none:=by cases hg:ol.guard <;> simp [hg] at hl2 ⊢
 have hpl:∀ i,i < m→∃ j o,i < j∧j≤m∧ops[j]? = some o∧i ∈ preds o:=fun i hi=>by
  obtain ⟨j,hj,h⟩:=List.any_eq_true.1 (List.all_eq_true.1 hlast.2 i (List.mem_range.2 hi))
  have hjm:=List.mem_range.1 hj
  rw [Bool.and_eq_true] at h
  obtain ⟨oj,hoj⟩:∃ oj,ops[j]? = some oj:=⟨_,Array.getElem?_eq_getElem (by omega)⟩
  have h2:=h.2
  rw [hoj] at h2
  exact ⟨j,oj,of_decide_eq_true h.1,by omega,hoj,by simpa using h2⟩
 have hE:=each_of (Q:=Q) (P:=P) (a0:=a0) (W0:=w0.drew) (sh:=sh) hn (ops.toList.take m) 0 (fun j o hj=>by
   rw [List.getElem?_take] at hj;split at hj
   ·simpa using hj
   ·cases hj) (by
   unfold dstsB at hdsts
   have e:(ops.extract 0 m).toList = ops.toList.take m:=by simp
   rw [e] at hdsts;exact hdsts) each
 have stepAt:∀ i o,i < m→ops[i]? = some o→StepOf P ops Q a0 w0.drew (fun W w=>Below W.heap.size W w) (fun _ w w'=>Below w.heap.size w w') (InvS ops sh) i o:=fun i o hi ho=>by
  have:=Each.get _ 0 hE i o (by rw [List.getElem?_take,if_pos hi];simpa using ho)
  rwa [Nat.zero_add] at this
 have stable:∀ i j oi oj (σ σ':Nat→Value) w w',i≠j→ops[i]? = some oi→ops[j]? = some oj→InvS ops sh j σ w→Below w.heap.size w w'→(∀ t,oi.dst≠some t→σ' t = σ t)→InvS ops sh j σ' w':=by
  intro i j oi oj σ σ' w w' hij hoi hoj hI hR hσ
  unfold InvS at hI ⊢
  cases hdj:dstOf ops j with
  | none=>trivial
  | some d =>
   rw [hdj] at hI
   show (sh j).ok (σ' d) w'
   have hne:oi.dst≠some d:=by
    intro e
    have hi':i < ops.size:=(Array.getElem?_eq_some_iff.1 hoi).1
    have hj':j < ops.size:=(Array.getElem?_eq_some_iff.1 hoj).1
    have:=List.all_eq_true.1 (List.all_eq_true.1 hdist i (List.mem_range.2 hi')) j (List.mem_range.2 hj')
    rw [hoi,hoj] at this
    have hdj':oj.dst = some d:=by simpa [dstOf,hoj] using hdj
    simp [e,hdj',hij] at this
   rw [hσ d hne]
   exact (sh j).keep _ _ _ hI hR
 refine wp_region_any hm ?_
 show wpAny P .any ops Q ops.size (Array.replicate ops.size false) a0 w0.drew
 have main:∀ (fuel:Nat) (listed:Array Bool) (a:Act) (w:World),unl ops.size listed≤fuel→listed.getD m true = false→Below w0.heap.size w0 w→a.tmps.size = a0.tmps.size→a.defers = a0.defers →
   (∀ j o,listed.getD j false = true→ops[j]? = some o→∀ k,k ∈ preds o→listed.getD k false = true) →
   (∀ j,j < ops.size→listed.getD j true = true→listed.getD j false = true) →
   (∀ j,j < m→listed.getD j false = true→InvS ops sh j (sl a) w) →
   (∀ t,(∀ j o,j < m→listed.getD j false = true→ops[j]? = some o→o.dst≠some t)→sl a t = sl a0 t)→wpAny P .any ops Q fuel listed a w:=by
  intro fuel
  induction fuel with
  | zero =>
   intro listed a w hu hlm
   exfalso
   have h0:unl ops.size listed = 0:=by omega
   unfold unl at h0
   have:=List.countP_eq_zero.1 h0 m (List.mem_range.2 hm')
   simp [hlm] at this
  | succ fuel ih =>
   intro listed a w hu hlm hEw hs hd hcl hlt hI ht
   refine ⟨fun hr=>?_,fun i hi=>?_⟩
   ·exfalso
    have hall:∀ k j,j < k→j < ops.size→listed.getD j false = true:=by
     intro k
     induction k with
     | zero=>intro j hj;omega
     | succ k ihk =>
      intro j hj hjs
      refine hlt j hjs ?_
      cases hb:listed.getD j true with
      | true=>rfl
      | false =>
       exfalso
       have ho:ops[j]? = some ops[j]:=Array.getElem?_eq_getElem hjs
       have:j ∈ Region.ready .any ops listed:=mem_ready.2 ⟨hjs,hb,_,ho,fun q hq=>by
        have hbk:=List.all_eq_true.1 hback j (List.mem_range.2 hjs)
        rw [ho] at hbk
        have hkj:=of_decide_eq_true (List.all_eq_true.1 hbk q hq)
        exact ihk q (by omega) (by omega)⟩
       rw [hr] at this;cases this
    have hx:=hall (m + 1) m (by omega) hm'
    rcases Nat.lt_or_ge m listed.size with h | h
    ·simp [Array.getD_eq_getD_getElem?,h] at hlm hx;rw [hlm] at hx;cases hx
    ·simp [Array.getD_eq_getD_getElem?,Array.getElem?_eq_none h] at hx
   ·obtain ⟨h1,h2,o,ho,h3⟩:=mem_ready.1 hi
    have hnl:listed.getD i false≠true:=by
     intro hx
     rcases Nat.lt_or_ge i listed.size with h | h
     ·simp [Array.getD_eq_getD_getElem?,h] at h2 hx;rw [h2] at hx;cases hx
     ·simp [Array.getD_eq_getD_getElem?,Array.getElem?_eq_none h] at hx
    have his:i < listed.size:=by
     rcases Nat.lt_or_ge i listed.size with h | h
     ·exact h
     ·simp [Array.getD_eq_getD_getElem?,Array.getElem?_eq_none h] at h2
    have gset:∀ j (d:Bool),(listed.setIfInBounds i true).getD j d = if i = j then true else listed.getD j d:=by
     intro j d
     simp only [Array.getD_eq_getD_getElem?,Array.getElem?_setIfInBounds]
     by_cases e:i = j
     ·subst e;simp [his]
     ·simp [e]
    by_cases him:i = m
    ·subst him
     rw [hol] at ho;cases ho
     have hdown:∀ d j,i - j≤d→j < i→listed.getD j false = true:=by
      intro d
      induction d with
      | zero=>intro j h4 h5;omega
      | succ d ihd =>
       intro j h4 h5
       obtain ⟨j2,o2,g1,g2,g3,g4⟩:=hpl j h5
       by_cases e:j2 = i
       ·subst e;rw [hol] at g3;cases g3;exact h3 j g4
       ·exact hcl j2 o2 (ihd j2 (by omega) (by omega)) g3 j g4
     have hdn:∀ j,j < i→listed.getD j false = true:=fun j hj=>hdown i j (by omega) hj
     have hf:=fin a w ol hol hEw hs hd (fun j hj=>hI j hj (hdn j hj)) (fun t htt=>ht t (fun j oj hj _ hoj=>by
      have:=List.all_eq_true.1 htt oj (by rw [Array.mem_toList_iff];exact Array.mem_of_getElem? hoj)
      simpa using this))
     unfold wpOp
     rw [hol]
     show if Region.wanted ol (yielded ops a.tmps) = true then _ else _
     rw [if_pos (by simp [Region.wanted,hguard])]
     refine .inl (Oper.wp_mono (fun a' w' hq=>wpAny_done _ (fun j hj=>?_) hq) hf)
     rw [gset]
     by_cases e:i = j
     ·rw [if_pos e]
     ·rw [if_neg e]
      have hjl:=hdn j (by omega)
      rcases Nat.lt_or_ge j listed.size with h | h
      ·simp [Array.getD_eq_getD_getElem?,h] at hjl ⊢;exact hjl
      ·simp [Array.getD_eq_getD_getElem?,Array.getElem?_eq_none h]
    ·have him':i < m:=by omega
     have hst:=stepAt i o him' ho
     have hst':=hst a w ⟨hEw.os,hEw.tape,hEw.output,hEw.size,hEw.block⟩ hs (fun k hk=>hI k (by
       have hbk:=List.all_eq_true.1 hback i (List.mem_range.2 h1)
       rw [ho] at hbk
       have:=of_decide_eq_true (List.all_eq_true.1 hbk k hk);omega) (h3 k hk)) (fun t hti=>by
      refine ht t (fun j oj hj hlj hoj hdj=>?_)
      have:=List.all_eq_true.1 hti j (List.mem_range.2 (by omega))
      rw [hoj] at this
      by_cases e:j = i
      ·subst e;exact hnl hlj
      ·simp [e,hdj] at this
       exact hnl (hcl j oj hlj hoj i this))
     have next:∀ (v:Value) (w':World),Below w.heap.size w w'→InvS ops sh i (sl (a.put o.dst v)) w'→wpAny P .any ops Q fuel (listed.setIfInBounds i true) (a.put o.dst v) w':=by
      intro v w' hR hIi
      refine ih _ _ _ (by have:=unl_set (n:=ops.size) h1 h2;omega) (by rw [gset,if_neg him];exact hlm) (hEw.trans (hR.mono hEw.size)) ((put_size _ _ _).trans hs) ((put_defers _ _ _).trans hd) ?_ ?_ ?_ ?_
      ·intro j oj hj hoj k hk
       rw [gset] at hj ⊢
       by_cases e:i = k
       ·rw [if_pos e]
       ·rw [if_neg e]
        by_cases e':i = j
        ·subst e';rw [ho] at hoj;cases hoj;exact h3 k hk
        ·rw [if_neg e'] at hj;exact hcl j oj hj hoj k hk
      ·intro j hj hl
       rw [gset] at hl ⊢
       by_cases e:i = j
       ·rw [if_pos e]
       ·rw [if_neg e] at hl ⊢;exact hlt j hj hl
      ·intro j hj hl
       rw [gset] at hl
       by_cases e:i = j
       ·subst e;exact hIi
       ·rw [if_neg e] at hl
        have hoj:ops[j]? = some ops[j]:=Array.getElem?_eq_getElem (by omega)
        exact stable i j o _ (sl a) _ w w' e ho hoj (hI j hj hl) hR (fun t h=>put_sl _ _ _ _ h)
      ·intro t htt
       have hdt:o.dst≠some t:=htt i o him' (by rw [gset,if_pos rfl]) ho
       rw [put_sl _ _ _ _ hdt]
       exact ht t (fun j oj hj hl hoj=>htt j oj hj (by rw [gset];split <;> simp [hl]) hoj)
     unfold wpOp
     rw [ho]
     show if Region.wanted o (yielded ops a.tmps) = true then _ else _
     split
     ·rename_i hw
      rw [if_pos hw] at hst'
      exact .inl (Oper.wp_mono (fun a' w' ⟨v,e,hR,hIi⟩=>by rw [e] at hIi ⊢;exact next v w' hR hIi) hst')
     ·rename_i hw
      rw [if_neg hw] at hst'
      exact next undef w hst'.1 hst'.2
 refine main ops.size _ a0 w0.drew ?_ ?_ ⟨rfl,rfl,rfl,Nat.le_refl _,fun _ _=>rfl⟩ rfl rfl ?_ ?_ ?_ ?_
 ·unfold unl;exact Nat.le_trans List.countP_le_length (by simp)
 ·simp [Array.getD_eq_getD_getElem?,Array.getElem?_replicate,hm']
 ·intro j o hj;simp [Array.getD_eq_getD_getElem?,Array.getElem?_replicate] at hj
  split at hj <;> simp at hj
 ·intro j hj hl;simp [Array.getD_eq_getD_getElem?,Array.getElem?_replicate,hj] at hl
 ·intro j hj hl;simp [Array.getD_eq_getD_getElem?,Array.getElem?_replicate,show j < ops.size by omega] at hl
 ·intro t _;rfl
theorem wp_skip_none {P:Program} {o:Oper} {a:Act} {w w':World} {K:Act→World→Prop} {Q:Exit→Act→World→Prop} (hd:o.dst = none) (hrun:(execOp a.eval o).run P w = .ok .skip w') (h:K a w'):o.wp P a w K Q :=
 wp_skipX hrun (by rw [hd];exact h)
end Go.By
namespace Go.By
open Go.RowKit
def lateB (ops:Array Oper) (m e:Nat):Bool:=decide (ops.size = m + 1) && decide (e < m) && match ops[m]? with
 | some o=>o.guard.isNone && o.dst.isNone && (List.range m).all fun i=>i == e || (preds o).contains i
 | none=>false
theorem wpAny_one {P:Program} {ops:Array Oper} {Q:Exit→Act→World→Prop} {listed:Array Bool} {a:Act} {w:World} {e:Nat} {oe:Oper} (fuel:Nat) (he:ops[e]? = some oe) (hall:∀ j,j < ops.size→j≠e→listed.getD j true = true) (hle:listed.getD e true = false) (hpe:∀ k,k ∈ preds oe→listed.getD k false = true)
  (hu:unl ops.size listed≤fuel) (hg:oe.guard = none) (h:oe.wp P a w (fun a' w'=>Q .normal a' w') Q):wpAny P .any ops Q fuel listed a w:=by
 have hes:e < ops.size:=(Array.getElem?_eq_some_iff.1 he).1
 have hin:e ∈ Region.ready .any ops listed:=mem_ready.2 ⟨hes,hle,oe,he,hpe⟩
 cases fuel with
 | zero =>
  exfalso
  have h0:unl ops.size listed = 0:=by omega
  unfold unl at h0
  have:=List.countP_eq_zero.1 h0 e (List.mem_range.2 hes)
  simp [hle] at this
 | succ n =>
  refine ⟨fun hr=>by rw [hr] at hin;simp at hin,fun i hi=>?_⟩
  have hie:i = e:=by
   apply Classical.byContradiction
   intro hne
   obtain ⟨h1,h2,_⟩:=mem_ready.1 hi
   rw [hall i h1 hne] at h2;cases h2
  subst hie
  unfold wpOp
  rw [he]
  show if Region.wanted oe (yielded ops a.tmps) = true then _ else _
  rw [if_pos (by simp [Region.wanted,hg])]
  have his:i < listed.size:=by
   rcases Nat.lt_or_ge i listed.size with h | h
   ·exact h
   ·simp [Array.getD_eq_getD_getElem?,Array.getElem?_eq_none h] at hle
  refine .inl (Oper.wp_mono (fun a' w' hq=>wpAny_done _ (fun j hj=>?_) hq) h)
  simp only [Array.getD_eq_getD_getElem?,Array.getElem?_setIfInBounds]
  by_cases e2:i = j
  ·subst e2;simp [his]
  ·rw [if_neg e2]
   have:=hall j hj (fun h=>e2 h.symm)
   simpa [Array.getD_eq_getD_getElem?] using this
theorem wp_region_late {P:Program} {ops:Array Oper} {Q:Exit→Act→World→Prop} {id:Nat} {a0:Act} {w0:World} (sh:Nat→Shp) (n m e t d:Nat) (hn:a0.tmps.size = n) (hm:P.follows .mixedOrders = true) (hback:backB ops = true) (hdist:distB ops = true)
  (hlast:lateB ops m e = true) (oe:Oper) (hoe:ops[e]? = some oe) (hge:oe.guard = none) (hde:oe.dst = some d) (hdn:d < n)
  (hrun:∀ (a:Act) (u x:Value) (w:World),sl a t = .tuple #[u,x]→∃ v,(execOp a.eval oe).run P w = .ok (.value v) w) (hdsts:dstsB (ops.extract 0 m) n = true)
  (each:EachS P ops Q a0 w0.drew sh (ops.toList.take m) 0)
  (fin:∀ a w o,ops[m]? = some o→Below w0.heap.size w0 w→a.tmps.size = a0.tmps.size→a.defers = a0.defers→(∀ j,j < m→j≠e→InvS ops sh j (sl a) w)→(∀ t,(ops.toList.all fun o=>o.dst != some t) = true→sl a t = sl a0 t) →
   (∃ u x,sl a t = .tuple #[u,x])∧o.wp P a w (fun a' w'=>a' = a∧∀ b:Act,b.tmps.size = a0.tmps.size→b.defers = a0.defers→(∀ t',t'≠d→sl b t' = sl a t')→Q .normal b w') Q) :
  (Code.region id ops true).wp P Q a0 w0:=by
 unfold lateB at hlast
 rw [Bool.and_eq_true,Bool.and_eq_true] at hlast
 have hsz:ops.size = m + 1:=of_decide_eq_true hlast.1.1
 have hem:e < m:=of_decide_eq_true hlast.1.2
 have hm':m < ops.size:=by omega
 obtain ⟨ol,hol⟩:∃ ol,ops[m]? = some ol:=⟨_,Array.getElem?_eq_getElem hm'⟩
 have hl2:=hlast.2
 rw [hol] at hl2
 simp only [Bool.and_eq_true] at hl2
 have hguard:ol.guard = none:=by cases hg:ol.guard <;> simp [hg] at hl2 ⊢
 have hdst:ol.dst = none:=by cases hg:ol.dst <;> simp [hg] at hl2 ⊢
 have hpl:∀ i,i < m→i≠e→i ∈ preds ol:=fun i hi hne=>by
  have:=List.all_eq_true.1 hl2.2 i (List.mem_range.2 hi)
  simpa [hne] using this
 have hE:=each_of (Q:=Q) (P:=P) (a0:=a0) (W0:=w0.drew) (sh:=sh) hn (ops.toList.take m) 0 (fun j o hj=>by
   rw [List.getElem?_take] at hj;split at hj
   ·simpa using hj
   ·cases hj) (by
   unfold dstsB at hdsts
   have e:(ops.extract 0 m).toList = ops.toList.take m:=by simp
   rw [e] at hdsts;exact hdsts) each
 have stepAt:∀ i o,i < m→ops[i]? = some o→StepOf P ops Q a0 w0.drew (fun W w=>Below W.heap.size W w) (fun _ w w'=>Below w.heap.size w w') (InvS ops sh) i o:=fun i o hi ho=>by
  have:=Each.get _ 0 hE i o (by rw [List.getElem?_take,if_pos hi];simpa using ho)
  rwa [Nat.zero_add] at this
 have stable:∀ i j oi oj (σ σ':Nat→Value) w w',i≠j→ops[i]? = some oi→ops[j]? = some oj→InvS ops sh j σ w→Below w.heap.size w w'→(∀ t,oi.dst≠some t→σ' t = σ t)→InvS ops sh j σ' w':=by
  intro i j oi oj σ σ' w w' hij hoi hoj hI hR hσ
  unfold InvS at hI ⊢
  cases hdj:dstOf ops j with
  | none=>trivial
  | some d =>
   rw [hdj] at hI
   show (sh j).ok (σ' d) w'
   have hne:oi.dst≠some d:=by
    intro e
    have hi':i < ops.size:=(Array.getElem?_eq_some_iff.1 hoi).1
    have hj':j < ops.size:=(Array.getElem?_eq_some_iff.1 hoj).1
    have:=List.all_eq_true.1 (List.all_eq_true.1 hdist i (List.mem_range.2 hi')) j (List.mem_range.2 hj')
    rw [hoi,hoj] at this
    have hdj':oj.dst = some d:=by simpa [dstOf,hoj] using hdj
    simp [e,hdj',hij] at this
   rw [hσ d hne]
   exact (sh j).keep _ _ _ hI hR
 refine wp_region_any hm ?_
 show wpAny P .any ops Q ops.size (Array.replicate ops.size false) a0 w0.drew
 have main:∀ (fuel:Nat) (listed:Array Bool) (a:Act) (w:World),unl ops.size listed≤fuel→listed.getD m true = false→Below w0.heap.size w0 w→a.tmps.size = a0.tmps.size→a.defers = a0.defers →
   (∀ j o,listed.getD j false = true→ops[j]? = some o→∀ k,k ∈ preds o→listed.getD k false = true) →
   (∀ j,j < ops.size→listed.getD j true = true→listed.getD j false = true) →
   (∀ j,j < m→listed.getD j false = true→InvS ops sh j (sl a) w) →
   (∀ t,(∀ j o,j < m→listed.getD j false = true→ops[j]? = some o→o.dst≠some t)→sl a t = sl a0 t)→wpAny P .any ops Q fuel listed a w:=by
  intro fuel
  induction fuel with
  | zero =>
   intro listed a w hu hlm
   exfalso
   have h0:unl ops.size listed = 0:=by omega
   unfold unl at h0
   have:=List.countP_eq_zero.1 h0 m (List.mem_range.2 hm')
   simp [hlm] at this
  | succ fuel ih =>
   intro listed a w hu hlm hEw hs hd hcl hlt hI ht
   refine ⟨fun hr=>?_,fun i hi=>?_⟩
   ·exfalso
    have hall:∀ k j,j < k→j < ops.size→listed.getD j false = true:=by
     intro k
     induction k with
     | zero=>intro j hj;omega
     | succ k ihk =>
      intro j hj hjs
      refine hlt j hjs ?_
      cases hb:listed.getD j true with
      | true=>rfl
      | false =>
       exfalso
       have ho:ops[j]? = some ops[j]:=Array.getElem?_eq_getElem hjs
       have:j ∈ Region.ready .any ops listed:=mem_ready.2 ⟨hjs,hb,_,ho,fun q hq=>by
        have hbk:=List.all_eq_true.1 hback j (List.mem_range.2 hjs)
        rw [ho] at hbk
        have hkj:=of_decide_eq_true (List.all_eq_true.1 hbk q hq)
        exact ihk q (by omega) (by omega)⟩
       rw [hr] at this;cases this
    have hx:=hall (m + 1) m (by omega) hm'
    rcases Nat.lt_or_ge m listed.size with h | h
    ·simp [Array.getD_eq_getD_getElem?,h] at hlm hx;rw [hlm] at hx;cases hx
    ·simp [Array.getD_eq_getD_getElem?,Array.getElem?_eq_none h] at hx
   ·obtain ⟨h1,h2,o,ho,h3⟩:=mem_ready.1 hi
    have hnl:listed.getD i false≠true:=by
     intro hx
     rcases Nat.lt_or_ge i listed.size with h | h
     ·simp [Array.getD_eq_getD_getElem?,h] at h2 hx;rw [h2] at hx;cases hx
     ·simp [Array.getD_eq_getD_getElem?,Array.getElem?_eq_none h] at hx
    have his:i < listed.size:=by
     rcases Nat.lt_or_ge i listed.size with h | h
     ·exact h
     ·simp [Array.getD_eq_getD_getElem?,Array.getElem?_eq_none h] at h2
    have gset:∀ j (d:Bool),(listed.setIfInBounds i true).getD j d = if i = j then true else listed.getD j d:=by
     intro j d
     simp only [Array.getD_eq_getD_getElem?,Array.getElem?_setIfInBounds]
     by_cases e:i = j
     ·subst e;simp [his]
     ·simp [e]
    by_cases him:i = m
    ·subst him
     rw [hol] at ho;cases ho
     obtain ⟨⟨u,x,htu⟩,hf⟩:=fin a w ol hol hEw hs hd (fun j hj hje=>hI j hj (h3 j (hpl j hj hje))) (fun t htt=>ht t (fun j oj hj _ hoj=>by
      have:=List.all_eq_true.1 htt oj (by rw [Array.mem_toList_iff];exact Array.mem_of_getElem? hoj)
      simpa using this))
     unfold wpOp
     rw [hol]
     show if Region.wanted ol (yielded ops a.tmps) = true then _ else _
     rw [if_pos (by simp [Region.wanted,hguard])]
     have toT:∀ j,listed.getD j false = true→listed.getD j true = true:=fun j hjl=>by
      rcases Nat.lt_or_ge j listed.size with h | h
      ·simp [Array.getD_eq_getD_getElem?,h] at hjl ⊢;exact hjl
      ·simp [Array.getD_eq_getD_getElem?,Array.getElem?_eq_none h] at hjl
     refine .inl (Oper.wp_mono (fun a' w' hq=>?_) hf)
     obtain ⟨rfl,hq⟩:=hq
     cases hle:listed.getD e true with
     | true =>
      refine wpAny_done _ (fun j hj=>?_) (hq a' hs hd (fun _ _=>rfl))
      rw [gset]
      by_cases e2:i = j
      ·rw [if_pos e2]
      ·rw [if_neg e2]
       by_cases e3:j = e
       ·subst e3;exact hle
       ·exact toT j (h3 j (hpl j (by omega) e3))
     | false =>
      obtain ⟨v,hv⟩:=hrun a' u x w' htu
      refine wpAny_one _ hoe (fun j hj hje=>?_) (by rw [gset,if_neg (by omega)];exact hle) (fun k hk=>?_) (by have:=unl_set (n:=ops.size) h1 h2;omega) hge ?_
      ·rw [gset]
       by_cases e2:i = j
       ·rw [if_pos e2]
       ·rw [if_neg e2];exact toT j (h3 j (hpl j (by omega) hje))
      ·have hbk:=List.all_eq_true.1 hback e (List.mem_range.2 (by omega))
       rw [hoe] at hbk
       have hke:=of_decide_eq_true (List.all_eq_true.1 hbk k hk)
       rw [gset,if_neg (by omega)]
       exact h3 k (hpl k (by omega) (by omega))
      ·refine wp_val v hv ?_
       refine hq _ ((put_size _ _ _).trans hs) ((put_defers _ _ _).trans hd) (fun t' ht'=>?_)
       rw [hde,put_sl _ _ _ _ (fun h=>ht' (by injection h with h;exact h.symm))]
    ·have him':i < m:=by omega
     have hst:=stepAt i o him' ho
     have hst':=hst a w ⟨hEw.os,hEw.tape,hEw.output,hEw.size,hEw.block⟩ hs (fun k hk=>hI k (by
       have hbk:=List.all_eq_true.1 hback i (List.mem_range.2 h1)
       rw [ho] at hbk
       have:=of_decide_eq_true (List.all_eq_true.1 hbk k hk);omega) (h3 k hk)) (fun t hti=>by
      refine ht t (fun j oj hj hlj hoj hdj=>?_)
      have:=List.all_eq_true.1 hti j (List.mem_range.2 (by omega))
      rw [hoj] at this
      by_cases e:j = i
      ·subst e;exact hnl hlj
      ·simp [e,hdj] at this
       exact hnl (hcl j oj hlj hoj i this))
     have next:∀ (v:Value) (w':World),Below w.heap.size w w'→InvS ops sh i (sl (a.put o.dst v)) w'→wpAny P .any ops Q fuel (listed.setIfInBounds i true) (a.put o.dst v) w':=by
      intro v w' hR hIi
      refine ih _ _ _ (by have:=unl_set (n:=ops.size) h1 h2;omega) (by rw [gset,if_neg him];exact hlm) (hEw.trans (hR.mono hEw.size)) ((put_size _ _ _).trans hs) ((put_defers _ _ _).trans hd) ?_ ?_ ?_ ?_
      ·intro j oj hj hoj k hk
       rw [gset] at hj ⊢
       by_cases e:i = k
       ·rw [if_pos e]
       ·rw [if_neg e]
        by_cases e':i = j
        ·subst e';rw [ho] at hoj;cases hoj;exact h3 k hk
        ·rw [if_neg e'] at hj;exact hcl j oj hj hoj k hk
      ·intro j hj hl
       rw [gset] at hl ⊢
       by_cases e:i = j
       ·rw [if_pos e]
       ·rw [if_neg e] at hl ⊢;exact hlt j hj hl
      ·intro j hj hl
       rw [gset] at hl
       by_cases e:i = j
       ·subst e;exact hIi
       ·rw [if_neg e] at hl
        have hoj:ops[j]? = some ops[j]:=Array.getElem?_eq_getElem (by omega)
        exact stable i j o _ (sl a) _ w w' e ho hoj (hI j hj hl) hR (fun t h=>put_sl _ _ _ _ h)
      ·intro t htt
       have hdt:o.dst≠some t:=htt i o him' (by rw [gset,if_pos rfl]) ho
       rw [put_sl _ _ _ _ hdt]
       exact ht t (fun j oj hj hl hoj=>htt j oj hj (by rw [gset];split <;> simp [hl]) hoj)
     unfold wpOp
     rw [ho]
     show if Region.wanted o (yielded ops a.tmps) = true then _ else _
     split
     ·rename_i hw
      rw [if_pos hw] at hst'
      exact .inl (Oper.wp_mono (fun a' w' ⟨v,e,hR,hIi⟩=>by rw [e] at hIi ⊢;exact next v w' hR hIi) hst')
     ·rename_i hw
      rw [if_neg hw] at hst'
      exact next undef w hst'.1 hst'.2
 refine main ops.size _ a0 w0.drew ?_ ?_ ⟨rfl,rfl,rfl,Nat.le_refl _,fun _ _=>rfl⟩ rfl rfl ?_ ?_ ?_ ?_
 ·unfold unl;exact Nat.le_trans List.countP_le_length (by simp)
 ·simp [Array.getD_eq_getD_getElem?,Array.getElem?_replicate,hm']
 ·intro j o hj;simp [Array.getD_eq_getD_getElem?,Array.getElem?_replicate] at hj
  split at hj <;> simp at hj
 ·intro j hj hl;simp [Array.getD_eq_getD_getElem?,Array.getElem?_replicate,hj] at hl
 ·intro j hj hl;simp [Array.getD_eq_getD_getElem?,Array.getElem?_replicate,show j < ops.size by omega] at hl
 ·intro t _;rfl
theorem grownBy_setCell' (w:World) (g o:Nat) (v:Value):w.grownBy (w.setCell ⟨g,o,none⟩ v) (some g) :=
 ⟨rfl,rfl,rfl,by simp,fun b hb hne=>Below.heap_setCell _ _ _ _ (fun e=>hne (by rw [e]))⟩
theorem Sl.set {α:Type} {enc:α→Value} {w:World} {p:Option Addr} {n c g o:Nat} {v:Value} {xs:List α} (h:Sl enc w p n c xs) (hne:∀ a,p = some a→a.block≠g):Sl enc (w.setCell ⟨g,o,none⟩ v) p n c xs :=
 h.grown (grownBy_setCell' w g o v) (fun a ha e=>hne a ha (by injection e))
theorem run_extract1 {P:Program} {a:Act} {u x:Value} {w:World} {t:Nat} (oe:Oper) (hop:oe.op = .extract (.tmp t) 1) (h:sl a t = .tuple #[u,x]):∃ v,(execOp a.eval oe).run P w = .ok (.value v) w :=
 ⟨x,by unfold execOp;rw [hop];simp only [eval_tmp,h];rfl⟩
end Go.By
namespace Go.Proofs.YtccaiiigdfieoaaGreatDoor
open Go.RowKit Go.By
theorem info_vrow:(Tryz.prog.info? 99).map (fun i=>(i.zero,i.size,i.bytes)) = some (some (.agg #[.slice none 0 0,.slice none 0 0]),2,48):=by kernel_rfl
theorem restF_snoc (K:List Rw) (k x:Rw):restF (K ++ [k]) x = lessF (restF K x) (atS (restF K x).1 (leadS k.1)) k:=by unfold restF;rw [List.foldl_append];rfl
theorem restF_take {K:List Rw} {j:Nat} {k x:Rw} (h:K[j]? = some k):restF (K.take (j + 1)) x = lessF (restF (K.take j) x) (atS (restF (K.take j) x).1 (leadS k.1)) k:=by
 have e:K.take (j + 1) = K.take j ++ [k]:=by
  rw [List.take_add_one,h];rfl
 rw [e,restF_snoc]
theorem lessS_fit {n t:Nat} {x k:Rw} {c:UInt8} (hx:Fit n t x) (hk:Fit n t k):lessS x c k = (lessF x c k,0):=by
 unfold lessS lessF
 rw [if_pos ⟨by rw [hx.1,hk.1],by rw [hx.2,hk.2]⟩]
end Go.Proofs.YtccaiiigdfieoaaGreatDoor
namespace Go.By
open Go.RowKit
structure RwS (w:World) (p:Option Addr) (n c:Nat) (K:List (List UInt8 × List UInt8)):Prop where
 len:K.length = n
 le:n≤c
 max:c≤maxLen
 nil:p = none→n = 0∧c = 0
 row:∀ (j:Nat) (k:List UInt8 × List UInt8),K[j]? = some k→∃ b o q1 m1 c1 q2 m2 c2,p = some ⟨b,o,none⟩∧w.cell? ⟨b,o + j * 2,none⟩ = some (.slice q1 m1 c1)∧w.cell? ⟨b,o + j * 2 + 1,none⟩ = some (.slice q2 m2 c2)∧Sl B8 w q1 m1 c1 k.1∧Sl B8 w q2 m2 c2 k.2
theorem RwS.keep {w w':World} {p:Option Addr} {n c:Nat} {K:List (List UInt8 × List UInt8)} (h:RwS w p n c K) (hb:Below w.heap.size w w'):RwS w' p n c K :=
 ⟨h.len,h.le,h.max,h.nil,fun j k hj=>by
  obtain ⟨b,o,q1,m1,c1,q2,m2,c2,e,h1,h2,h3,h4⟩:=h.row j k hj
  exact ⟨b,o,q1,m1,c1,q2,m2,c2,e,(hb.cell (p:=⟨b,o + j * 2,none⟩) (lt_of_cell h1)).trans h1,(hb.cell (p:=⟨b,o + j * 2 + 1,none⟩) (lt_of_cell h2)).trans h2,h3.keep hb,h4.keep hb⟩⟩
theorem RwS.nil0 (w:World):RwS w none 0 0 []:=⟨rfl,Nat.le_refl _,by simp [maxLen],fun _=>⟨rfl,rfl⟩,fun j k h=>by simp at h⟩
theorem Sl.set2 {α:Type} {enc:α→Value} {w:World} {p:Option Addr} {n c g o:Nat} {v:Value} {xs:List α} (h:Sl enc w p n c xs) (hne:0 < n→∀ a,p = some a→a.block≠g):Sl enc (w.setCell ⟨g,o,none⟩ v) p n c xs:=by
 rcases Nat.eq_zero_or_pos n with h0 | h0
 ·have hx:xs = []:=List.length_eq_zero_iff.1 (by rw [h.len,h0])
  subst hx
  exact ⟨h.len,h.le,h.max,h.nil,Rs.nil⟩
 ·exact h.set (hne h0)
end Go.By
namespace Go.Proofs.YtccaiiigdfieoaaGreatDoor
open Go.RowKit Go.By
end Go.Proofs.YtccaiiigdfieoaaGreatDoor
namespace Go.By
open Go.RowKit
def RwP (w:World) (u:Value × Value) (k:List UInt8 × List UInt8):Prop:=∃ q1 m1 c1 q2 m2 c2,u = (.slice q1 m1 c1,.slice q2 m2 c2)∧Sl B8 w q1 m1 c1 k.1∧Sl B8 w q2 m2 c2 k.2
theorem RwP.keep {w w':World} {u:Value × Value} {k:List UInt8 × List UInt8} (h:RwP w u k) (hb:Below w.heap.size w w'):RwP w' u k:=by
 obtain ⟨q1,m1,c1,q2,m2,c2,e,h1,h2⟩:=h;exact ⟨q1,m1,c1,q2,m2,c2,e,h1.keep hb,h2.keep hb⟩
structure RwV (w:World) (p:Option Addr) (n c:Nat) (vs:List (Value × Value)):Prop where
 len:vs.length = n
 le:n≤c
 max:c≤maxLen
 nil:p = none→n = 0∧c = 0
 cell:∀ (j:Nat) (u:Value),(fl2 vs)[j]? = some u→∃ b o,p = some ⟨b,o,none⟩∧w.cell? ⟨b,o + j,none⟩ = some u
 one:∀ u,u ∈ fl2 vs→u.oneCell' = true
theorem RwS.vals {w:World} {p:Option Addr} {n c:Nat} {K:List (List UInt8 × List UInt8)} (h:RwS w p n c K):∃ vs,RwV w p n c vs∧∀ (j:Nat) (u:Value × Value),vs[j]? = some u→∃ k,K[j]? = some k∧RwP w u k:=by
 have each:∀ j,j < n→∃ (u:Value × Value),∃ b o,p = some ⟨b,o,none⟩∧w.cell? ⟨b,o + j * 2,none⟩ = some u.1∧w.cell? ⟨b,o + j * 2 + 1,none⟩ = some u.2∧(∃ k,K[j]? = some k∧RwP w u k)∧u.1.oneCell' = true∧u.2.oneCell' = true:=by
  intro j hj
  obtain ⟨k,hk⟩:∃ k,K[j]? = some k:=⟨_,List.getElem?_eq_getElem (by rw [h.len];exact hj)⟩
  obtain ⟨b,o,q1,m1,c1,q2,m2,c2,e,h1,h2,h3,h4⟩:=h.row j k hk
  exact ⟨(.slice q1 m1 c1,.slice q2 m2 c2),b,o,e,h1,h2,⟨k,hk,q1,m1,c1,q2,m2,c2,rfl,h3,h4⟩,rfl,rfl⟩
 obtain ⟨f,hf⟩:∃ f:Nat→Value × Value,∀ j,j < n→∃ b o,p = some ⟨b,o,none⟩∧w.cell? ⟨b,o + j * 2,none⟩ = some (f j).1∧w.cell? ⟨b,o + j * 2 + 1,none⟩ = some (f j).2∧(∃ k,K[j]? = some k∧RwP w (f j) k)∧(f j).1.oneCell' = true∧(f j).2.oneCell' = true :=
  ⟨fun j=>if hj:j < n then Classical.choose (each j hj) else (undef,undef),fun j hj=>by simp only [dif_pos hj];exact Classical.choose_spec (each j hj)⟩
 have hat:∀ (j:Nat) (u:Value × Value),((List.range n).map f)[j]? = some u→j < n∧u = f j:=by
  intro j u hj
  have hj':=(List.getElem?_eq_some_iff.1 hj).1
  simp at hj'
  rw [List.getElem?_map,List.getElem?_range hj'] at hj
  exact ⟨hj',by simpa using hj.symm⟩
 refine ⟨(List.range n).map f,⟨by simp,h.le,h.max,h.nil,?_,?_⟩,?_⟩
 ·intro i u hi
  have hlen:=(List.getElem?_eq_some_iff.1 hi).1
  rw [fl2_length] at hlen
  have hj:i / 2 < n:=by simp at hlen;omega
  obtain ⟨b,o,e,h1,h2,_⟩:=hf (i / 2) hj
  have hv:((List.range n).map f)[i / 2]? = some (f (i / 2)):=by rw [List.getElem?_map,List.getElem?_range hj];rfl
  obtain ⟨g1,g2⟩:=fl2_at hv
  refine ⟨b,o,e,?_⟩
  rcases Nat.mod_two_eq_zero_or_one i with hm | hm
  ·have:i / 2 * 2 = i:=by omega
   rw [this] at g1 h1
   rw [g1] at hi;rw [h1,← hi]
  ·have:i / 2 * 2 + 1 = i:=by omega
   rw [this] at g2
   rw [g2] at hi
   rw [show o + i = o + i / 2 * 2 + 1 by omega,h2,← hi]
 ·intro u hu
  obtain ⟨i,hi,rfl⟩:=List.getElem_of_mem hu
  rw [fl2_length] at hi
  have hj:i / 2 < n:=by simp at hi;omega
  obtain ⟨b,o,e,_,_,_,o1,o2⟩:=hf (i / 2) hj
  have hv:((List.range n).map f)[i / 2]? = some (f (i / 2)):=by rw [List.getElem?_map,List.getElem?_range hj];rfl
  obtain ⟨g1,g2⟩:=fl2_at hv
  rcases Nat.mod_two_eq_zero_or_one i with hm | hm
  ·have:i / 2 * 2 = i:=by omega
   rw [this] at g1
   have:(fl2 ((List.range n).map f))[i] = (f (i / 2)).1:=by
    rw [List.getElem?_eq_getElem (by rw [fl2_length];exact hi)] at g1;injection g1
   rw [this];exact o1
  ·have:i / 2 * 2 + 1 = i:=by omega
   rw [this] at g2
   have:(fl2 ((List.range n).map f))[i] = (f (i / 2)).2:=by
    rw [List.getElem?_eq_getElem (by rw [fl2_length];exact hi)] at g2;injection g2
   rw [this];exact o2
 ·intro j u hj
  obtain ⟨hjn,rfl⟩:=hat j u hj
  obtain ⟨b,o,_,_,_,hk,_⟩:=hf j hjn
  exact hk
theorem RwV.keep {w w':World} {p:Option Addr} {n c:Nat} {vs:List (Value × Value)} (h:RwV w p n c vs) (hb:Below w.heap.size w w'):RwV w' p n c vs :=
 ⟨h.len,h.le,h.max,h.nil,fun j u hj=>by
  obtain ⟨b,o,e,h1⟩:=h.cell j u hj
  exact ⟨b,o,e,(hb.cell (p:=⟨b,o + j,none⟩) (lt_of_cell h1)).trans h1⟩,h.one⟩
end Go.By
namespace Go.By
open Go.RowKit
theorem fl2_take (vs:List (Value × Value)):∀ k,fl2 (vs.take k) = (fl2 vs).take (k * 2):=by
 induction vs with
 | nil=>intro k;simp [fl2]
 | cons v vs ih =>
  intro k
  cases k with
  | zero=>simp [fl2]
  | succ k =>
   rw [List.take_succ_cons,show (k + 1) * 2 = k * 2 + 2 by omega]
   show v.1 :: v.2 :: fl2 (vs.take k) = (v.1 :: v.2 :: fl2 vs).take (k * 2 + 2)
   rw [List.take_succ_cons,List.take_succ_cons,ih k]
theorem fl2_drop (vs:List (Value × Value)):∀ k,fl2 (vs.drop k) = (fl2 vs).drop (k * 2):=by
 induction vs with
 | nil=>intro k;simp [fl2]
 | cons v vs ih =>
  intro k
  cases k with
  | zero=>simp [fl2]
  | succ k =>
   rw [List.drop_succ_cons,show (k + 1) * 2 = k * 2 + 2 by omega]
   show fl2 (vs.drop k) = (v.1 :: v.2 :: fl2 vs).drop (k * 2 + 2)
   rw [List.drop_succ_cons,List.drop_succ_cons,ih k]
section
variable {w:World} {p:Option Addr} {n c j:Nat} {vs:List (Value × Value)}
theorem RwV.take (h:RwV w p n c vs) (hj:j≤n):RwV w p j c (vs.take j):=by
 refine ⟨by rw [List.length_take,h.len];omega,by have:=h.le;omega,h.max,fun e=>by have:=h.nil e;omega,fun i u hi=>?_,fun u hu=>?_⟩
 ·rw [fl2_take,List.getElem?_take] at hi
  split at hi
  ·exact h.cell i u hi
  ·cases hi
 ·rw [fl2_take] at hu;exact h.one u (List.mem_of_mem_take hu)
theorem RwV.drop {b o:Nat} (h:RwV w (some ⟨b,o,none⟩) n c vs) (hj:j≤n):RwV w (some ⟨b,o + j * 2,none⟩) (n - j) (c - j) (vs.drop j):=by
 refine ⟨by rw [List.length_drop,h.len],by have:=h.le;omega,by have:=h.max;omega,fun e=>(by cases e),fun i u hi=>?_,fun u hu=>?_⟩
 ·rw [fl2_drop,List.getElem?_drop] at hi
  obtain ⟨b',o',e,hc⟩:=h.cell (j * 2 + i) u hi
  cases e
  exact ⟨b,o + j * 2,rfl,by rw [show o + j * 2 + i = o + (j * 2 + i) by omega];exact hc⟩
 ·rw [fl2_drop] at hu;exact h.one u (List.mem_of_mem_drop hu)
theorem RwV.none (hp:p = none→c = 0) (hm:c≤maxLen):RwV w p 0 c []:=⟨rfl,Nat.zero_le _,hm,fun e=>⟨rfl,hp e⟩,fun i u h=>by simp [fl2] at h,fun u h=>by simp [fl2] at h⟩
theorem Sl.away {g T:Nat} {fr:Nat × Nat} {p1 p2 q:Option Addr} {n1 c1 n2 c2 m k:Nat} {xs:List UInt8} (h:Sl B8 w q m k xs) (hg:w.heap[g]? = some (.cells #[.slice p1 n1 c1,.slice p2 n2 c2] T fr)) (h0:0 < m):∀ a,q = some a→a.block≠g:=by
 intro a ha e
 obtain ⟨b,o,hp,hc⟩:=h.rs 0 (by rw [h.len];exact h0)
 rw [hp] at ha;cases ha
 have e':b = g:=e
 subst e'
 rw [cell_of_row _ _ _ _ _ _ hg] at hc
 rcases ho:o + 0 with _ | _ | x
 ·rw [ho] at hc;simp at hc
 ·rw [ho] at hc;simp at hc
 ·rw [ho] at hc;simp at hc
theorem RwS.of_owns {base T n c:Nat} {q:Option Addr} {vs:List (Value × Value)} {K:List (List UInt8 × List UInt8)} (h:w.ownsRow base T 2 (.slice q n c) n (fl2 vs)) (hl:K.length = n) (hv:∀ (j:Nat) (k:List UInt8 × List UInt8),K[j]? = some k→∃ u,vs[j]? = some u∧RwP w u k):RwS w q n c K:=by
 rcases h.2 with ⟨h1,h2⟩ | ⟨g,cap,cur,h1,_,_,h3,h4,_⟩
 ·cases h1
  have:K = []:=List.length_eq_zero_iff.1 (by omega)
  subst this
  exact ⟨hl,Nat.le_of_eq h2,by simp [maxLen],fun _=>⟨h2,rfl⟩,fun j k hk=>by simp at hk⟩
 ·cases h1
  refine ⟨hl,h3,h4,fun e=>(by cases e),fun j k hk=>?_⟩
  obtain ⟨u,hu,q1,m1,c1,q2,m2,c2,rfl,s1,s2⟩:=hv j k hk
  have hj:=(List.getElem?_eq_some_iff.1 hk).1
  obtain ⟨g1,g2⟩:=fl2_at hu
  refine ⟨g,0,q1,m1,c1,q2,m2,c2,rfl,?_,?_,s1,s2⟩
  ·rw [Nat.zero_add,h.cellAt _ (by omega),g1]
  ·rw [Nat.zero_add,h.cellAt _ (by omega),g2]
end
end Go.By
namespace Go.Proofs.YtccaiiigdfieoaaGreatDoor
open Go.RowKit Go.By
end Go.Proofs.YtccaiiigdfieoaaGreatDoor
namespace Go.By
open Go.RowKit
end Go.By
namespace Go.Proofs.YtccaiiigdfieoaaGreatDoor
open Go.RowKit Go.By
end Go.Proofs.YtccaiiigdfieoaaGreatDoor
namespace Go.Proofs.YtccaiiigdfieoaaGreatDoor
open Go.RowKit Go.By
end Go.Proofs.YtccaiiigdfieoaaGreatDoor
namespace Gf
def skip (i k:Nat):Nat:=if k < i then k else k + 1
end Gf
namespace Go.Proofs.YtccaiiigdfieoaaGreatDoor
open Go.By Gf
def updF (F:Nat→Rw) (i:Nat) (r:Rw):Nat→Rw:=fun k=>if k = i then r else F k
end Go.Proofs.YtccaiiigdfieoaaGreatDoor
namespace Go.Proofs.YtccaiiigdfieoaaGreatDoor
open Go.RowKit Go.By
end Go.Proofs.YtccaiiigdfieoaaGreatDoor
namespace Go.Proofs.YtccaiiigdfieoaaGreatDoor
open Go.RowKit Go.By
end Go.Proofs.YtccaiiigdfieoaaGreatDoor
namespace Go.Proofs.YtccaiiigdfieoaaGreatDoor
open Go.By Gf
def vR (r:Rw):V:=vf (cat r)
structure Red (n t:Nat) (K:List Rw):Prop where
 kept:KeptS n t K
 red:K.Pairwise (fun a b=>vR a (leadN b) = 0)
theorem Red.nil (n t:Nat):Red n t []:=⟨KeptS.nil n t,List.Pairwise.nil⟩
theorem KeptS.tail {n t:Nat} {k:Rw} {K:List Rw} (h:KeptS n t (k :: K)):KeptS n t K:=⟨fun a ha=>h.rows a (by simp [ha]),(List.pairwise_cons.1 h.sorted).2⟩
theorem Red.tail {n t:Nat} {k:Rw} {K:List Rw} (h:Red n t (k :: K)):Red n t K:=⟨h.kept.tail,(List.pairwise_cons.1 h.red).2⟩
theorem vR_lead {n t:Nat} {r:Rw} (hf:Fit n t r) (hl:Led r):vR r (leadN r) = 1:=vf_lead hl.at hf
theorem coords_red {n t:Nat}:∀ {K:List Rw} {v:V},Red n t K→Sp (K.map vR) v→v = comb (K.map fun k=>v (leadN k)) (K.map vR)
 | [],v,_,⟨c,hc,e⟩=>by rw [e];funext j;rw [List.map_nil,comb_nil,List.map_nil,comb_nil]
 | k :: K,v,h,⟨c,hc,e⟩=>by
  cases c with
  | nil=>simp at hc
  | cons x c =>
   obtain ⟨hf,hl⟩:=h.kept.rows k (by simp)
   have hs:=(List.pairwise_cons.1 h.kept.sorted).1
   have hr:=(List.pairwise_cons.1 h.red).1
   have hu:Sp (K.map vR) (comb c (K.map vR)):=⟨c,by simpa using hc,rfl⟩
   have hv:∀ j,v j = gmul x (vR k j) ^^^ comb c (K.map vR) j:=fun j=>by rw [e,List.map_cons,comb_cons]
   have h0:comb c (K.map vR) (leadN k) = 0:=hu.at_zero fun a ha=>by
    obtain ⟨b,hb,rfl⟩:=List.mem_map.1 ha
    exact vf_before (h.kept.rows b (by simp [hb])).1 (h.kept.rows b (by simp [hb])).2 (hs b hb)
   have hx:v (leadN k) = x:=by rw [hv,vR_lead hf hl,gmul_one,h0,xor_zero]
   have hc2:(K.map fun b=>v (leadN b)) = K.map fun b=>comb c (K.map vR) (leadN b):=List.map_congr_left fun b hb=>by
    rw [hv,hr b hb,gmul_zero,zero_xor]
   have ih:=coords_red h.tail hu
   funext j
   rw [List.map_cons,List.map_cons,comb_cons,hx,hc2,← ih,hv]
theorem comb_map_zero {α:Type} (f:α→UInt8) (g:α→V) (j:Nat):∀ (K:List α),(∀ k,k ∈ K→gmul (f k) (g k j) = 0)→comb (K.map f) (K.map g) j = 0
 | [],_=>by rw [List.map_nil,comb_nil']
 | k :: K,h=>by rw [List.map_cons,List.map_cons,comb_cons,h k (by simp),comb_map_zero f g j K (fun a ha=>h a (by simp [ha])),xor_self]
theorem lead_red {n t l:Nat} {K:List Rw} {v:V} (h:Red n t K) (hv:Sp (K.map vR) v) (h0:∀ j,j < l→v j = 0) (h1:v l≠0):∃ k,k ∈ K∧leadN k = l:=by
 apply Classical.byContradiction
 intro hn
 refine h1 ?_
 rw [coords_red h hv]
 refine comb_map_zero _ _ _ K fun k hk=>?_
 rcases Nat.lt_trichotomy (leadN k) l with g | g | g
 ·rw [h0 _ g,zero_gmul]
 ·exact absurd ⟨k,hk,g⟩ hn
 ·rw [show vR k l = 0 from vf_before (h.kept.rows k hk).1 (h.kept.rows k hk).2 g,gmul_zero]
theorem sorted_ext:∀ {l m:List Nat},l.Pairwise (· < ·)→m.Pairwise (· < ·)→(∀ x,x ∈ l↔x ∈ m)→l = m
 | [],m,_,_,h=>by
  cases m with
  | nil=>rfl
  | cons b m=>exact absurd ((h b).2 (by simp)) (by simp)
 | a :: l,[],_,_,h=>absurd ((h a).1 (by simp)) (by simp)
 | a :: l,b :: m,h1,h2,h=>by
  obtain ⟨g1,g2⟩:=List.pairwise_cons.1 h1
  obtain ⟨k1,k2⟩:=List.pairwise_cons.1 h2
  have e:a = b:=by
   rcases List.mem_cons.1 ((h a).1 (by simp)) with e | e
   ·exact e
   ·rcases List.mem_cons.1 ((h b).2 (by simp)) with e' | e'
    ·exact e'.symm
    ·exact absurd (g1 b e') (by have:=k1 a e;omega)
  subst e
  rw [sorted_ext g2 k2 fun x=>⟨fun hx=>by
   rcases List.mem_cons.1 ((h x).1 (by simp [hx])) with e | e
   ·subst e;exact absurd (g1 x hx) (Nat.lt_irrefl x)
   ·exact e,fun hx=>by
   rcases List.mem_cons.1 ((h x).2 (by simp [hx])) with e | e
   ·subst e;exact absurd (k1 x hx) (Nat.lt_irrefl x)
   ·exact e⟩]
theorem Red.leads {n t:Nat} {K:List Rw} (h:Red n t K):(K.map leadN).Pairwise (· < ·):=List.pairwise_map.2 h.kept.sorted
theorem Red.delta {n t i j:Nat} {K:List Rw} {a b:Rw} (h:Red n t K) (ha:K[i]? = some a) (hb:K[j]? = some b):vR a (leadN b) = if i = j then 1 else 0:=by
 have ma:=h.kept.rows a (List.mem_of_getElem? ha)
 obtain ⟨hi,ea⟩:=List.getElem?_eq_some_iff.1 ha
 obtain ⟨hj,eb⟩:=List.getElem?_eq_some_iff.1 hb
 rcases Nat.lt_trichotomy i j with g | g | g
 ·rw [if_neg (by omega)]
  have:=List.pairwise_iff_getElem.1 h.red i j hi hj g
  rwa [ea,eb] at this
 ·subst g;rw [ha] at hb;cases hb
  rw [if_pos rfl];exact vR_lead ma.1 ma.2
 ·rw [if_neg (by omega)]
  have:=List.pairwise_iff_getElem.1 h.kept.sorted j i hj hi g
  rw [ea,eb] at this
  exact vf_before ma.1 ma.2 this
theorem Red.unique {n t:Nat} {K M:List Rw} (h:Red n t K) (g:Red n t M) (h1:∀ k,k ∈ K→Sp (M.map vR) (vR k)) (h2:∀ k,k ∈ M→Sp (K.map vR) (vR k)):K = M:=by
 have key:∀ {A B:List Rw},Red n t A→Red n t B→(∀ k,k ∈ A→Sp (B.map vR) (vR k))→∀ x,x ∈ A.map leadN→x ∈ B.map leadN:=by
  intro A B hA hB hs x hx
  obtain ⟨a,ha,rfl⟩:=List.mem_map.1 hx
  obtain ⟨hf,hl⟩:=hA.kept.rows a ha
  obtain ⟨b,hb,e⟩:=lead_red hB (hs a ha) (l:=leadN a) (fun j hj=>vf_before hf hl hj) (by rw [vR_lead hf hl];decide)
  exact List.mem_map.2 ⟨b,hb,e⟩
 have hl:K.map leadN = M.map leadN:=sorted_ext h.leads g.leads fun x=>⟨key h g h1 x,key g h h2 x⟩
 have hlen:K.length = M.length:=by have:=congrArg List.length hl;simpa using this
 have lead_at:∀ {i:Nat} {a b:Rw},K[i]? = some a→M[i]? = some b→leadN a = leadN b:=by
  intro i a b ha hb
  have:=congrArg (fun l=>l[i]?) hl
  simp only [List.getElem?_map,ha,hb,Option.map_some] at this
  injection this
 apply List.ext_getElem?
 intro i
 by_cases hi:i < K.length
 ·have ha:K[i]? = some K[i]:=List.getElem?_eq_getElem hi
  have hb:M[i]? = some (M[i]'(by omega)):=List.getElem?_eq_getElem (by omega)
  rw [ha,hb]
  congr 1
  obtain ⟨f1,-⟩:=h.kept.rows _ (List.mem_of_getElem? ha)
  obtain ⟨f2,-⟩:=g.kept.rows _ (List.mem_of_getElem? hb)
  have e1:=coords_red h (v:=vR K[i]) (Sp.mem (List.mem_map.2 ⟨_,List.mem_of_getElem? ha,rfl⟩))
  have e2:=coords_red h (h2 _ (List.mem_of_getElem? hb))
  have e3:(K.map fun k=>vR K[i] (leadN k)) = K.map fun k=>vR (M[i]'(by omega)) (leadN k):=by
   apply List.map_congr_left
   intro k hk
   obtain ⟨j,hj,rfl⟩:=List.getElem_of_mem hk
   have hkj:K[j]? = some K[j]:=List.getElem?_eq_getElem hj
   have hmj:M[j]? = some (M[j]'(by omega)):=List.getElem?_eq_getElem (by omega)
   rw [h.delta ha hkj,lead_at hkj hmj,g.delta hb hmj]
  have ev:vR K[i] = vR (M[i]'(by omega)):=by rw [e1,e2,e3]
  have hc:cat K[i] = cat (M[i]'(by omega)):=vf_inj (by rw [f1.cat,f2.cat]) fun j _=>by
   have:=congrFun ev j;exact this
  have l1:(K[i]).1.length = ((M[i]'(by omega)):Rw).1.length:=by rw [f1.1,f2.1]
  unfold cat at hc
  obtain ⟨p1,p2⟩:=List.append_inj hc l1
  exact Prod.ext p1 p2
 ·rw [List.getElem?_eq_none (by omega),List.getElem?_eq_none (by omega)]
end Go.Proofs.YtccaiiigdfieoaaGreatDoor
namespace Go.Proofs.YtccaiiigdfieoaaGreatDoor
open Go.By Gf
theorem leadAt_of {n t l:Nat} {r:Rw} (hf:Fit n t r) (hl:l < n) (h1:vR r l = 1) (h0:∀ j,j < l→vR r j = 0):LeadAt r l:=by
 have hv:∀ j,j < n→∀ y,r.1[j]? = some y→vR r j = y:=fun j hj y hy=>by
  show vf (cat r) j = y
  rw [vf_at hf hj,at_of hy]
 have hx:r.1[l]? = some (r.1[l]'(by rw [hf.1];exact hl)):=List.getElem?_eq_getElem (by rw [hf.1];exact hl)
 have e1:r.1[l]'(by rw [hf.1];exact hl) = 1:=by rw [← hv l hl _ hx];exact h1
 rw [e1] at hx
 have hz:∀ (j:Nat) (y:UInt8),j < l→r.1[j]? = some y→y = 0:=fun j y hj hy=>by rw [← hv j (by omega) y hy];exact h0 j hj
 exact ⟨idxf_found hx (by decide) fun j y hj hy=>by rw [hz j y hj hy];rfl,hx,hz⟩
theorem vR_less {n t:Nat} {x o:Rw} (c:UInt8) (hx:Fit n t x) (ho:Fit n t o):vR (lessF x c o) = fun j=>vR x j ^^^ gmul c (vR o j):=by
 unfold vR;rw [cat_less c hx ho,vf_axpy (by rw [ho.cat,hx.cat])]
theorem vR_at {n t l:Nat} {x:Rw} (hx:Fit n t x) (hl:l < n):atS x.1 (l:Int) = vR x l:=(vf_at hx hl).symm
theorem rest_norm {n t:Nat} {K:List Rw} {x:Rw} (h:KeptS n t K) (hx:Fit n t x) (hn:¬ leadS (restF K x).1 < 0) :
  ∃ l,LeadAt (normS (restF K x)) l∧Fit n t (normS (restF K x))∧(∀ k,k ∈ K→vR (normS (restF K x)) (leadN k) = 0)∧Sp (vR x :: K.map vR) (vR (normS (restF K x)))∧∃ d,Sp (K.map vR) (fun j=>vR x j ^^^ gmul d (vR (normS (restF K x)) j)):=by
 have hr:=hx.rest (fun k hk=>(h.rows k hk).1)
 have hred:=rest_red h.rows hx
 have hspan:=red_span (tri K) (vf (cat x))
 rw [tri_fst] at hspan
 obtain ⟨l,c,hc,hl,hL,hF,hv⟩:=norm_row hr hn
 refine ⟨l,hL,hF,fun k hk=>?_,?_,ginv c,?_⟩
 ·show vf (cat _) _ = 0
  rw [hv]
  show gmul c (vf (cat (restF K x)) (leadN k)) = 0
  rw [hred,red_at h.kept.tri (vf (cat k),leadN k) (List.mem_map.2 ⟨k,hk,rfl⟩),gmul_zero]
 ·show Sp _ (vf (cat _))
  rw [hv,hred]
  refine Sp.scale c ?_
  have e:red (tri K) (vf (cat x)) = fun j=>vf (cat x) j ^^^ (vf (cat x) j ^^^ red (tri K) (vf (cat x)) j):=by funext j;rw [← xor_assoc,xor_self,zero_xor]
  rw [e]
  exact Sp.add (Sp.mem (by simp [vR])) (hspan.cons _)
 ·have e:(fun j=>vR x j ^^^ gmul (ginv c) (vR (normS (restF K x)) j)) = fun j=>vf (cat x) j ^^^ red (tri K) (vf (cat x)) j:=by
   funext j
   show _ ^^^ gmul (ginv c) (vf (cat (normS (restF K x))) j) = _
   rw [hv,hred]
   show _ ^^^ gmul (ginv c) (gmul c _) = _
   rw [← gmul_assoc,ginv_gmul c hc,one_gmul];rfl
  rw [e];exact hspan
theorem ne_lead {n t l:Nat} {K:List Rw} {y:Rw} (hL:LeadAt y l) (hF:Fit n t y) (h0:∀ k,k ∈ K→vR y (leadN k) = 0):∀ k,k ∈ K→leadN k≠l:=fun k hk e=>by
 have h1:vR y l = 1:=vf_lead hL hF
 rw [← e,h0 k hk] at h1
 exact absurd h1 (by decide)
def putAt (M:List Rw) (y:Rw):List Rw:=M.takeWhile (fun r=>decide (leadS r.1≤leadS y.1)) ++ y :: M.dropWhile (fun r=>decide (leadS r.1≤leadS y.1))
theorem putAt_mem {M:List Rw} {y k:Rw}:k ∈ putAt M y↔k = y∨k ∈ M:=by
 unfold putAt
 rw [List.mem_append,List.mem_cons]
 conv=>rhs;rw [← List.takeWhile_append_dropWhile (p:=fun r:Rw=>decide (leadS r.1≤leadS y.1)) (l:=M),List.mem_append]
 constructor
 ·rintro (h | h | h)
  ·exact .inr (.inl h)
  ·exact .inl h
  ·exact .inr (.inr h)
 ·rintro (h | h | h)
  ·exact .inr (.inl h)
  ·exact .inl h
  ·exact .inr (.inr h)
theorem putAt_kept {n t l:Nat} {M:List Rw} {y:Rw} (h:KeptS n t M) (hL:LeadAt y l) (hF:Fit n t y) (hne:∀ k,k ∈ M→leadN k≠l):KeptS n t (putAt M y):=by
 refine ⟨fun k hk=>?_,?_⟩
 ·rcases putAt_mem.1 hk with rfl | hk
  ·exact ⟨hF,l,hL⟩
  ·exact h.rows k hk
 unfold putAt
 have hln:=leadN_of hL
 rw [hL.1]
 have hlead:∀ k,k ∈ M→leadS k.1 = (leadN k:Int):=fun k hk=>(h.rows k hk).2.at.1
 have hs:(M.takeWhile (fun r=>decide (leadS r.1≤(l:Int))) ++ M.dropWhile (fun r=>decide (leadS r.1≤(l:Int)))).Pairwise (fun a b=>leadN a < leadN b):=by
  rw [List.takeWhile_append_dropWhile];exact h.sorted
 have mT:∀ k,k ∈ M.takeWhile (fun r=>decide (leadS r.1≤(l:Int)))→leadN k < l:=by
  intro k hk
  have h1:=(List.takeWhile_sublist _).mem hk
  have:=mem_take hk
  rw [decide_eq_true_eq,hlead k h1] at this
  have:=hne k h1
  omega
 obtain ⟨h1,h2,h3⟩:=List.pairwise_append.1 hs
 have mD:∀ k,k ∈ M.dropWhile (fun r=>decide (leadS r.1≤(l:Int)))→l < leadN k:=by
  cases e:M.dropWhile (fun r=>decide (leadS r.1≤(l:Int))) with
  | nil=>intro k hk;simp at hk
  | cons a r =>
   have ha:a ∈ M:=(List.dropWhile_sublist _).mem (by rw [e];simp)
   have hd:=drop_head e
   rw [decide_eq_false_iff_not,hlead a ha] at hd
   have hla:l < leadN a:=by omega
   rw [e] at h2
   intro k hk
   rcases List.mem_cons.1 hk with rfl | hk
   ·exact hla
   ·exact Nat.lt_trans hla ((List.pairwise_cons.1 h2).1 k hk)
 refine List.pairwise_append.2 ⟨h1,List.pairwise_cons.2 ⟨fun k hk=>by rw [hln];exact mD k hk,h2⟩,?_⟩
 intro a ha b hb
 rcases List.mem_cons.1 hb with rfl | hb
 ·rw [hln];exact mT a ha
 ·exact h3 a ha b hb
def clrF (y r:Rw):Rw:=lessF r (atS r.1 (leadS y.1)) y
def putF (K:List Rw) (x:Rw):List Rw:=putAt (K.map (clrF (normS (restF K x)))) (normS (restF K x))
theorem clr_row {n t l:Nat} {y r:Rw} (hL:LeadAt y l) (hF:Fit n t y) (hr:Fit n t r) (hl:Led r) (h0:vR y (leadN r) = 0):Fit n t (clrF y r)∧LeadAt (clrF y r) (leadN r)∧vR (clrF y r) = (fun j=>vR r j ^^^ gmul (vR r l) (vR y j))∧vR (clrF y r) l = 0:=by
 have hln:=hL.lt hF
 have e:clrF y r = lessF r (vR r l) y:=by unfold clrF;rw [hL.1,vR_at hr hln]
 have hv:vR (clrF y r) = fun j=>vR r j ^^^ gmul (vR r l) (vR y j):=by rw [e,vR_less _ hr hF]
 have hf:Fit n t (clrF y r):=by rw [e];exact hr.less hF
 have y1:vR y l = 1:=vf_lead hL hF
 refine ⟨hf,leadAt_of hf (hl.at.lt hr) ?_ fun j hj=>?_,hv,?_⟩
 ·rw [hv];show _ ^^^ gmul _ (vR y (leadN r)) = 1
  rw [h0,gmul_zero,xor_zero];exact vR_lead hr hl
 ·rw [hv];show vR r j ^^^ gmul (vR r l) (vR y j) = 0
  rw [show vR r j = 0 from vf_before hr hl hj,zero_xor]
  rcases Nat.lt_or_ge l (leadN r) with g | g
  ·rw [show vR r l = 0 from vf_before hr hl g,zero_gmul]
  ·have hyL:Led y:=⟨l,hL⟩
   have:vR y j = 0:=vf_before hF hyL (by rw [leadN_of hL];omega)
   rw [this,gmul_zero]
 ·rw [hv];show vR r l ^^^ gmul (vR r l) (vR y l) = 0
  rw [y1,gmul_one,xor_self]
theorem putF_red {n t:Nat} {K:List Rw} {x:Rw} (h:Red n t K) (hx:Fit n t x) (hn:¬ leadS (restF K x).1 < 0) :
  Red n t (putF K x)∧(∀ k,k ∈ putF K x→Sp (vR x :: K.map vR) (vR k))∧(∀ k,k ∈ K→Sp ((putF K x).map vR) (vR k))∧Sp ((putF K x).map vR) (vR x)∧(putF K x).length = K.length + 1:=by
 obtain ⟨l,hL,hF,h0,hsp,d,hd⟩:=rest_norm h.kept hx hn
 have hne:=ne_lead hL hF h0
 have hclr:=fun r (hr:r ∈ K)=>clr_row hL hF (h.kept.rows r hr).1 (h.kept.rows r hr).2 (h0 r hr)
 obtain ⟨y,hy⟩:∃ y,y = normS (restF K x):=⟨_,rfl⟩
 unfold putF
 rw [← hy] at hL hF h0 hsp hd hclr ⊢
 have hlead:∀ r,r ∈ K→leadN (clrF y r) = leadN r:=fun r hr=>leadN_of (hclr r hr).2.1
 have hM:KeptS n t (K.map (clrF y)):=by
  refine ⟨fun k hk=>?_,List.pairwise_map.2 (h.kept.sorted.imp_of_mem fun {a b} ha hb hab=>by rw [hlead a ha,hlead b hb];exact hab)⟩
  obtain ⟨r,hr,rfl⟩:=List.mem_map.1 hk
  exact ⟨(hclr r hr).1,_,(hclr r hr).2.1⟩
 have hneM:∀ k,k ∈ K.map (clrF y)→leadN k≠l:=fun k hk=>by
  obtain ⟨r,hr,rfl⟩:=List.mem_map.1 hk
  rw [hlead r hr];exact hne r hr
 have hyM:∀ k,k ∈ K.map (clrF y)→vR y (leadN k) = 0∧vR k l = 0:=fun k hk=>by
  obtain ⟨r,hr,rfl⟩:=List.mem_map.1 hk
  rw [hlead r hr];exact ⟨h0 r hr,(hclr r hr).2.2.2⟩
 have hrM:(K.map (clrF y)).Pairwise (fun a b=>vR a (leadN b) = 0):=List.pairwise_map.2 (h.red.imp_of_mem fun {a b} ha hb hab=>by
  rw [hlead b hb,(hclr a ha).2.2.1]
  show vR a (leadN b) ^^^ gmul _ (vR y (leadN b)) = 0
  rw [hab,h0 b hb,gmul_zero,xor_self])
 have inP:∀ {k:Rw},k = y∨k ∈ K.map (clrF y)→Sp ((putAt (K.map (clrF y)) y).map vR) (vR k):=fun hk=>Sp.mem (List.mem_map.2 ⟨_,putAt_mem.2 hk,rfl⟩)
 have back:∀ k,k ∈ K→Sp ((putAt (K.map (clrF y)) y).map vR) (vR k):=fun k hk=>by
  have e:vR k = fun j=>vR (clrF y k) j ^^^ gmul (vR k l) (vR y j):=by
   funext j
   rw [(hclr k hk).2.2.1]
   show _ = (vR k j ^^^ gmul (vR k l) (vR y j)) ^^^ gmul (vR k l) (vR y j)
   rw [xor_cancel]
  rw [e]
  exact Sp.add (inP (.inr (List.mem_map.2 ⟨k,hk,rfl⟩))) (Sp.scale _ (inP (.inl rfl)))
 refine ⟨⟨putAt_kept hM hL hF hneM,?_⟩,fun k hk=>?_,back,?_,?_⟩
 ·unfold putAt
  have hs:=hrM
  rw [← List.takeWhile_append_dropWhile (p:=fun r:Rw=>decide (leadS r.1≤leadS y.1)) (l:=K.map (clrF y))] at hs
  obtain ⟨g1,g2,g3⟩:=List.pairwise_append.1 hs
  refine List.pairwise_append.2 ⟨g1,List.pairwise_cons.2 ⟨fun b hb=>(hyM b ((List.dropWhile_sublist _).mem hb)).1,g2⟩,fun a ha b hb=>?_⟩
  rcases List.mem_cons.1 hb with rfl | hb
  ·rw [leadN_of hL];exact (hyM a ((List.takeWhile_sublist _).mem ha)).2
  ·exact g3 a ha b hb
 ·rcases putAt_mem.1 hk with rfl | hk
  ·exact hsp
  ·obtain ⟨r,hr,rfl⟩:=List.mem_map.1 hk
   rw [(hclr r hr).2.2.1]
   exact Sp.add (Sp.mem (List.mem_cons_of_mem _ (List.mem_map.2 ⟨r,hr,rfl⟩))) (Sp.scale _ hsp)
 ·have e:vR x = fun j=>(vR x j ^^^ gmul d (vR y j)) ^^^ gmul d (vR y j):=by funext j;rw [xor_cancel]
  rw [e]
  refine Sp.add (Sp.trans (fun a ha=>?_) hd) (Sp.scale _ (inP (.inl rfl)))
  obtain ⟨k,hk,rfl⟩:=List.mem_map.1 ha
  exact back k hk
 ·unfold putAt
  rw [List.length_append,List.length_cons]
  have:=congrArg List.length (List.takeWhile_append_dropWhile (p:=fun r:Rw=>decide (leadS r.1≤leadS y.1)) (l:=K.map (clrF y)))
  rw [List.length_append,List.length_map] at this
  omega
end Go.Proofs.YtccaiiigdfieoaaGreatDoor
namespace Go.Proofs.YtccaiiigdfieoaaGreatDoor
open Go.By Gf
def stepB (F:Nat→Rw) (i k:Nat):Nat→Rw:=if k = i then F else updF F i (lessF (F i) (atS (F i).1 (leadS (F k).1)) (F k))
def rowB (i:Nat):Nat→(Nat→Rw)→(Nat→Rw)
 | 0,F=>F
 | k + 1,F=>stepB (rowB i k F) i k
def backB (m:Nat):Nat→(Nat→Rw)→(Nat→Rw)
 | 0,F=>F
 | i + 1,F=>rowB i m (backB m i F)
end Go.Proofs.YtccaiiigdfieoaaGreatDoor
namespace Go.Proofs.YtccaiiigdfieoaaGreatDoor
open Go.RowKit Go.By
theorem use_w1 {P:Program} {f:FuncId} {args:Array Value} {W:World} {Q:Ending→World→Prop} (I:World→Prop) (h:I W) (k:∀ W',I W'→Calls P f args W' Q):Calls P f args W Q:=k W h
end Go.Proofs.YtccaiiigdfieoaaGreatDoor
namespace Go.Proofs.YtccaiiigdfieoaaGreatDoor
open Go.RowKit Go.By
end Go.Proofs.YtccaiiigdfieoaaGreatDoor
namespace Go.By
open Go.RowKit
end Go.By
namespace Go.Proofs.YtccaiiigdfieoaaGreatDoor
open Go.RowKit Go.By
end Go.Proofs.YtccaiiigdfieoaaGreatDoor
namespace Go.By
open Go.RowKit
end Go.By
namespace Go.Proofs.YtccaiiigdfieoaaGreatDoor
open Go.RowKit Go.By
def mulR (w2:Nat) (R2:List (List UInt8)) (r:List UInt8):List UInt8:=combF (List.replicate w2 0) r R2
theorem mulR_len {w2:Nat} {R2:List (List UInt8)} (h:∀ x,x ∈ R2→x.length = w2) (r:List UInt8):(mulR w2 R2 r).length = w2:=combF_len r R2 w2 h _ (by simp)
theorem comb_ok {w2:Nat} {R2:List (List UInt8)} {r:List UInt8} (h:∀ x,x ∈ R2→x.length = w2) (hl:r.length = R2.length):combS r R2 = (if R2 = [] then [] else mulR w2 R2 r,0):=by
 unfold combS
 rw [if_pos hl]
 cases R2 with
 | nil =>
  have:r = []:=List.length_eq_zero_iff.1 (by simpa using hl)
  subst this
  simp [noughtS,combF]
 | cons x l =>
  have hx:=h x (by simp)
  have e:noughtS (x :: l) = (List.replicate w2 0,0):=noughtS_of (x0:=x) rfl hx h
  rw [e,if_pos rfl,if_neg (by simp)]
  rfl
end Go.Proofs.YtccaiiigdfieoaaGreatDoor
namespace Go.By
open Go.RowKit
theorem getD_tf {listed:Array Bool} {i:Nat} (h:listed.getD i true = false):listed.getD i false≠true∧i < listed.size:=by
 rcases Nat.lt_or_ge i listed.size with h' | h'
 ·refine ⟨fun hx=>?_,h'⟩
  simp [Array.getD_eq_getD_getElem?,h'] at h hx;rw [h] at hx;cases hx
 ·simp [Array.getD_eq_getD_getElem?,Array.getElem?_eq_none h'] at h
theorem getD_ft {listed:Array Bool} {j:Nat} (h:listed.getD j false = true):listed.getD j true = true:=by
 rcases Nat.lt_or_ge j listed.size with h' | h'
 ·simp [Array.getD_eq_getD_getElem?,h'] at h ⊢;exact h
 ·simp [Array.getD_eq_getD_getElem?,Array.getElem?_eq_none h'] at h
end Go.By
namespace Go.Proofs.YtccaiiigdfieoaaGreatDoor
open Go.RowKit Go.By
structure Elm (w:World) (base be k t:Nat) (v:Value) (n:Nat) (K:List Rw):Prop where
 box:w.heap[be]? = some (.cells #[.int .i64 k,.int .i64 t,v] 191 (0,0))
 rows:RwL 99 5 w base v n K
 old:base≤be
theorem Elm.keep {w w':World} {base be k t n:Nat} {v:Value} {K:List Rw} (h:Elm w base be k t v n K) (hb:Below w.heap.size w w'):Elm w' base be k t v n K :=
 ⟨(hb.block _ (blk_lt h.box)).trans h.box,h.rows.keep hb,h.old⟩
theorem New_good (k t:Nat) (w:World) (h1:1≤k) (h2:k≤4096) (h3:t≤65535):Calls Tryz.prog 61 #[.int .i64 k,.int .i64 t] w fun e w'=>∃ be,e = .returned (.tuple #[.pointer (some ⟨be,0,none⟩),.int .i64 0])∧Elm w' w.heap.size be k t (.slice none 0 0) 0 []∧Below w.heap.size w w':=by
 have a1:¬ ((k:Int) < 1):=by omega
 have a2:¬ (4096 < (k:Int)):=by omega
 have a3:¬ ((t:Int) < 0):=by omega
 have a4:¬ (65535 < (t:Int)):=by omega
 clear h1 h2 h3
 go_enter Tryz.func61,Tryz.ntmps61
 go_wp2
 go_ret2
 exact ⟨w.heap.size,rfl,⟨hnew rfl,RwL.nil _ _ _ _,Nat.le_refl _⟩,al (Below.refl _ _) (Nat.le_refl _)⟩
theorem Rank_any' (base be k t n:Nat) (v:Value) (K:List Rw) (w:World) (h:Elm w base be k t v n K):Calls Tryz.prog 65 #[.pointer (some ⟨be,0,none⟩)] w fun e w'=>e = .returned (.int .i64 n)∧w = w':=by
 obtain ⟨f0,f1,f2⟩:=cells3 h.box
 obtain ⟨q,c,rfl⟩:=h.rows.shape
 clear h
 go_enter Tryz.func65,Tryz.ntmps65
 go_wp2
 go_ret
 exact ⟨rfl,rfl⟩
end Go.Proofs.YtccaiiigdfieoaaGreatDoor
namespace Go.Proofs.YtccaiiigdfieoaaGreatDoor
open Go.RowKit Go.By
theorem less_zero {n t:Nat} {x k:Rw} (hx:Fit n t x) (hk:Fit n t k):lessF x 0 k = x:=by
 unfold lessF
 rw [axpy_zero_of rfl (by rw [hk.1,hx.1]),axpy_zero_of rfl (by rw [hk.2,hx.2])]
set_option maxRecDepth 100000 in
set_option maxHeartbeats 4000000 in
theorem ERest_any (base be k t n:Nat) (v:Value) (K:List Rw) (p1 p2:Option Addr) (c1 c2:Nat) (x:Rw) (w:World) (hE:Elm w base be k t v n K) (s1:Sl B8 w p1 k c1 x.1) (s2:Sl B8 w p2 t c2 x.2) (hK:∀ r,r ∈ K→Fit k t r∧Led r) (hk:k≤4096) (ht:t≤65535) :
  Calls Tryz.prog 113 #[.pointer (some ⟨be,0,none⟩),.agg #[.slice p1 k c1,.slice p2 t c2]] w (RetR2 5 w (restF K x) 0):=by
 have hinfo:=info_row
 obtain ⟨q,c,rfl⟩:=hE.rows.shape
 have HE:=Lib.hid hE;have S1:=Lib.hid s1;have S2:=Lib.hid s2;have HK:=Lib.hid hK;have HLEN:=Lib.hid hE.rows.len
 have HX:Hid (Fit k t x):=⟨s1.len,s2.len⟩
 have hnb:n≤9223372036854775807:=by
  obtain ⟨vs,a,b,o,r⟩:=hE.rows
  rcases o.2 with ⟨hv,hn⟩ | ⟨g,cap,cur,hv,_,_,h1,h2,_⟩
  ·simp at hv;omega
  ·unfold maxLen at h2;omega
 clear hE s1 s2 hK
 go_enter Tryz.func113,Tryz.ntmps113
 go_wp2
 have b0:Below w.heap.size w ((w.alloc (.cells #[.slice p1 k c1,.slice p2 t c2] 99)).alloc (.cells #[.slice none 0 0,.slice none 0 0] 99)):=al (al (Below.refl _ _) (Nat.le_refl _)) (by simp)
 have x0:((w.alloc (.cells #[.slice p1 k c1,.slice p2 t c2] 99)).alloc (.cells #[.slice none 0 0,.slice none 0 0] 99)).heap[w.heap.size]? = some (.cells #[.slice p1 k c1,.slice p2 t c2] 99 (0,0)):=hal (hnew rfl)
 have z0:((w.alloc (.cells #[.slice p1 k c1,.slice p2 t c2] 99)).alloc (.cells #[.slice none 0 0,.slice none 0 0] 99)).heap[w.heap.size + 1]? = some (.cells #[.slice none 0 0,.slice none 0 0] 99 (0,0)):=hnew (by simp)
 generalize (w.alloc (.cells #[.slice p1 k c1,.slice p2 t c2] 99)).alloc (.cells #[.slice none 0 0,.slice none 0 0] 99) = w2 at b0 x0 z0 ⊢
 have B2:=Lib.hid b0;have X2:=Lib.hid x0;have Z2:=Lib.hid z0
 clear b0 x0 z0
 have E2:=Lib.hid (HE.out.keep B2.out)
 obtain ⟨f0,f1,f2⟩:=cells3 E2.out.box
 obtain ⟨y0,y1⟩:=cells2 X2.out
 refine wp_region_shapes (fun ix=>([.val (.pointer (some ⟨w.heap.size,0,none⟩)),.val (.slice p1 k c1),.val (.int .i64 (k:Nat)),.val (.pointer (some ⟨be,0,none⟩)),.val (.pointer (some ⟨be,0,none⟩)),.val (.pointer (some ⟨be,0,none⟩)),.val (.int .i64 k),.val (.bool false),.val (.bool false),.val (.pointer (some ⟨w.heap.size,1,none⟩)),.val (.slice p2 t c2),.val (.int .i64 (t:Nat)),.val (.pointer (some ⟨be,0,none⟩)),.val (.pointer (some ⟨be,0,none⟩)),.val (.pointer (some ⟨be,1,none⟩)),.val (.int .i64 t),.val (.bool false),.val (.bool false)][ix]?).getD (.any)) 60 rfl (by kernel_rfl) (by decide) (by decide) (by decide) ?_ ?_
 ·refine ⟨?_,?_,?_,?_,?_,?_,?_,?_,?_,?_,?_,?_,?_,?_,?_,?_,?_,?_,trivial⟩
  ·intro a W hb0 hs hp hi;have hb:=undrew hb0;clear hb0
   have t3:sl a 3 = .pointer (some ⟨w.heap.size,0,none⟩):=hi 3 (by decide)
   refine ite_y rfl (wp_val (.pointer (some ⟨w.heap.size,0,none⟩)) ?_ ?_)
   ·simp only [execOp,eval_tmp,eval_const,t3];simp [go_sem]
   ·exact ⟨_,rfl,Below.refl _ _,rfl⟩
  ·intro a W hb0 hs hp hi;have hb:=undrew hb0;clear hb0
   have tt:sl a 13 = .pointer (some ⟨w.heap.size,0,none⟩):=hp 0 (by decide)
   have dd:=(hb.cell (p:=⟨w.heap.size,0,none⟩) (lt_of_cell y0)).trans y0
   refine ite_y rfl (wp_val (.slice p1 k c1) ?_ ?_)
   ·simp only [execOp,eval_tmp,tt];simp [go_sem,dd]
   ·exact ⟨_,rfl,Below.refl _ _,rfl⟩
  ·intro a W hb0 hs hp hi;have hb:=undrew hb0;clear hb0
   have t14:sl a 14 = .slice p1 k c1:=hp 1 (by decide)
   refine ite_y rfl (wp_val (.int .i64 (k:Nat)) ?_ ?_)
   ·simp only [execOp,resolve,List.map_toArray,List.map,eval_tmp,eval_func,eval_const,t14];simp [go_sem]
   ·exact ⟨_,rfl,Below.refl _ _,rfl⟩
  ·intro a W hb0 hs hp hi;have hb:=undrew hb0;clear hb0
   have t0:sl a 0 = .pointer (some ⟨be,0,none⟩):=hi 0 (by decide)
   exact ite_y rfl (wp_val (sl a 0) rfl ⟨_,rfl,Below.refl _ _,t0⟩)
  ·intro a W hb0 hs hp hi;have hb:=undrew hb0;clear hb0
   have tt:sl a 16 = .pointer (some ⟨be,0,none⟩):=hp 3 (by decide)
   refine ite_y rfl (wp_val (.pointer (some ⟨be,0,none⟩)) ?_ ?_)
   ·simp only [execOp,eval_tmp,tt];simp [go_sem]
   ·exact ⟨_,rfl,Below.refl _ _,rfl⟩
  ·intro a W hb0 hs hp hi;have hb:=undrew hb0;clear hb0
   have t17:sl a 17 = .pointer (some ⟨be,0,none⟩):=hp 4 (by decide)
   refine ite_y rfl (wp_val (.pointer (some ⟨be,0,none⟩)) ?_ ?_)
   ·simp only [execOp,eval_tmp,eval_const,t17];simp [go_sem]
   ·exact ⟨_,rfl,Below.refl _ _,rfl⟩
  ·intro a W hb0 hs hp hi;have hb:=undrew hb0;clear hb0
   have tt:sl a 18 = .pointer (some ⟨be,0,none⟩):=hp 5 (by decide)
   have dd:=(hb.cell (p:=⟨be,0,none⟩) (lt_of_cell f0)).trans f0
   refine ite_y rfl (wp_val (.int .i64 k) ?_ ?_)
   ·simp only [execOp,eval_tmp,tt];simp [go_sem,dd]
   ·exact ⟨_,rfl,Below.refl _ _,rfl⟩
  ·intro a W hb0 hs hp hi;have hb:=undrew hb0;clear hb0
   have t15:sl a 15 = .int .i64 (k:Nat):=hp 2 (by decide)
   have t19:sl a 19 = .int .i64 k:=hp 6 (by decide)
   refine ite_y rfl (wp_val (.bool false) ?_ ?_)
   ·simp only [execOp,eval_tmp,eval_const,t15,t19];simp [go_sem]
   ·exact ⟨_,rfl,Below.refl _ _,rfl⟩
  ·intro a W hb0 hs hp hi;have hb:=undrew hb0;clear hb0
   have t20:sl a 20 = .bool false:=hp 7 (by decide)
   exact ite_y rfl (wp_val (sl a 20) rfl ⟨_,rfl,Below.refl _ _,t20⟩)
  ·intro a W hb0 hs hp hi;have hb:=undrew hb0;clear hb0
   have tg:sl a 21 = .bool false:=hp 8 (by decide)
   have t3:sl a 3 = .pointer (some ⟨w.heap.size,0,none⟩):=hi 3 (by decide)
   refine ite_y (wanted_yes rfl rfl (by have hz:a.tmps.size = 60:=hs;rw [hz];decide) tg) (wp_val (.pointer (some ⟨w.heap.size,1,none⟩)) ?_ ?_)
   ·simp only [execOp,eval_tmp,eval_const,t3];simp [go_sem]
   ·exact ⟨_,rfl,Below.refl _ _,rfl⟩
  ·intro a W hb0 hs hp hi;have hb:=undrew hb0;clear hb0
   have tg:sl a 21 = .bool false:=hp 8 (by decide)
   have tt:sl a 22 = .pointer (some ⟨w.heap.size,1,none⟩):=hp 9 (by decide)
   have dd:=(hb.cell (p:=⟨w.heap.size,1,none⟩) (lt_of_cell y1)).trans y1
   refine ite_y (wanted_yes rfl rfl (by have hz:a.tmps.size = 60:=hs;rw [hz];decide) tg) (wp_val (.slice p2 t c2) ?_ ?_)
   ·simp only [execOp,eval_tmp,tt];simp [go_sem,dd]
   ·exact ⟨_,rfl,Below.refl _ _,rfl⟩
  ·intro a W hb0 hs hp hi;have hb:=undrew hb0;clear hb0
   have tg:sl a 21 = .bool false:=hp 8 (by decide)
   have t23:sl a 23 = .slice p2 t c2:=hp 10 (by decide)
   refine ite_y (wanted_yes rfl rfl (by have hz:a.tmps.size = 60:=hs;rw [hz];decide) tg) (wp_val (.int .i64 (t:Nat)) ?_ ?_)
   ·simp only [execOp,resolve,List.map_toArray,List.map,eval_tmp,eval_func,eval_const,t23];simp [go_sem]
   ·exact ⟨_,rfl,Below.refl _ _,rfl⟩
  ·intro a W hb0 hs hp hi;have hb:=undrew hb0;clear hb0
   have tg:sl a 21 = .bool false:=hp 8 (by decide)
   have t0:sl a 0 = .pointer (some ⟨be,0,none⟩):=hi 0 (by decide)
   exact ite_y (wanted_yes rfl rfl (by have hz:a.tmps.size = 60:=hs;rw [hz];decide) tg) (wp_val (sl a 0) rfl ⟨_,rfl,Below.refl _ _,t0⟩)
  ·intro a W hb0 hs hp hi;have hb:=undrew hb0;clear hb0
   have tg:sl a 21 = .bool false:=hp 8 (by decide)
   have tt:sl a 25 = .pointer (some ⟨be,0,none⟩):=hp 12 (by decide)
   refine ite_y (wanted_yes rfl rfl (by have hz:a.tmps.size = 60:=hs;rw [hz];decide) tg) (wp_val (.pointer (some ⟨be,0,none⟩)) ?_ ?_)
   ·simp only [execOp,eval_tmp,tt];simp [go_sem]
   ·exact ⟨_,rfl,Below.refl _ _,rfl⟩
  ·intro a W hb0 hs hp hi;have hb:=undrew hb0;clear hb0
   have tg:sl a 21 = .bool false:=hp 8 (by decide)
   have t26:sl a 26 = .pointer (some ⟨be,0,none⟩):=hp 13 (by decide)
   refine ite_y (wanted_yes rfl rfl (by have hz:a.tmps.size = 60:=hs;rw [hz];decide) tg) (wp_val (.pointer (some ⟨be,1,none⟩)) ?_ ?_)
   ·simp only [execOp,eval_tmp,eval_const,t26];simp [go_sem]
   ·exact ⟨_,rfl,Below.refl _ _,rfl⟩
  ·intro a W hb0 hs hp hi;have hb:=undrew hb0;clear hb0
   have tg:sl a 21 = .bool false:=hp 8 (by decide)
   have tt:sl a 27 = .pointer (some ⟨be,1,none⟩):=hp 14 (by decide)
   have dd:=(hb.cell (p:=⟨be,1,none⟩) (lt_of_cell f1)).trans f1
   refine ite_y (wanted_yes rfl rfl (by have hz:a.tmps.size = 60:=hs;rw [hz];decide) tg) (wp_val (.int .i64 t) ?_ ?_)
   ·simp only [execOp,eval_tmp,tt];simp [go_sem,dd]
   ·exact ⟨_,rfl,Below.refl _ _,rfl⟩
  ·intro a W hb0 hs hp hi;have hb:=undrew hb0;clear hb0
   have tg:sl a 21 = .bool false:=hp 8 (by decide)
   have t24:sl a 24 = .int .i64 (t:Nat):=hp 11 (by decide)
   have t28:sl a 28 = .int .i64 t:=hp 15 (by decide)
   refine ite_y (wanted_yes rfl rfl (by have hz:a.tmps.size = 60:=hs;rw [hz];decide) tg) (wp_val (.bool false) ?_ ?_)
   ·simp only [execOp,eval_tmp,eval_const,t24,t28];simp [go_sem]
   ·exact ⟨_,rfl,Below.refl _ _,rfl⟩
  ·intro a W hb0 hs hp hi;have hb:=undrew hb0;clear hb0
   have t21:sl a 21 = .bool false:=hp 8 (by decide)
   have t29:sl a 29 = .bool false:=hp 16 (by decide)
   refine ite_y rfl (wp_val (.bool false) ?_ ?_)
   ·simp only [execOp,eval_tmp,eval_const,t21,t29];simp [go_sem]
   ·exact ⟨_,rfl,Below.refl _ _,rfl⟩
 intro a w3 hb hs hd hI ht
 have ha:=act_is [13,14,15,16,17,18,19,20,21,22,23,24,25,26,27,28,29,30] hs hd ht (by decide)
 have t30:sl a 30 = .bool false:=hI 17 (by decide)
 simp only [List.foldl,t30] at ha
 generalize sl a 13 = u13 at ha
 generalize sl a 14 = u14 at ha
 generalize sl a 15 = u15 at ha
 generalize sl a 16 = u16 at ha
 generalize sl a 17 = u17 at ha
 generalize sl a 18 = u18 at ha
 generalize sl a 19 = u19 at ha
 generalize sl a 20 = u20 at ha
 generalize sl a 21 = u21 at ha
 generalize sl a 22 = u22 at ha
 generalize sl a 23 = u23 at ha
 generalize sl a 24 = u24 at ha
 generalize sl a 25 = u25 at ha
 generalize sl a 26 = u26 at ha
 generalize sl a 27 = u27 at ha
 generalize sl a 28 = u28 at ha
 generalize sl a 29 = u29 at ha
 simp only [Act.put,List.setIfInBounds_toArray,List.set_cons_zero,List.set_cons_succ] at ha
 rw [ha]
 clear ha hI ht
 have B3:=Lib.hid (bl B2.out hb B2.out.size)
 have X3:=Lib.hid ((hb.block _ (blk_lt X2.out)).trans X2.out);have Z3:=Lib.hid ((hb.block _ (blk_lt Z2.out)).trans Z2.out)
 have hsz3:w.heap.size + 2≤w3.heap.size:=by have:=blk_lt Z3.out;omega
 clear hb B2 X2 Z2 E2 f0 f1 f2 y0 y1
 obtain ⟨y0,y1⟩:=cells2 X3.out
 go_wp2_with fail
 refine Calls.mono (RClone_any p1 p2 k c1 t c2 x.1 x.2 w3 (S1.out.keep B3.out) (S2.out.keep B3.out) (by unfold Room;omega) (by unfold Room;omega)) ?_
 rintro e w4 ⟨q1,m1,g1,q2,m2,g2,l1,l2,rfl,o1,o2,hb⟩
 have B4:=Lib.hid (bl B3.out hb B3.out.size)
 have Z4:=Lib.hid ((hb.block _ (blk_lt Z3.out)).trans Z3.out)
 have O1:=Lib.hid (owns_mono o1 hsz3);have O2:=Lib.hid (owns_mono o2 hsz3)
 have E4:=Lib.hid (HE.out.keep B4.out)
 have BA:Hid (∀ o,Below w4.heap.size w4 (w4.alloc o)):=fun o=>al (Below.refl _ _) (Nat.le_refl _)
 have hb4:w.heap.size + 2≤w4.heap.size:=Nat.le_trans hsz3 hb.size
 clear hb o1 o2 B3 X3 Z3 y0 y1 l1 l2
 obtain ⟨f0,f1,f2⟩:=cells3 (hal (o:=.cells #[.slice q1 m1 g1,.slice q2 m2 g2] 99) E4.out.box)
 obtain ⟨b6,h6⟩:∃ b6,b6 = w4.heap.size:=⟨_,rfl⟩
 go_wp2
 clear f0 f1 f2
 rw [← h6]
 have hb6w:w.heap.size + 2≤b6:=by omega
 have H6:=Lib.hid h6
 clear h6
 go_loopw [39] (fun i wr=>∃ (j:Nat) (q1:Option Addr) (m1 g1:Nat) (q2:Option Addr) (m2 g2:Nat),j≤n∧i = .int .i64 j∧Hid (wr.heap[b6]? = some (.cells #[.slice q1 m1 g1,.slice q2 m2 g2] 99 (0,0))) ∧
  Hid (wr.ownsRow (w.heap.size + 2) 5 1 (.slice q1 m1 g1) m1 ((restF (K.take j) x).1.map B8))∧Hid (wr.ownsRow (w.heap.size + 2) 5 1 (.slice q2 m2 g2) m2 ((restF (K.take j) x).2.map B8))∧Hid (Below w.heap.size w wr) ∧
  Hid (wr.heap[w.heap.size + 1]? = some (.cells #[.slice none 0 0,.slice none 0 0] 99 (0,0)))) (fun i _=>n - (intOf i).toNat)
 case atStart=>exact ⟨0,q1,m1,g1,q2,m2,g2,Nat.zero_le _,rfl,hnew H6.out,owns_keep O1.out (BA.out _),owns_keep O2.out (BA.out _),bl B4.out (BA.out _) B4.out.size,hal Z4.out⟩
 case round =>
  clear O1 O2 B4 Z4 E4 BA
  obtain ⟨j,q1,m1,g1,q2,m2,g2,hj,rfl,hL,hO1,hO2,hB,hZ⟩:=hrel
  by_cases hjl:j < n
  ·obtain ⟨gk,kk,a1,b1,d1,a2,b2,d2,rfl,e1,e2,hkk,t1,t2⟩:=(HE.out.keep hB.out).rows.at hjl
   have T1:=Lib.hid t1;have T2:=Lib.hid t2
   have jn:(j:Int) < (n:Int):=by omega
   have fk:=HK.out kk (List.mem_of_getElem? hkk.out)
   obtain ⟨XJ,hXJ⟩:∃ XJ,XJ = restF (K.take j) x:=⟨_,rfl⟩
   have fitX:Fit k t XJ:=by rw [hXJ];exact HX.out.rest (fun a ha=>(HK.out a (List.mem_of_mem_take ha)).1)
   rw [← hXJ] at hO1 hO2
   obtain ⟨LJ,hLJ⟩:∃ LJ,LJ = leadS kk.1:=⟨_,rfl⟩
   obtain ⟨CJ,hCJ⟩:∃ CJ,CJ = atS XJ.1 LJ:=⟨_,rfl⟩
   obtain ⟨YJ,hYJ⟩:∃ YJ,YJ = lessF XJ CJ kk:=⟨_,rfl⟩
   have hnext:Hid (restF (K.take (j + 1)) x = YJ):=by show _ = _;rw [restF_take hkk.out,← hXJ,hYJ,hCJ,hLJ]
   have lm1:m1 = k:=by have:=(Sl.of_owns hO1.out).len;rw [fitX.1] at this;exact this.symm
   have lm2:m2 = t:=by have:=(Sl.of_owns hO2.out).len;rw [fitX.2] at this;exact this.symm
   have HLD:Hid (∀ W,Sl B8 W a1 b1 d1 kk.1→Calls Tryz.prog 115 #[.slice a1 b1 d1] W fun e w'=>e = .returned (.int .i64 LJ)∧W = w'):=fun W h=>by rw [hLJ];exact Lead_any _ _ _ _ W h
   have HAT:Hid (∀ W,Sl B8 W q1 m1 g1 XJ.1→Calls Tryz.prog 116 #[.slice q1 m1 g1,.int .i64 LJ] W fun e w'=>e = .returned (B8 CJ)∧W = w'):=fun W h=>by rw [hCJ];exact At_any _ _ _ _ LJ W h
   have HLS:Hid (∀ W,Sl B8 W q1 m1 g1 XJ.1→Sl B8 W q2 m2 g2 XJ.2→Sl B8 W a1 b1 d1 kk.1→Sl B8 W a2 b2 d2 kk.2→Calls Tryz.prog 117 #[.agg #[.slice q1 m1 g1,.slice q2 m2 g2],B8 CJ,.agg #[.slice a1 b1 d1,.slice a2 b2 d2]] W (RetR2 5 W YJ 0)):=fun W h1 h2 h3 h4=>by
    have:=Less_any q1 q2 a1 a2 m1 g1 m2 g2 b1 d1 b2 d2 XJ.1 XJ.2 kk.1 kk.2 CJ W h1 h2 h3 h4 (by rw [lm1];unfold Room;omega) (by rw [lm2];unfold Room;omega)
    rw [lessS_fit (n:=k) (t:=t) (x:=XJ) (k:=kk) fitX fk.1,← hYJ] at this
    exact this
   have hYz:Hid (CJ = 0→YJ = XJ):=fun h=>by rw [hYJ,h];exact less_zero fitX fk.1
   have E1':=Lib.hid e1;have E2':=Lib.hid e2
   clear hXJ hLJ hCJ hYJ fk fitX lm1 lm2 t1 t2
   go_wp2
   clear e1 e2
   have ba:Below wr.heap.size wr (wr.alloc (.cells #[.slice a1 b1 d1,.slice a2 b2 d2] 99)):=al (Below.refl _ _) (Nat.le_refl _)
   have bx:(wr.alloc (.cells #[.slice a1 b1 d1,.slice a2 b2 d2] 99)).heap[wr.heap.size]? = some (.cells #[.slice a1 b1 d1,.slice a2 b2 d2] 99 (0,0)):=hnew rfl
   generalize wr.alloc (.cells #[.slice a1 b1 d1,.slice a2 b2 d2] 99) = w5 at ba bx ⊢
   have BA:=Lib.hid ba;have BX:=Lib.hid bx
   clear ba bx
   have L5:=Lib.hid ((BA.out.block _ (blk_lt hL.out)).trans hL.out)
   obtain ⟨y0,y1⟩:=cells2 L5.out
   obtain ⟨u0,u1⟩:=cells2 BX.out
   refine wp_region_shapes (fun ix=>([.val (.pointer (some ⟨b6,0,none⟩)),.val (.slice q1 m1 g1),.val (.pointer (some ⟨wr.heap.size,0,none⟩)),.val (.slice a1 b1 d1),.val (.int .i64 LJ),.val (B8 CJ),.val (B8 CJ)][ix]?).getD (.any)) 60 rfl (by kernel_rfl) (by decide) (by decide) (by decide) ?_ ?_
   ·refine ⟨?_,?_,?_,?_,?_,?_,?_,trivial⟩
    ·intro a W hb0 hs hp hi;have hb:=undrew hb0;clear hb0
     have t6:sl a 6 = .pointer (some ⟨b6,0,none⟩):=hi 6 (by decide)
     refine ite_y rfl (wp_val (.pointer (some ⟨b6,0,none⟩)) ?_ ?_)
     ·simp only [execOp,eval_tmp,eval_const,t6];simp [go_sem]
     ·exact ⟨_,rfl,Below.refl _ _,rfl⟩
    ·intro a W hb0 hs hp hi;have hb:=undrew hb0;clear hb0
     have tt:sl a 43 = .pointer (some ⟨b6,0,none⟩):=hp 0 (by decide)
     have dd:=(hb.cell (p:=⟨b6,0,none⟩) (lt_of_cell y0)).trans y0
     refine ite_y rfl (wp_val (.slice q1 m1 g1) ?_ ?_)
     ·simp only [execOp,eval_tmp,tt];simp [go_sem,dd]
     ·exact ⟨_,rfl,Below.refl _ _,rfl⟩
    ·intro a W hb0 hs hp hi;have hb:=undrew hb0;clear hb0
     have t8:sl a 8 = .pointer (some ⟨wr.heap.size,0,none⟩):=hi 8 (by decide)
     refine ite_y rfl (wp_val (.pointer (some ⟨wr.heap.size,0,none⟩)) ?_ ?_)
     ·simp only [execOp,eval_tmp,eval_const,t8];simp [go_sem]
     ·exact ⟨_,rfl,Below.refl _ _,rfl⟩
    ·intro a W hb0 hs hp hi;have hb:=undrew hb0;clear hb0
     have tt:sl a 45 = .pointer (some ⟨wr.heap.size,0,none⟩):=hp 2 (by decide)
     have dd:=(hb.cell (p:=⟨wr.heap.size,0,none⟩) (lt_of_cell u0)).trans u0
     refine ite_y rfl (wp_val (.slice a1 b1 d1) ?_ ?_)
     ·simp only [execOp,eval_tmp,tt];simp [go_sem,dd]
     ·exact ⟨_,rfl,Below.refl _ _,rfl⟩
    ·intro a W hb0 hs hp hi;have hb:=undrew hb0;clear hb0
     have t46:sl a 46 = .slice a1 b1 d1:=hp 3 (by decide)
     refine ite_y rfl (wp_enter 115 #[.slice a1 b1 d1] ?_ (HLD.out W (T1.out.keep (BA.out.trans (hb.mono BA.out.size)))) ?_)
     ·simp only [execOp,resolve,List.map_toArray,List.map,eval_tmp,eval_func,eval_const,t46];simp [go_sem]
     ·rintro e W' ⟨rfl,rfl⟩;exact ⟨_,rfl,_,rfl,Below.refl _ _,rfl⟩
    ·intro a W hb0 hs hp hi;have hb:=undrew hb0;clear hb0
     have t44:sl a 44 = .slice q1 m1 g1:=hp 1 (by decide)
     have t47:sl a 47 = .int .i64 LJ:=hp 4 (by decide)
     refine ite_y rfl (wp_enter 116 #[.slice q1 m1 g1,.int .i64 LJ] ?_ (HAT.out W (Sl.of_owns (owns_keep hO1.out (BA.out.trans (hb.mono BA.out.size))))) ?_)
     ·simp only [execOp,resolve,List.map_toArray,List.map,eval_tmp,eval_func,eval_const,t44,t47];simp [go_sem]
     ·rintro e W' ⟨rfl,rfl⟩;exact ⟨_,rfl,_,rfl,Below.refl _ _,rfl⟩
    ·intro a W hb0 hs hp hi;have hb:=undrew hb0;clear hb0
     have t48:sl a 48 = B8 CJ:=hp 5 (by decide)
     exact ite_y rfl (wp_val (sl a 48) rfl ⟨_,rfl,Below.refl _ _,t48⟩)
   intro a w6 hb hs hd hI ht
   have ha:=act_is [43,44,45,46,47,48,9] hs hd ht (by decide)
   have t9:sl a 9 = B8 CJ:=hI 6 (by decide)
   simp only [List.foldl,t9] at ha
   generalize sl a 43 = u43 at ha
   generalize sl a 44 = u44 at ha
   generalize sl a 45 = u45 at ha
   generalize sl a 46 = u46 at ha
   generalize sl a 47 = u47 at ha
   generalize sl a 48 = u48 at ha
   simp only [Act.put,List.setIfInBounds_toArray,List.set_cons_zero,List.set_cons_succ] at ha
   rw [ha]
   clear ha hI ht
   have B6:=Lib.hid (BA.out.trans (hb.mono BA.out.size))
   have L6:=Lib.hid ((hb.block _ (blk_lt L5.out)).trans L5.out);have X6:=Lib.hid ((hb.block _ (blk_lt BX.out)).trans BX.out)
   have Z6:=Lib.hid ((B6.out.block _ (blk_lt hZ.out)).trans hZ.out)
   have O16:=Lib.hid (owns_keep hO1.out B6.out);have O26:=Lib.hid (owns_keep hO2.out B6.out)
   have BB6:=Lib.hid (bl hB.out B6.out hB.out.size)
   have T16:=Lib.hid (T1.out.keep B6.out);have T26:=Lib.hid (T2.out.keep B6.out)
   clear hb BA BX L5 y0 y1 u0 u1 hL hO1 hO2 hZ T1 T2 hB HLD HAT
   by_cases hc:CJ = 0
   ·have hz:((CJ.toNat:Int) != 0) = false:=by rw [hc];rfl
    have P1:Hid (w6.ownsRow (w.heap.size + 2) 5 1 (.slice q1 m1 g1) m1 ((restF (K.take (j + 1)) x).1.map B8)):=by show World.ownsRow _ _ _ _ _ _ _;rw [hnext.out,hYz.out hc];exact O16.out
    have P2:Hid (w6.ownsRow (w.heap.size + 2) 5 1 (.slice q2 m2 g2) m2 ((restF (K.take (j + 1)) x).2.map B8)):=by show World.ownsRow _ _ _ _ _ _ _;rw [hnext.out,hYz.out hc];exact O26.out
    clear hc hnext hYz O16 O26 HLS B6 T16 T26
    go_wp2
    go_roundw
    case rel=>exact ⟨j + 1,q1,m1,g1,q2,m2,g2,by omega,by go_num,L6.out,P1.out,P2.out,BB6.out,Z6.out⟩
    case measure=>simp [intOf];omega
   ·have hz:((CJ.toNat:Int) != 0) = true:=by simp;exact fun h=>hc (UInt8.toNat_inj.1 (by simpa using h))
    obtain ⟨y0,y1⟩:=cells2 L6.out
    obtain ⟨u0,u1⟩:=cells2 X6.out
    clear hc hYz
    go_wp2_with fail
    refine Calls.mono (HLS.out _ (Sl.of_owns O16.out) (Sl.of_owns O26.out) T16.out T26.out) ?_
    rintro e w7 ⟨q5,m5,g5,q6,m6,g6,e5,e6,rfl,o5,o6,hb⟩
    have L7:=Lib.hid ((hb.block _ (blk_lt L6.out)).trans L6.out)
    have Z7:=Lib.hid ((hb.block _ (blk_lt Z6.out)).trans Z6.out)
    have BB7:=Lib.hid (bl BB6.out hb BB6.out.size)
    have hb6:b6 < w6.heap.size:=blk_lt L6.out
    have hsz6:w.heap.size + 2≤w6.heap.size:=by have:=B6.out.size;have:=blk_lt Z6.out;omega
    have NX:Hid (((w7.setCell ⟨b6,0,none⟩ (.slice q5 m5 g5)).setCell ⟨b6,1,none⟩ (.slice q6 m6 g6)).heap[b6]? = some (.cells #[.slice q5 m5 g5,.slice q6 m6 g6] 99 (0,0)) ∧
      ((w7.setCell ⟨b6,0,none⟩ (.slice q5 m5 g5)).setCell ⟨b6,1,none⟩ (.slice q6 m6 g6)).ownsRow (w.heap.size + 2) 5 1 (.slice q5 m5 g5) m5 ((restF (K.take (j + 1)) x).1.map B8) ∧
      ((w7.setCell ⟨b6,0,none⟩ (.slice q5 m5 g5)).setCell ⟨b6,1,none⟩ (.slice q6 m6 g6)).ownsRow (w.heap.size + 2) 5 1 (.slice q6 m6 g6) m6 ((restF (K.take (j + 1)) x).2.map B8) ∧
      Below w.heap.size w ((w7.setCell ⟨b6,0,none⟩ (.slice q5 m5 g5)).setCell ⟨b6,1,none⟩ (.slice q6 m6 g6)) ∧
      ((w7.setCell ⟨b6,0,none⟩ (.slice q5 m5 g5)).setCell ⟨b6,1,none⟩ (.slice q6 m6 g6)).heap[w.heap.size + 1]? = some (.cells #[.slice none 0 0,.slice none 0 0] 99 (0,0))):=by
     rw [hnext.out]
     have hge:w.heap.size≤b6:=by omega
     have hne:w.heap.size + 1≠b6:=by omega
     exact ⟨hss (hss L7.out),owns_mono (owns_set (owns_set o5 hb6) hb6) hsz6,owns_mono (owns_set (owns_set o6 hb6) hb6) hsz6,(BB7.out.setCell hge _).setCell hge _,hsc (hsc Z7.out hne) hne⟩
    clear o5 o6 hb L6 Z6 BB6 X6 u0 u1 y0 y1 O16 O26 T16 T26 B6 hnext e5 e6 Z7 BB7
    obtain ⟨y0,y1⟩:=cells2 L7.out
    have v0:=frozen_of_row _ _ 0 _ _ L7.out
    have v1:=frozen_of_row _ _ 1 _ _ L7.out
    go_wp2
    generalize (w7.setCell ⟨b6,0,none⟩ (.slice q5 m5 g5)).setCell ⟨b6,1,none⟩ (.slice q6 m6 g6) = wn at NX ⊢
    go_roundw
    case rel=>exact ⟨j + 1,q5,m5,g5,q6,m6,g6,by omega,by go_num,NX.out.1,NX.out.2.1,NX.out.2.2.1,NX.out.2.2.2.1,NX.out.2.2.2.2⟩
    case measure=>simp [intOf];omega
  ·have hjn:j = n:=by omega
   have hge:(n:Int)≤(j:Int):=by omega
   have P1:Hid (wr.ownsRow (w.heap.size + 2) 5 1 (.slice q1 m1 g1) m1 ((restF K x).1.map B8)):=by have h:=hO1.out;rw [List.take_of_length_le (by rw [HLEN.out];omega)] at h;exact h
   have P2:Hid (wr.ownsRow (w.heap.size + 2) 5 1 (.slice q2 m2 g2) m2 ((restF K x).2.map B8)):=by have h:=hO2.out;rw [List.take_of_length_le (by rw [HLEN.out];omega)] at h;exact h
   have hl1:Hid ((restF K x).1.length = m1):=(Sl.of_owns P1.out).len
   have hl2:Hid ((restF K x).2.length = m2):=(Sl.of_owns P2.out).len
   obtain ⟨y0,y1⟩:=cells2 hL.out
   obtain ⟨f0,f1⟩:=cells2 hZ.out
   have z0:=frozen_of_row _ _ 0 _ _ hZ.out
   have z1:=frozen_of_row _ _ 1 _ _ hZ.out
   clear hjn hO1 hO2 hL
   go_wp2
   refine bodyPost_ret (results_cell_tmp rfl _ _ _ 99 #[.slice q1 m1 g1,.slice q2 m2 g2] (0,0) _ (.int .i64 0) rfl (hss (hss hZ.out)) rfl Tryz.underlying99 rfl hinfo) rfl ⟨q1,m1,g1,q2,m2,g2,hl1,hl2,rfl,?_,?_,(hB.out.setCell (by simp) _).setCell (by simp) _⟩
   ·exact owns_mono (owns_set (owns_set P1.out (by simp)) (by simp)) (by simp)
   ·exact owns_mono (owns_set (owns_set P2.out (by simp)) (by simp)) (by simp)
end Go.Proofs.YtccaiiigdfieoaaGreatDoor
namespace Go.Proofs.YtccaiiigdfieoaaGreatDoor
open Go.RowKit Go.By
set_option maxRecDepth 100000 in
set_option maxHeartbeats 4000000 in
theorem Search_any (f:Nat→Bool) (g:Nat) (lb:Array Value) (eg:Enters Tryz.prog g) (n:Nat) (w:World) (hn:n≤65536)
  (hf:∀ (W:World) (i:Nat),Below w.heap.size w W→i < n→Calls Tryz.prog g (#[.int .i64 i] ++ lb) W fun e w'=>e = .returned (.bool (f i))∧Below W.heap.size W w') (hm:∀ i j,i≤j→j < n→f i = true→f j = true) :
  Calls Tryz.prog 119 #[.int .i64 n,.func (.func g) #[] lb] w fun e w'=>∃ r:Nat,r≤n∧e = .returned (.int .i64 r)∧(∀ i,i < r→f i = false)∧(∀ i,r≤i→i < n→f i = true)∧Below w.heap.size w w':=by
 have HF:=Lib.hid hf;have HM:=Lib.hid hm
 clear hf hm
 have eg':∀ args w,(callFunc g args).run Tryz.prog w = .ok (.enter g args) w:=eg
 clear eg
 go_enter Tryz.func119,Tryz.ntmps119
 go_wp2
 go_loopw [5,6] (fun i j wr=>∃ (a b:Nat),a≤b∧b≤n∧i = .int .i64 a∧j = .int .i64 b∧Hid (∀ x,x < a→f x = false)∧Hid (∀ x,b≤x→x < n→f x = true)∧Hid (Below w.heap.size w wr)) (fun i j _=>(intOf j).toNat - (intOf i).toNat)
 case atStart=>exact ⟨0,n,Nat.zero_le _,Nat.le_refl _,rfl,rfl,fun x hx=>by omega,fun x h1 h2=>by omega,Below.refl _ _⟩
 case round =>
  obtain ⟨a,b,hab,hbn,rfl,rfl,hlo,hhi,hB⟩:=hrel
  by_cases hlt:a < b
  ·have an:(a:Int) < (b:Int):=by omega
   have w1:IntKind.i64.wrap ((a:Int) + (b:Int)) = ((a + b:Nat):Int):=by rw [← Int.natCast_add];exact Go.IntWalk.i64_in _ (by omega)
   go_wp2_with fail
   obtain ⟨m,hmid⟩:∃ m,m = (a + b) / 2:=⟨_,rfl⟩
   have hmz:((a:Int) + (b:Int)) / 2 = ((m:Nat):Int):=by omega
   have ham:a≤m:=by omega
   have hmb:m < b:=by omega
   rw [hmz]
   refine (HF.out wr m hB.out (by omega)).mono ?_
   rintro e w2 ⟨rfl,hb⟩
   have B2:=Lib.hid (bl hB.out hb hB.out.size)
   clear hb hmz hmid w1 hB
   cases hfm:f m with
   | false =>
    have HL:=Lib.hid hfm
    clear hfm
    have HN:Hid (∀ x,x < m + 1→f x = false):=fun x hx=>by
     cases hfx:f x with
     | false=>rfl
     | true=>have h:=HM.out x m (by omega) (by omega) hfx;rw [HL.out] at h;cases h
    go_wp2
    go_roundw
    case rel=>exact ⟨m + 1,b,by omega,hbn,by go_num,rfl,HN.out,hhi.out,B2.out⟩
    case measure=>simp [intOf];omega
   | true =>
    have HL:=Lib.hid hfm
    clear hfm
    go_wp2
    go_roundw
    case rel=>exact ⟨a,m,ham,by omega,rfl,rfl,hlo.out,fun x h1 h2=>HM.out m x h1 h2 HL.out,B2.out⟩
    case measure=>simp [intOf];omega
  ·have hge:(b:Int)≤(a:Int):=by omega
   have hba:b = a:=by omega
   subst hba
   go_wp2
   go_ret
   exact ⟨b,hbn,rfl,hlo.out,hhi.out,hB.out⟩
end Go.Proofs.YtccaiiigdfieoaaGreatDoor
