/- A region that draws its order,op by op: what holds of the world is told by which operations have run. A region that draws its order,with one call that writes: all else is told values. Chapter 19: taker.Take. Chapter 19: taker.Take of a packet. Chapter 19: taker.Take of a packet that is put. The contracts of the whole of the symbols,Join and Clean. The contracts of Join and Clean. The contracts of the reference's Needs and Check. The contracts of the reference's All and of the law's few; the chapter's example. The contract of the law's few; the chapter's example. Chapter 11: fits,piece,Cut,Spread. Chapter 17: a sender in memory; sender.New,Send,Explicit. Chapter 17: sender.Send. Chapter 21: a relay in memory; New,Next,Say of what says nothing. Chapter 21: relay.Say of what says something. What is written is read again; the numbers of the law's examples. Plain law: packets of one object. They never clash; the rows are as many as the rank of the vectors that came; full rows have the object. Chapter 21: what a turn of a sender,a taker,a relay leaves as it is; sender.Explicit. Chapter 19: taker.Status,Rank,Object. A sender while others turn; two takers beside each other. Of a plan that may not be there is no gate,no taker,no relay; a plan that may be as numbers. A region that draws its order,by shapes,by what holds of the world as operations run,and by ties between slots. Two slices of headers,each grown by one in a region that draws its order. A plan of an object; ranks of combinations; rows of headers of new bytes while others turn. A sender and a taker in memory,carried along. The contracts of the document's sum: Put,Sum (bit by bit). Plain law: a packet of which one stretch of four bytes has turned is not let in. What TakerHas,TripRuns,TripArrives carry: rows of bytes that grow; a sender that may refuse. A used strings.Builder,WriteByte with its whole frame. Chapter 19: a taker's clone. DERIVED: THE SHELF's CONTRACTS AT THIS DUMP,IN PLAIN WORDS (tools/lay-plain.mjs out of 'TryzIter.lean',which tools/lay-shelf.mjs wrote): THE SAME DECLARATIONS UNDER THE SAME NAMES: 'import','namespace','open','def','theorem' AND NOTHING ELSE: no command of the shelf's: FOR A HAND-IN. Each laying: the table of numbers ('.._ren') and one theorem,a field a fact of the dump's own or the kernel's comparison; each contract: ONE APPLICATION. A map from numbers to slices,made by the call; its keys in order. The keys of such a map,in order: maps.Keys,slices.Sorted. glue.Fill,where all that is known fits. -/
import Derived.Test.YtccaiiigdfieoaaGreatDoorZl7
import Derived.Laws.OwnMore
import Derived.OwnWalk
import Derived.Deep.DeepCutAuto
import Derived.Shelf.SlIterI.Nil
import Derived.Shelf.SortM.Plain
import Derived.Shelf.SortM.SortNone
import Derived.Test.YtccaiiigdfieoaaGreatDoorProg
import Derived.Maps.Own
import Derived.Maps.Views
import Derived.StillTailTactics
import Derived.Laws.CopyOwn
namespace Go.By
open Go.RowKit
section
variable {P:Program} {ops:Array Oper} {Q:Exit→Act→World→Prop}
def StepDn (P:Program) (ops:Array Oper) (Q:Exit→Act→World→Prop) (a0:Act) (E:(Nat→Bool)→World→Prop) (R:Nat→World→World→Prop) (Inv:Nat→(Nat→Value)→World→Prop) (i:Nat) (o:Oper):Prop :=
 ∀ (a:Act) (w:World) (dn:Nat→Bool),dn i = false→E dn w→a.tmps.size = a0.tmps.size→(∀ k,k ∈ preds o→Inv k (sl a) w)→(∀ t,initAt ops i t = true→sl a t = sl a0 t) →
  if Region.wanted o (yielded ops a.tmps) = true then o.wp P a w (fun a' w'=>∃ v,a' = a.put o.dst v∧R i w w'∧Inv i (sl a') w') Q
  else R i w w∧Inv i (sl (a.put o.dst undef)) w
def EachDn (P:Program) (ops:Array Oper) (Q:Exit→Act→World→Prop) (a0:Act) (E:(Nat→Bool)→World→Prop) (R:Nat→World→World→Prop) (Inv:Nat→(Nat→Value)→World→Prop):List Oper→Nat→Prop
 | [],_=>True
 | o :: rest,i=>StepDn P ops Q a0 E R Inv i o∧EachDn P ops Q a0 E R Inv rest (i + 1)
theorem EachDn.get {a0:Act} {E:(Nat→Bool)→World→Prop} {R:Nat→World→World→Prop} {Inv:Nat→(Nat→Value)→World→Prop}:∀ (l:List Oper) (k:Nat),EachDn P ops Q a0 E R Inv l k→∀ j o,l[j]? = some o→StepDn P ops Q a0 E R Inv (k + j) o:=by
 intro l
 induction l with
 | nil=>intro k _ j o h;simp at h
 | cons x l ih =>
  intro k h j o hj
  cases j with
  | zero=>simp at hj;subst hj;exact h.1
  | succ j =>
   have:=ih (k + 1) h.2 j o (by simpa using hj)
   rwa [show k + 1 + j = k + (j + 1) by omega] at this
theorem wp_region_done {id:Nat} {a0:Act} {w0:World} (hm:P.follows .mixedOrders = true) (hback:backB ops = true)
  (E:(Nat→Bool)→World→Prop) (R:Nat→World→World→Prop) (Inv:Nat→(Nat→Value)→World→Prop)
  (E0:E (fun _=>false) w0.drew) (ER:∀ dn i w w',dn i = false→E dn w→R i w w'→E (fun j=>if i = j then true else dn j) w')
  (stable:∀ i j oi oj (σ σ':Nat→Value) w w',i≠j→ops[i]? = some oi→ops[j]? = some oj→i ∉ preds oj∨True→Inv j σ w→R i w w'→(∀ t,oi.dst≠some t→σ' t = σ t)→(j ∉ preds oi→True)→(∀ d,oi.dst = some d→i ∈ preds oj→False)→Inv j σ' w')
  (each:EachDn P ops Q a0 E R Inv ops.toList 0)
  (fin:∀ a w dn,E dn w→a.tmps.size = a0.tmps.size→a.defers = a0.defers→(∀ j,j < ops.size→Inv j (sl a) w)→(∀ t,(ops.toList.all fun o=>o.dst != some t) = true→sl a t = sl a0 t)→Q .normal a w) :
  (Code.region id ops true).wp P Q a0 w0:=by
 refine wp_region_any hm ?_
 show wpAny P .any ops Q ops.size (Array.replicate ops.size false) a0 w0.drew
 have main:∀ (fuel:Nat) (listed:Array Bool) (a:Act) (w:World),unl ops.size listed≤fuel→E (fun j=>listed.getD j false) w→a.tmps.size = a0.tmps.size→a.defers = a0.defers →
   (∀ j o,listed.getD j false = true→ops[j]? = some o→∀ k,k ∈ preds o→listed.getD k false = true) →
   (∀ j,j < ops.size→listed.getD j true = true→listed.getD j false = true) →
   (∀ j,j < ops.size→listed.getD j false = true→Inv j (sl a) w) →
   (∀ t,(∀ j o,j < ops.size→listed.getD j false = true→ops[j]? = some o→o.dst≠some t)→sl a t = sl a0 t)→wpAny P .any ops Q fuel listed a w:=by
  intro fuel
  induction fuel with
  | zero =>
   intro listed a w hu hE hs hd hcl hlt hI ht
   have hall:∀ j,j < ops.size→listed.getD j false = true:=by
    intro j hj
    refine hlt j hj ?_
    have h0:unl ops.size listed = 0:=by omega
    unfold unl at h0
    have:=List.countP_eq_zero.1 h0 j (List.mem_range.2 hj)
    simpa using this
   refine ⟨?_,fin a w _ hE hs hd (fun j hj=>hI j hj (hall j hj)) (fun t htt=>ht t (fun j o _ _ ho=>?_))⟩
   ·rw [List.eq_nil_iff_forall_not_mem]
    intro i hi
    obtain ⟨h1,h2,_⟩:=mem_ready.1 hi
    have hx:=hall i h1
    rcases Nat.lt_or_ge i listed.size with h | h
    ·simp [Array.getD_eq_getD_getElem?,h] at h2 hx;rw [h2] at hx;cases hx
    ·simp [Array.getD_eq_getD_getElem?,Array.getElem?_eq_none h] at hx
   ·have:=List.all_eq_true.1 htt o (by rw [Array.mem_toList_iff];exact Array.mem_of_getElem? ho)
    simpa using this
  | succ fuel ih =>
   intro listed a w hu hE hs hd hcl hlt hI ht
   refine ⟨fun hr=>?_,fun i hi=>?_⟩
   ·have hall:∀ n j,j < n→j < ops.size→listed.getD j false = true:=by
     intro n
     induction n with
     | zero=>intro j hj;omega
     | succ n ihn =>
      intro j hj hjs
      refine hlt j hjs ?_
      cases hb:listed.getD j true with
      | true=>rfl
      | false =>
       exfalso
       have ho:ops[j]? = some ops[j]:=Array.getElem?_eq_getElem hjs
       have:j ∈ Region.ready .any ops listed:=mem_ready.2 ⟨hjs,hb,_,ho,fun k hk=>by
        have hbk:=List.all_eq_true.1 hback j (List.mem_range.2 hjs)
        rw [ho] at hbk
        have hkj:=of_decide_eq_true (List.all_eq_true.1 hbk k hk)
        exact ihn k (by omega) (by omega)⟩
       rw [hr] at this;cases this
    exact fin a w _ hE hs hd (fun j hj=>hI j hj (hall (j + 1) j (by omega) hj)) (fun t htt=>ht t (fun j o _ _ ho=>by
     have:=List.all_eq_true.1 htt o (by rw [Array.mem_toList_iff];exact Array.mem_of_getElem? ho)
     simpa using this))
   ·obtain ⟨h1,h2,o,ho,h3⟩:=mem_ready.1 hi
    have hst:=EachDn.get ops.toList 0 each i o (by simpa using ho)
    rw [Nat.zero_add] at hst
    have hnl:listed.getD i false≠true:=by
     intro hx
     rcases Nat.lt_or_ge i listed.size with h | h
     ·simp [Array.getD_eq_getD_getElem?,h] at h2 hx;rw [h2] at hx;cases hx
     ·simp [Array.getD_eq_getD_getElem?,Array.getElem?_eq_none h] at hx
    have his:i < listed.size:=by
     rcases Nat.lt_or_ge i listed.size with h | h
     ·exact h
     ·simp [Array.getD_eq_getD_getElem?,Array.getElem?_eq_none h] at h2
    have gset:∀ j (d:Bool),(listed.setIfInBounds i true).getD j d = if i = j then true else listed.getD j d:=by
     intro j d
     simp only [Array.getD_eq_getD_getElem?,Array.getElem?_setIfInBounds]
     by_cases e:i = j
     ·subst e;simp [his]
     ·simp [e]
    have hst':=hst a w _ (by simpa using hnl) hE hs (fun k hk=>hI k (by
      have hbk:=List.all_eq_true.1 hback i (List.mem_range.2 h1)
      rw [ho] at hbk
      have:=of_decide_eq_true (List.all_eq_true.1 hbk k hk);omega) (h3 k hk)) (fun t hti=>by
     refine ht t (fun j oj hj hlj hoj hdj=>?_)
     have:=List.all_eq_true.1 hti j (List.mem_range.2 hj)
     rw [hoj] at this
     by_cases e:j = i
     ·subst e;exact hnl hlj
     ·simp [e,hdj] at this
      exact hnl (hcl j oj hlj hoj i this))
    have next:∀ (v:Value) (w':World),R i w w'→Inv i (sl (a.put o.dst v)) w'→wpAny P .any ops Q fuel (listed.setIfInBounds i true) (a.put o.dst v) w':=by
     intro v w' hR hIi
     refine ih _ _ _ (by have:=unl_set (n:=ops.size) h1 h2;omega) (by have h:=ER _ i w w' (by simpa using hnl) hE hR;have e:(fun j=>if i = j then true else listed.getD j false) = fun j=>(listed.setIfInBounds i true).getD j false:=funext fun j=>(gset j false).symm;rw [e] at h;exact h) ((put_size _ _ _).trans hs) ((put_defers _ _ _).trans hd) ?_ ?_ ?_ ?_
     ·intro j oj hj hoj k hk
      rw [gset] at hj ⊢
      by_cases e:i = k
      ·rw [if_pos e]
      ·rw [if_neg e]
       by_cases e':i = j
       ·subst e';rw [ho] at hoj;cases hoj;exact h3 k hk
       ·rw [if_neg e'] at hj;exact hcl j oj hj hoj k hk
     ·intro j hj hl
      rw [gset] at hl ⊢
      by_cases e:i = j
      ·rw [if_pos e]
      ·rw [if_neg e] at hl ⊢;exact hlt j hj hl
     ·intro j hj hl
      rw [gset] at hl
      by_cases e:i = j
      ·subst e;exact hIi
      ·rw [if_neg e] at hl
       have hoj:ops[j]? = some ops[j]:=Array.getElem?_eq_getElem hj
       exact stable i j o _ (sl a) _ w w' e ho hoj (.inr trivial) (hI j hj hl) hR (fun t h=>put_sl _ _ _ _ h) (fun _=>trivial) (fun d hdd hp=>hnl (hcl j _ hl hoj i hp))
     ·intro t htt
      have hdt:o.dst≠some t:=htt i o h1 (by rw [gset,if_pos rfl]) ho
      rw [put_sl _ _ _ _ hdt]
      exact ht t (fun j oj hj hl hoj=>htt j oj hj (by rw [gset];split <;> simp [hl]) hoj)
    unfold wpOp
    rw [ho]
    show if Region.wanted o (yielded ops a.tmps) = true then _ else _
    split
    ·rename_i hw
     rw [if_pos hw] at hst'
     exact .inl (Oper.wp_mono (fun a' w' ⟨v,e,hR,hIi⟩=>by rw [e] at hIi ⊢;exact next v w' hR hIi) hst')
    ·rename_i hw
     rw [if_neg hw] at hst'
     exact next undef w hst'.1 hst'.2
 refine main ops.size _ a0 w0.drew ?_ (by have e:(fun j=>(Array.replicate ops.size false).getD j false) = fun _=>false:=funext fun j=>(by simp [Array.getD_eq_getD_getElem?,Array.getElem?_replicate];split <;> rfl);rw [e];exact E0) rfl rfl ?_ ?_ ?_ ?_
 ·unfold unl;exact Nat.le_trans List.countP_le_length (by simp)
 ·intro j o hj;simp [Array.getD_eq_getD_getElem?,Array.getElem?_replicate] at hj
  split at hj <;> simp at hj
 ·intro j hj hl;simp [Array.getD_eq_getD_getElem?,Array.getElem?_replicate,hj] at hl
 ·intro j hj hl;simp [Array.getD_eq_getD_getElem?,Array.getElem?_replicate,hj] at hl
 ·intro t _;rfl
def InvD (ops:Array Oper) (sh:Nat→Value→World→Prop) (i:Nat) (σ:Nat→Value) (w:World):Prop:=match dstOf ops i with
 | some d=>sh i (σ d) w
 | none=>True
def StepE (P:Program) (ops:Array Oper) (Q:Exit→Act→World→Prop) (a0:Act) (E:(Nat→Bool)→World→Prop) (R:Nat→World→World→Prop) (sh:Nat→Value→World→Prop) (i:Nat) (o:Oper):Prop :=
 ∀ (a:Act) (w:World) (dn:Nat→Bool),dn i = false→E dn w→a.tmps.size = a0.tmps.size→(∀ k,k ∈ preds o→InvD ops sh k (sl a) w)→(∀ t,initAt ops i t = true→sl a t = sl a0 t) →
  if Region.wanted o (yielded ops a.tmps) = true then o.wp P a w (fun a' w'=>∃ v,a' = a.put o.dst v∧R i w w'∧sh i v w') Q
  else R i w w∧sh i undef w
def EachE (P:Program) (ops:Array Oper) (Q:Exit→Act→World→Prop) (a0:Act) (E:(Nat→Bool)→World→Prop) (R:Nat→World→World→Prop) (sh:Nat→Value→World→Prop):List Oper→Nat→Prop
 | [],_=>True
 | o :: rest,i=>StepE P ops Q a0 E R sh i o∧EachE P ops Q a0 E R sh rest (i + 1)
theorem eachE_of {a0:Act} {E:(Nat→Bool)→World→Prop} {R:Nat→World→World→Prop} {sh:Nat→Value→World→Prop} {n:Nat} (hn:a0.tmps.size = n):∀ (l:List Oper) (k:Nat),(∀ j o,l[j]? = some o→ops[k + j]? = some o)→(l.all fun o=>match o.dst with
  | some d=>decide (d < n)
  | none=>false) = true →
  EachE P ops Q a0 E R sh l k→EachDn P ops Q a0 E R (InvD ops sh) l k:=by
 intro l
 induction l with
 | nil=>intro k _ _ _;trivial
 | cons o l ih =>
  intro k hk hd h
  simp only [List.all_cons,Bool.and_eq_true] at hd
  refine ⟨?_,ih (k + 1) (fun j o' hj=>by have:=hk (j + 1) o' (by simpa using hj);rwa [show k + (j + 1) = k + 1 + j by omega] at this) hd.2 h.2⟩
  intro a w dn hdn hE hs hp hi
  have ho:ops[k]? = some o:=by have:=hk 0 o (by simp);simpa using this
  have hs1:=h.1 a w dn hdn hE hs hp hi
  cases hdo:o.dst with
  | none=>rw [hdo] at hd;simp at hd
  | some d =>
   rw [hdo] at hd
   have hd1:d < n:=of_decide_eq_true hd.1
   have hdn:d < a.tmps.size:=by rw [hs,hn];exact hd1
   have hdst:dstOf ops k = some d:=by simp [dstOf,ho,hdo]
   split
   ·rename_i hw
    rw [if_pos hw] at hs1
    refine Oper.wp_mono ?_ hs1
    rintro a' w' ⟨v,e,hb,hok⟩
    refine ⟨v,e.trans (by rw [hdo]),hb,?_⟩
    unfold InvD
    rw [hdst]
    show sh k (sl a' d) w'
    rw [e,hdo,put_same _ _ _ hdn];exact hok
   ·rename_i hw
    rw [if_neg hw] at hs1
    refine ⟨hs1.1,?_⟩
    unfold InvD
    rw [hdst]
    show sh k (sl (a.put (some d) undef) d) w
    rw [put_same _ _ _ hdn];exact hs1.2
def predB (ops:Array Oper) (i j:Nat):Bool:=match ops[j]? with
 | some o=>(preds o).contains i
 | none=>false
theorem wp_region_dones {id:Nat} {a0:Act} {w0:World} (E:(Nat→Bool)→World→Prop) (R:Nat→World→World→Prop) (sh:Nat→Value→World→Prop) (n:Nat) (hn:a0.tmps.size = n) (hm:P.follows .mixedOrders = true) (hback:backB ops = true) (hdist:distB ops = true) (hdsts:dstsB ops n = true)
  (E0:E (fun _=>false) w0.drew) (ER:∀ dn i w w',dn i = false→E dn w→R i w w'→E (fun j=>if i = j then true else dn j) w') (keep:∀ i j v w w',i≠j→predB ops i j = false→sh j v w→R i w w'→sh j v w')
  (each:EachE P ops Q a0 E R sh ops.toList 0)
  (fin:∀ a w dn,E dn w→a.tmps.size = a0.tmps.size→a.defers = a0.defers→(∀ j,j < ops.size→InvD ops sh j (sl a) w)→(∀ t,(ops.toList.all fun o=>o.dst != some t) = true→sl a t = sl a0 t)→Q .normal a w) :
  (Code.region id ops true).wp P Q a0 w0:=by
 refine wp_region_done hm hback E R (InvD ops sh) E0 ER ?_ (eachE_of hn _ 0 (fun j o hj=>by simpa using hj) hdsts each) fin
 intro i j oi oj σ σ' w w' hij hoi hoj _ hI hR hσ _ hnp
 unfold InvD at hI ⊢
 cases hdj:dstOf ops j with
 | none=>trivial
 | some d =>
  rw [hdj] at hI
  show sh j (σ' d) w'
  have hne:oi.dst≠some d:=by
   intro e
   have hi':i < ops.size:=(Array.getElem?_eq_some_iff.1 hoi).1
   have hj':j < ops.size:=(Array.getElem?_eq_some_iff.1 hoj).1
   have:=List.all_eq_true.1 (List.all_eq_true.1 hdist i (List.mem_range.2 hi')) j (List.mem_range.2 hj')
   rw [hoi,hoj] at this
   have hdj':oj.dst = some d:=by simpa [dstOf,hoj] using hdj
   simp [e,hdj',hij] at this
  rw [hσ d hne]
  refine keep i j _ _ _ hij ?_ hI hR
  unfold predB
  rw [hoj]
  show (preds oj).contains i = false
  cases hc:(preds oj).contains i with
  | false=>rfl
  | true =>
   have hdo:=List.all_eq_true.1 hdsts oi (by rw [Array.mem_toList_iff];exact Array.mem_of_getElem? hoi)
   cases hd:oi.dst with
   | none=>rw [hd] at hdo;simp at hdo
   | some d=>exact (hnp d hd (by simpa using hc)).elim
end
end Go.By
namespace Go.By
open Go.RowKit
theorem eachE_all {P:Program} {ops:Array Oper} {Q:Exit→Act→World→Prop} {a0:Act} {E:(Nat→Bool)→World→Prop} {R:Nat→World→World→Prop} {sh:Nat→Value→World→Prop} (key:∀ i o,ops[i]? = some o→StepE P ops Q a0 E R sh i o) :
  ∀ (l:List Oper) (k:Nat),(∀ j o,l[j]? = some o→ops[k + j]? = some o)→EachE P ops Q a0 E R sh l k:=by
 intro l
 induction l with
 | nil=>intro k _;trivial
 | cons x l ih =>
  intro k h
  exact ⟨key k x (by have:=h 0 x rfl;simpa using this),ih (k + 1) fun j o hj=>by have:=h (j + 1) o (by simpa using hj);rwa [show k + 1 + j = k + (j + 1) by omega]⟩
def freeB (ops:Array Oper):Bool:=ops.toList.all fun o=>o.guard.isNone
theorem wp_region_call {P:Program} {ops:Array Oper} {Q:Exit→Act→World→Prop} {id:Nat} {a0:Act} {w0:World} (sv:Nat→Value) (n s:Nat) (P1:World→Prop) (hn:a0.tmps.size = n) (hm:P.follows .mixedOrders = true) (hback:backB ops = true) (hdist:distB ops = true) (hdsts:dstsB ops n = true) (hfree:freeB ops = true) (hs:s < ops.size)
  (each:∀ i o,i≠s→ops[i]? = some o→∀ a w,(w = w0.drew∨P1 w)→a.tmps.size = a0.tmps.size→(∀ k d,k ∈ preds o→dstOf ops k = some d→sl a d = sv k)→(∀ t,initAt ops i t = true→sl a t = sl a0 t)→(execOp a.eval o).run P w = .ok (.value (sv i)) w)
  (call:∀ o,ops[s]? = some o→∀ a,a.tmps.size = a0.tmps.size→(∀ k d,k ∈ preds o→dstOf ops k = some d→sl a d = sv k)→(∀ t,initAt ops s t = true→sl a t = sl a0 t)→o.wp P a w0.drew (fun a' w'=>a' = a.put o.dst (sv s)∧P1 w') Q)
  (fin:∀ a w,P1 w→a.tmps.size = a0.tmps.size→a.defers = a0.defers→(∀ j d,j < ops.size→dstOf ops j = some d→sl a d = sv j)→(∀ t,(ops.toList.all fun o=>o.dst != some t) = true→sl a t = sl a0 t)→Q .normal a w) :
  (Code.region id ops true).wp P Q a0 w0:=by
 have hg:∀ (i:Nat) (o:Oper),ops[i]? = some o→o.guard = none:=fun i o ho=>by
  have:=List.all_eq_true.1 hfree o (by rw [Array.mem_toList_iff];exact Array.mem_of_getElem? ho)
  cases hx:o.guard <;> simp [hx] at this ⊢
 refine wp_region_dones (fun dn w=>(dn s = true→P1 w)∧(dn s = false→w = w0.drew)) (fun i w w'=>if i = s then w = w0.drew∧P1 w' else w' = w) (fun j v w=>v = sv j∧(j = s→P1 w)) n hn hm hback hdist hdsts ?_ ?_ ?_ ?_ ?_
 ·exact ⟨fun h=>absurd h (by simp),fun _=>rfl⟩
 ·intro dn i w w' hdn hE hR
  by_cases hi:i = s
  ·have hR':w = w0.drew∧P1 w':=by simpa [hi] using hR
   exact ⟨fun _=>hR'.2,fun h=>by simp [hi] at h⟩
  ·have hR':w' = w:=by simpa [hi] using hR
   subst hR'
   exact ⟨fun h=>hE.1 (by simpa [hi] using h),fun h=>hE.2 (by simpa [hi] using h)⟩
 ·intro i j v w w' hij _ hv hR
  refine ⟨hv.1,fun hj=>?_⟩
  by_cases hi:i = s
  ·exact absurd (hi.trans hj.symm) hij
  ·rw [if_neg hi] at hR
   rw [hR];exact hv.2 hj
 ·refine eachE_all ?_ ops.toList 0 (fun j o hj=>by simpa using hj)
  intro i o ho a w dn hdn hE hsz hp hi
  have hp':∀ k d,k ∈ preds o→dstOf ops k = some d→sl a d = sv k:=fun k d hk hd=>by
   have:=hp k hk
   unfold InvD at this
   rw [hd] at this
   exact this.1
  rw [if_pos (by simp [Region.wanted,hg i o ho])]
  by_cases his:i = s
  ·subst his
   have hw:=hE.2 hdn
   subst hw
   refine Oper.wp_mono (fun a' w' hq=>?_) (call o ho a hsz hp' hi)
   obtain ⟨rfl,h1⟩:=hq
   refine ⟨sv i,rfl,?_,rfl,fun _=>h1⟩
   dsimp only
   rw [if_pos rfl]
   exact ⟨rfl,h1⟩
  ·have hw:w = w0.drew∨P1 w:=by
    cases hx:dn s with
    | true=>exact .inr (hE.1 hx)
    | false=>exact .inl (hE.2 hx)
   refine wp_val (sv i) (each i o his ho a w hw hsz hp' hi) ⟨sv i,rfl,?_,rfl,fun h=>absurd h his⟩
   dsimp only
   rw [if_neg his]
 ·intro a w dn hE hsz hd hI ht
  have hos:ops[s]? = some ops[s]:=Array.getElem?_eq_getElem hs
  have hds:∃ d,dstOf ops s = some d:=by
   have:=List.all_eq_true.1 hdsts ops[s] (Array.getElem_mem_toList hs)
   cases hx:ops[s].dst with
   | none=>rw [hx] at this;cases this
   | some d=>exact ⟨d,by simp [dstOf,hos,hx]⟩
  obtain ⟨d,hds⟩:=hds
  have h1:=hI s hs
  unfold InvD at h1
  rw [hds] at h1
  refine fin a w (h1.2 rfl) hsz hd (fun j d' hj hdj=>?_) ht
  have:=hI j hj
  unfold InvD at this
  rw [hdj] at this
  exact this.1
end Go.By
namespace Go.By
open Go.RowKit Go.Maps Go.Proofs.YtccaiiigdfieoaaGreatDoor
structure OneE (w:World) (g:Nat) (w':World):Prop where
 os:w'.os = w.os
 tape:w'.tape = w.tape
 output:w'.output = w.output
 size:w'.heap.size = w.heap.size
 block:∀ b,b≠g→w'.heap[b]? = w.heap[b]?
theorem OneE.refl (w:World) (g:Nat):OneE w g w:=⟨rfl,rfl,rfl,rfl,fun _ _=>rfl⟩
theorem OneE.set {w w':World} {g i:Nat} (h:OneE w g w') (v:Value):OneE w g (w'.setCell ⟨g,i,none⟩ v) :=
 ⟨h.os,h.tape,h.output,by simp [World.setCell];exact h.size,fun b hb=>(Below.heap_setCell _ _ _ _ hb).trans (h.block b hb)⟩
theorem OneE.below {w w':World} {g B:Nat} (h:OneE w g w') (hB:B≤g):Below B w w':=⟨h.os,h.tape,h.output,by rw [h.size];exact Nat.le_refl _,fun i hi=>h.block i (by omega)⟩
theorem OneE.fresh {T T' B g n c:Nat} {w w':World} {q:Option Addr} {xs:List UInt8} {old:Array Value} {fr:Nat × Nat} (hE:OneE w g w') (h:Fresh T B w q n c xs) (hg:w.heap[g]? = some (.cells old T' fr)) (hne:T'≠T):Fresh T B w' q n c xs:=by
 have hd:∀ a,q = some a→a.block≠g:=fun a ha e1=>by
  obtain ⟨cs,fr,e⟩:=h.ty a ha
  rw [e1,hg] at e;injection e with e;injection e with _ e _;exact hne e
 refine ⟨⟨h.sl.len,h.sl.le,h.sl.max,h.sl.nil,fun i hi=>?_⟩,h.new,fun a ha=>?_⟩
 ·obtain ⟨b,o,e,hc⟩:=h.sl.rs i hi
  exact ⟨b,o,e,(World.cell?_of_block (a:=⟨b,o + i,none⟩) (hE.block b (hd _ e))).trans hc⟩
 ·obtain ⟨cs,fr,e⟩:=h.ty a ha
  exact ⟨cs,fr,(hE.block _ (hd a ha)).trans e⟩
theorem OneE.bw {T g b:Nat} {w w':World} {u:Value} {xs:List UInt8} {old:Array Value} {T':Nat} {fr:Nat × Nat} (hE:OneE w g w') (h:Bw T w b u xs) (hg:w.heap[g]? = some (.cells old T' fr)) (hne:T'≠T):Bw T w' b u xs:=by
 obtain ⟨q,m,c,e,l,o⟩:=h
 refine ⟨q,m,c,e,l,owns_same o (by rw [hE.size];exact Nat.le_refl _) fun g2 hg2=>hE.block _ fun e2=>?_⟩
 rcases o.2 with ⟨e1,_⟩ | ⟨g',cap,cur,e1,_,hh,_⟩
 ·rw [e1] at hg2;cases hg2
 ·rw [e1] at hg2;cases hg2
  have e3:g' = g:=e2
  rw [e3,hg] at hh;injection hh with hh;injection hh with _ hh _;exact hne hh
theorem OneE.elm {g base be k t n:Nat} {w w':World} {v:Value} {K:List Rw} {old:Array Value} {T':Nat} {fr:Nat × Nat} (hE:OneE w g w') (h:Elm w base be k t v n K) (hg:w.heap[g]? = some (.cells old T' fr)) (h1:T'≠191) (h2:99≠T') (h3:T'≠5):Elm w' base be k t v n K:=by
 refine ⟨(hE.block be fun e=>?_).trans h.box,?_,h.old⟩
 ·have:=h.box
  rw [e,hg] at this;injection this with this;injection this with _ this _;exact h1 this
 ·have hv:=h.rows.ne_box hg h2
  obtain ⟨vs,a,b,o,r⟩:=h.rows
  exact ⟨vs,a,b,owns_same o (by rw [hE.size];exact Nat.le_refl _) fun g2 hg2=>hE.block _ fun e2=>hv (by rw [hg2,e2]),fun j u hj=>by obtain ⟨x,hk,g1,g2⟩:=r j u hj;exact ⟨x,hk,hE.bw g1 hg h3,hE.bw g2 hg h3⟩⟩
structure TChg (w w':World) (gt be:Nat) (v:Value):Prop where
 os:w'.os = w.os
 tape:w'.tape = w.tape
 output:w'.output = w.output
 size:w.heap.size≤w'.heap.size
 block:∀ b,b < w.heap.size→b≠gt→b≠be→v.ownBlock≠some b→w'.heap[b]? = w.heap[b]?
theorem TChg.of {w w':World} (gt be:Nat) (v:Value) (h:Below w.heap.size w w'):TChg w w' gt be v:=⟨h.os,h.tape,h.output,h.size,fun b hb _ _ _=>h.block b hb⟩
theorem TChg.one {w a b:World} {gt be:Nat} {v:Value} (h:TChg w a gt be v) (g:OneE a gt b):TChg w b gt be v :=
 ⟨g.os.trans h.os,g.tape.trans h.tape,g.output.trans h.output,by rw [g.size];exact h.size,fun i hi h1 h2 h3=>(g.block i h1).trans (h.block i hi h1 h2 h3)⟩
theorem TChg.then {w a b:World} {gt be:Nat} {v:Value} (h:TChg w a gt be v) (g:Below a.heap.size a b):TChg w b gt be v :=
 ⟨g.os.trans h.os,g.tape.trans h.tape,g.output.trans h.output,Nat.le_trans h.size g.size,fun i hi h1 h2 h3=>(g.block i (Nat.lt_of_lt_of_le hi h.size)).trans (h.block i hi h1 h2 h3)⟩
theorem TChg.chg {w a b:World} {gt be:Nat} {v:Value} (h:TChg w a gt be v) (g:Chg a b be v):TChg w b gt be v :=
 ⟨g.os.trans h.os,g.tape.trans h.tape,g.output.trans h.output,Nat.le_trans h.size g.size,fun i hi h1 h2 h3=>(g.block i (Nat.lt_of_lt_of_le hi h.size) h2 h3).trans (h.block i hi h1 h2 h3)⟩
end Go.By
namespace Go.Proofs.YtccaiiigdfieoaaGreatDoor
open Go.RowKit Go.By Go.Maps
theorem CntM.row {w:World} {M:Value} {N:Nat} {C:DataW Unit} (h:CntM w M N C) {g T:Nat} {old cs:Array Value} {fr:Nat × Nat} (hg:w.heap[g]? = some (.cells old T fr)):CntM (w.setRow g cs) M N C:=by
 refine ⟨?_,h.small⟩
 rcases h.at_ with h1 | ⟨b,e,ho⟩
 ·exact .inl h1
 ·refine .inr ⟨b,e,?_⟩
  obtain ⟨es,clock,h1,F,hs,hD⟩:=ho
  exact ⟨es,clock,hro h1 (fun e=>by rw [e,hg] at h1;cases h1),F,hs,hD⟩
theorem CntM.one {w w':World} {M:Value} {N g:Nat} {C:DataW Unit} (h:CntM w M N C) (hE:OneE w g w') {T:Nat} {old:Array Value} {fr:Nat × Nat} (hg:w.heap[g]? = some (.cells old T fr)):CntM w' M N C:=by
 refine ⟨?_,h.small⟩
 rcases h.at_ with h1 | ⟨b,e,ho⟩
 ·exact .inl h1
 ·refine .inr ⟨b,e,?_⟩
  obtain ⟨es,clock,h1,F,hs,hD⟩:=ho
  exact ⟨es,clock,(hE.block b (fun e=>by rw [e,hg] at h1;cases h1)).trans h1,F,hs,hD⟩
theorem PkC.one {w w':World} {B k t D:Nat} {xs:List UInt8} {v0 v1 v2 v3 v4 v5 v6:Value} (h:PkC w B k t D xs v0 v1 v2 v3 v4 v5 v6) {T g:Nat} {o1:Array Value} {f1:Nat × Nat} (hE:OneE w g w') (h1:w.heap[g]? = some (.cells o1 T f1)) (n1:T≠5):PkC w' B k t D xs v0 v1 v2 v3 v4 v5 v6 :=
 ⟨h.1,fun hc=>by obtain ⟨q,n,c,q2,n2',c2,e0,e1,e2,e3,e4,e5,e6,f1,f2⟩:=h.2 hc;exact ⟨q,n,c,q2,n2',c2,e0,e1,e2,e3,e4,e5,e6,hE.fresh f1 h1 n1,hE.fresh f2 h1 n1⟩⟩
theorem tk_ne:118≠5∧118≠191∧99≠118:=by decide
def TkRet (w:World) (base gt be L t k D N:Nat) (v:Value) (C:DataW Unit) (K:List Rw) (st:Nat) (code:Int) (e:Ending) (w':World):Prop :=
 e = .returned (.int .i64 code)∧∃ M' v',Tkr w' base gt be L t k D N M' v' C K st∧TChg w w' gt be v∧(v'.ownBlock = v.ownBlock∨∀ b,v'.ownBlock = some b→w.heap.size≤b)
set_option maxRecDepth 100000 in
set_option maxHeartbeats 4000000 in
theorem TTake_bad (base gt be L t k D N:Nat) (M v:Value) (C:DataW Unit) (K:List Rw) (st:Nat) (p:Option Addr) (n c:Nat) (xs:List UInt8) (w:World) (h:Tkr w base gt be L t k D N M v C K st) (hT:HalfT w) (hN:N < 1000000) (hs:Sl B8 w p n c xs) (hr:Room n) (hc:readC k t D xs≠0) :
  Calls Tryz.prog 16 #[.pointer (some ⟨gt,0,none⟩),.slice p n c] w (TkRet w base gt be L t k D (N + 1) v (bump C (readC k t D xs)) K st (readC k t D xs)):=by
 have HG:Hid (∀ w,HalfT w→CntM w M N C→Sl B8 w p n c xs→Calls Tryz.prog 62 #[GVal L t k D M,.slice p n c] w fun e w'=>∃ b2 v0 v1 v2 v3 v4 v5 v6,e = .returned (.tuple #[GVal L t k D (.map (some b2)),.agg #[v0,v1,v2,v3,v4,v5,v6],.int .i64 (readC k t D xs)]) ∧
   CntM w' (.map (some b2)) (N + 1) (bump C (readC k t D xs))∧PkC w' w.heap.size k t D xs v0 v1 v2 v3 v4 v5 v6∧Below w.heap.size w w'):=fun w hT hC hs=>GLook_any L t k D N M C p n c xs w h.ok hT hC hN hs hr
 have H:=Lib.hid h
 have HT:=Lib.hid hT
 have HS:=Lib.hid hs
 obtain ⟨c0,c1,c2,c3,c4,c5,c6⟩:=cells_seven h.box
 have e0:(readC k t D xs != 0) = true:=bne_iff_ne.2 hc
 generalize readC k t D xs = E at *
 clear h hT hs hr hN hc
 go_enter Tryz.func16,Tryz.ntmps16
 go_wp2_with fail
 refine Calls.mono (HG.out _ HT.out H.out.cnt HS.out) ?_
 rintro e w1 ⟨b2,v0,v1,v2,v3,v4,v5,v6,rfl,hcn,hpk,hb⟩
 have HB:=Lib.hid hb
 have HCn:=Lib.hid hcn
 have HPk:=Lib.hid hpk
 obtain ⟨o0,o1,o2,o3,o4,o5,o6⟩:=hpk.1
 clear c0 c1 c2 c3 c4 c5 c6 hb hcn hpk
 go_wp2_with (first | (refine wpList_store_row (o:=⟨none,.store 111 (.tmp 5) (.tmp 19),_,_,_,_⟩) rfl 111 (.tmp 5) (.tmp 19) rfl w1.heap.size #[.int .i64 (L:Nat),.int .i64 (t:Nat),.int .i64 (k:Nat),.int .u32 (D:Nat),.map (some b2)] rfl rfl _ _ (hal (hnew rfl)) info_gate rfl (ones_gate rfl) ?_) | (refine wpList_store_rowS (o:=⟨none,.store 122 (.tmp 6) (.tmp 20),_,_,_,_⟩) rfl 122 (.tmp 6) (.tmp 20) rfl (w1.heap.size + 1) #[v0,v1,v2,v3,v4,v5,v6] rfl rfl _ _ (hro (hnew (by simp)) (by omega)) info_packet rfl (by simp [o0,o1,o2,o3,o4,o5,o6]) ?_))
 intro w2 hr2
 have HB2:Hid (Below w.heap.size w w2):=by rw [hr2.eq];exact below_row (below_row (al (al HB.out HB.out.size) (by have:=HB.out.size;simp;omega)) HB.out.size) (by have:=HB.out.size;omega)
 have k5:w2.heap[w1.heap.size]? = some (.cells #[.int .i64 (L:Nat),.int .i64 (t:Nat),.int .i64 (k:Nat),.int .u32 (D:Nat),.map (some b2)] 111 (0,0)):=by rw [hr2.eq];exact hro (hrs (hal (hnew rfl))) (by omega)
 have k6:w2.heap[w1.heap.size + 1]? = some (.cells #[v0,v1,v2,v3,v4,v5,v6] 122 (0,0)):=by rw [hr2.eq];exact hrs (hro (hnew (by simp)) (by omega))
 have kt:=(HB2.out.block _ (lt_of_block H.out.box)).trans H.out.box
 have HPk2:Hid (PkC w2 w.heap.size k t D xs v0 v1 v2 v3 v4 v5 v6):=by rw [hr2.eq];exact ((HPk.out.keep (al (al (Below.refl _ _) (Nat.le_refl _)) (by simp))).row (hal (hnew rfl)) gate_ne).row (hro (hnew (by simp)) (by omega)) pkt_ne
 have HCn2:Hid (CntM w2 (.map (some b2)) (N + 1) (bump C E)):=by rw [hr2.eq];exact ((HCn.out.keep (al (al (Below.refl _ _) (Nat.le_refl _)) (by simp))).row (hal (hnew rfl))).row (hro (hnew (by simp)) (by omega))
 have hgt:=lt_of_block H.out.box
 have hG5:=HB.out.size
 clear hr2 HCn HPk HB
 obtain ⟨g5,hg5⟩:∃ g5,g5 = w1.heap.size:=⟨_,rfl⟩
 rw [← hg5] at k5 k6 hG5 ⊢
 clear hg5
 obtain ⟨c0,c1,c2,c3,c4,c5,c6⟩:=cells_seven kt
 obtain ⟨d0,d1,d2,d3,d4⟩:=cells_five k5
 have z0:=frozen_of_row _ _ 0 _ _ kt
 have z1:=frozen_of_row _ _ 1 _ _ kt
 have z2:=frozen_of_row _ _ 2 _ _ kt
 have z3:=frozen_of_row _ _ 3 _ _ kt
 have z4:=frozen_of_row _ _ 4 _ _ kt
 go_wp2
 go_ret
 have hO:OneE w2 gt (((((w2.setCell ⟨gt,0,none⟩ (.int .i64 (L:Nat))).setCell ⟨gt,1,none⟩ (.int .i64 (t:Nat))).setCell ⟨gt,2,none⟩ (.int .i64 (k:Nat))).setCell ⟨gt,3,none⟩ (.int .u32 (D:Nat))).setCell ⟨gt,4,none⟩ (.map (some b2))):=(((((OneE.refl w2 gt).set _).set _).set _).set _).set _
 exact ⟨rfl,.map (some b2),v,⟨H.out.ok,hss (hss (hss (hss (hss kt)))),HCn2.out.one hO kt,hO.elm (H.out.elm.keep HB2.out) kt tk_ne.2.1 tk_ne.2.2 tk_ne.1,H.out.red,H.out.old⟩,(TChg.of gt be v HB2.out).one hO,.inl rfl⟩
end Go.Proofs.YtccaiiigdfieoaaGreatDoor
namespace Go.By
open Go.RowKit Go.Maps Go.Proofs.YtccaiiigdfieoaaGreatDoor
theorem wpList_store_five {P:Program} {ops:Array Oper} {rest:List Oper} {o:Oper} {a:Act} {w:World} {Q:Exit→Act→World→Prop} (hgd:o.guard = none) (ty:TypeId) (x y:Operand) (ho:o.op = .store ty x y)
  (g:Nat) (a0 a1 a2 a3:Int) (m:Nat) (b0 b1 b2 b3 b4 b5 b6:Value) (T:TypeId) (hx:a.eval x = .pointer (some ⟨g,0,none⟩)) (hy:a.eval y = .agg #[.int .i64 a0,.int .i64 a1,.int .i64 a2,.int .u32 a3,.map (some m)])
  (kt:w.heap[g]? = some (.cells #[b0,b1,b2,b3,b4,b5,b6] T (0,0))) (hi:(P.info? ty).map (·.size) = some 5) {d:TypeDesc} (hu:P.underlying ty = some d)
  (h:∀ w',OneE w g w'→w'.heap[g]? = some (.cells #[.int .i64 a0,.int .i64 a1,.int .i64 a2,.int .u32 a3,.map (some m),b5,b6] T (0,0))→wpList P ops Q rest (a.put o.dst undef) w'):wpList P ops Q (o :: rest) a w:=by
 refine wpList_plain hgd fun K hK=>?_
 have hK':=hK _ _ (h (((((w.setCell ⟨g,0,none⟩ (.int .i64 a0)).setCell ⟨g,1,none⟩ (.int .i64 a1)).setCell ⟨g,2,none⟩ (.int .i64 a2)).setCell ⟨g,3,none⟩ (.int .u32 a3)).setCell ⟨g,4,none⟩ (.map (some m))) ((((((OneE.refl w g).set _).set _).set _).set _).set _) (hss (hss (hss (hss (hss kt))))))
 obtain ⟨c0,c1,c2,c3,c4,c5,c6⟩:=cells_seven kt
 have z0:=frozen_of_row _ _ 0 _ _ kt
 have z1:=frozen_of_row _ _ 1 _ _ kt
 have z2:=frozen_of_row _ _ 2 _ _ kt
 have z3:=frozen_of_row _ _ 3 _ _ kt
 have z4:=frozen_of_row _ _ 4 _ _ kt
 have hsz:(sizeOf ty).run P w = .ok 5 w:=by
  cases hI:P.info? ty with
  | none=>rw [hI] at hi;cases hi
  | some i =>
   rw [hI] at hi
   simp at hi
   simp [sizeOf,typeInfo,hI,hi]
 have _:=hu
 unfold Oper.wp
 simp only [execOp,ho,hx,hy]
 simp [go_sem,hsz,c0,c1,c2,c3,c4,z0,z1,z2,z3,z4]
 exact hK'
end Go.By
namespace Go.Proofs.YtccaiiigdfieoaaGreatDoor
open Go.RowKit Go.By Go.Maps
def eqX (k t:Nat) (xs:List UInt8):Rw:=(vecS (pktM xs) (pktX k xs) (pktS k xs) k,pktY k t xs)
def nextS (K:List Rw) (x:Rw) (k:Nat):Nat:=if codeF K x = 2 then 2 else if (putK K x).length = k then 1 else 0
set_option maxRecDepth 100000 in
set_option maxHeartbeats 4000000 in
theorem TTake_done (base gt be L t k D N:Nat) (M v:Value) (C:DataW Unit) (K:List Rw) (st:Nat) (p:Option Addr) (n c:Nat) (xs:List UInt8) (w:World) (h:Tkr w base gt be L t k D N M v C K st) (hT:HalfT w) (hN:N < 1000000) (hs:Sl B8 w p n c xs) (hr:Room n) (hc:readC k t D xs = 0) (hst:st≠0) :
  Calls Tryz.prog 16 #[.pointer (some ⟨gt,0,none⟩),.slice p n c] w (TkRet w base gt be L t k D (N + 1) v (bump C (readC k t D xs)) K st (readC k t D xs)):=by
 have HG:Hid (∀ w,HalfT w→CntM w M N C→Sl B8 w p n c xs→Calls Tryz.prog 62 #[GVal L t k D M,.slice p n c] w fun e w'=>∃ b2 v0 v1 v2 v3 v4 v5 v6,e = .returned (.tuple #[GVal L t k D (.map (some b2)),.agg #[v0,v1,v2,v3,v4,v5,v6],.int .i64 (readC k t D xs)]) ∧
   CntM w' (.map (some b2)) (N + 1) (bump C (readC k t D xs))∧PkC w' w.heap.size k t D xs v0 v1 v2 v3 v4 v5 v6∧Below w.heap.size w w'):=fun w hT hC hs=>GLook_any L t k D N M C p n c xs w h.ok hT hC hN hs hr
 have H:=Lib.hid h
 have HT:=Lib.hid hT
 have HS:=Lib.hid hs
 obtain ⟨c0,c1,c2,c3,c4,c5,c6⟩:=cells_seven h.box
 rw [hc] at HG ⊢
 have HC:=Lib.hid hc
 have e1:((st:Int) != 0) = true:=bne_iff_ne.2 (by omega)
 clear h hT hs hr hN hc hst
 go_enter Tryz.func16,Tryz.ntmps16
 go_wp2_with fail
 refine Calls.mono (HG.out _ HT.out H.out.cnt HS.out) ?_
 rintro e w1 ⟨b2,v0,v1,v2,v3,v4,v5,v6,rfl,hcn,hpk,hb⟩
 have HB:=Lib.hid hb
 have HCn:=Lib.hid hcn
 have HPk:=Lib.hid hpk
 obtain ⟨o0,o1,o2,o3,o4,o5,o6⟩:=hpk.1
 clear c0 c1 c2 c3 c4 c5 c6 hb hcn hpk
 go_wp2_with (first | (refine wpList_store_row (o:=⟨none,.store 111 (.tmp 5) (.tmp 19),_,_,_,_⟩) rfl 111 (.tmp 5) (.tmp 19) rfl w1.heap.size #[.int .i64 (L:Nat),.int .i64 (t:Nat),.int .i64 (k:Nat),.int .u32 (D:Nat),.map (some b2)] rfl rfl _ _ (hal (hnew rfl)) info_gate rfl (ones_gate rfl) ?_) | (refine wpList_store_rowS (o:=⟨none,.store 122 (.tmp 6) (.tmp 20),_,_,_,_⟩) rfl 122 (.tmp 6) (.tmp 20) rfl (w1.heap.size + 1) #[v0,v1,v2,v3,v4,v5,v6] rfl rfl _ _ (hro (hnew (by simp)) (by omega)) info_packet rfl (by simp [o0,o1,o2,o3,o4,o5,o6]) ?_))
 intro w2 hr2
 have HB2:Hid (Below w.heap.size w w2):=by rw [hr2.eq];exact below_row (below_row (al (al HB.out HB.out.size) (by have:=HB.out.size;simp;omega)) HB.out.size) (by have:=HB.out.size;omega)
 have k5:w2.heap[w1.heap.size]? = some (.cells #[.int .i64 (L:Nat),.int .i64 (t:Nat),.int .i64 (k:Nat),.int .u32 (D:Nat),.map (some b2)] 111 (0,0)):=by rw [hr2.eq];exact hro (hrs (hal (hnew rfl))) (by omega)
 have k6:w2.heap[w1.heap.size + 1]? = some (.cells #[v0,v1,v2,v3,v4,v5,v6] 122 (0,0)):=by rw [hr2.eq];exact hrs (hro (hnew (by simp)) (by omega))
 have kt:=(HB2.out.block _ (lt_of_block H.out.box)).trans H.out.box
 have HPk2:Hid (PkC w2 w.heap.size k t D xs v0 v1 v2 v3 v4 v5 v6):=by rw [hr2.eq];exact ((HPk.out.keep (al (al (Below.refl _ _) (Nat.le_refl _)) (by simp))).row (hal (hnew rfl)) gate_ne).row (hro (hnew (by simp)) (by omega)) pkt_ne
 have HCn2:Hid (CntM w2 (.map (some b2)) (N + 1) (bump C 0)):=by rw [hr2.eq];exact ((HCn.out.keep (al (al (Below.refl _ _) (Nat.le_refl _)) (by simp))).row (hal (hnew rfl))).row (hro (hnew (by simp)) (by omega))
 have hgt:=lt_of_block H.out.box
 have hG5:=HB.out.size
 clear hr2 HCn HPk HB
 obtain ⟨g5,hg5⟩:∃ g5,g5 = w1.heap.size:=⟨_,rfl⟩
 rw [← hg5] at k5 k6 hG5 ⊢
 clear hg5
 obtain ⟨c0,c1,c2,c3,c4,c5,c6⟩:=cells_seven kt
 obtain ⟨d0,d1,d2,d3,d4⟩:=cells_five k5
 go_wp2_with (refine wpList_store_five (o:=⟨none,.store 111 (.tmp 25) (.tmp 23),_,_,_,_⟩) rfl 111 (.tmp 25) (.tmp 23) rfl gt (L:Nat) (t:Nat) (k:Nat) (D:Nat) b2 _ _ _ _ _ _ _ _ rfl rfl kt info_gate Tryz.underlying111 ?_)
 intro w3 hO kt3
 have HO:=Lib.hid hO
 have m5:=(hO.block g5 (by omega)).trans k5
 have m6:=(hO.block (g5 + 1) (by omega)).trans k6
 have HCn3:=Lib.hid (HCn2.out.one hO kt)
 have HPk3:=Lib.hid (HPk2.out.one hO kt tk_ne.1)
 have HEl:=Lib.hid (hO.elm (H.out.elm.keep HB2.out) kt tk_ne.2.1 tk_ne.2.2 tk_ne.1)
 have HTC:=Lib.hid ((TChg.of gt be v HB2.out).one hO)
 have HT3:=Lib.hid (HT.out.keep HB2.out)
 have hs3:w3.heap.size = w2.heap.size:=hO.size
 have hl6:=lt_of_block k6
 clear k5 k6 kt hO c0 c1 c2 c3 c4 c5 c6 d0 d1 d2 d3 d4 HCn2 HPk2
 obtain ⟨c0,c1,c2,c3,c4,c5,c6⟩:=cells_seven kt3
 go_wp2
 go_ret
 exact ⟨rfl,.map (some b2),v,⟨H.out.ok,kt3,HCn3.out,HEl.out,H.out.red,H.out.old⟩,HTC.out,.inl rfl⟩
end Go.Proofs.YtccaiiigdfieoaaGreatDoor
namespace Go.Proofs.YtccaiiigdfieoaaGreatDoor
open Go.RowKit Go.By Go.Maps
def PutP (base be k t:Nat) (v:Value) (K:List Rw) (x:Rw) (w5 W:World):Prop:=∃ v' n',Elm W base be k t v' n' (putK K x)∧Chg w5 W be v∧(v'.ownBlock = v.ownBlock∨∀ b,v'.ownBlock = some b→w5.heap.size≤b)
set_option maxRecDepth 100000 in
set_option maxHeartbeats 4000000 in
theorem TTake_put (base gt be L t k D N:Nat) (M v:Value) (C:DataW Unit) (K:List Rw) (st:Nat) (p:Option Addr) (n c:Nat) (xs:List UInt8) (w:World) (h:Tkr w base gt be L t k D N M v C K st) (hT:HalfT w) (hN:N < 1000000) (hs:Sl B8 w p n c xs) (hr:Room n) (hc:readC k t D xs = 0) (hst:st = 0) :
  Calls Tryz.prog 16 #[.pointer (some ⟨gt,0,none⟩),.slice p n c] w (TkRet w base gt be L t k D (N + 1) v (bump C (readC k t D xs)) (putK K (eqX k t xs)) (nextS K (eqX k t xs) k) (readC k t D xs)):=by
 have HG:Hid (∀ w,HalfT w→CntM w M N C→Sl B8 w p n c xs→Calls Tryz.prog 62 #[GVal L t k D M,.slice p n c] w fun e w'=>∃ b2 v0 v1 v2 v3 v4 v5 v6,e = .returned (.tuple #[GVal L t k D (.map (some b2)),.agg #[v0,v1,v2,v3,v4,v5,v6],.int .i64 (readC k t D xs)]) ∧
   CntM w' (.map (some b2)) (N + 1) (bump C (readC k t D xs))∧PkC w' w.heap.size k t D xs v0 v1 v2 v3 v4 v5 v6∧Below w.heap.size w w'):=fun w hT hC hs=>GLook_any L t k D N M C p n c xs w h.ok hT hC hN hs hr
 have H:=Lib.hid h
 have HT:=Lib.hid hT
 have HS:=Lib.hid hs
 obtain ⟨c0,c1,c2,c3,c4,c5,c6⟩:=cells_seven h.box
 rw [hc] at HG ⊢
 have HC:=Lib.hid hc
 subst hst
 obtain ⟨hmo,hX0,hYl⟩:=read_fits hc
 have hXl:(pktX k xs).length≤4096:=by
  have:=h.ok.k2
  by_cases h0:pktM xs = 0
  ·rw [hX0 h0];exact this
  ·have e:pktX k xs = []:=if_neg h0
   rw [e];simp
 have hVl:(vecS (pktM xs) (pktX k xs) (pktS k xs) k).length = k:=by
  unfold vecS
  by_cases h0:pktM xs = 0
  ·rw [if_pos h0];exact hX0 h0
  ·rw [if_neg h0,mixRow_len]
 have HQ:Hid (∀ w p j c s q d,j = (pktX k xs).length→s = pktS k xs→Sl B8 w p j c (pktX k xs)→Sl B8 w q t d (pktY k t xs)→Calls Tryz.prog 63 #[PkVal (pktM xs) D (pktN xs) (pktM xs) p j c s q t d,PVal L t k D] w (EqRet w (eqX k t xs).1 (eqX k t xs).2)):=fun w p j c s q d hj hs s1 s2=>by
  subst hs
  exact PEquation_ok L t k D (pktN xs) (pktM xs) p j c (pktS k xs) q d (pktX k xs) (pktY k t xs) w h.ok hmo (fun h0=>by rw [hj];exact hX0 h0) (by rw [hj];show _≤_;omega) s1 s2
 obtain ⟨x,hx⟩:∃ x,eqX k t xs = x:=⟨_,rfl⟩
 have hx1:x.1.length = k:=by rw [← hx];exact hVl
 have hx2:x.2.length = t:=by rw [← hx];exact hYl
 rw [hx] at HQ ⊢
 have HX1:=Lib.hid hx1
 have HX2:=Lib.hid hx2
 have HYl:=Lib.hid hYl
 clear h hT hs hr hN hc hmo hX0 hYl hXl hVl hx hx1 hx2
 go_enter Tryz.func16,Tryz.ntmps16
 go_wp2_with fail
 refine Calls.mono (HG.out _ HT.out H.out.cnt HS.out) ?_
 rintro e w1 ⟨b2,v0,v1,v2,v3,v4,v5,v6,rfl,hcn,hpk,hb⟩
 have HB:=Lib.hid hb
 have HCn:=Lib.hid hcn
 have HPk:=Lib.hid hpk
 obtain ⟨o0,o1,o2,o3,o4,o5,o6⟩:=hpk.1
 clear c0 c1 c2 c3 c4 c5 c6 hb hcn hpk
 go_wp2_with (first | (refine wpList_store_row (o:=⟨none,.store 111 (.tmp 5) (.tmp 19),_,_,_,_⟩) rfl 111 (.tmp 5) (.tmp 19) rfl w1.heap.size #[.int .i64 (L:Nat),.int .i64 (t:Nat),.int .i64 (k:Nat),.int .u32 (D:Nat),.map (some b2)] rfl rfl _ _ (hal (hnew rfl)) info_gate rfl (ones_gate rfl) ?_) | (refine wpList_store_rowS (o:=⟨none,.store 122 (.tmp 6) (.tmp 20),_,_,_,_⟩) rfl 122 (.tmp 6) (.tmp 20) rfl (w1.heap.size + 1) #[v0,v1,v2,v3,v4,v5,v6] rfl rfl _ _ (hro (hnew (by simp)) (by omega)) info_packet rfl (by simp [o0,o1,o2,o3,o4,o5,o6]) ?_))
 intro w2 hr2
 have HB2:Hid (Below w.heap.size w w2):=by rw [hr2.eq];exact below_row (below_row (al (al HB.out HB.out.size) (by have:=HB.out.size;simp;omega)) HB.out.size) (by have:=HB.out.size;omega)
 have k5:w2.heap[w1.heap.size]? = some (.cells #[.int .i64 (L:Nat),.int .i64 (t:Nat),.int .i64 (k:Nat),.int .u32 (D:Nat),.map (some b2)] 111 (0,0)):=by rw [hr2.eq];exact hro (hrs (hal (hnew rfl))) (by omega)
 have k6:w2.heap[w1.heap.size + 1]? = some (.cells #[v0,v1,v2,v3,v4,v5,v6] 122 (0,0)):=by rw [hr2.eq];exact hrs (hro (hnew (by simp)) (by omega))
 have kt:=(HB2.out.block _ (lt_of_block H.out.box)).trans H.out.box
 have HPk2:Hid (PkC w2 w.heap.size k t D xs v0 v1 v2 v3 v4 v5 v6):=by rw [hr2.eq];exact ((HPk.out.keep (al (al (Below.refl _ _) (Nat.le_refl _)) (by simp))).row (hal (hnew rfl)) gate_ne).row (hro (hnew (by simp)) (by omega)) pkt_ne
 have HCn2:Hid (CntM w2 (.map (some b2)) (N + 1) (bump C 0)):=by rw [hr2.eq];exact ((HCn.out.keep (al (al (Below.refl _ _) (Nat.le_refl _)) (by simp))).row (hal (hnew rfl))).row (hro (hnew (by simp)) (by omega))
 have hgt:=lt_of_block H.out.box
 have hG5:=HB.out.size
 clear hr2 HCn HPk HB
 obtain ⟨g5,hg5⟩:∃ g5,g5 = w1.heap.size:=⟨_,rfl⟩
 rw [← hg5] at k5 k6 hG5 ⊢
 clear hg5
 obtain ⟨c0,c1,c2,c3,c4,c5,c6⟩:=cells_seven kt
 obtain ⟨d0,d1,d2,d3,d4⟩:=cells_five k5
 go_wp2_with (refine wpList_store_five (o:=⟨none,.store 111 (.tmp 25) (.tmp 23),_,_,_,_⟩) rfl 111 (.tmp 25) (.tmp 23) rfl gt (L:Nat) (t:Nat) (k:Nat) (D:Nat) b2 _ _ _ _ _ _ _ _ rfl rfl kt info_gate Tryz.underlying111 ?_)
 intro w3 hO kt3
 have HO:=Lib.hid hO
 have m5:=(hO.block g5 (by omega)).trans k5
 have m6:=(hO.block (g5 + 1) (by omega)).trans k6
 have HCn3:=Lib.hid (HCn2.out.one hO kt)
 have HPk3:=Lib.hid (HPk2.out.one hO kt tk_ne.1)
 have HEl:=Lib.hid (hO.elm (H.out.elm.keep HB2.out) kt tk_ne.2.1 tk_ne.2.2 tk_ne.1)
 have HTC:=Lib.hid ((TChg.of gt be v HB2.out).one hO)
 have HT3:=Lib.hid (HT.out.keep HB2.out)
 have hs3:w3.heap.size = w2.heap.size:=hO.size
 have hl6:=lt_of_block k6
 clear k5 k6 kt hO c0 c1 c2 c3 c4 c5 c6 d0 d1 d2 d3 d4 HCn2 HPk2
 obtain ⟨c0,c1,c2,c3,c4,c5,c6⟩:=cells_seven kt3
 obtain ⟨q,j,cq,q2,j2,cq2,r0,r1,r2,r3,r4,r5,r6,f1,f2⟩:=HPk3.out.2 HC.out
 subst r0 r1 r2 r3 r4 r5 r6
 have hj2:t = j2:=by rw [← f2.sl.len];exact HYl.out.symm
 subst hj2
 have hj:=f1.sl.len
 have F1:=Lib.hid f1.sl
 have F2:=Lib.hid f2.sl
 have HJ:=Lib.hid hj.symm
 clear f1 f2 hj
 obtain ⟨d0,d1,d2,d3,d4⟩:=cells_five m5
 obtain ⟨f0,f1,f2,f3,f4,f5,f6⟩:=cells_seven m6
 go_wp2_with fail
 refine Calls.mono (HQ.out _ _ _ _ _ _ _ HJ.out rfl F1.out F2.out) ?_
 rintro e w4 ⟨qa,na,ca,qb,nb,cb,rfl,Fa,Fb,hb⟩
 have hna:k = na:=by rw [← Fa.sl.len];exact HX1.out.symm
 have hnb:t = nb:=by rw [← Fb.sl.len];exact HX2.out.symm
 subst hna hnb
 have kt4:=(hb.block _ (lt_of_block kt3)).trans kt3
 have n5:=(hb.block _ (lt_of_block m5)).trans m5
 have HCn4:=Lib.hid (HCn3.out.keep hb)
 have HEl4:=Lib.hid (HEl.out.keep hb)
 have HTC4:=Lib.hid (HTC.out.then hb)
 have SA:=Lib.hid Fa.sl
 have SB:=Lib.hid Fb.sl
 have hown:v.ownBlock≠some w4.heap.size:=fun e=>by have:=(HEl4.out.rows.lt _ e).2;omega
 have HW:=Lib.hid (lt_of_block m5)
 have hs4:=hb.size
 clear hb kt3 m5 m6 HCn3 HPk3 HEl HTC Fa Fb c0 c1 c2 c3 c4 c5 c6 d0 d1 d2 d3 d4 f0 f1 f2 f3 f4 f5 f6
 go_wp2_with fail
 have kt5:(w4.alloc (.cells #[.slice qa k ca,.slice qb t cb] 99 (0,0))).heap[gt]? = some (.cells #[.int .i64 (L:Nat),.int .i64 (t:Nat),.int .i64 (k:Nat),.int .u32 (D:Nat),.map (some b2),.pointer (some ⟨be,0,none⟩),.int .i64 (0:Nat)] 118 (0,0)):=hal kt4
 have kg5:(w4.alloc (.cells #[.slice qa k ca,.slice qb t cb] 99 (0,0))).heap[g5]? = some (.cells #[.int .i64 (L:Nat),.int .i64 (t:Nat),.int .i64 (k:Nat),.int .u32 (D:Nat),.map (some b2)] 111 (0,0)):=hal n5
 have kr5:(w4.alloc (.cells #[.slice qa k ca,.slice qb t cb] 99 (0,0))).heap[w4.heap.size]? = some (.cells #[.slice qa k ca,.slice qb t cb] 99 (0,0)):=hnew rfl
 have HCn5:=Lib.hid (HCn4.out.keep (al (o:=.cells #[.slice qa k ca,.slice qb t cb] 99 (0,0)) (Below.refl _ _) (Nat.le_refl _)))
 have HEl5:=Lib.hid (HEl4.out.keep (al (o:=.cells #[.slice qa k ca,.slice qb t cb] 99 (0,0)) (Below.refl _ _) (Nat.le_refl _)))
 have HTC5:=Lib.hid (HTC4.out.then (al (o:=.cells #[.slice qa k ca,.slice qb t cb] 99 (0,0)) (Below.refl _ _) (Nat.le_refl _)))
 have SA5:=Lib.hid (SA.out.keep (al (o:=.cells #[.slice qa k ca,.slice qb t cb] 99 (0,0)) (Below.refl _ _) (Nat.le_refl _)))
 have SB5:=Lib.hid (SB.out.keep (al (o:=.cells #[.slice qa k ca,.slice qb t cb] 99 (0,0)) (Below.refl _ _) (Nat.le_refl _)))
 clear kt4 n5 HCn4 HEl4 HTC4 SA SB
 obtain ⟨g8,hg8⟩:∃ g8,g8 = w4.heap.size:=⟨_,rfl⟩
 rw [← hg8] at kr5 hown hs4 ⊢
 clear hg8
 generalize w4.alloc (.cells #[.slice qa k ca,.slice qb t cb] 99 (0,0)) = w5 at *
 have hmem:Hid (∀ W,(W = w5.drew∨PutP base be k t v K x w5 W)→W.heap[gt]? = some (.cells #[.int .i64 (L:Nat),.int .i64 (t:Nat),.int .i64 (k:Nat),.int .u32 (D:Nat),.map (some b2),.pointer (some ⟨be,0,none⟩),.int .i64 (0:Nat)] 118 (0,0))∧W.heap[g8]? = some (.cells #[.slice qa k ca,.slice qb t cb] 99 (0,0))):=by
  intro W hW
  rcases hW with rfl | ⟨v',n',-,hc,-⟩
  ·exact ⟨kt5,kr5⟩
  ·exact ⟨hc.blk2 HEl5.out kt5 tk_ne.2.1 tk_ne.2.2,hc.blk HEl5.out kr5 (by decide) hown⟩
 refine wp_region_call (fun ix=>([.pointer (some ⟨gt,0,none⟩),.pointer (some ⟨gt,0,none⟩),.pointer (some ⟨gt,5,none⟩),.pointer (some ⟨be,0,none⟩),.agg #[.slice qa k ca,.slice qb t cb],.tuple #[.int .i64 (codeF K x),.int .i64 0],.tuple #[.int .i64 (codeF K x),.int .i64 0],.int .i64 (codeF K x),.int .i64 0,.int .i64 (codeF K x),.int .i64 0][ix]?).getD undef) 75 5 (PutP base be k t v K x w5) rfl (by kernel_rfl) (by decide) (by decide) (by decide) (by decide) (by decide) ?_ ?_ ?_
 ·intro i o h1 ho a W hW hs hp hi
  obtain ⟨m1,m2⟩:=hmem.out W hW
  match i,h1,ho with
  | 0,_,ho =>
   simp at ho;subst ho
   have tt:sl a 0 = .pointer (some ⟨gt,0,none⟩):=hi 0 (by decide)
   simp only [execOp,eval_tmp,tt];rfl
  | 1,_,ho =>
   simp at ho;subst ho
   have tt:sl a 47 = .pointer (some ⟨gt,0,none⟩):=hp 0 47 (by decide) rfl
   simp only [execOp,eval_tmp,tt];simp [go_sem]
  | 2,_,ho =>
   simp at ho;subst ho
   have tt:sl a 48 = .pointer (some ⟨gt,0,none⟩):=hp 1 48 (by decide) rfl
   simp only [execOp,eval_tmp,tt];simp [go_sem]
  | 3,_,ho =>
   simp at ho;subst ho
   have tt:sl a 49 = .pointer (some ⟨gt,5,none⟩):=hp 2 49 (by decide) rfl
   obtain ⟨x0,x1,x2,x3,x4,x5,x6⟩:=cells_seven m1
   simp only [execOp,eval_tmp,tt];simp [go_sem,x5]
  | 4,_,ho =>
   simp at ho;subst ho
   have tt:sl a 8 = .pointer (some ⟨g8,0,none⟩):=hi 8 (by decide)
   obtain ⟨x0,x1⟩:=cells2 m2
   simp only [execOp,eval_tmp,tt];simp [go_sem,x0,x1]
  | 6,_,ho =>
   simp at ho;subst ho
   have tt:sl a 52 = .tuple #[.int .i64 (codeF K x),.int .i64 0]:=hp 5 52 (by decide) rfl
   simp only [execOp,eval_tmp,tt];rfl
  | 7,_,ho =>
   simp at ho;subst ho
   have tt:sl a 46 = .tuple #[.int .i64 (codeF K x),.int .i64 0]:=hp 6 46 (by decide) rfl
   simp only [execOp,eval_tmp,tt];rfl
  | 8,_,ho =>
   simp at ho;subst ho
   have tt:sl a 46 = .tuple #[.int .i64 (codeF K x),.int .i64 0]:=hp 6 46 (by decide) rfl
   simp only [execOp,eval_tmp,tt];rfl
  | 9,_,ho =>
   simp at ho;subst ho
   have tt:sl a 53 = .int .i64 (codeF K x):=hp 7 53 (by decide) rfl
   simp only [execOp,eval_tmp,tt];rfl
  | 10,_,ho =>
   simp at ho;subst ho
   have tt:sl a 54 = .int .i64 0:=hp 8 54 (by decide) rfl
   simp only [execOp,eval_tmp,tt];rfl
  | 5,h,_=>exact absurd rfl h
  | j + 11,_,ho=>simp at ho
 ·intro o ho a hs hp hi
  simp at ho;subst ho
  have t50:sl a 50 = .pointer (some ⟨be,0,none⟩):=hp 3 50 (by decide) rfl
  have t51:sl a 51 = .agg #[.slice qa k ca,.slice qb t cb]:=hp 4 51 (by decide) rfl
  have hbd:Below w5.heap.size w5 w5.drew:=⟨rfl,rfl,rfl,Nat.le_refl _,fun _ _=>rfl⟩
  refine wp_enter 64 #[.pointer (some ⟨be,0,none⟩),.agg #[.slice qa k ca,.slice qb t cb]] ?_ (EPut_fit base be k t K.length v K qa qb ca cb x w5.drew (HEl5.out.keep hbd) (SA5.out.keep hbd) (SB5.out.keep hbd) H.out.red H.out.ok.k2 H.out.ok.t2 (Nat.le_trans (Red.le H.out.red) H.out.ok.k2)) ?_
  ·simp only [execOp,resolve,List.map_toArray,List.map,eval_tmp,eval_func,eval_const,t50,t51];simp [go_sem]
  ·rintro e W' ⟨rfl,v',n',g1,g2,g3⟩
   exact ⟨_,rfl,rfl,v',n',g1,⟨g2.os,g2.tape,g2.output,g2.size,g2.block⟩,g3⟩
 ·intro a W hP1 hs hd hI ht
  have ha:=act_is [47,48,49,50,51,52,46,53,54,9,7] hs hd ht (by decide)
  have t9:sl a 9 = .int .i64 (codeF K x):=hI 9 9 (by decide) rfl
  have t7:sl a 7 = .int .i64 0:=hI 10 7 (by decide) rfl
  simp only [List.foldl,t9,t7] at ha
  generalize sl a 47 = u47 at ha
  generalize sl a 48 = u48 at ha
  generalize sl a 49 = u49 at ha
  generalize sl a 50 = u50 at ha
  generalize sl a 51 = u51 at ha
  generalize sl a 52 = u52 at ha
  generalize sl a 46 = u46 at ha
  generalize sl a 53 = u53 at ha
  generalize sl a 54 = u54 at ha
  simp only [Act.put,List.setIfInBounds_toArray,List.set_cons_zero,List.set_cons_succ] at ha
  rw [ha]
  obtain ⟨kt6,-⟩:=hmem.out W (.inr hP1)
  have kg6:W.heap[g5]? = some (.cells #[.int .i64 (L:Nat),.int .i64 (t:Nat),.int .i64 (k:Nat),.int .u32 (D:Nat),.map (some b2)] 111 (0,0)):=by
   obtain ⟨v',n',-,hc,-⟩:=hP1
   exact hc.blk2 HEl5.out kg5 (by decide) (by decide)
  have HCn6:Hid (CntM W (.map (some b2)) (N + 1) (bump C 0)):=by
   obtain ⟨v',n',-,hc,-⟩:=hP1
   refine ⟨?_,HCn5.out.small⟩
   rcases HCn5.out.at_ with h1 | ⟨bb,e,ho⟩
   ·exact .inl h1
   ·refine .inr ⟨bb,e,?_⟩
    have hlt:=ho.lt
    obtain ⟨es,clock,j1,F,j2,j3⟩:=ho
    refine ⟨es,clock,(hc.block bb hlt (fun e=>?_) (fun e=>?_)).trans j1,F,j2,j3⟩
    ·have:=HEl5.out.box;rw [← e,j1] at this;cases this
    ·obtain ⟨vs,_,_,o,_⟩:=HEl5.out.rows
     rcases o.2 with ⟨e1,_⟩ | ⟨g',cap,cur,e1,_,hh,_⟩
     ·rw [e1] at e;cases e
     ·rw [e1] at e;cases e
      rw [j1] at hh;cases hh
  obtain ⟨v',n',hE6,hc6,ho6⟩:=hP1
  have hn':n' = (putK K x).length:=hE6.rows.len.symm
  subst hn'
  have HE6:=Lib.hid hE6
  have HTC6:=Lib.hid (HTC5.out.chg hc6)
  have HO6:Hid (v'.ownBlock = v.ownBlock∨∀ b,v'.ownBlock = some b→w.heap.size≤b):=by
   rcases ho6 with h | h
   ·exact .inl h
   ·exact .inr fun b hb=>Nat.le_trans HTC5.out.size (h b hb)
  have HRd:Hid (Red k t (putK K x)):=by
   unfold putK
   by_cases hn:leadS (restF K x).1 < 0
   ·rw [if_pos hn];exact H.out.red
   ·rw [if_neg hn];exact (putF_red H.out.red ⟨HX1.out,HX2.out⟩ hn).1
  clear ha hI ht hs hd t9 t7 hE6 hc6 ho6 kt5 kg5 kr5 hmem hown
  obtain ⟨x0,x1,x2,x3,x4,x5,x6⟩:=cells_seven kt6
  have z6:=frozen_of_row _ _ 6 _ _ kt6
  have y2:=(cells_five kg6).2.2.1
  by_cases hcl:codeF K x = 2
  ·have HNX:Hid (nextS K x k = 2):=by unfold nextS;rw [if_pos hcl];rfl
   go_wp2
   go_ret
   have hO:OneE W gt (W.setCell ⟨gt,6,none⟩ (.int .i64 2)):=(OneE.refl W gt).set _
   exact ⟨rfl,.map (some b2),v',⟨H.out.ok,by rw [HNX.out];exact hss kt6,HCn6.out.one hO kt6,hO.elm HE6.out kt6 tk_ne.2.1 tk_ne.2.2 tk_ne.1,HRd.out,H.out.old⟩,HTC6.out.one hO,HO6.out⟩
  ·have e9:(codeF K x == 2) = false:=beq_eq_false_iff_ne.2 hcl
   by_cases hfull:(putK K x).length = k
   ·have HNX:Hid (nextS K x k = 1):=by unfold nextS;rw [if_neg hcl,if_pos hfull];rfl
    have e15:(((putK K x).length:Int) == (k:Int)) = true:=by simp [hfull]
    clear hcl hfull
    go_wp2_with fail
    refine wp_region_shapes (fun ix=>([.val (.pointer (some ⟨gt,0,none⟩)),.val (.pointer (some ⟨gt,0,none⟩)),.val (.pointer (some ⟨gt,5,none⟩)),.val (.pointer (some ⟨be,0,none⟩)),.val (.int .i64 ((putK K x).length:Nat)),.val (.pointer (some ⟨g5,0,none⟩)),.val (.pointer (some ⟨g5,2,none⟩)),.val (.int .i64 (k:Nat)),.val (.bool true)][ix]?).getD (.any)) 75 rfl (by kernel_rfl) (by decide) (by decide) (by decide) ?_ ?_
    ·refine ⟨?_,?_,?_,?_,?_,?_,?_,?_,?_,trivial⟩
     ·intro a W hb0 hs hp hi;have hb:=undrew hb0;clear hb0
      have t0:sl a 0 = .pointer (some ⟨gt,0,none⟩):=hi 0 (by decide)
      exact ite_y rfl (wp_val (sl a 0) rfl ⟨_,rfl,Below.refl _ _,t0⟩)
     ·intro a W hb0 hs hp hi;have hb:=undrew hb0;clear hb0
      have tt:sl a 63 = .pointer (some ⟨gt,0,none⟩):=hp 0 (by decide)
      refine ite_y rfl (wp_val (.pointer (some ⟨gt,0,none⟩)) ?_ ?_)
      ·simp only [execOp,eval_tmp,tt];simp [go_sem]
      ·exact ⟨_,rfl,Below.refl _ _,rfl⟩
     ·intro a W hb0 hs hp hi;have hb:=undrew hb0;clear hb0
      have t64:sl a 64 = .pointer (some ⟨gt,0,none⟩):=hp 1 (by decide)
      refine ite_y rfl (wp_val (.pointer (some ⟨gt,5,none⟩)) ?_ ?_)
      ·simp only [execOp,eval_tmp,eval_const,t64];simp [go_sem]
      ·exact ⟨_,rfl,Below.refl _ _,rfl⟩
     ·intro a W hb0 hs hp hi;have hb:=undrew hb0;clear hb0
      have tt:sl a 65 = .pointer (some ⟨gt,5,none⟩):=hp 2 (by decide)
      have dd:=(hb.cell (p:=⟨gt,5,none⟩) (lt_of_cell x5)).trans x5
      refine ite_y rfl (wp_val (.pointer (some ⟨be,0,none⟩)) ?_ ?_)
      ·simp only [execOp,eval_tmp,tt];simp [go_sem,dd]
      ·exact ⟨_,rfl,Below.refl _ _,rfl⟩
     ·intro a W hb0 hs hp hi;have hb:=undrew hb0;clear hb0
      have t66:sl a 66 = .pointer (some ⟨be,0,none⟩):=hp 3 (by decide)
      refine ite_y rfl (wp_enter 65 #[.pointer (some ⟨be,0,none⟩)] ?_ (Rank_any' base be k t _ v' _ _ (HE6.out.keep hb)) ?_)
      ·simp only [execOp,resolve,List.map_toArray,List.map,eval_tmp,eval_func,eval_const,t66];simp [go_sem]
      ·rintro e W' ⟨rfl,rfl⟩;exact ⟨_,rfl,_,rfl,Below.refl _ _,rfl⟩
     ·intro a W hb0 hs hp hi;have hb:=undrew hb0;clear hb0
      have tt:sl a 5 = .pointer (some ⟨g5,0,none⟩):=hi 5 (by decide)
      refine ite_y rfl (wp_val (.pointer (some ⟨g5,0,none⟩)) ?_ ?_)
      ·simp only [execOp,eval_tmp,tt];simp [go_sem]
      ·exact ⟨_,rfl,Below.refl _ _,rfl⟩
     ·intro a W hb0 hs hp hi;have hb:=undrew hb0;clear hb0
      have tt:sl a 68 = .pointer (some ⟨g5,0,none⟩):=hp 5 (by decide)
      refine ite_y rfl (wp_val (.pointer (some ⟨g5,2,none⟩)) ?_ ?_)
      ·simp only [execOp,eval_tmp,tt];simp [go_sem]
      ·exact ⟨_,rfl,Below.refl _ _,rfl⟩
     ·intro a W hb0 hs hp hi;have hb:=undrew hb0;clear hb0
      have tt:sl a 69 = .pointer (some ⟨g5,2,none⟩):=hp 6 (by decide)
      have dd:=(hb.cell (p:=⟨g5,2,none⟩) (lt_of_cell y2)).trans y2
      refine ite_y rfl (wp_val (.int .i64 (k:Nat)) ?_ ?_)
      ·simp only [execOp,eval_tmp,tt];simp [go_sem,dd]
      ·exact ⟨_,rfl,Below.refl _ _,rfl⟩
     ·intro a W hb0 hs hp hi;have hb:=undrew hb0;clear hb0
      have t67:sl a 67 = .int .i64 ((putK K x).length:Nat):=hp 4 (by decide)
      have t70:sl a 70 = .int .i64 (k:Nat):=hp 7 (by decide)
      refine ite_y rfl (wp_val (.bool true) ?_ ?_)
      ·simp only [execOp,eval_tmp,eval_const,t67,t70];simp [go_sem,e15]
      ·exact ⟨_,rfl,Below.refl _ _,rfl⟩
    intro a w9 hb hs hd hI ht
    have ha:=act_is [63,64,65,66,67,68,69,70,71] hs hd ht (by decide)
    have t71:sl a 71 = .bool true:=hI 8 (by decide)
    simp only [List.foldl,t71] at ha
    generalize sl a 63 = u63 at ha
    generalize sl a 64 = u64 at ha
    generalize sl a 65 = u65 at ha
    generalize sl a 66 = u66 at ha
    generalize sl a 67 = u67 at ha
    generalize sl a 68 = u68 at ha
    generalize sl a 69 = u69 at ha
    generalize sl a 70 = u70 at ha
    simp only [Act.put,List.setIfInBounds_toArray,List.set_cons_zero,List.set_cons_succ] at ha
    rw [ha]
    clear ha hI ht
    have kt7:=(hb.block _ (lt_of_block kt6)).trans kt6
    have HB7:=Lib.hid hb
    obtain ⟨x0,x1,x2,x3,x4,x5,x6⟩:=cells_seven kt7
    have z6:=frozen_of_row _ _ 6 _ _ kt7
    clear hb
    go_wp2
    go_ret
    have hO:OneE w9 gt (w9.setCell ⟨gt,6,none⟩ (.int .i64 1)):=(OneE.refl w9 gt).set _
    exact ⟨rfl,.map (some b2),v',⟨H.out.ok,by rw [HNX.out];exact hss kt7,(HCn6.out.keep HB7.out).one hO kt7,hO.elm (HE6.out.keep HB7.out) kt7 tk_ne.2.1 tk_ne.2.2 tk_ne.1,HRd.out,H.out.old⟩,(HTC6.out.then HB7.out).one hO,HO6.out⟩
   ·have HNX:Hid (nextS K x k = 0):=by unfold nextS;rw [if_neg hcl,if_neg hfull];rfl
    have e15:(((putK K x).length:Int) == (k:Int)) = false:=beq_eq_false_iff_ne.2 (by omega)
    clear hcl hfull
    go_wp2_with fail
    refine wp_region_shapes (fun ix=>([.val (.pointer (some ⟨gt,0,none⟩)),.val (.pointer (some ⟨gt,0,none⟩)),.val (.pointer (some ⟨gt,5,none⟩)),.val (.pointer (some ⟨be,0,none⟩)),.val (.int .i64 ((putK K x).length:Nat)),.val (.pointer (some ⟨g5,0,none⟩)),.val (.pointer (some ⟨g5,2,none⟩)),.val (.int .i64 (k:Nat)),.val (.bool false)][ix]?).getD (.any)) 75 rfl (by kernel_rfl) (by decide) (by decide) (by decide) ?_ ?_
    ·refine ⟨?_,?_,?_,?_,?_,?_,?_,?_,?_,trivial⟩
     ·intro a W hb0 hs hp hi;have hb:=undrew hb0;clear hb0
      have t0:sl a 0 = .pointer (some ⟨gt,0,none⟩):=hi 0 (by decide)
      exact ite_y rfl (wp_val (sl a 0) rfl ⟨_,rfl,Below.refl _ _,t0⟩)
     ·intro a W hb0 hs hp hi;have hb:=undrew hb0;clear hb0
      have tt:sl a 63 = .pointer (some ⟨gt,0,none⟩):=hp 0 (by decide)
      refine ite_y rfl (wp_val (.pointer (some ⟨gt,0,none⟩)) ?_ ?_)
      ·simp only [execOp,eval_tmp,tt];simp [go_sem]
      ·exact ⟨_,rfl,Below.refl _ _,rfl⟩
     ·intro a W hb0 hs hp hi;have hb:=undrew hb0;clear hb0
      have t64:sl a 64 = .pointer (some ⟨gt,0,none⟩):=hp 1 (by decide)
      refine ite_y rfl (wp_val (.pointer (some ⟨gt,5,none⟩)) ?_ ?_)
      ·simp only [execOp,eval_tmp,eval_const,t64];simp [go_sem]
      ·exact ⟨_,rfl,Below.refl _ _,rfl⟩
     ·intro a W hb0 hs hp hi;have hb:=undrew hb0;clear hb0
      have tt:sl a 65 = .pointer (some ⟨gt,5,none⟩):=hp 2 (by decide)
      have dd:=(hb.cell (p:=⟨gt,5,none⟩) (lt_of_cell x5)).trans x5
      refine ite_y rfl (wp_val (.pointer (some ⟨be,0,none⟩)) ?_ ?_)
      ·simp only [execOp,eval_tmp,tt];simp [go_sem,dd]
      ·exact ⟨_,rfl,Below.refl _ _,rfl⟩
     ·intro a W hb0 hs hp hi;have hb:=undrew hb0;clear hb0
      have t66:sl a 66 = .pointer (some ⟨be,0,none⟩):=hp 3 (by decide)
      refine ite_y rfl (wp_enter 65 #[.pointer (some ⟨be,0,none⟩)] ?_ (Rank_any' base be k t _ v' _ _ (HE6.out.keep hb)) ?_)
      ·simp only [execOp,resolve,List.map_toArray,List.map,eval_tmp,eval_func,eval_const,t66];simp [go_sem]
      ·rintro e W' ⟨rfl,rfl⟩;exact ⟨_,rfl,_,rfl,Below.refl _ _,rfl⟩
     ·intro a W hb0 hs hp hi;have hb:=undrew hb0;clear hb0
      have tt:sl a 5 = .pointer (some ⟨g5,0,none⟩):=hi 5 (by decide)
      refine ite_y rfl (wp_val (.pointer (some ⟨g5,0,none⟩)) ?_ ?_)
      ·simp only [execOp,eval_tmp,tt];simp [go_sem]
      ·exact ⟨_,rfl,Below.refl _ _,rfl⟩
     ·intro a W hb0 hs hp hi;have hb:=undrew hb0;clear hb0
      have tt:sl a 68 = .pointer (some ⟨g5,0,none⟩):=hp 5 (by decide)
      refine ite_y rfl (wp_val (.pointer (some ⟨g5,2,none⟩)) ?_ ?_)
      ·simp only [execOp,eval_tmp,tt];simp [go_sem]
      ·exact ⟨_,rfl,Below.refl _ _,rfl⟩
     ·intro a W hb0 hs hp hi;have hb:=undrew hb0;clear hb0
      have tt:sl a 69 = .pointer (some ⟨g5,2,none⟩):=hp 6 (by decide)
      have dd:=(hb.cell (p:=⟨g5,2,none⟩) (lt_of_cell y2)).trans y2
      refine ite_y rfl (wp_val (.int .i64 (k:Nat)) ?_ ?_)
      ·simp only [execOp,eval_tmp,tt];simp [go_sem,dd]
      ·exact ⟨_,rfl,Below.refl _ _,rfl⟩
     ·intro a W hb0 hs hp hi;have hb:=undrew hb0;clear hb0
      have t67:sl a 67 = .int .i64 ((putK K x).length:Nat):=hp 4 (by decide)
      have t70:sl a 70 = .int .i64 (k:Nat):=hp 7 (by decide)
      refine ite_y rfl (wp_val (.bool false) ?_ ?_)
      ·simp only [execOp,eval_tmp,eval_const,t67,t70];simp [go_sem,e15]
      ·exact ⟨_,rfl,Below.refl _ _,rfl⟩
    intro a w9 hb hs hd hI ht
    have ha:=act_is [63,64,65,66,67,68,69,70,71] hs hd ht (by decide)
    have t71:sl a 71 = .bool false:=hI 8 (by decide)
    simp only [List.foldl,t71] at ha
    generalize sl a 63 = u63 at ha
    generalize sl a 64 = u64 at ha
    generalize sl a 65 = u65 at ha
    generalize sl a 66 = u66 at ha
    generalize sl a 67 = u67 at ha
    generalize sl a 68 = u68 at ha
    generalize sl a 69 = u69 at ha
    generalize sl a 70 = u70 at ha
    simp only [Act.put,List.setIfInBounds_toArray,List.set_cons_zero,List.set_cons_succ] at ha
    rw [ha]
    clear ha hI ht
    have kt7:=(hb.block _ (lt_of_block kt6)).trans kt6
    have HB7:=Lib.hid hb
    clear hb
    go_wp2
    go_ret
    exact ⟨rfl,.map (some b2),v',⟨H.out.ok,by rw [HNX.out];exact kt7,HCn6.out.keep HB7.out,HE6.out.keep HB7.out,HRd.out,H.out.old⟩,HTC6.out.then HB7.out,HO6.out⟩
def takeK (k t D:Nat) (K:List Rw) (st:Nat) (xs:List UInt8):List Rw:=if readC k t D xs = 0∧st = 0 then putK K (eqX k t xs) else K
def takeS (k t D:Nat) (K:List Rw) (st:Nat) (xs:List UInt8):Nat:=if readC k t D xs = 0∧st = 0 then nextS K (eqX k t xs) k else st
theorem TTake_any (base gt be L t k D N:Nat) (M v:Value) (C:DataW Unit) (K:List Rw) (st:Nat) (p:Option Addr) (n c:Nat) (xs:List UInt8) (w:World) (h:Tkr w base gt be L t k D N M v C K st) (hT:HalfT w) (hN:N < 1000000) (hs:Sl B8 w p n c xs) (hr:Room n) :
  Calls Tryz.prog 16 #[.pointer (some ⟨gt,0,none⟩),.slice p n c] w (TkRet w base gt be L t k D (N + 1) v (bump C (readC k t D xs)) (takeK k t D K st xs) (takeS k t D K st xs) (readC k t D xs)):=by
 unfold takeK takeS
 by_cases hc:readC k t D xs = 0
 ·by_cases hst:st = 0
  ·rw [if_pos ⟨hc,hst⟩,if_pos ⟨hc,hst⟩]
   exact TTake_put base gt be L t k D N M v C K st p n c xs w h hT hN hs hr hc hst
  ·rw [if_neg (fun e=>hst e.2),if_neg (fun e=>hst e.2)]
   exact TTake_done base gt be L t k D N M v C K st p n c xs w h hT hN hs hr hc hst
 ·rw [if_neg (fun e=>hc e.1),if_neg (fun e=>hc e.1)]
  exact TTake_bad base gt be L t k D N M v C K st p n c xs w h hT hN hs hr hc
end Go.Proofs.YtccaiiigdfieoaaGreatDoor
namespace Go.Proofs.YtccaiiigdfieoaaGreatDoor
open Go.RowKit Go.By
end Go.Proofs.YtccaiiigdfieoaaGreatDoor
namespace Go.Proofs.YtccaiiigdfieoaaGreatDoor
open Go.RowKit Go.By
theorem Sl.take {α:Type} {enc:α→Value} {w:World} {p:Option Addr} {n c k c2:Nat} {xs:List α} (h:Sl enc w p n c xs) (hk:k≤n) (h1:k≤c2) (h2:c2≤c):Sl enc w p k c2 (xs.take k):=by
 refine ⟨by rw [List.length_take,h.len];omega,h1,Nat.le_trans h2 h.max,fun e=>?_,?_⟩
 ·have:=h.nil e;omega
 ·intro i hi
  have hi':i < xs.length:=by rw [List.length_take] at hi;omega
  obtain ⟨b,o,hp,hc⟩:=h.rs i hi'
  exact ⟨b,o,hp,by rw [hc];simp⟩
theorem Sl.drop_at {α:Type} {enc:α→Value} {w:World} {ad:Addr} {n c k:Nat} {xs:List α} (h:Sl enc w (some ad) n c xs) (hk:k≤n):Sl enc w (some (ad.add k)) (n - k) (c - k) (xs.drop k):=by
 refine ⟨by rw [List.length_drop,h.len],by have:=h.le;omega,by have:=h.max;omega,fun e=>(by cases e),?_⟩
 intro i hi
 have hi':k + i < xs.length:=by rw [List.length_drop] at hi;omega
 obtain ⟨b,o,hp,hc⟩:=h.rs (k + i) hi'
 cases hp
 exact ⟨b,o + k,by rw [Addr.add_lit],by rw [show o + k + i = o + (k + i) by omega,hc];simp⟩
end Go.Proofs.YtccaiiigdfieoaaGreatDoor
namespace Go.Proofs.YtccaiiigdfieoaaGreatDoor
open Go.RowKit Go.By
def rneedsS (l s:Int):Int:=if needS l s≤4096 then needS l s else 4097
theorem rneeds_done {l s:Int} {k:Nat} {m:Int} (hl:0≤l) (hs:1≤s) (hm:m + k * s = l) (h0:(k = 0∧m = 0)∨0 < m) (h1:m≤s):needS l s = (k:Int) + 1:=by
 rcases h0 with ⟨rfl,rfl⟩ | h0
 ·have:l = 0:=by simpa using hm.symm
  subst this;rfl
 ·have hk:0≤(k:Int) * s:=Int.mul_nonneg (by omega) (by omega)
  refine needS_of (by omega) hs ?_ ?_
  ·rw [show (k:Int) + 1 - 1 = k by omega];omega
  ·rw [Int.add_mul];omega
theorem rneeds_more {l s:Int} {k:Nat} {m:Int} (hs:1≤s) (hm:m + k * s = l) (h0:0 < m):(k:Int) < needS l s:=by
 have hk:0≤(k:Int) * s:=Int.mul_nonneg (by omega) (by omega)
 obtain ⟨g1,g2⟩:=needS_spec (l:=l) (s:=s) (by omega) hs
 generalize needS l s = n at *
 have:¬ n≤(k:Int):=fun h=>by
  have:n * s≤(k:Int) * s:=Int.mul_le_mul_of_nonneg_right h (by omega)
  omega
 omega
set_option maxRecDepth 100000 in
set_option maxHeartbeats 1000000 in
theorem RNeeds_any (l s:Int) (w:World) (hl:0≤l) (hl2:l≤9223372036854775807) (hs:1≤s) :
  Calls Tryz.prog 156 #[.int .i64 l,.int .i64 s] w fun e w'=>e = .returned (.int .i64 (rneedsS l s))∧w = w':=by
 have HS:=Lib.hid hs;have HL:=Lib.hid hl
 go_enter Tryz.func156,Tryz.ntmps156
 go_wp2
 go_loop [0,5] (fun a b=>∃ (m:Int) (k:Nat),a = .int .i64 m∧b = .int .i64 k∧k≤4097∧0≤m∧m≤l∧(k = 0∨0 < m)∧Hid (m + k * s = l)) (fun _ b=>4097 - (intOf b).toNat)
 case atStart=>exact ⟨l,0,rfl,rfl,by omega,hl,by omega,.inl rfl,by simp [Hid]⟩
 case round =>
  obtain ⟨m,k,rfl,rfl,hk,hm0,hml,hkm,hm⟩:=hrel
  have HK:=Lib.hid hkm;clear hkm
  by_cases hlt:k≤4096
  ·have g1:(k:Int)≤4096:=by omega
   by_cases hms:m≤s
   ·have hR:Hid (rneedsS l s = (k:Int) + 1):=by
     have hd:needS l s = (k:Int) + 1:=rneeds_done HL.out HS.out hm.out (by have:=HK.out;omega) hms
     rw [Hid,rneedsS,hd];split <;> omega
    by_cases hz:k = 0
    ·subst hz
     go_wp2
     go_ret
     exact ⟨by rw [hR.out];rfl,rfl⟩
    ·have hkz:((k:Int) == 0) = false:=by simp;omega
     have hmp:0 < m:=by have:=HK.out;omega
     clear hz
     go_wp2
     go_ret
     exact ⟨by rw [hR.out];rfl,rfl⟩
   ·have hlt':s < m:=by omega
    have hlow:0 < m - s:=by omega
    have hw:wrap64 (m - s) = m - s:=by unfold wrap64;omega
    clear hms
    by_cases hz:k = 0
    ·subst hz
     go_wp2
     go_round
     case rel=>exact ⟨m - s,1,by simp [hw],rfl,by omega,by omega,by omega,.inr hlow,by have:=hm.out;simp [Hid] at *;omega⟩
     case measure=>simp [intOf]
    ·have hkz:((k:Int) == 0) = false:=by simp;omega
     have hmp:0 < m:=by have:=HK.out;omega
     clear hz
     go_wp2
     go_round
     case rel=>exact ⟨m - s,k + 1,by simp [hw],by go_num,by omega,by omega,by omega,.inr hlow,by have:=hm.out;simp only [Hid,Int.natCast_add,Int.add_mul];simp;omega⟩
     case measure=>simp [intOf];omega
  ·have hk':k = 4097:=by omega
   subst hk'
   have hR:Hid (rneedsS l s = 4097):=by
    have:=rneeds_more HS.out hm.out (by have:=HK.out;omega)
    rw [Hid,rneedsS,if_neg (by omega)]
   go_wp2
   go_ret
   exact ⟨by rw [hR.out];rfl,rfl⟩
set_option maxRecDepth 100000 in
set_option maxHeartbeats 1000000 in
theorem RCheck_any (l s n d:Int) (w:World) (hl2:l≤9223372036854775807) :
  Calls Tryz.prog 90 #[.agg #[.int .i64 l,.int .i64 s,.int .i64 n,.int .u32 d]] w fun e w'=>e = .returned (.int .i64 (checkS l s n))∧Below w.heap.size w w':=by
 by_cases h0:l < 0
 ·have HR:Hid (checkS l s n = 2):=by unfold checkS fitS;simp [Hid,h0]
  go_enter Tryz.func90,Tryz.ntmps90
  go_wp2
  go_ret
  exact ⟨by rw [HR.out];rfl,al (Below.refl _ _) (Nat.le_refl _)⟩
 ·by_cases h1:s < 1
  ·have HR:Hid (checkS l s n = 4):=by unfold checkS fitS;simp [Hid,h0,h1]
   go_enter Tryz.func90,Tryz.ntmps90
   go_wp2
   go_ret
   exact ⟨by rw [HR.out];rfl,al (Below.refl _ _) (Nat.le_refl _)⟩
  ·by_cases h2:65535 < s
   ·have HR:Hid (checkS l s n = 4):=by unfold checkS fitS;simp [Hid,h0,h2]
    go_enter Tryz.func90,Tryz.ntmps90
    go_wp2
    go_ret
    exact ⟨by rw [HR.out];rfl,al (Below.refl _ _) (Nat.le_refl _)⟩
   ·have HN:=Lib.hid (fun w=>RNeeds_any l s w (by omega) hl2 (by omega))
    by_cases h3:needS l s≤4096
    ·rw [rneedsS,if_pos h3] at HN
     have HF:fitS l s = 0:=by unfold fitS;rw [if_neg h0,if_neg (by omega),if_neg (by omega)]
     have HR:Hid (checkS l s n = if n = needS l s then 0 else 14):=by unfold checkS;rw [Hid,if_pos HF]
     clear HF
     generalize needS l s = k at *
     have h3':¬ (4096 < k):=by omega
     by_cases e:n = k
     ·subst e
      have hb:(n != n) = false:=by simp
      rw [if_pos rfl] at HR
      have C0:=cell4 w (.int .i64 l) (.int .i64 s) (.int .i64 n) (.int .u32 d) 52 0
      have C1:=cell4 w (.int .i64 l) (.int .i64 s) (.int .i64 n) (.int .u32 d) 52 1
      have C2:=cell4 w (.int .i64 l) (.int .i64 s) (.int .i64 n) (.int .u32 d) 52 2
      go_enter Tryz.func90,Tryz.ntmps90
      go_wp2_with fail
      refine (HN.out _).mono ?_;rintro e w' ⟨rfl,rfl⟩
      go_wp2
      go_quiet ((go_at_call 156;exact Calls.quiet_of_same ((HN.out _).mono fun e w' hh=>⟨hh.1,hh.2.symm⟩)))
      go_wp2
      go_ret
      exact ⟨by rw [HR.out];rfl,bdn (al (Below.refl _ _) (Nat.le_refl _))⟩
     ·have hb:(n != k) = true:=by simpa using e
      rw [if_neg e] at HR
      clear e
      have C0:=cell4 w (.int .i64 l) (.int .i64 s) (.int .i64 n) (.int .u32 d) 52 0
      have C1:=cell4 w (.int .i64 l) (.int .i64 s) (.int .i64 n) (.int .u32 d) 52 1
      have C2:=cell4 w (.int .i64 l) (.int .i64 s) (.int .i64 n) (.int .u32 d) 52 2
      go_enter Tryz.func90,Tryz.ntmps90
      go_wp2_with fail
      refine (HN.out _).mono ?_;rintro e w' ⟨rfl,rfl⟩
      go_wp2
      go_quiet ((go_at_call 156;exact Calls.quiet_of_same ((HN.out _).mono fun e w' hh=>⟨hh.1,hh.2.symm⟩)))
      go_wp2
      go_ret
      exact ⟨by rw [HR.out];rfl,bdn (al (Below.refl _ _) (Nat.le_refl _))⟩
    ·rw [rneedsS,if_neg h3] at HN
     have HR:Hid (checkS l s n = 5):=by
      have:fitS l s = 5:=by unfold fitS;rw [if_neg h0,if_neg (by omega),if_pos (by omega)]
      unfold checkS;rw [Hid,this];rfl
     clear h3
     go_enter Tryz.func90,Tryz.ntmps90
     go_wp2_with fail
     refine (HN.out _).mono ?_;rintro e w' ⟨rfl,rfl⟩
     go_wp2
     go_ret
     exact ⟨by rw [HR.out];rfl,al (Below.refl _ _) (Nat.le_refl _)⟩
end Go.Proofs.YtccaiiigdfieoaaGreatDoor
namespace Go.Proofs.YtccaiiigdfieoaaGreatDoor
open Go.RowKit Go.By
end Go.Proofs.YtccaiiigdfieoaaGreatDoor
namespace Go.Proofs.YtccaiiigdfieoaaGreatDoor
open Go.RowKit Go.By
theorem lt_of_blk {w:World} {b:Nat} {o:Obj} (h:w.heap[b]? = some o):b < w.heap.size:=by
 rcases Nat.lt_or_ge b w.heap.size with g | g
 ·exact g
 ·rw [Array.getElem?_eq_none g] at h;cases h
theorem cells4 {w:World} {b T:Nat} {u v x y:Value} (h:w.heap[b]? = some (.cells #[u,v,x,y] T (0,0))):w.cell? ⟨b,0,none⟩ = some u∧w.cell? ⟨b,1,none⟩ = some v∧w.cell? ⟨b,2,none⟩ = some x∧w.cell? ⟨b,3,none⟩ = some y :=
 ⟨cell_of_row _ _ 0 _ _ _ h,cell_of_row _ _ 1 _ _ _ h,cell_of_row _ _ 2 _ _ _ h,cell_of_row _ _ 3 _ _ _ h⟩
end Go.Proofs.YtccaiiigdfieoaaGreatDoor
namespace Go.By
open Go.RowKit
theorem blk_ltC {w:World} {b:Nat} {o:Obj} (h:w.heap[b]? = some o):b < w.heap.size:=by
 rcases Nat.lt_or_ge b w.heap.size with g | g
 ·exact g
 ·rw [Array.getElem?_eq_none g] at h;cases h
end Go.By
namespace Go.Proofs.YtccaiiigdfieoaaGreatDoor
open Go.RowKit Go.By
theorem checkS_okC {l s n:Int} (h:checkS l s n = 0):0≤l∧1≤s∧s≤65535∧n = needS l s∧n≤4096:=by
 have hf:fitS l s = 0:=by
  unfold checkS at h
  by_cases e:fitS l s = 0
  ·exact e
  ·rw [if_neg e] at h;exact h
 have hn:n = needS l s:=by
  unfold checkS at h
  rw [if_pos hf] at h
  by_cases e:n = needS l s
  ·exact e
  ·rw [if_neg e] at h;cases h
 rcases fitS_cases l s with ⟨a,_⟩ | ⟨_,h1,h2,h3,h4⟩
 ·exact absurd hf a
 ·exact ⟨h1,h2,h3,hn,by omega⟩
end Go.Proofs.YtccaiiigdfieoaaGreatDoor
namespace Go.By
open Go.RowKit
theorem Fresh.cell {T T' B g i n c:Nat} {w:World} {q:Option Addr} {xs:List UInt8} {old:Array Value} {fr:Nat × Nat} {v:Value} (h:Fresh T B w q n c xs) (hg:w.heap[g]? = some (.cells old T' fr)) (hne:T'≠T):Fresh T B (w.setCell ⟨g,i,Option.none⟩ v) q n c xs:=by
 have hd:∀ a,q = some a→a.block≠g:=fun a ha e=>by
  obtain ⟨c2,f2,e2⟩:=h.ty a ha
  rw [e,hg] at e2
  injection e2 with e2
  injection e2 with _ e3 _
  exact hne e3
 exact ⟨⟨h.sl.len,h.sl.le,h.sl.max,h.sl.nil,fun j hj=>by
  obtain ⟨b,o,e,hc⟩:=h.sl.rs j hj
  exact ⟨b,o,e,(World.cell?_of_block (a:=⟨b,o + j,Option.none⟩) (Below.heap_setCell _ _ _ _ (hd _ e))).trans hc⟩⟩,h.new,fun a ha=>by obtain ⟨c2,f2,e2⟩:=h.ty a ha;exact ⟨c2,f2,(Below.heap_setCell _ _ _ _ (hd a ha)).trans e2⟩⟩
end Go.By
namespace Go.Proofs.YtccaiiigdfieoaaGreatDoor
open Go.RowKit Go.By
end Go.Proofs.YtccaiiigdfieoaaGreatDoor
namespace Go.Proofs.YtccaiiigdfieoaaGreatDoor
open Go.RowKit Go.By
end Go.Proofs.YtccaiiigdfieoaaGreatDoor
namespace Go.Proofs.YtccaiiigdfieoaaGreatDoor
open Go.RowKit Go.By Go.Maps
end Go.Proofs.YtccaiiigdfieoaaGreatDoor
namespace Go.By
open Go.RowKit
def Hdr (T:TypeId) (w1:World) (base:Nat) (w:World) (v:Value) (i:Nat) (xss:List (List UInt8)):Prop :=
 ∃ vs,w.ownsRow base T 1 v i vs∧xss.length = i∧∀ (j:Nat) (u:Value),vs[j]? = some u→∃ q m c xs,u = .slice q m c∧xss[j]? = some xs∧Sl B8 w1 q m c xs
theorem Hdr.shape {T base i:Nat} {w1 w:World} {v:Value} {xss:List (List UInt8)} (h:Hdr T w1 base w v i xss):∃ q c,v = .slice q i c:=by
 obtain ⟨vs,o,_⟩:=h;exact owns_shape o
theorem Hdr.nil (T base:Nat) (w1 w:World):Hdr T w1 base w (.slice none 0 0) 0 []:=⟨[],World.ownsRow_nil _ _ _ _,rfl,fun j u h=>by simp at h⟩
theorem Hdr.push {T base i:Nat} {w1 w:World} {v:Value} {xss:List (List UInt8)} {vs:List Value} {q:Option Addr} {m c:Nat} {xs:List UInt8} (ho:w.ownsRow base T 1 v (i + 1) (vs ++ [.slice q m c])) (hl:xss.length = i) (hv:vs.length = i) (h:∀ (j:Nat) (u:Value),vs[j]? = some u→∃ q m c xs,u = .slice q m c∧xss[j]? = some xs∧Sl B8 w1 q m c xs) (hs:Sl B8 w1 q m c xs):Hdr T w1 base w v (i + 1) (xss ++ [xs]):=by
 refine ⟨_,ho,by simp [hl],fun j u hj=>?_⟩
 rcases Nat.lt_trichotomy j i with h1 | h1 | h1
 ·rw [List.getElem?_append_left (by omega)] at hj
  obtain ⟨q',m',c',xs',e,hx,hs'⟩:=h j u hj
  exact ⟨q',m',c',xs',e,by rw [List.getElem?_append_left (by omega)];exact hx,hs'⟩
 ·subst h1
  rw [List.getElem?_append_right (by omega),hv,Nat.sub_self] at hj
  simp at hj
  exact ⟨q,m,c,xs,hj.symm,by rw [List.getElem?_append_right (by omega),hl,Nat.sub_self];rfl,hs⟩
 ·rw [List.getElem?_eq_none (by simp [hv];omega)] at hj;cases hj
theorem Hdr.sl2 {T base i:Nat} {w1 w:World} {q:Option Addr} {c:Nat} {xss:List (List UInt8)} (h:Hdr T w1 base w (.slice q i c) i xss) (hb:Below w1.heap.size w1 w):Sl2 w q i c xss:=by
 obtain ⟨vs,o,hl,hr⟩:=h
 have hc:=owns_cap o
 have hvl:vs.length = i:=owns_len o
 refine ⟨hl,hc.1,hc.2,fun hp=>?_,fun j xs hj=>?_⟩
 ·rcases o.2 with ⟨h2,rfl⟩ | ⟨g,cap,cur,hv,_⟩
  ·simp at h2;exact ⟨rfl,h2.2⟩
  ·rw [hp] at hv;cases hv
 ·have hji:j < i:=by rw [← hl];exact (List.getElem?_eq_some_iff.1 hj).1
  obtain ⟨q',m',c',xs',e,hx,hs⟩:=hr j vs[j] (List.getElem?_eq_getElem (by omega))
  rw [hj] at hx;cases hx
  obtain ⟨g,rfl,_,_⟩:=owns_at o (by omega)
  refine ⟨g,0,q',c',rfl,?_,?_⟩
  ·rw [Nat.zero_add,o.cellAt j (by omega),List.getElem?_eq_getElem (by omega),e,hs.len]
  ·rw [hs.len];exact hs.keep hb
theorem Hdr.kept {T base i:Nat} {w1 w w':World} {v:Value} {row:Option Nat} {xss:List (List UInt8)} (h:Hdr T w1 base w v i xss) (hg:w.grownBy w' row) (hne:∀ b,v.ownBlock = some b→row≠some b):Hdr T w1 base w' v i xss:=by
 obtain ⟨vs,o,hl,hr⟩:=h
 refine ⟨vs,o.kept hg ?_,hl,hr⟩
 cases hv:v.ownBlock with
 | none=>simp
 | some b=>have:=hne b hv;simp;intro e;exact this e.symm
end Go.By
namespace Go.Proofs.YtccaiiigdfieoaaGreatDoor
open Go.RowKit Go.By Go.Maps
theorem field_gate (L t k D:Nat) (M:Value) (w:World):(Instr.field 111 (GVal L t k D M) 0).run Tryz.prog w = .ok (PVal L t k D) w:=by
 simp [Instr.field,go_sem,asAgg,Tryz.underlying111,Tryz.underlying27]
end Go.Proofs.YtccaiiigdfieoaaGreatDoor
namespace Go.Proofs.YtccaiiigdfieoaaGreatDoor
open Go.RowKit Go.By
end Go.Proofs.YtccaiiigdfieoaaGreatDoor
namespace Go.By
end Go.By
namespace Go.Proofs.YtccaiiigdfieoaaGreatDoor
open Go.RowKit Go.By Gf
end Go.Proofs.YtccaiiigdfieoaaGreatDoor
namespace Go.By
open Go.RowKit Go.Maps Go.Proofs.YtccaiiigdfieoaaGreatDoor
section
variable {w w':World} {g:Nat} {old:Array Value} {T':Nat} {fr:Nat × Nat}
end
theorem TChg.blk {w w':World} {base gt be L t k D N:Nat} {M v:Value} {C:DataW Unit} {K:List Rw} {st:Nat} (h:TChg w w' gt be v) (hT:Tkr w base gt be L t k D N M v C K st) {b T:Nat} {cs:Array Value} {fr:Nat × Nat} (hb:w.heap[b]? = some (.cells cs T fr)) (h1:T≠118) (h2:T≠191) (h3:99≠T):w'.heap[b]? = some (.cells cs T fr):=by
 refine (h.block b (lt_of_block hb) (fun e=>?_) (fun e=>?_) (hT.elm.rows.ne_box hb h3)).trans hb
 ·have:=hT.box;rw [← e,hb] at this;injection this with this;injection this with _ this _;exact h1 this
 ·have:=hT.elm.box;rw [← e,hb] at this;injection this with this;injection this with _ this _;exact h2 this
theorem TChg.below {w w':World} {B base gt be L t k D N:Nat} {M v:Value} {C:DataW Unit} {K:List Rw} {st:Nat} (h:TChg w w' gt be v) (hT:Tkr w base gt be L t k D N M v C K st) (hB:B≤base) (hw:B≤w.heap.size):Below B w w':=by
 refine ⟨h.os,h.tape,h.output,h.size,fun i hi=>h.block i (by omega) (by have:=hT.old;omega) (by have:=hT.elm.old;omega) (fun e=>?_)⟩
 have:=(hT.elm.rows.lt _ e).1
 omega
end Go.By
namespace Go.Proofs.YtccaiiigdfieoaaGreatDoor
open Go.RowKit Go.By Go.Maps
end Go.Proofs.YtccaiiigdfieoaaGreatDoor
namespace Go.Proofs.YtccaiiigdfieoaaGreatDoor
open Go.RowKit Go.By Go.Maps
set_option maxRecDepth 100000 in
set_option maxHeartbeats 1000000 in
theorem TStatus_any (base gt be L t k D N:Nat) (M v:Value) (C:DataW Unit) (K:List Rw) (st:Nat) (w:World) (h:Tkr w base gt be L t k D N M v C K st) :
  Calls Tryz.prog 22 #[.pointer (some ⟨gt,0,none⟩)] w fun e w'=>e = .returned (.int .i64 (st:Nat))∧w = w':=by
 obtain ⟨c0,c1,c2,c3,c4,c5,c6⟩:=cells_seven h.box
 clear h
 go_enter Tryz.func22,Tryz.ntmps22
 go_wp2
 go_ret
 exact ⟨rfl,rfl⟩
set_option maxRecDepth 100000 in
set_option maxHeartbeats 1000000 in
theorem TRank_any (base gt be L t k D N:Nat) (M v:Value) (C:DataW Unit) (K:List Rw) (st:Nat) (w:World) (h:Tkr w base gt be L t k D N M v C K st) :
  Calls Tryz.prog 47 #[.pointer (some ⟨gt,0,none⟩)] w fun e w'=>e = .returned (.int .i64 (K.length:Nat))∧w = w':=by
 have HE:=Lib.hid (Rank_any' base be k t K.length v K w h.elm)
 obtain ⟨c0,c1,c2,c3,c4,c5,c6⟩:=cells_seven h.box
 clear h
 go_enter Tryz.func47,Tryz.ntmps47
 go_wp2_with fail
 refine Calls.mono HE.out ?_
 rintro e w1 ⟨rfl,rfl⟩
 go_wp2
 go_ret
 exact ⟨rfl,rfl⟩
end Go.Proofs.YtccaiiigdfieoaaGreatDoor
namespace Go.By
open Go.RowKit Go.Maps Go.Proofs.YtccaiiigdfieoaaGreatDoor
section
variable {w w':World} {base gt be L t k D N:Nat} {M v:Value} {C:DataW Unit} {K:List Rw} {st:Nat}
theorem TChg.owns (h:TChg w w' gt be v) (hT:Tkr w base gt be L t k D N M v C K st) {b2 T e n:Nat} {v2:Value} {ys:List Value} (ho:w.ownsRow b2 T e v2 n ys) (h1:T≠118) (h2:T≠191) (h3:∀ g,v2.ownBlock = some g→v.ownBlock≠some g):w'.ownsRow b2 T e v2 n ys:=by
 refine owns_same ho h.size fun g2 hg2=>?_
 rcases ho.2 with ⟨e1,_⟩ | ⟨g',cap,cur,e1,_,hh,_⟩
 ·rw [e1] at hg2;cases hg2
 ·have h4:=h3 g2 hg2
  rw [e1] at hg2;cases hg2
  refine h.block _ (lt_of_block hh) (fun e=>?_) (fun e=>?_) h4
  ·have:=hT.box;rw [← e,hh] at this;injection this with this;injection this with _ this _;exact h1 this
  ·have:=hT.elm.box;rw [← e,hh] at this;injection this with this;injection this with _ this _;exact h2 this
theorem tkr_owns_ne {b2 T e n:Nat} {v2:Value} {ys:List Value} (hT:Tkr w base gt be L t k D N M v C K st) (ho:w.ownsRow b2 T e v2 n ys) (h:99≠T):∀ g,v2.ownBlock = some g→v.ownBlock≠some g:=by
 intro g hg
 rcases ho.2 with ⟨e1,_⟩ | ⟨g',cap,cur,e1,_,hh,_⟩
 ·rw [e1] at hg;cases hg
 ·rw [e1] at hg;cases hg
  exact hT.elm.rows.ne_box hh h
theorem TChg.bw (h:TChg w w' gt be v) (hT:Tkr w base gt be L t k D N M v C K st) {b:Nat} {u:Value} {xs:List UInt8} (hu:Bw 5 w b u xs):Bw 5 w' b u xs:=by
 obtain ⟨q,m,c,e,l,o⟩:=hu
 exact ⟨q,m,c,e,l,h.owns hT o (by decide) (by decide) (tkr_owns_ne hT o (by decide))⟩
theorem TChg.rwl (h:TChg w w' gt be v) (hT:Tkr w base gt be L t k D N M v C K st) {b2 n2:Nat} {v2:Value} {K2:List Rw} (h2:RwL 99 5 w b2 v2 n2 K2) (hne:∀ g,v2.ownBlock = some g→v.ownBlock≠some g):RwL 99 5 w' b2 v2 n2 K2:=by
 obtain ⟨vs,a,b,o,r⟩:=h2
 exact ⟨vs,a,b,h.owns hT o (by decide) (by decide) hne,fun j u hj=>by obtain ⟨x,hk,g1,g2⟩:=r j u hj;exact ⟨x,hk,h.bw hT g1,h.bw hT g2⟩⟩
theorem TChg.cnt (h:TChg w w' gt be v) (hT:Tkr w base gt be L t k D N M v C K st) {M2:Value} {N2:Nat} {C2:DataW Unit} (hc:CntM w M2 N2 C2):CntM w' M2 N2 C2:=by
 refine ⟨?_,hc.small⟩
 rcases hc.at_ with h1 | ⟨b,e,ho⟩
 ·exact .inl h1
 ·refine .inr ⟨b,e,?_⟩
  have hlt:=ho.lt
  obtain ⟨es,clock,h1,F,hs,hD⟩:=ho
  refine ⟨es,clock,(h.block b hlt (fun e=>?_) (fun e=>?_) (fun e=>?_)).trans h1,F,hs,hD⟩
  ·have:=hT.box;rw [← e,h1] at this;cases this
  ·have:=hT.elm.box;rw [← e,h1] at this;cases this
  ·obtain ⟨vs,_,_,o,_⟩:=hT.elm.rows
   rcases o.2 with ⟨e1,_⟩ | ⟨g',cap,cur,e1,_,hh,_⟩
   ·rw [e1] at e;cases e
   ·rw [e1] at e;cases e
    rw [h1] at hh;cases hh
end
end Go.By
namespace Go.Proofs.YtccaiiigdfieoaaGreatDoor
open Go.RowKit Go.By Go.Maps
end Go.Proofs.YtccaiiigdfieoaaGreatDoor
namespace Go.Proofs.YtccaiiigdfieoaaGreatDoor
open Go.RowKit Go.By Go.Maps
theorem pok_of {l s n d:Int} (hl:l≤9223372036854775807) (hc:checkS l s n = 0) (h0:0≤d) (h1:d < 4294967296):∃ L t k D:Nat,l = L∧s = t∧n = k∧d = D∧POK L t k D:=by
 have hf:fitS l s = 0∧n = needS l s:=by
  unfold checkS at hc
  by_cases hf:fitS l s = 0
  ·rw [if_pos hf] at hc
   refine ⟨hf,?_⟩
   by_cases hn:n = needS l s
   ·exact hn
   ·rw [if_neg hn] at hc;omega
  ·rw [if_neg hf] at hc;exact absurd hc hf
 obtain ⟨hf,hn⟩:=hf
 have hs:0≤l∧1≤s∧s≤65535∧needS l s≤4096:=by
  unfold fitS at hf
  split at hf
  ·omega
  ·split at hf
   ·omega
   ·split at hf
    ·omega
    ·omega
 obtain ⟨g1,g2⟩:=needS_pos hs.1 hs.2.1
 refine ⟨l.toNat,s.toNat,n.toNat,d.toNat,by omega,by omega,by omega,by omega,⟨?_,by omega,by omega,by omega,by omega,by omega,by omega⟩⟩
 rw [show ((l.toNat:Nat):Int) = l by omega,show ((s.toNat:Nat):Int) = s by omega,show ((n.toNat:Nat):Int) = n by omega]
 exact hc
set_option maxRecDepth 100000 in
set_option maxHeartbeats 1000000 in
theorem GNew_bad (l s n d:Int) (w:World) (hl:l≤9223372036854775807) (hc:checkS l s n≠0) :
  Calls Tryz.prog 60 #[.agg #[.int .i64 l,.int .i64 s,.int .i64 n,.int .u32 d]] w fun e w'=>e = .returned (.tuple #[.agg #[.int .i64 0,.int .i64 0,.int .i64 0,.int .u32 0,.map none],.int .i64 (checkS l s n)])∧Below w.heap.size w w':=by
 have HK:=Lib.hid (fun w=>Check_any l s n d w hl)
 have hz:(checkS l s n != 0) = true:=bne_iff_ne.2 hc
 clear hc
 generalize checkS l s n = C at *
 go_enter Tryz.func60,Tryz.ntmps60
 go_wp2_with fail
 refine Calls.mono (HK.out _) ?_
 rintro e w1 ⟨rfl,hb⟩
 obtain ⟨hb1,h1,h2,hs⟩:=two_of hb
 have HB:=Lib.hid hb1
 obtain ⟨c0,c1,c2,c3⟩:=cells_four h1
 clear hb hb1
 go_wp2_with (refine wpList_store_row (o:=⟨none,.store 111 (.tmp 2) (.tmp 9),_,_,_,_⟩) rfl 111 (.tmp 2) (.tmp 9) rfl (w.heap.size + 1) #[.int .i64 0,.int .i64 0,.int .i64 0,.int .u32 0,.map none] rfl rfl _ _ h2 info_gate rfl (by simp [Value.oneCell']) ?_)
 refine bodyPost_ret (res_ct rfl _ _ _ 111 #[.int .i64 0,.int .i64 0,.int .i64 0,.int .u32 0,.map none] (0,0) _ (.int .i64 C) rfl (hrs h2) rfl Tryz.underlying111 rfl info_gate) rfl ?_
 exact ⟨rfl,below_row HB.out (by omega)⟩
set_option maxRecDepth 100000 in
set_option maxHeartbeats 1000000 in
theorem TNew_bad (l s n d:Int) (w:World) (hl:l≤9223372036854775807) (hc:checkS l s n≠0) :
  Calls Tryz.prog 15 #[.agg #[.int .i64 l,.int .i64 s,.int .i64 n,.int .u32 d]] w fun e w'=>e = .returned (.tuple #[.pointer none,.int .i64 (checkS l s n)])∧Below w.heap.size w w':=by
 have HK:=Lib.hid (fun w=>GNew_bad l s n d w hl hc)
 have hz:(checkS l s n != 0) = true:=bne_iff_ne.2 hc
 clear hc
 generalize checkS l s n = C at *
 go_enter Tryz.func15,Tryz.ntmps15
 go_wp2_with fail
 refine Calls.mono (HK.out _) ?_
 rintro e w1 ⟨rfl,hb⟩
 obtain ⟨hb1,h1,hs⟩:=one_of hb
 have HB:=Lib.hid hb1
 clear hb hb1
 go_wp2
 go_ret2
 exact ⟨rfl,al HB.out HB.out.size⟩
end Go.Proofs.YtccaiiigdfieoaaGreatDoor
namespace Go.By
open Go.RowKit
section
variable {P:Program} {ops:Array Oper} {Q:Exit→Act→World→Prop}
end
end Go.By
namespace Go.By
open Go.RowKit
theorem Hdr.keep {T base i:Nat} {w1 w w':World} {v:Value} {xss:List (List UInt8)} (h:Hdr T w1 base w v i xss) (hb:Below w.heap.size w w'):Hdr T w1 base w' v i xss:=by
 obtain ⟨vs,o,hl,hr⟩:=h
 exact ⟨vs,owns_keepv o hb,hl,hr⟩
section
variable {T:Nat} {wz W w w':World} {va vb:Value} {n i4 i9 i:Nat} {A B:List (List UInt8)} {dn:Nat→Bool}
end
end Go.By
namespace Go.Proofs.YtccaiiigdfieoaaGreatDoor
open Go.RowKit Go.By Gf Go.Maps
end Go.Proofs.YtccaiiigdfieoaaGreatDoor
namespace Go.By
open Go.RowKit Go.Maps Go.Proofs.YtccaiiigdfieoaaGreatDoor
theorem fresh_same {T:TypeId} {B:Nat} {w w':World} {q:Option Addr} {n c:Nat} {xs:List UInt8} (h:Fresh T B w q n c xs) (hp:∀ (b:Nat) (cs:Array Value) (fr:Nat × Nat),w.heap[b]? = some (.cells cs T fr)→w'.heap[b]? = w.heap[b]?):Fresh T B w' q n c xs:=by
 have hd:∀ a,q = some a→w'.heap[a.block]? = w.heap[a.block]?:=fun a ha=>by
  obtain ⟨cs,fr,e⟩:=h.ty a ha;exact hp _ cs fr e
 refine ⟨⟨h.sl.len,h.sl.le,h.sl.max,h.sl.nil,fun i hi=>?_⟩,h.new,fun a ha=>?_⟩
 ·obtain ⟨b,o,e,hc⟩:=h.sl.rs i hi
  exact ⟨b,o,e,(World.cell?_of_block (a:=⟨b,o + i,none⟩) (show w'.heap[b]? = w.heap[b]? from hd ⟨b,o,none⟩ e)).trans hc⟩
 ·obtain ⟨cs,fr,e⟩:=h.ty a ha
  exact ⟨cs,fr,(hd a ha).trans e⟩
theorem TChg.same {w w':World} {base gt be L t k D N:Nat} {M v:Value} {C:DataW Unit} {K:List Rw} {st:Nat} (h:TChg w w' gt be v) (hT:Tkr w base gt be L t k D N M v C K st) {T:TypeId} (h1:T≠118) (h2:T≠191) (h3:99≠T):∀ (b:Nat) (cs:Array Value) (fr:Nat × Nat),w.heap[b]? = some (.cells cs T fr)→w'.heap[b]? = w.heap[b]?:=fun b cs fr hb =>
 (h.blk hT hb h1 h2 h3).trans hb.symm
def HdrF (T2 T1:TypeId) (B:Nat) (w:World) (v:Value) (n:Nat) (xss:List (List UInt8)):Prop :=
 ∃ vs,w.ownsRow B T2 1 v n vs∧xss.length = n∧∀ (j:Nat) (u:Value),vs[j]? = some u→∃ q m c xs,u = .slice q m c∧xss[j]? = some xs∧Fresh T1 B w q m c xs
theorem HdrF.nil (T2 T1 B:Nat) (w:World):HdrF T2 T1 B w (.slice none 0 0) 0 []:=⟨[],World.ownsRow_nil _ _ _ _,rfl,fun j u h=>by simp at h⟩
theorem HdrF.shape {T2 T1 B n:Nat} {w:World} {v:Value} {xss:List (List UInt8)} (h:HdrF T2 T1 B w v n xss):∃ q c,v = .slice q n c:=by
 obtain ⟨vs,o,_⟩:=h;exact owns_shape o
theorem HdrF.len {T2 T1 B n:Nat} {w:World} {v:Value} {xss:List (List UInt8)} (h:HdrF T2 T1 B w v n xss):xss.length = n:=by
 obtain ⟨vs,o,l,_⟩:=h;exact l
theorem HdrF.keep {T2 T1 B n:Nat} {w w':World} {v:Value} {xss:List (List UInt8)} (h:HdrF T2 T1 B w v n xss) (hb:Below w.heap.size w w'):HdrF T2 T1 B w' v n xss:=by
 obtain ⟨vs,o,l,r⟩:=h
 refine ⟨vs,owns_keepv o hb,l,fun j u hj=>?_⟩
 obtain ⟨q,m,c,xs,e,hx,hf⟩:=r j u hj
 exact ⟨q,m,c,xs,e,hx,hf.keep hb⟩
theorem HdrF.same {T2 T1 B n:Nat} {w w':World} {v:Value} {xss:List (List UInt8)} (h:HdrF T2 T1 B w v n xss) (hs:w.heap.size≤w'.heap.size) (h2:∀ (b:Nat) (cs:Array Value) (fr:Nat × Nat),w.heap[b]? = some (.cells cs T2 fr)→w'.heap[b]? = w.heap[b]?) (h1:∀ (b:Nat) (cs:Array Value) (fr:Nat × Nat),w.heap[b]? = some (.cells cs T1 fr)→w'.heap[b]? = w.heap[b]?):HdrF T2 T1 B w' v n xss:=by
 obtain ⟨vs,o,l,r⟩:=h
 refine ⟨vs,owns_same o hs fun g hg=>?_,l,fun j u hj=>?_⟩
 ·rcases o.2 with ⟨e1,_⟩ | ⟨g',cap,cur,e1,_,hh,_⟩
  ·rw [e1] at hg;cases hg
  ·rw [e1] at hg;cases hg
   exact h2 _ _ _ hh
 ·obtain ⟨q,m,c,xs,e,hx,hf⟩:=r j u hj
  exact ⟨q,m,c,xs,e,hx,fresh_same hf h1⟩
theorem HdrF.sl2 {T2 T1 B n:Nat} {w:World} {q:Option Addr} {c:Nat} {xss:List (List UInt8)} (h:HdrF T2 T1 B w (.slice q n c) n xss):Sl2 w q n c xss:=by
 obtain ⟨vs,o,l,r⟩:=h
 have hd:Hdr T2 w B w (.slice q n c) n xss:=⟨vs,o,l,fun j u hj=>by
  obtain ⟨q,m,c,xs,e,hx,hf⟩:=r j u hj
  exact ⟨q,m,c,xs,e,hx,hf.sl⟩⟩
 exact hd.sl2 (Below.refl _ _)
theorem HdrF.push {T2 T1 B n:Nat} {w w':World} {v v':Value} {xss:List (List UInt8)} {vs:List Value} {q:Option Addr} {m c:Nat} {xs:List UInt8} (ho:w'.ownsRow B T2 1 v' (n + 1) (vs ++ [.slice q m c])) (hvl:vs.length = n) (hl:xss.length = n)
  (hr:∀ (j:Nat) (u:Value),vs[j]? = some u→∃ q m c xs,u = .slice q m c∧xss[j]? = some xs∧Fresh T1 B w q m c xs) (hx:Fresh T1 B w q m c xs) (hp:∀ (b:Nat) (cs:Array Value) (fr:Nat × Nat),w.heap[b]? = some (.cells cs T1 fr)→w'.heap[b]? = w.heap[b]?):HdrF T2 T1 B w' v' (n + 1) (xss ++ [xs]):=by
 refine ⟨_,ho,by simp [hl],fun j u hj=>?_⟩
 by_cases h:j < vs.length
 ·rw [List.getElem?_append_left h] at hj
  obtain ⟨q,m,c,ys,e,hy,hf⟩:=hr j _ hj
  exact ⟨q,m,c,ys,e,by rw [List.getElem?_append_left (by omega)];exact hy,fresh_same hf hp⟩
 ·rw [List.getElem?_append_right (by omega)] at hj
  by_cases h0:j - vs.length = 0
  ·rw [h0] at hj
   simp at hj
   refine ⟨q,m,c,xs,hj.symm,?_,fresh_same hx hp⟩
   rw [List.getElem?_append_right (by omega),show j - xss.length = 0 by omega];rfl
  ·rw [List.getElem?_eq_none (by simp;omega)] at hj;cases hj
end Go.By
namespace Go.By
open Go.RowKit Go.Maps Go.Proofs.YtccaiiigdfieoaaGreatDoor
def OthS (T:TypeId):Prop:=T≠118∧T≠191∧99≠T∧174≠T
structure KeepS (w w':World):Prop where
 size:w.heap.size≤w'.heap.size
 same:∀ T,OthS T→∀ (b:Nat) (cs:Array Value) (fr:Nat × Nat),w.heap[b]? = some (.cells cs T fr)→w'.heap[b]? = w.heap[b]?
theorem KeepS.of {w w':World} (h:Below w.heap.size w w'):KeepS w w':=⟨h.size,fun _ _ b _ _ hb=>h.block b (lt_of_block hb)⟩
theorem KeepS.trans {w a b:World} (h:KeepS w a) (h2:KeepS a b):KeepS w b :=
 ⟨Nat.le_trans h.size h2.size,fun T hT i cs fr hi=>(h2.same T hT i cs fr ((h.same T hT i cs fr hi).trans hi)).trans (h.same T hT i cs fr hi)⟩
theorem KeepS.blk {w w':World} (h:KeepS w w') {T b:Nat} {cs:Array Value} {fr:Nat × Nat} (hT:OthS T) (hb:w.heap[b]? = some (.cells cs T fr)):w'.heap[b]? = some (.cells cs T fr):=(h.same T hT b cs fr hb).trans hb
theorem KeepS.fresh {w w':World} (h:KeepS w w') {T B n c:Nat} {q:Option Addr} {xs:List UInt8} (hT:OthS T) (hf:Fresh T B w q n c xs):Fresh T B w' q n c xs:=fresh_same hf (h.same T hT)
theorem KeepS.hdr {w w':World} (h:KeepS w w') {T2 T1 B n:Nat} {v:Value} {xss:List (List UInt8)} (h2:OthS T2) (h1:OthS T1) (hf:HdrF T2 T1 B w v n xss):HdrF T2 T1 B w' v n xss:=hf.same h.size (h.same T2 h2) (h.same T1 h1)
theorem KeepS.owns {w w':World} (h:KeepS w w') {b2 T e n:Nat} {v:Value} {ys:List Value} (hT:OthS T) (ho:w.ownsRow b2 T e v n ys):w'.ownsRow b2 T e v n ys :=
 owns_same ho h.size fun g hg=>by
  rcases ho.2 with ⟨e1,_⟩ | ⟨g',cap,cur,e1,_,hh,_⟩
  ·rw [e1] at hg;cases hg
  ·rw [e1] at hg;cases hg
   exact h.same T hT _ _ _ hh
theorem os_u8:OthS 5:=⟨by decide,by decide,by decide,by decide⟩
theorem TChg.keepS {w w':World} {base gt be L t k D N:Nat} {M v:Value} {C:DataW Unit} {K:List Rw} {st:Nat} (h:TChg w w' gt be v) (hT:Tkr w base gt be L t k D N M v C K st):KeepS w w' :=
 ⟨h.size,fun T hO=>h.same hT hO.1 hO.2.1 hO.2.2.1⟩
end Go.By
namespace Go.Proofs.YtccaiiigdfieoaaGreatDoor
open Go.RowKit Go.By Gf Go.Maps
section
variable {wI w0 w w':World} {gs gt be base L t k D nx N st:Nat} {FX:List (List UInt8)} {v:Value} {K:List Rw}
end
end Go.Proofs.YtccaiiigdfieoaaGreatDoor
namespace Go.By
theorem crcBit_lt {r:Nat} (h:r < 4294967296):crcBit r < 4294967296:=by
 unfold crcBit
 have h2:r / 2 < 2 ^ 32:=by omega
 split
 ·exact Nat.xor_lt_two_pow h2 (by decide)
 ·omega
def crcBits:Nat→Nat→Nat
 | 0,r=>r
 | j + 1,r=>crcBit (crcBits j r)
theorem crcBits_lt {r:Nat} (h:r < 4294967296):∀ j,crcBits j r < 4294967296
 | 0=>h
 | j + 1=>crcBit_lt (crcBits_lt h j)
theorem crcBits_eight (r:Nat) (b:UInt8):crcBits 8 (r ^^^ b.toNat) = crcByte r b:=by
 rw [crc_byte];rfl
theorem crcRun_snoc {xs:List UInt8} {k:Nat} {x:UInt8} (r:Nat) (h:xs[k]? = some x):crcRun r (xs.take (k + 1)) = crcByte (crcRun r (xs.take k)) x:=by
 rw [List.take_add_one,h,crcRun_append];rfl
end Go.By
namespace Go.Proofs.YtccaiiigdfieoaaGreatDoor
open Go.RowKit Go.By
set_option maxHeartbeats 1000000 in
theorem RPut4_any (n:Nat) (h:n < 4294967296) (w:World) :
  Calls Tryz.prog 142 #[.int .u32 (n:Int)] w fun e w'=>∃ g,e = .returned (.slice (some ⟨g,0,none⟩) 4 4)∧w.heap.size≤g∧w'.heap[g]? = some (.cells ((put4 n).map B8).toArray 5 (0,0))∧Below w.heap.size w w':=by
 have e0:=put4_cells n h
 go_enter Tryz.func142,Tryz.ntmps142
 go_wp2
 rw [← e0]
 go_ret
 exact ⟨w.heap.size,rfl,Nat.le_refl _,hnew rfl,al (Below.refl _ _) (Nat.le_refl _)⟩
set_option maxRecDepth 100000 in
set_option maxHeartbeats 2000000 in
theorem RSum4_any (p:Option Addr) (n c:Nat) (xs:List UInt8) (w:World) (h:Sl B8 w p n c xs) :
  Calls Tryz.prog 143 #[.slice p n c] w fun e w'=>e = .returned (.int .u32 (crcS xs:Nat))∧w = w':=by
 have hb:=h.bound
 have H:=Lib.hid h;clear h
 go_enter Tryz.func143,Tryz.ntmps143
 go_wp2
 go_loop [3,4] (fun r i=>∃ k v:Nat,k≤n∧i = .int .i64 k∧r = .int .u32 (v:Nat)∧Hid (v = crcRun 4294967295 (xs.take k))) (fun _ i=>n - (intOf i).toNat)
 case atStart=>exact ⟨0,4294967295,Nat.zero_le _,rfl,rfl,rfl⟩
 case round =>
  obtain ⟨k,v,hk,rfl,rfl,hv⟩:=hrel
  have hv32:v < 4294967296:=by rw [hv.out];exact crcRun_lt (by decide)
  by_cases hlt:k < n
  ·obtain ⟨b,o,x,rfl,hc,hx⟩:=H.out.at k hlt
   have hlt':(k:Int) < (n:Int):=by omega
   have hxb:=x.toNat_lt
   have e1:bits .xor .u32 (v:Int) (x.toNat:Int) = ((v ^^^ x.toNat:Nat):Int):=bits_xor32 hv32 (by omega)
   have hu:v ^^^ x.toNat < 4294967296:=Nat.xor_lt_two_pow hv32 (show x.toNat < 2 ^ 32 by omega)
   obtain ⟨u,hu0⟩:∃ u,u = v ^^^ x.toNat:=⟨_,rfl⟩
   rw [← hu0] at e1 hu
   have HU:=Lib.hid hu0;clear hu0
   have e0:IntKind.u32.wrap (x.toNat:Int) = (x.toNat:Int):=by rw [IntKind.wrap_u32];omega
   clear hlt
   go_wp2_with (first | simp only [e1] | simp only [e0])
   go_loop [3,5] (fun r i=>∃ j y:Nat,j≤8∧i = .int .i64 j∧r = .int .u32 (y:Nat)∧Hid (y = crcBits j u)) (fun _ i=>8 - (intOf i).toNat)
   case atStart=>exact ⟨0,u,by omega,rfl,rfl,rfl⟩
   case round =>
    obtain ⟨j,y,hj,rfl,rfl,hy⟩:=hrel
    have hy32:y < 4294967296:=by rw [hy.out];exact crcBits_lt hu j
    by_cases hj8:j < 8
    ·have hj8':(j:Int) < 8:=by omega
     by_cases hodd:y % 2 = 1
     ·have hm:(y:Int) % 2 = 1:=by omega
      obtain ⟨z,hz⟩:∃ z,z = y / 2 ^^^ 3988292384:=⟨_,rfl⟩
      have e2:bits .xor .u32 ((y:Int) / 2) 3988292384 = (z:Int):=by
       rw [hz,show (y:Int) / 2 = ((y / 2:Nat):Int) by omega];exact bits_xor32 (by omega) (b:=3988292384) (by decide)
      have HY:Hid (z = crcBits (j + 1) u):=by
       show _ = crcBit (crcBits j u)
       rw [← hy.out,hz];unfold crcBit;rw [if_pos hodd]
      clear hodd hj8 hz
      go_wp2_with (first | simp only [e2] | simp only [hm])
      go_round
      case rel=>exact ⟨j + 1,_,by omega,by go_num,rfl,HY.out⟩
      case measure=>simp [intOf];omega
     ·have hm:(y:Int) % 2 = 0:=by omega
      have HY:Hid (y / 2 = crcBits (j + 1) u):=by
       show _ = crcBit (crcBits j u)
       rw [← hy.out];unfold crcBit;rw [if_neg hodd]
      clear hodd hj8
      go_wp2_with (first | simp only [hm])
      go_round
      case rel=>exact ⟨j + 1,_,by omega,by go_num,rfl,HY.out⟩
      case measure=>simp [intOf];omega
    ·obtain rfl:j = 8:=by omega
     have HV:Hid (y = crcRun 4294967295 (xs.take (k + 1))):=by
      show _ = _
      rw [hy.out,HU.out,crcBits_eight,crcRun_snoc _ hx.out,← hv.out]
     clear hj8
     go_wp2
     go_round
     case rel=>exact ⟨k + 1,y,by omega,by go_num,rfl,HV.out⟩
     case measure=>simp [intOf];omega
  ·obtain rfl:k = n:=by omega
   obtain ⟨d,hdd⟩:∃ d,d = 4294967295 - v:=⟨_,rfl⟩
   have HE:Hid (d = crcS xs):=by
    show _ = _
    rw [hdd,hv.out,← H.out.len,List.take_length];rfl
   have e3:IntKind.u32.wrap ((4294967295:Int) - (v:Int)) = (d:Int):=by rw [IntKind.wrap_u32];omega
   clear hlt hdd
   go_wp2_with (simp only [e3])
   go_ret
   exact ⟨by rw [HE.out];rfl,rfl⟩
end Go.Proofs.YtccaiiigdfieoaaGreatDoor
namespace Go.By
end Go.By
namespace Go.Proofs.YtccaiiigdfieoaaGreatDoor
open Go.RowKit Go.By
end Go.Proofs.YtccaiiigdfieoaaGreatDoor
namespace Go.By
open Go.RowKit Go.Maps Go.Proofs.YtccaiiigdfieoaaGreatDoor
theorem HdrF.lt {T2 T1 B n:Nat} {w:World} {v:Value} {xss:List (List UInt8)} (h:HdrF T2 T1 B w v n xss):∀ g,v.ownBlock = some g→g < w.heap.size:=by
 obtain ⟨vs,o,_⟩:=h
 exact fun g hg=>(o.lt g hg).2
theorem HdrF.at {T2 T1 B n:Nat} {w:World} {q:Option Addr} {c:Nat} {xss:List (List UInt8)} (h:HdrF T2 T1 B w (.slice q n c) n xss) {j:Nat} (hj:j < n):∃ b o p m d xs,q = some ⟨b,o,none⟩∧w.cell? ⟨b,o + j,none⟩ = some (.slice p m d)∧Hid (xss[j]? = some xs)∧Fresh T1 B w p m d xs:=by
 obtain ⟨b,o,p,m,d,xs,e,hc,_,hx⟩:=h.sl2.at j hj
 obtain ⟨vs,ow,l,r⟩:=h
 have hl:vs.length = n:=owns_len ow
 obtain ⟨p',m',d',xs',e1,hx',hf⟩:=r j vs[j] (List.getElem?_eq_getElem (by omega))
 have hx:=hx.out
 rw [hx'] at hx;cases hx
 refine ⟨b,o,p,m,d,xs,e,hc,hx',?_⟩
 have hc2:w.cell? ⟨b,o + j,none⟩ = some (.slice p' m' d'):=by
  rcases ow.2 with ⟨h2,_⟩ | ⟨g,cap,cur,hv,_⟩
  ·cases h2;cases e
  ·cases hv;cases e
   have h3:=ow.cellAt j (by omega)
   rw [Nat.zero_add,h3,List.getElem?_eq_getElem (by omega),e1]
 rw [hc2] at hc;cases hc
 exact hf
end Go.By
namespace Go.Proofs.YtccaiiigdfieoaaGreatDoor
open Go.RowKit Go.By Gf Go.Maps
section
variable {wI w0 w w':World} {gs gt be base L t k D nx N st:Nat} {FX:List (List UInt8)} {v:Value} {K:List Rw}
end
end Go.Proofs.YtccaiiigdfieoaaGreatDoor
namespace Go.Proofs.YtccaiiigdfieoaaGreatDoor
open Go.RowKit Go.By
def BG (w:World) (B b:Nat) (v:Value) (t:List UInt8):Prop :=
 w.heap[b]? = some (.cells #[.pointer (some ⟨b,0,none⟩),v] 135 (0,0))∧w.ownsRow B 5 1 v t.length (t.map B8)∧v.ownBlock≠some b∧B≤w.heap.size
def BGk (w w':World) (b:Nat) (v v':Value):Prop :=
 (∀ k,k < w.heap.size→k≠b→v.ownBlock≠some k→w'.heap[k]? = w.heap[k]?)∧w.heap.size≤w'.heap.size∧(v'.ownBlock = v.ownBlock∨∀ g,v'.ownBlock = some g→w.heap.size≤g)
theorem CopyCheck_g (w:World) (b:Nat) (h:w.cell? ⟨b,0,none⟩ = some (.pointer (some ⟨b,0,none⟩))) :
  Calls Tryz.prog 126 #[.pointer (some ⟨b,0,none⟩)] w fun e w'=>e = .returned (.tuple #[])∧w = w' :=
 (Any.Builder_copyCheck_used (ρ:=wbRen) { wbLays167 with } wbExtra.toX72 b w h).mono fun _ _ ⟨h1,h2⟩=>⟨h1,h2.symm⟩
set_option maxRecDepth 100000 in
set_option maxHeartbeats 2000000 in
theorem WriteB_g (B b:Nat) (v:Value) (t:List UInt8) (x:UInt8) (w:World) (h:BG w B b v t) (hl:t.length + 1≤100000000) :
  Calls Tryz.prog 73 #[.pointer (some ⟨b,0,none⟩),B8 x] w fun e w'=>e = .returned .nilIface∧∃ v',BG w' B b v' (t ++ [x])∧BGk w w' b v v'∧(B≤b→Below B w w'):=by
 obtain ⟨i0,hi,hz0,hz1,hz2⟩:=info_parts info_u8
 obtain ⟨hbk,hown,hne,hBw⟩:=h
 obtain ⟨c0,c1⟩:=cells2 hbk
 have hlt:=lt_of_block hbk
 have HC:=Lib.hid (CopyCheck_g w b c0)
 have HBK:=Lib.hid hbk
 have HOA:Hid (∀ o,(w.alloc o).ownsRow B 5 1 v t.length (t.map B8)):=fun o=>hown.alloc o
 have HO:=Lib.hid hown
 have HNE:=Lib.hid hne
 clear hbk hown hne c0
 go_enter Tryz.func73,Tryz.ntmps73
 go_wp2_with fail
 refine Calls.mono HC.out ?_
 rintro e w1 ⟨rfl,rfl⟩
 go_wp2_with (at_builtin;refine wpList_append_where _ rfl _ _ 22 rfl B 5 i0 (.int .u8 0) 1 1 Tryz.underlying22 hi hz0 hz1 hz2 rfl (by decide) v t.length (t.map B8) rfl (HOA.out _) ⟨w.heap.size,0,none⟩ 1 1 [B8 x] rfl rfl ?c1 ?c2 ?c3 ?c4 ?c5 (by decide) ?_)
 case c1 =>
  intro j u hj
  match j,hj with
  | 0,hj=>simp at hj;subst hj;rw [Addr.add_lit,cell_of_row _ _ _ _ _ _ (hnew (by simp))];rfl
 case c2=>intro u hu;simp at hu;subst hu;rfl
 case c3=>unfold maxLen;omega
 case c4=>omega
 case c5=>simp;omega
 intro v' w2 hown' hgrow hwh
 have hb2:w2.heap[b]? = some (.cells #[.pointer (some ⟨b,0,none⟩),v] 135 (0,0)):=by
  rw [hgrow.block b (by simp;omega) (fun e=>HNE.out e.symm),Lib.alloc_old w _ b hlt]
  exact HBK.out
 obtain ⟨d0,d1⟩:=cells2 hb2
 have f1:w2.frozen? ⟨b,1,none⟩ = false:=frozen_of_row _ _ 1 _ _ hb2
 have HW:=Lib.hid hwh
 have HG:=Lib.hid hgrow
 have HN:=Lib.hid hown'
 have HB2:=Lib.hid hb2
 obtain ⟨q,c,rfl⟩:=owns_shape hown'
 clear hown' hgrow hwh hb2
 go_wp2
 go_ret
 refine ⟨rfl,.slice q (t.length + 1) c,⟨?_,?_,?_,?_⟩,⟨?_,?_,?_⟩,fun hB=>?_⟩
 ·simp [World.setCell,Array.getElem?_modify,HB2.out]
 ·have hne:=Lib.ownBlock_ne HN.out HB2.out (by decide)
  have:=HN.out.kept (w':=w2.setCell ⟨b,1,none⟩ (.slice q (t.length + 1) c)) (row:=some b) ⟨rfl,rfl,rfl,by simp [World.setCell],fun k _ hk=>Below.heap_setCell _ _ _ _ (fun e=>hk (by simp [e]))⟩ (Or.inr hne)
  simpa [List.map_append] using this
 ·exact Lib.ownBlock_ne HN.out HB2.out (by decide)
 ·have:=HG.out.size;simp [World.setCell] at this ⊢;omega
 ·intro k hk hkb hkv
  rw [Below.heap_setCell _ _ _ _ (fun e=>hkb e),HG.out.block k (by simp;omega) (fun e=>hkv e.symm),Lib.alloc_old w _ k hk]
 ·have:=HG.out.size;simp [World.setCell] at this ⊢;omega
 ·rcases HW.out with e | e
  ·exact .inl e
  ·refine .inr fun g hg=>?_
   rw [e] at hg
   cases hg
   simp
 ·exact (((Below.refl B w).alloc hBw _).grown HG.out (by simp;omega) (fun k hk=>(HO.out.lt k hk).1)).setCell (p:=⟨b,1,none⟩) hB _
def MidW (w6 wr:World) (s5:Nat) (v:Value):Prop:=(∀ k,s5≤k→k < w6.heap.size→wr.heap[k]? = w6.heap[k]?)∧w6.heap.size≤wr.heap.size∧∀ g,v.ownBlock = some g→g < s5∨w6.heap.size≤g
theorem MidW.step {w6 wr w':World} {s5 b:Nat} {v v':Value} (h:MidW w6 wr s5 v) (hk:BGk wr w' b v v') (hb:b < s5):MidW w6 w' s5 v':=by
 obtain ⟨h1,h2,h3⟩:=h
 obtain ⟨k1,k2,k3⟩:=hk
 refine ⟨fun k a c=>?_,by omega,fun g hg=>?_⟩
 ·rw [k1 k (by omega) (by omega) (fun e=>by have:=h3 k e;omega)];exact h1 k a c
 ·rcases k3 with e | e
  ·exact h3 g (by rw [← e];exact hg)
  ·have:=e g hg;exact .inr (by omega)
theorem HdrF.mid {T2 T1 B n:Nat} {w w':World} {v:Value} {xss:List (List UInt8)} (h:HdrF T2 T1 B w v n xss) (hs:w.heap.size≤w'.heap.size) (hm:∀ k,B≤k→k < w.heap.size→w'.heap[k]? = w.heap[k]?):HdrF T2 T1 B w' v n xss:=by
 obtain ⟨vs,o,l,r⟩:=h
 refine ⟨vs,owns_same o hs fun g hg=>hm g (o.lt g hg).1 (o.lt g hg).2,l,fun j u hj=>?_⟩
 obtain ⟨q,m,c,xs,e,hx,hf⟩:=r j u hj
 have hd:∀ a,q = some a→w'.heap[a.block]? = w.heap[a.block]?:=fun a ha=>by
  obtain ⟨cs,fr,e⟩:=hf.ty a ha
  exact hm _ (hf.new a ha) (lt_of_block e)
 refine ⟨q,m,c,xs,e,hx,⟨hf.sl.len,hf.sl.le,hf.sl.max,hf.sl.nil,fun i hi=>?_⟩,hf.new,fun a ha=>?_⟩
 ·obtain ⟨b,o,e,hc⟩:=hf.sl.rs i hi
  exact ⟨b,o,e,(World.cell?_of_block (a:=⟨b,o + i,none⟩) (show w'.heap[b]? = w.heap[b]? from hd ⟨b,o,none⟩ e)).trans hc⟩
 ·obtain ⟨cs,fr,e⟩:=hf.ty a ha
  exact ⟨cs,fr,(hd a ha).trans e⟩
end Go.Proofs.YtccaiiigdfieoaaGreatDoor
namespace Go.Proofs.YtccaiiigdfieoaaGreatDoor
open Go.RowKit Go.By Go.Maps
end Go.Proofs.YtccaiiigdfieoaaGreatDoor
namespace Go.Proofs
open Go.Shelf
def Tryz.keysI_ren:Go.Shelf.Ren:=⟨fun | 7=>168 | 10=>215 | n=>n,fun | 23=>178 | 26=>3 | 3=>22 | 28=>244 | 0=>0 | 27=>243 | 33=>199 | 4=>4 | n=>n,fun | n=>n⟩
theorem Tryz.keysI:Go.Proofs.SlLaysZI.n7 Tryz.prog Tryz.keysI_ren:={
 mixed:=by kernel_rfl
 f7:=⟨Tryz.f168.name,by decide,Tryz.func168.trans (congrArg some (by kernel_rfl))⟩
 f10:=⟨Tryz.f215.name,by decide,Tryz.func215.trans (congrArg some (by kernel_rfl))⟩
 t0:=Tryz.underlying0
 a0:=Tryz.isAgg0
 z0:=Tryz.sizeOf0
 v0:=Tryz.zeroValue0
 t4:=Tryz.underlying4
 a4:=Tryz.isAgg4
 z4:=Tryz.sizeOf4
 v4:=Tryz.zeroValue4
 t23:=Tryz.underlying178
 a23:=Tryz.isAgg178
 z23:=Tryz.sizeOf178
 v23:=Tryz.zeroValue178
 t26:=Tryz.underlying3
 a26:=Tryz.isAgg3
 z26:=Tryz.sizeOf3
 v26:=Tryz.zeroValue3
 t27:=Tryz.underlying243
 a27:=Tryz.isAgg243
 z27:=Tryz.sizeOf243
 v27:=Tryz.zeroValue243
 t28:=Tryz.underlying244
 a28:=Tryz.isAgg244
 z28:=Tryz.sizeOf244
 v28:=Tryz.zeroValue244
 t33:=Tryz.underlying199
 a33:=Tryz.isAgg199
 z33:=Tryz.sizeOf199
 v33:=Tryz.zeroValue199 }
def Tryz.sortedI_ren:Go.Shelf.Ren:=⟨fun | 6=>167 | 8=>213 | 9=>214 | 11=>238 | 13=>240 | 12=>239 | 23=>270 | 24=>256 | 14=>261 | 15=>262 | 16=>263 | 17=>264 | 18=>265 | 19=>266 | 20=>267 | 21=>268 | 22=>269 | 25=>276 | 26=>277 | 27=>278 | 28=>279 | 29=>280 | 30=>281 | 31=>282 | n=>n,fun | 26=>3 | 28=>244 | 24=>103 | 0=>0 | 3=>3 | 37=>142 | 48=>23 | 50=>81 | 4=>4 | 40=>328 | 39=>327 | 45=>184 | 5=>5 | 9=>9 | 51=>345 | 55=>348 | 57=>355 | 58=>157 | 33=>199 | n=>n,fun | n=>n⟩
theorem Tryz.sortedI:Go.Proofs.SlLaysZI.n6 Tryz.prog Tryz.sortedI_ren:={
 mixed:=by kernel_rfl
 f6:=⟨Tryz.f167.name,by decide,Tryz.func167.trans (congrArg some (by kernel_rfl))⟩
 f8:=⟨Tryz.f213.name,by decide,Tryz.func213.trans (congrArg some (by kernel_rfl))⟩
 f11:=⟨Tryz.f238.name,by decide,Tryz.func238.trans (congrArg some (by kernel_rfl))⟩
 t0:=Tryz.underlying0
 a0:=Tryz.isAgg0
 z0:=Tryz.sizeOf0
 v0:=Tryz.zeroValue0
 t24:=Tryz.underlying103
 a24:=Tryz.isAgg103
 z24:=Tryz.sizeOf103
 v24:=Tryz.zeroValue103
 t26:=Tryz.underlying3
 a26:=Tryz.isAgg3
 z26:=Tryz.sizeOf3
 v26:=Tryz.zeroValue3
 t28:=Tryz.underlying244
 a28:=Tryz.isAgg244
 z28:=Tryz.sizeOf244
 v28:=Tryz.zeroValue244
 i26:=by kernel_rfl }
def Tryz.sortI_ren:Go.Shelf.Ren:=⟨fun | 5=>214 | 8=>240 | 7=>239 | 19=>270 | 20=>256 | 10=>261 | 11=>262 | 12=>263 | 13=>264 | 14=>265 | 15=>266 | 16=>267 | 17=>268 | 18=>269 | 30=>276 | 31=>277 | 32=>278 | 33=>279 | 34=>280 | 35=>281 | 40=>282 | n=>n,fun | 23=>103 | 25=>3 | 3=>3 | 32=>142 | 22=>103 | 0=>0 | 44=>23 | 46=>81 | 4=>4 | 36=>328 | 35=>327 | 41=>184 | 5=>5 | 9=>9 | 53=>345 | 57=>348 | 63=>355 | 64=>157 | n=>n,fun | n=>n⟩
theorem Tryz.sortI:Go.Proofs.SlLaysM.n5 Tryz.prog Tryz.sortI_ren:={
 mixed:=by kernel_rfl
 f5:=⟨Tryz.f214.name,by decide,Tryz.func214.trans (congrArg some (by kernel_rfl))⟩
 f7:=⟨Tryz.f239.name,by decide,Tryz.func239.trans (congrArg some (by kernel_rfl))⟩
 f8:=Tryz.func240.trans (congrArg some (by kernel_rfl))
 f10:=⟨Tryz.f261.name,by decide,Tryz.func261.trans (congrArg some (by kernel_rfl))⟩
 f11:=⟨Tryz.f262.name,by decide,Tryz.func262.trans (congrArg some (by kernel_rfl))⟩
 f12:=⟨Tryz.f263.name,by decide,Tryz.func263.trans (congrArg some (by kernel_rfl))⟩
 f13:=⟨Tryz.f264.name,by decide,Tryz.func264.trans (congrArg some (by kernel_rfl))⟩
 f14:=⟨Tryz.f265.name,by decide,Tryz.func265.trans (congrArg some (by kernel_rfl))⟩
 f15:=⟨Tryz.f266.name,by decide,Tryz.func266.trans (congrArg some (by kernel_rfl))⟩
 f16:=⟨Tryz.f267.name,by decide,Tryz.func267.trans (congrArg some (by kernel_rfl))⟩
 f17:=⟨Tryz.f268.name,by decide,Tryz.func268.trans (congrArg some (by kernel_rfl))⟩
 f18:=⟨Tryz.f269.name,by decide,Tryz.func269.trans (congrArg some (by kernel_rfl))⟩
 f19:=Tryz.func270.trans (congrArg some (by kernel_rfl))
 f20:=Tryz.func256.trans (congrArg some (by kernel_rfl))
 f30:=⟨Tryz.f276.name,by decide,Tryz.func276.trans (congrArg some (by kernel_rfl))⟩
 f31:=Tryz.func277.trans (congrArg some (by kernel_rfl))
 f32:=Tryz.func278.trans (congrArg some (by kernel_rfl))
 f33:=⟨Tryz.f279.name,by decide,Tryz.func279.trans (congrArg some (by kernel_rfl))⟩
 f34:=⟨Tryz.f280.name,by decide,Tryz.func280.trans (congrArg some (by kernel_rfl))⟩
 f35:=⟨Tryz.f281.name,by decide,Tryz.func281.trans (congrArg some (by kernel_rfl))⟩
 f40:=⟨Tryz.f282.name,by decide,Tryz.func282.trans (congrArg some (by kernel_rfl))⟩
 t0:=Tryz.underlying0
 a0:=Tryz.isAgg0
 z0:=Tryz.sizeOf0
 v0:=Tryz.zeroValue0
 t3:=Tryz.underlying3
 a3:=Tryz.isAgg3
 z3:=Tryz.sizeOf3
 v3:=Tryz.zeroValue3
 t4:=Tryz.underlying4
 a4:=Tryz.isAgg4
 z4:=Tryz.sizeOf4
 v4:=Tryz.zeroValue4
 t5:=Tryz.underlying5
 a5:=Tryz.isAgg5
 z5:=Tryz.sizeOf5
 v5:=Tryz.zeroValue5
 t9:=Tryz.underlying9
 a9:=Tryz.isAgg9
 z9:=Tryz.sizeOf9
 v9:=Tryz.zeroValue9
 t22:=Tryz.underlying103
 a22:=Tryz.isAgg103
 z22:=Tryz.sizeOf103
 v22:=Tryz.zeroValue103
 t23:=Tryz.underlying103
 a23:=Tryz.isAgg103
 z23:=Tryz.sizeOf103
 v23:=Tryz.zeroValue103
 t25:=Tryz.underlying3
 a25:=Tryz.isAgg3
 z25:=Tryz.sizeOf3
 v25:=Tryz.zeroValue3
 t32:=Tryz.underlying142
 a32:=Tryz.isAgg142
 z32:=Tryz.sizeOf142
 v32:=Tryz.zeroValue142
 t35:=Tryz.underlying327
 a35:=Tryz.isAgg327
 z35:=Tryz.sizeOf327
 v35:=Tryz.zeroValue327
 t36:=Tryz.underlying328
 a36:=Tryz.isAgg328
 z36:=Tryz.sizeOf328
 v36:=Tryz.zeroValue328
 t41:=Tryz.underlying184
 a41:=Tryz.isAgg184
 z41:=Tryz.sizeOf184
 v41:=Tryz.zeroValue184
 t44:=Tryz.underlying23
 a44:=Tryz.isAgg23
 z44:=Tryz.sizeOf23
 v44:=Tryz.zeroValue23
 t46:=Tryz.underlying81
 a46:=Tryz.isAgg81
 z46:=Tryz.sizeOf81
 v46:=Tryz.zeroValue81
 t53:=Tryz.underlying345
 a53:=Tryz.isAgg345
 z53:=Tryz.sizeOf345
 v53:=Tryz.zeroValue345
 t57:=Tryz.underlying348
 a57:=Tryz.isAgg348
 z57:=Tryz.sizeOf348
 v57:=Tryz.zeroValue348
 t63:=Tryz.underlying355
 a63:=Tryz.isAgg355
 z63:=Tryz.sizeOf355
 v63:=Tryz.zeroValue355
 t64:=Tryz.underlying157
 a64:=Tryz.isAgg157
 z64:=Tryz.sizeOf157
 v64:=Tryz.zeroValue157 }
end Go.Proofs
namespace Go.By
open Go.RowKit Go.Maps Go.ChangeMaps
def slR:Value→Option (DataW Unit × List MemPlace)
 | .slice (some ⟨b,o,none⟩) n c=>some (.agg [.lit (.int .i64 b),.lit (.int .i64 o),.lit (.int .i64 n),.lit (.int .i64 c)],[])
 | .slice none 0 0=>some (.nil,[])
 | _=>none
theorem slR_inj {u v:Value} {y z:DataW Unit × List MemPlace} (h:slR u = some y) (h2:slR v = some z) (e:y.1 = z.1):u = v:=by
 unfold slR at h h2
 split at h <;> split at h2 <;> cases h <;> cases h2 <;> simp_all <;> omega
structure OKm (m:Nat) (S:Nat→Bool) (f:Nat→DataW Unit) (es:List (Lit × DataW Unit)):Prop where
 all:∀ p,p ∈ es→∃ i:Nat,i < m∧S i = true∧p = (.int .i64 (i:Int),f i)
 has:∀ i:Nat,i < m→S i = true→∃ p,p ∈ es∧p.1 = .int .i64 (i:Int)
theorem same_i64 {a b:Int}:(Lit.int .i64 a).sameKey (.int .i64 b) = decide (a = b):=by
 simp [Lit.sameKey]
theorem OKm.look {m i:Nat} {S:Nat→Bool} {f:Nat→DataW Unit} {es:List (Lit × DataW Unit)} (h:OKm m S f es) (hi:i < m) (z:DataW Unit):(DataW.map es).atKey (.int .i64 (i:Int)) z = if S i = true then f i else z:=by
 unfold DataW.atKey
 cases hf:es.find? (fun p=>p.1.sameKey (.int .i64 (i:Int))) with
 | none =>
  simp only [hf]
  rw [List.find?_eq_none] at hf
  by_cases hS:S i = true
  ·obtain ⟨p,hp,e⟩:=h.has i hi hS
   have:=hf p hp
   rw [e,same_i64] at this
   simp at this
  ·rw [if_neg hS]
 | some p =>
  simp only [hf]
  have hp:=List.mem_of_find?_eq_some hf
  have hs:=List.find?_some hf
  obtain ⟨j,hj,hS,rfl⟩:=h.all p hp
  rw [same_i64,decide_eq_true_eq] at hs
  obtain rfl:j = i:=by omega
  rw [if_pos hS]
theorem OKm.put {m k:Nat} {S:Nat→Bool} {f:Nat→DataW Unit} {es:List (Lit × DataW Unit)} (h:OKm m S f es) (hk:k < m):OKm m (fun i=>S i || decide (i = k)) f (putKey (.int .i64 (k:Int)) (f k) es):=by
 refine ⟨fun p hp=>?_,fun i hi hS=>?_⟩
 ·rcases mem_insert_iff.1 hp with rfl | hp
  ·exact ⟨k,hk,by simp,rfl⟩
  ·obtain ⟨i,hi,hS,rfl⟩:=h.all p (List.mem_filter.1 hp).1
   exact ⟨i,hi,by simp [hS],rfl⟩
 ·by_cases e:i = k
  ·subst e;exact ⟨_,mem_insert_iff.2 (.inl rfl),rfl⟩
  ·have hS2:S i = true:=by simpa [e] using hS
   obtain ⟨p,hp,ep⟩:=h.has i hi hS2
   refine ⟨p,mem_insert_iff.2 (.inr (List.mem_filter.2 ⟨hp,?_⟩)),ep⟩
   unfold notKey
   rw [ep,same_i64]
   have:¬ ((i:Int) = (k:Int)):=by omega
   simp [this]
theorem OKm.nil {m:Nat} {f:Nat→DataW Unit}:OKm m (fun _=>false) f []:=⟨fun p hp=>(by cases hp),fun i _ h=>(by cases h)⟩
theorem OKm.keys {m:Nat} {S:Nat→Bool} {f:Nat→DataW Unit} {es:List (Lit × DataW Unit)} (h:OKm m S f es) (x:Int):x ∈ intKeys (.map es)↔∃ i:Nat,i < m∧S i = true∧x = (i:Int):=by
 show x ∈ es.map (fun p=>intOf p.1)↔_
 rw [List.mem_map]
 constructor
 ·rintro ⟨p,hp,rfl⟩
  obtain ⟨i,hi,hS,rfl⟩:=h.all p hp
  exact ⟨i,hi,hS,rfl⟩
 ·rintro ⟨i,hi,hS,rfl⟩
  obtain ⟨p,hp,e⟩:=h.has i hi hS
  exact ⟨p,hp,by rw [e];rfl⟩
end Go.By
namespace Go.Proofs.YtccaiiigdfieoaaGreatDoor
open Go.RowKit Go.By Go.Maps Go.Sort Go.Shelf
def MapC (bm cnt m:Nat) (S:Nat→Bool) (vs:List Value) (W:World):Prop:=∃ es,W.ownsMap Tryz.prog 3 slR bm cnt (.map es)∧OKm m S (fun i=>((slR (vs.getD i undef)).getD (.nil,[])).1) es
theorem keyedC:Keyed Tryz.prog 3:=int_keyed Tryz.underlying3
theorem keyC (i:Nat) (hi:i≤9223372036854775807):keyOf Tryz.prog 3 (.int .i64 (i:Int)) = some (.int .i64 (i:Int)):=keyOf_int_mk Tryz.underlying3 (by simp [Lit.wf,IntKind.min,IntKind.max,IntKind.signed,IntKind.bits];omega)
theorem MapC.keep {bm cnt m:Nat} {S:Nat→Bool} {vs:List Value} {W W':World} (h:MapC bm cnt m S vs W) (hb:Below W.heap.size W W'):MapC bm cnt m S vs W':=by
 obtain ⟨es,ho,hk⟩:=h
 refine ⟨es,?_,hk⟩
 have hlt:=ho.lt
 obtain ⟨e,clock,h1,F,hs,hD⟩:=ho
 exact ⟨e,clock,(hb.block _ hlt).trans h1,F,hs,hD⟩
theorem MapC.lt {bm cnt m:Nat} {S:Nat→Bool} {vs:List Value} {W:World} (h:MapC bm cnt m S vs W):bm < W.heap.size:=by
 obtain ⟨es,ho,_⟩:=h;exact ho.lt
theorem MapC.grown {bm cnt m:Nat} {S:Nat→Bool} {vs:List Value} {W W':World} {row:Option Nat} (h:MapC bm cnt m S vs W) (hg:W.grownBy W' row) (hne:some bm≠row):MapC bm cnt m S vs W':=by
 obtain ⟨es,ho,hk⟩:=h
 exact ⟨es,ho.kept hg hne,hk⟩
theorem MapC.set {bm cnt m b i:Nat} {v:Value} {S:Nat→Bool} {vs:List Value} {W:World} (h:MapC bm cnt m S vs W) (hne:bm≠b):MapC bm cnt m S vs (W.setCell ⟨b,i,none⟩ v):=by
 obtain ⟨es,ho,hk⟩:=h
 obtain ⟨e,clock,h1,F,hs,hD⟩:=ho
 exact ⟨es,⟨e,clock,hsc h1 hne,F,hs,hD⟩,hk⟩
theorem MapC.made {m:Nat} {vs:List Value} {W:World}:MapC W.heap.size 0 m (fun _=>false) vs (W.alloc (.map #[] 0)):=⟨[],World.ownsMap_made _ _ _ _,OKm.nil⟩
theorem zeroB (W:World):(zeroValue 22).run Tryz.prog W = .ok (.slice none 0 0) W:=by simp [Tryz.underlying22]
theorem MapC.look {bm cnt m i:Nat} {S:Nat→Bool} {vs:List Value} {W:World} (h:MapC bm cnt m S vs W) (hi:i < m) (hi2:i≤9223372036854775807) (hv:S i = true→∃ y,slR (vs.getD i undef) = some y) (c:Bool) :
  (Instr.lookup 178 (.map (some bm)) (.int .i64 (i:Int)) c).run Tryz.prog W = .ok (if S i = true then (if c then .tuple #[vs.getD i undef,.bool true] else vs.getD i undef) else (if c then .tuple #[.slice none 0 0,.bool false] else .slice none 0 0)) W:=by
 obtain ⟨es,⟨e,clock,h1,F,hs,hD⟩,hk⟩:=h
 have hl:=hk.look hi
 rw [hD] at hl
 rcases Maps.fit_look c keyedC Tryz.underlying178 (zeroB W) h1 F (keyC i hi2) with ⟨hrun,_,hat⟩ | ⟨e0,y,_,_,hrun,hR,hat,_⟩
 ·have hS:¬ S i = true:=fun hS=>by
   have a1:=hl .nil
   have a2:=hl (.lit (.bool true))
   rw [if_pos hS,hat] at a1 a2
   rw [← a1] at a2;cases a2
  rw [hrun,if_neg hS]
 ·have hS:S i = true:=by
   by_cases hS:S i = true
   ·exact hS
   ·have a1:=hl .nil
    have a2:=hl (.lit (.bool true))
    rw [if_neg hS,hat] at a1 a2
    rw [a1] at a2;cases a2
  have a1:=hl .nil
  rw [if_pos hS,hat] at a1
  obtain ⟨z,hz⟩:=hv hS
  have ev:e0.val = vs.getD i undef:=slR_inj hR hz (by rw [a1,hz];rfl)
  rw [hrun,if_pos hS,ev]
theorem MapC.congr {bm cnt m:Nat} {S:Nat→Bool} {vs vs':List Value} {W:World} (h:MapC bm cnt m S vs W) (he:∀ i,i < m→S i = true→vs.getD i undef = vs'.getD i undef):MapC bm cnt m S vs' W:=by
 obtain ⟨es,ho,hk⟩:=h
 refine ⟨es,ho,⟨fun p hp=>?_,hk.has⟩⟩
 obtain ⟨i,hi,hS,e⟩:=hk.all p hp
 exact ⟨i,hi,hS,by rw [e];show (_,((slR (vs.getD i undef)).getD (.nil,[])).1) = (_,((slR (vs'.getD i undef)).getD (.nil,[])).1);rw [he i hi hS]⟩
theorem MapC.put {bm cnt m k:Nat} {S:Nat→Bool} {vs:List Value} {W:World} (h:MapC bm cnt m S vs W) (hk:k < m) (hk2:k≤9223372036854775807) (hc:cnt < maxLen) {y:DataW Unit × List MemPlace} (hv:slR (vs.getD k undef) = some y) :
  ∃ W',(Instr.mapUpdate 178 (.map (some bm)) (.int .i64 (k:Int)) (vs.getD k undef)).run Tryz.prog W = .ok () W'∧MapC bm (cnt + 1) m (fun i=>S i || decide (i = k)) vs W'∧W.grownBy W' (some bm):=by
 obtain ⟨es,ho,hO⟩:=h
 obtain ⟨W',h1,h2,h3⟩:=ho.update (d:=y.1) (ps:=y.2) keyedC Tryz.underlying178 hc (keyC k hk2) hv
 refine ⟨W',h1,⟨_,?_,hO.put hk⟩,h3⟩
 rw [DataW.put_eq] at h2
 rw [hv]
 exact h2
end Go.Proofs.YtccaiiigdfieoaaGreatDoor
namespace Go.Proofs.YtccaiiigdfieoaaGreatDoor
open Go.RowKit Go.By Go.Maps Go.Sort Go.Shelf
theorem sortsC (m:Nat):AnyZI.SortsIn Tryz.prog Tryz.sortedI_ren Fence.wide m :=
 ⟨fun blk off cap ss W hH hblk hsz => callsIn_wide.2 (AnyM.slices_Sort_int Tryz.sortI blk off cap ss W hH hblk hsz),
  fun p cap W=>callsIn_wide.2 (AnyM.slices_Sort_int_none Tryz.sortI p cap W)⟩
theorem KeysC_any (bm:Nat) (W:World):Calls Tryz.prog 168 #[.map (some bm)] W fun e w'=>e = .returned (.func (.func 215) #[] #[.pointer (some ⟨W.heap.size,0,none⟩)])∧w' = W.alloc (.cells #[.map (some bm)] 178) :=
 (callsIn_wide (n:=5)).1 (AnyZI.keys_in Tryz.keysI Fence.wide 5 trivial rfl (some bm) W)
theorem SortedC_any (bm cnt m B:Nat) (S:Nat→Bool) (vs:List Value) (W:World) (h:MapC bm cnt m S vs W) (hB:W.heap[B]? = some (.cells #[.map (some bm)] 178 (0,0))) (hc:cnt≤100000) :
  Calls Tryz.prog 167 #[.func (.func 215) #[] #[.pointer (some ⟨B,0,none⟩)]] W fun e w'=>∃ (q:Option Addr) (n c:Nat) (ks:List Nat),e = .returned (.slice q n c)∧Sl encZ w' q n c (ks.map fun k:Nat=>(k:Int))∧(∀ k,k ∈ ks↔(k < m∧S k = true))∧Below W.heap.size W w':=by
 obtain ⟨es,ho,hO⟩:=h
 have hsz:Maps.size (.map es:DataW Unit)≤cnt:=by
  obtain ⟨e,clock,h1,F,hs,hD⟩:=ho
  have e1:es = (e.toList.map (Go.WideElems.rg Tryz.prog 3 slR)).foldr DataW.insert []:=by injection hD
  show es.length≤cnt
  rw [e1,length_sorted];simpa using hs
 have hseq:SeqGives Fence.wide 2 Tryz.prog 215 #[.pointer (some ⟨B,0,none⟩)] encZ (fun ss=>ss.Perm (intKeys (.map es:DataW Unit))) (Maps.size (.map es:DataW Unit)) W :=
  AnyZI.keys_gives (ρ:=Tryz.keysI_ren) { Tryz.keysI with } Fence.wide _ trivial rfl (by omega) B bm cnt (.map es) W (blk_ltC hB) (cell_of_row _ _ 0 _ _ _ hB) ho
 have cS:=AnyZI.sorted_in Tryz.sortedI Fence.wide 5 trivial trivial trivial trivial rfl (by omega) (sortsC _) (enters_of Tryz.func214 (by kernel_rfl) rfl) 215 #[.pointer (some ⟨B,0,none⟩)] trivial (enters_of Tryz.func215 (by kernel_rfl) rfl) _ _ (by unfold maxLen;omega) (by omega) _ hseq
 change CallsIn _ _ Tryz.prog 167 _ _ _ at cS
 refine ((callsIn_wide (n:=5)).1 cS).mono ?_
 rintro e w' ⟨v,ss,rfl,hp,hrow,-,hb⟩
 have hmem:∀ x,x ∈ ss.mergeSort (fun x y=>decide (x≤y))↔∃ i:Nat,i < m∧S i = true∧x = (i:Int):=fun x=>by
  rw [(List.mergeSort_perm _ _).mem_iff,hp.mem_iff];exact hO.keys x
 have hnn:∀ x,x ∈ ss.mergeSort (fun x y=>decide (x≤y))→∃ i:Nat,x = (i:Int):=fun x hx=>by
  obtain ⟨i,_,_,e⟩:=(hmem x).1 hx;exact ⟨i,e⟩
 have hback:((ss.mergeSort (fun x y=>decide (x≤y))).map Int.toNat).map (fun k:Nat=>(k:Int)) = ss.mergeSort (fun x y=>decide (x≤y)):=by
  rw [List.map_map]
  conv=>rhs;rw [← List.map_id (ss.mergeSort (fun x y=>decide (x≤y)))]
  apply List.map_congr_left
  intro x hx
  obtain ⟨i,rfl⟩:=hnn x hx
  rfl
 obtain ⟨q,c,rfl⟩:=owns_shape hrow
 refine ⟨q,ss.length,c,(ss.mergeSort (fun x y=>decide (x≤y))).map Int.toNat,rfl,?_,fun k=>?_,hb⟩
 ·rw [hback];exact Sl.of_owns hrow
 ·rw [List.mem_map]
  constructor
  ·rintro ⟨x,hx,rfl⟩
   obtain ⟨i,h1,h2,rfl⟩:=(hmem x).1 hx
   exact ⟨h1,h2⟩
  ·rintro ⟨h1,h2⟩
   exact ⟨(k:Int),(hmem _).2 ⟨k,h1,h2,rfl⟩,rfl⟩
end Go.Proofs.YtccaiiigdfieoaaGreatDoor
namespace Go.By
open Go.RowKit
def objF (s:Nat) (P:Nat→List UInt8) (A:Nat→Bool) (a:Nat):UInt8:=if A (a / s) then (P (a / s)).getD (a % s) 0 else 0
def objL (l s:Nat) (P:Nat→List UInt8) (A:Nat→Bool):List UInt8:=(List.range l).map (objF s P A)
def toldT (l:Nat) (T:Nat→Bool):List Bool:=(List.range l).map T
theorem objL_at (l s:Nat) (P:Nat→List UInt8) (A:Nat→Bool) (a:Nat):(objL l s P A)[a]? = if a < l then some (objF s P A a) else none:=by
 unfold objL
 rw [List.getElem?_map]
 by_cases h:a < l
 ·rw [if_pos h,List.getElem?_range h];rfl
 ·rw [if_neg h,List.getElem?_eq_none (by simpa using h)];rfl
theorem toldT_at (l:Nat) (T:Nat→Bool) (a:Nat):(toldT l T)[a]? = if a < l then some (T a) else none:=by
 unfold toldT
 rw [List.getElem?_map]
 by_cases h:a < l
 ·rw [if_pos h,List.getElem?_range h];rfl
 ·rw [if_neg h,List.getElem?_eq_none (by simpa using h)];rfl
theorem objL_len (l s:Nat) (P:Nat→List UInt8) (A:Nat→Bool):(objL l s P A).length = l:=by simp [objL]
theorem toldT_len (l:Nat) (T:Nat→Bool):(toldT l T).length = l:=by simp [toldT]
theorem toldT_congr {l:Nat} {T U:Nat→Bool} (h:∀ a,a < l→T a = U a):toldT l T = toldT l U:=by
 unfold toldT
 exact List.map_congr_left (fun a ha=>h a (List.mem_range.1 ha))
theorem objL_congr {l s:Nat} {P:Nat→List UInt8} {A B:Nat→Bool} (h:∀ a,a < l→A (a / s) = B (a / s)):objL l s P A = objL l s P B:=by
 unfold objL
 exact List.map_congr_left (fun a ha=>by unfold objF;rw [h a (List.mem_range.1 ha)])
theorem objL_zero (l s:Nat) (P:Nat→List UInt8):(objL l s P (fun _=>false)).map B8 = List.replicate l (B8 0):=by
 unfold objL
 rw [List.map_map,show (B8 ∘ objF s P fun _=>false) = (fun _=>B8 0) from rfl,List.map_const',List.length_range]
theorem toldT_zero (l:Nat):(toldT l (fun _=>false)).map Value.bool = List.replicate l (Value.bool false):=by
 unfold toldT
 rw [List.map_map,show (Value.bool ∘ fun (_:Nat)=>false) = (fun _=>Value.bool false) from rfl,List.map_const',List.length_range]
theorem toldT_set {l i:Nat} {T:Nat→Bool}:(toldT l T).set i true = toldT l (fun a=>T a || decide (a = i)):=by
 apply List.ext_getElem?
 intro a
 rw [List.getElem?_set,toldT_at,toldT_at,toldT_len]
 by_cases h:i = a
 ·subst h;simp
 ·have h2:¬ a = i:=fun e=>h e.symm
  simp [h,h2]
theorem div_eqC {a s k:Nat} (hs:1≤s) (h1:k * s≤a) (h2:a < k * s + s):a / s = k∧a % s = a - k * s:=by
 have e:a = (a - k * s) + k * s:=by omega
 have hl:a - k * s < s:=by omega
 constructor
 ·conv=>lhs;rw [e]
  rw [Nat.add_mul_div_right _ _ (by omega),Nat.div_eq_of_lt hl];omega
 ·conv=>lhs;rw [e]
  rw [Nat.add_mul_mod_self_right,Nat.mod_eq_of_lt hl]
theorem div_neC {a s k:Nat} (hs:1≤s) (h:¬ (k * s≤a∧a < k * s + s)):a / s≠k:=fun e=>by
 have h1:=Nat.div_add_mod a s
 have h2:=Nat.mod_lt a (show 0 < s by omega)
 rw [e,Nat.mul_comm] at h1
 omega
theorem objL_splice {l s k:Nat} {P:Nat→List UInt8} {A:Nat→Bool} (hs:1≤s) (hk:k * s≤l) (hP:(P k).length = s) :
  (objL l s P A).take (k * s) ++ ((P k).take (l - k * s) ++ (objL l s P A).drop (k * s + ((P k).take (l - k * s)).length)) = objL l s P (fun i=>A i || decide (i = k)):=by
 have hz:((P k).take (l - k * s)).length = min (l - k * s) s:=by rw [List.length_take,hP]
 have ht:((objL l s P A).take (k * s)).length = k * s:=by rw [List.length_take,objL_len];omega
 apply List.ext_getElem?
 intro a
 rw [objL_at]
 by_cases h1:a < k * s
 ·rw [List.getElem?_append_left (by omega),List.getElem?_take,if_pos h1,objL_at]
  have hne:=div_neC (k:=k) (a:=a) hs (by omega)
  unfold objF
  simp [hne]
 ·rw [List.getElem?_append_right (by omega),ht]
  by_cases h2:a - k * s < ((P k).take (l - k * s)).length
  ·rw [List.getElem?_append_left h2,List.getElem?_take]
   have h3:a < l:=by omega
   obtain ⟨e1,e2⟩:=div_eqC (a:=a) (k:=k) hs (by omega) (by omega)
   rw [if_pos (by omega),if_pos h3]
   unfold objF
   rw [e1,e2]
   simp only [decide_true,Bool.or_true,if_true]
   rw [List.getD_eq_getElem?_getD,List.getElem?_eq_getElem (by omega)];rfl
  ·rw [List.getElem?_append_right (by omega),List.getElem?_drop,objL_at]
   have e:k * s + ((P k).take (l - k * s)).length + (a - k * s - ((P k).take (l - k * s)).length) = a:=by omega
   rw [e]
   by_cases h3:a < l
   ·have hne:=div_neC (k:=k) (a:=a) hs (by omega)
    rw [if_pos h3,if_pos h3]
    unfold objF
    simp [hne]
   ·rw [if_neg h3,if_neg h3]
theorem wp_copy_rowC {P:Program} {w:World} {o:Oper} {a:Act} {K:Act→World→Prop} {Q:Exit→Act→World→Prop} (d s:Operand) (dT sT:TypeId)
  (ho:o.op = .call { callee:=.builtin .copy,args:=#[d,s],argTypes:=#[dT,sT] }) (elem:TypeId) (hu:P.underlying dT = some (.slice elem)) (hsz:(P.info? elem).map (·.size) = some 1)
  (g off dLen dCap:Nat) (ad:Addr) (sLen sCap:Nat) (hd:a.eval d = .slice (some ⟨g,off,none⟩) dLen dCap) (hs:a.eval s = .slice (some ad) sLen sCap)
  (cur:Array Value) (t:TypeId) (hg:w.heap[g]? = some (.cells cur t (0,0))) (cs:List Value) (hn:cs.length = Nat.min sLen dLen)
  (hsrc:∀ j v,cs[j]? = some v→w.cell? (ad.add j) = some v) (hfit:off + cs.length≤cur.size) (h1:∀ v ∈ cs,v.oneCell' = true)
  (h:K (a.put o.dst (goInt cs.length)) (w.setRow g (cur.toList.take off ++ (cs ++ cur.toList.drop (off + cs.length))).toArray)):o.wp P a w K Q:=by
 have hrun:=run_copy_row (P:=P) w dT sT o.type elem g off dLen dCap ad sLen sCap cur t cs hu hsz hg hn hsrc hfit h1
 unfold Oper.wp
 simp [execOp,ho,resolve,invoke,builtin,hd,hs,hrun,Result.andThen]
 exact h
theorem wp_copy_atC {P:Program} (w:World) {o:Oper} {a:Act} {K:Act→World→Prop} {Q:Exit→Act→World→Prop} (d s:Operand) (dT sT:TypeId)
  (ho:o.op = .call { callee:=.builtin .copy,args:=#[d,s],argTypes:=#[dT,sT] }) (elem:TypeId) (hu:P.underlying dT = some (.slice elem)) (hsz:(P.info? elem).map (·.size) = some 1)
  (g off n c:Nat) (dp:Option Addr) (ad:Addr) (m k:Nat) (hd:a.eval d = .slice dp n c) (hdp:n = 0∨dp = some ⟨g,off,none⟩) (hs:a.eval s = .slice (some ad) m k) (bs src:List UInt8) (T:TypeId) (hg:w.heap[g]? = some (.cells (bs.map B8).toArray T (0,0))) (hl:bs.length = off + n) (hS:Sl B8 w (some ad) m k src) (hm:1≤m)
  (h:∀ w',w'.heap[g]? = some (.cells ((bs.take off ++ (src.take n ++ bs.drop (off + (src.take n).length))).map B8).toArray T (0,0))→w.grownBy w' (some g)→K (a.put o.dst (goInt (src.take n).length)) w'):o.wp P a w K Q:=by
 have hml:=hS.len
 by_cases h0:n = 0
 ·subst h0
  have hrun:=run_copy_none (P:=P) w dT sT o.type elem dp (some ad) 0 c m k hu hsz (by simp)
  have:=h w (by simpa using hg) (World.grownBy.refl _ _)
  unfold Oper.wp
  simp [execOp,ho,resolve,invoke,builtin,hd,hs,hrun,Result.andThen]
  have h2:K (a.put o.dst (goInt 0)) w:=by simpa using this
  exact h2
 ·have e:dp = some ⟨g,off,none⟩:=by
   rcases hdp with h1 | h1
   ·exact absurd h1 h0
   ·exact h1
  subst e
  obtain ⟨b,o',e,-⟩:=hS.rs 0 (by omega)
  cases e
  have key:=wp_copy_rowC (K:=K) (Q:=Q) d s dT sT ho elem hu hsz g off n c ⟨b,o',none⟩ m k hd hs _ T hg ((src.take n).map B8) (by rw [List.length_map,List.length_take,hml,Nat.min_comm]) (fun j v hj=>by
   rw [List.getElem?_map,List.getElem?_take] at hj
   have hjl:j < n∧j < src.length:=by
    split at hj
    ·rename_i hjn
     refine ⟨hjn,?_⟩
     rcases Nat.lt_or_ge j src.length with g | g
     ·exact g
     ·rw [List.getElem?_eq_none g] at hj;cases hj
    ·cases hj
   obtain ⟨b2,o2,e,hc⟩:=hS.rs j hjl.2
   cases e
   rw [if_pos hjl.1,List.getElem?_eq_getElem hjl.2] at hj
   rw [Addr.add_lit,hc];exact hj) (by rw [List.length_map,List.length_take];simp;omega) (fun v hv=>by
   obtain ⟨y,_,rfl⟩:=List.mem_map.1 hv
   rfl)
  refine key ?_
  rw [List.length_map]
  refine h _ ?_ (grownBy_setRowC w g _)
  rw [hrs hg]
  congr 2
  simp
theorem told_start {l f:Nat} {T:Nat→Bool}:toldT l T = toldT l (fun x=>T x || decide (f≤x∧x < f + 0)):=toldT_congr (fun a _=>by
 have:¬ (f≤a∧a < f + 0):=by omega
 rw [decide_eq_false this,Bool.or_false])
theorem told_step {l f a0:Nat} {T:Nat→Bool}:(((toldT l (fun x=>T x || decide (f≤x∧x < f + a0))).map Value.bool).toArray).setIfInBounds (f + a0) (.bool true) = ((toldT l (fun x=>T x || decide (f≤x∧x < f + (a0 + 1)))).map Value.bool).toArray:=by
 rw [List.setIfInBounds_toArray,← List.map_set,toldT_set]
 congr 2
 refine toldT_congr (fun a _=>?_)
 rw [Bool.or_assoc]
 congr 1
 rw [← Bool.decide_or]
 exact decide_eq_decide.2 (by omega)
theorem told_end {l s f k z:Nat} {T:Nat→Bool} (hs:1≤s) (hf:f = k * s) (hz:z = min (l - f) s):toldT l (fun x=>T (x / s) || decide (f≤x∧x < f + z)) = toldT l (fun x=>(T (x / s) || decide (x / s = k))):=toldT_congr (fun a ha=>by
 congr 1
 by_cases h:k * s≤a∧a < k * s + s
 ·have e:=(div_eqC hs h.1 h.2).1
  rw [decide_eq_true e,decide_eq_true (by omega)]
 ·have e:=div_neC hs h
  rw [decide_eq_false e,decide_eq_false (by omega)])
theorem told_cell {l i:Nat} {T:Nat→Bool} (h:i < l):(((toldT l T).map Value.bool).toArray)[i]? = some (.bool (T i)):=by
 rw [List.getElem?_toArray,List.getElem?_map,toldT_at,if_pos h];rfl
theorem take_has {ks:List Nat} {j k:Nat} (h:ks[j]? = some k) (i:Nat):(ks.take (j + 1)).contains i = ((ks.take j).contains i || decide (i = k)):=by
 rw [List.take_add_one,h]
 simp [List.contains_eq_any_beq,Bool.beq_eq_decide_eq]
def CpC (T:TypeId) (gO:Nat) (bs:List UInt8) (W0 W:World):Prop:=W.heap[gO]? = some (.cells (bs.map B8).toArray T (0,0))∧W0.grownBy W (some gO)
def shC (gO l f s bm k z:Nat) (dp:Option Addr) (ad:Addr) (ck:Nat) (Ok:World→Prop):Nat→Value→World→Prop
 | 0,v,_=>v = .slice (some ⟨gO,0,none⟩) l l
 | 1,v,_=>v = .int .i64 (f:Int)
 | 2,v,_=>v = .slice dp (l - f) (l - f)
 | 3,v,_=>v = .map (some bm)
 | 4,v,_=>v = .int .i64 (k:Int)
 | 5,v,_=>v = .slice (some ad) s ck
 | 6,v,W=>v = .int .i64 (z:Int)∧Ok W
 | 7,v,_=>v = .int .i64 0
 | _ + 8,_,_=>True
end Go.By
