/- Chapter 19: a taker in memory; taker.New,Rows,Gate. A region that draws its order,op by op: what holds of the world is told by which operations have run. A region that draws its order,with one call that writes: all else is told values. Chapter 19: taker.Take. Chapter 19: taker.Take of a packet. Chapter 19: taker.Take of a packet that is put. The contracts of the whole of the symbols,Join and Clean. The contracts of Join and Clean. The contracts of the reference's All and of the law's few; the chapter's example. The contract of the law's few; the chapter's example. Chapter 11: fits,piece,Cut,Spread. Chapter 17: a sender in memory; sender.New,Send,Explicit. Chapter 17: sender.Send. An append stays in its own block,or goes to a new one. Chapter 21: a relay in memory; New,Next,Say of what says nothing. Chapter 21: relay.Say of what says something. What is written is read again; the numbers of the law's examples. Chapter 21: what a turn of a sender,a taker,a relay leaves as it is; sender.Explicit. Chapter 19: taker.Status,Rank,Object. Plain laws of GridTells: rows and what they are joined; a unit's bytes. GridTells: the walk,no unit. The walk of the grid's Inverse. Plain laws of GridReckons: rows and their vectors,products,columns,the inverse. The contract of the reference's Mul. GridTells: the walk,no grid,a unit. GridTells: the walk,a grid,a unit. GridTells: the walk,whole. What the laws of grids carry along from call to call. The contract of the reference's without. The contract of the reference's Det. Plain laws of GridRanks: ranks of turned grids and products,determinants,inverses of inverses. Plain law of ElimSolves: equations that symbols solve. Plain law: packets of one object. They never clash; the rows are as many as the rank of the vectors that came; full rows have the object. A sender while others turn; two takers beside each other. Of a plan that may not be there is no gate,no taker,no relay; a plan that may be as numbers. A region that draws its order,by shapes,by what holds of the world as operations run,and by ties between slots. Two slices of headers,each grown by one in a region that draws its order. A plan of an object; ranks of combinations; rows of headers of new bytes while others turn. Chapter 19: the law's awake. A sender and a taker in memory,carried along. The contracts of the document's sum: Put,Sum (bit by bit). Plain law: a packet of which one stretch of four bytes has turned is not let in. What TakerHas,TripRuns,TripArrives carry: rows of bytes that grow; a sender that may refuse. Arguments that came in,as bytes and slices of bytes. Slices of structs of two slices of bytes,that came in. Sources that came in: a slice of structs of a byte,bytes and a number,opened. What the laws of the packets ask first: few bytes,small plans. Chapter 19: TakerHas,of an object that the plan fits. The contracts of slices.Delete and slices.Insert at parcels. The contract of slices.Insert at parcels: one more,where there is room. Lists of parcels that the call owns: each owns its bytes,no two share them. The contracts of the acts: drop,move,forge. The contract of the act move. The contract of the act double. The contract of the act cut. One cell of a parcel is written: its bytes,or where it came from. The contract of the act mask. What acts do to lists of packets; acts that came in,read from memory. Acts that came in: a slice of structs of five cells,and one by value,opened. The contract of play. The contracts of Apply and Whole. The contracts of Whole,of slices.Equal at ints,of Harms; of the law's Few; the chapter's example. The contract of the law's Few of layer 20; the chapter's example. The plain law of WayWhole: what came whole is what was sent; acts that harm nothing leave all whole; acts one by one are as all at once. Chapter 22: what a trip comes to (plain); what a sender and a taker carry along while other blocks turn. Chapter 24,plain: what a taker's rows are as packets,and as a text. Where equations first clash: plain law. A row of headers that read in an older world; vectors of rows. Where equations first clash. -/
import Derived.Test.YtccaiiigdfieoaaGreatDoorZi7
import Derived.Laws.OwnMore
import Derived.OwnWalk
import Derived.WalkKit
import Derived.Laws.AppendOwn
import Derived.OpenShut
import Derived.Lib.SmallJoins
import Derived.Deep.DeepCutAuto
import Derived.Deep.RegionLaw
import Derived.Lib.Overlaps
import Derived.Shelf.Spec.SlicesInsert
import Derived.Lib.AppendZeros
import Derived.Deep.AppendLies
import Derived.Deep.RegionWith
import Derived.BigQuiet
namespace Go.Proofs.YtccaiiigdfieoaaGreatDoor
open Go.RowKit Go.By Go.Maps
theorem ones_gate {a b c d:Int} {M:Value} (hM:M.oneCell' = true):(#[Value.int .i64 a,.int .i64 b,.int .i64 c,.int .u32 d,M].all (·.oneCell')) = true:=by
 simp only [List.all_toArray,List.all_cons,List.all_nil,hM];rfl
structure Tkr (w:World) (base gt be L t k D N:Nat) (M v:Value) (C:DataW Unit) (K:List Rw) (st:Nat):Prop where
 ok:POK L t k D
 box:w.heap[gt]? = some (.cells #[.int .i64 (L:Nat),.int .i64 (t:Nat),.int .i64 (k:Nat),.int .u32 (D:Nat),M,.pointer (some ⟨be,0,none⟩),.int .i64 (st:Nat)] 118 (0,0))
 cnt:CntM w M N C
 elm:Elm w base be k t v K.length K
 red:Red k t K
 old:base≤gt
theorem Tkr.keep {w w':World} {base gt be L t k D N:Nat} {M v:Value} {C:DataW Unit} {K:List Rw} {st:Nat} (h:Tkr w base gt be L t k D N M v C K st) (hb:Below w.heap.size w w'):Tkr w' base gt be L t k D N M v C K st :=
 ⟨h.ok,(hb.block _ (lt_of_block h.box)).trans h.box,h.cnt.keep hb,h.elm.keep hb,h.red,h.old⟩
set_option maxRecDepth 100000 in
set_option maxHeartbeats 2000000 in
theorem TNew_ok (L t k D:Nat) (w:World) (hP:POK L t k D) :
  Calls Tryz.prog 15 #[PVal L t k D] w fun e w'=>∃ gt be v,e = .returned (.tuple #[.pointer (some ⟨gt,0,none⟩),.int .i64 0])∧Tkr w' w.heap.size gt be L t k D 0 (.map none) v (.map []) [] 0∧Below w.heap.size w w':=by
 have HP:=Lib.hid hP
 have HG:Hid (∀ w,Calls Tryz.prog 60 #[PVal L t k D] w fun e w'=>e = .returned (.tuple #[GVal L t k D (.map none),.int .i64 0])∧Below w.heap.size w w'):=fun w=>GNew_ok L t k D w hP
 have HE:Hid (∀ w,Calls Tryz.prog 61 #[.int .i64 (k:Nat),.int .i64 (t:Nat)] w _):=fun w=>New_good k t w hP.k1 hP.k2 hP.t2
 clear hP
 go_enter Tryz.func15,Tryz.ntmps15
 go_wp2_with fail
 refine Calls.mono (HG.out _) ?_
 rintro e w1 ⟨rfl,hb⟩
 obtain ⟨hb1,h1,hs⟩:=one_of hb
 have HB:=Lib.hid hb1
 obtain ⟨c0,c1,c2,c3⟩:=cells_four h1
 have a1:∀ o',(w1.alloc o').cell? ⟨w.heap.size,1,none⟩ = _:=fun _=>calloc c1
 have a2:∀ o',(w1.alloc o').cell? ⟨w.heap.size,2,none⟩ = _:=fun _=>calloc c2
 clear hb hb1 c0 c1 c2 c3
 go_wp2_with fail
 refine Calls.mono (HE.out _) ?_
 rintro e w2 ⟨be,rfl,hE,hb⟩
 obtain ⟨hb2,h2,hs2⟩:=one_of hb
 have HB2:=Lib.hid (bl HB.out hb2 HB.out.size)
 have HEl:=Lib.hid (⟨hE.box,hE.rows.mono (by have:=HB.out.size;simp;omega),Nat.le_trans (by have:=HB.out.size;simp;omega) hE.old⟩:Elm w2 w.heap.size be k t (.slice none 0 0) 0 [])
 obtain ⟨d0,d1,d2,d3,d4⟩:=cells_five h2
 clear hb hb2 hE a1 a2
 go_wp2
 go_ret2
 exact ⟨w2.heap.size,be,.slice none 0 0,rfl,⟨HP.out,hnew rfl,CntM.none _ _,HEl.out.keep (al (Below.refl _ _) (Nat.le_refl _)),Red.nil _ _,HB2.out.size⟩,al HB2.out HB2.out.size⟩
set_option maxRecDepth 100000 in
set_option maxHeartbeats 1000000 in
theorem TRows_any (base gt be L t k D N:Nat) (M v:Value) (C:DataW Unit) (K:List Rw) (st:Nat) (w:World) (h:Tkr w base gt be L t k D N M v C K st) :
  Calls Tryz.prog 21 #[.pointer (some ⟨gt,0,none⟩)] w fun e w'=>∃ v',e = .returned v'∧RwL 99 5 w' w.heap.size v' K.length K∧Below w.heap.size w w':=by
 have hl:=Red.le h.red
 have hk2:=h.ok.k2
 have ht2:=h.ok.t2
 have hR:=h.red
 have HE:=Lib.hid (ERows_any base be k t K.length v K w h.elm (fun r hr=>⟨by have:=(hR.kept.rows r hr).1.1;show _≤_;omega,by have:=(hR.kept.rows r hr).1.2;show _≤_;omega⟩) (by omega))
 obtain ⟨c0,c1,c2,c3,c4,c5,c6⟩:=cells_seven h.box
 clear h hl hk2 ht2 hR
 go_enter Tryz.func21,Tryz.ntmps21
 go_wp2_with fail
 refine Calls.mono HE.out ?_
 rintro e w1 ⟨v',rfl,hr,hb⟩
 have HR:=Lib.hid hr
 have HB:=Lib.hid hb
 clear hr hb
 go_wp2
 go_ret
 exact ⟨v',rfl,HR.out,HB.out⟩
set_option maxRecDepth 100000 in
set_option maxHeartbeats 1000000 in
theorem TGate_any (base gt be L t k D N:Nat) (M v:Value) (C:DataW Unit) (K:List Rw) (st:Nat) (w:World) (h:Tkr w base gt be L t k D N M v C K st) :
  Calls Tryz.prog 71 #[.pointer (some ⟨gt,0,none⟩)] w fun e w'=>e = .returned (GVal L t k D M)∧Below w.heap.size w w':=by
 have hM:M.oneCell' = true:=by rcases h.cnt.at_ with ⟨rfl,_⟩ | ⟨b,rfl,_⟩ <;> rfl
 obtain ⟨c0,c1,c2,c3,c4,c5,c6⟩:=cells_seven h.box
 have a0:∀ o',(w.alloc o').cell? ⟨gt,0,none⟩ = _:=fun _=>calloc c0
 have a1:∀ o',(w.alloc o').cell? ⟨gt,1,none⟩ = _:=fun _=>calloc c1
 have a2:∀ o',(w.alloc o').cell? ⟨gt,2,none⟩ = _:=fun _=>calloc c2
 have a3:∀ o',(w.alloc o').cell? ⟨gt,3,none⟩ = _:=fun _=>calloc c3
 have a4:∀ o',(w.alloc o').cell? ⟨gt,4,none⟩ = _:=fun _=>calloc c4
 clear h c0 c1 c2 c3 c4 c5 c6
 go_enter Tryz.func71,Tryz.ntmps71
 go_wp2_with (refine wpList_store_row (o:=⟨none,.store 111 (.tmp 2) (.tmp 9),_,_,_,_⟩) rfl 111 (.tmp 2) (.tmp 9) rfl w.heap.size #[.int .i64 (L:Nat),.int .i64 (t:Nat),.int .i64 (k:Nat),.int .u32 (D:Nat),M] rfl rfl _ _ (hnew rfl) info_gate rfl (ones_gate hM) ?_)
 refine bodyPost_ret (results_cell_row rfl _ _ _ 111 #[.int .i64 (L:Nat),.int .i64 (t:Nat),.int .i64 (k:Nat),.int .u32 (D:Nat),M] (0,0) _ rfl (hrs (hnew rfl)) Tryz.underlying111 rfl info_gate) rfl ?_
 exact ⟨rfl,below_row (al (Below.refl _ _) (Nat.le_refl _)) (Nat.le_refl _)⟩
end Go.Proofs.YtccaiiigdfieoaaGreatDoor
namespace Go.By
open Go.RowKit
section
variable {P:Program} {ops:Array Oper} {Q:Exit→Act→World→Prop}
def StepDn (P:Program) (ops:Array Oper) (Q:Exit→Act→World→Prop) (a0:Act) (E:(Nat→Bool)→World→Prop) (R:Nat→World→World→Prop) (Inv:Nat→(Nat→Value)→World→Prop) (i:Nat) (o:Oper):Prop :=
 ∀ (a:Act) (w:World) (dn:Nat→Bool),dn i = false→E dn w→a.tmps.size = a0.tmps.size→(∀ k,k ∈ preds o→Inv k (sl a) w)→(∀ t,initAt ops i t = true→sl a t = sl a0 t) →
  if Region.wanted o (yielded ops a.tmps) = true then o.wp P a w (fun a' w'=>∃ v,a' = a.put o.dst v∧R i w w'∧Inv i (sl a') w') Q
  else R i w w∧Inv i (sl (a.put o.dst undef)) w
def EachDn (P:Program) (ops:Array Oper) (Q:Exit→Act→World→Prop) (a0:Act) (E:(Nat→Bool)→World→Prop) (R:Nat→World→World→Prop) (Inv:Nat→(Nat→Value)→World→Prop):List Oper→Nat→Prop
 | [],_=>True
 | o :: rest,i=>StepDn P ops Q a0 E R Inv i o∧EachDn P ops Q a0 E R Inv rest (i + 1)
theorem EachDn.get {a0:Act} {E:(Nat→Bool)→World→Prop} {R:Nat→World→World→Prop} {Inv:Nat→(Nat→Value)→World→Prop}:∀ (l:List Oper) (k:Nat),EachDn P ops Q a0 E R Inv l k→∀ j o,l[j]? = some o→StepDn P ops Q a0 E R Inv (k + j) o:=by
 intro l
 induction l with
 | nil=>intro k _ j o h;simp at h
 | cons x l ih =>
  intro k h j o hj
  cases j with
  | zero=>simp at hj;subst hj;exact h.1
  | succ j =>
   have:=ih (k + 1) h.2 j o (by simpa using hj)
   rwa [show k + 1 + j = k + (j + 1) by omega] at this
theorem wp_region_done {id:Nat} {a0:Act} {w0:World} (hm:P.follows .mixedOrders = true) (hback:backB ops = true)
  (E:(Nat→Bool)→World→Prop) (R:Nat→World→World→Prop) (Inv:Nat→(Nat→Value)→World→Prop)
  (E0:E (fun _=>false) w0.drew) (ER:∀ dn i w w',dn i = false→E dn w→R i w w'→E (fun j=>if i = j then true else dn j) w')
  (stable:∀ i j oi oj (σ σ':Nat→Value) w w',i≠j→ops[i]? = some oi→ops[j]? = some oj→i ∉ preds oj∨True→Inv j σ w→R i w w'→(∀ t,oi.dst≠some t→σ' t = σ t)→(j ∉ preds oi→True)→(∀ d,oi.dst = some d→i ∈ preds oj→False)→Inv j σ' w')
  (each:EachDn P ops Q a0 E R Inv ops.toList 0)
  (fin:∀ a w dn,E dn w→a.tmps.size = a0.tmps.size→a.defers = a0.defers→(∀ j,j < ops.size→Inv j (sl a) w)→(∀ t,(ops.toList.all fun o=>o.dst != some t) = true→sl a t = sl a0 t)→Q .normal a w) :
  (Code.region id ops true).wp P Q a0 w0:=by
 refine wp_region_any hm ?_
 show wpAny P .any ops Q ops.size (Array.replicate ops.size false) a0 w0.drew
 have main:∀ (fuel:Nat) (listed:Array Bool) (a:Act) (w:World),unl ops.size listed≤fuel→E (fun j=>listed.getD j false) w→a.tmps.size = a0.tmps.size→a.defers = a0.defers →
   (∀ j o,listed.getD j false = true→ops[j]? = some o→∀ k,k ∈ preds o→listed.getD k false = true) →
   (∀ j,j < ops.size→listed.getD j true = true→listed.getD j false = true) →
   (∀ j,j < ops.size→listed.getD j false = true→Inv j (sl a) w) →
   (∀ t,(∀ j o,j < ops.size→listed.getD j false = true→ops[j]? = some o→o.dst≠some t)→sl a t = sl a0 t)→wpAny P .any ops Q fuel listed a w:=by
  intro fuel
  induction fuel with
  | zero =>
   intro listed a w hu hE hs hd hcl hlt hI ht
   have hall:∀ j,j < ops.size→listed.getD j false = true:=by
    intro j hj
    refine hlt j hj ?_
    have h0:unl ops.size listed = 0:=by omega
    unfold unl at h0
    have:=List.countP_eq_zero.1 h0 j (List.mem_range.2 hj)
    simpa using this
   refine ⟨?_,fin a w _ hE hs hd (fun j hj=>hI j hj (hall j hj)) (fun t htt=>ht t (fun j o _ _ ho=>?_))⟩
   ·rw [List.eq_nil_iff_forall_not_mem]
    intro i hi
    obtain ⟨h1,h2,_⟩:=mem_ready.1 hi
    have hx:=hall i h1
    rcases Nat.lt_or_ge i listed.size with h | h
    ·simp [Array.getD_eq_getD_getElem?,h] at h2 hx;rw [h2] at hx;cases hx
    ·simp [Array.getD_eq_getD_getElem?,Array.getElem?_eq_none h] at hx
   ·have:=List.all_eq_true.1 htt o (by rw [Array.mem_toList_iff];exact Array.mem_of_getElem? ho)
    simpa using this
  | succ fuel ih =>
   intro listed a w hu hE hs hd hcl hlt hI ht
   refine ⟨fun hr=>?_,fun i hi=>?_⟩
   ·have hall:∀ n j,j < n→j < ops.size→listed.getD j false = true:=by
     intro n
     induction n with
     | zero=>intro j hj;omega
     | succ n ihn =>
      intro j hj hjs
      refine hlt j hjs ?_
      cases hb:listed.getD j true with
      | true=>rfl
      | false =>
       exfalso
       have ho:ops[j]? = some ops[j]:=Array.getElem?_eq_getElem hjs
       have:j ∈ Region.ready .any ops listed:=mem_ready.2 ⟨hjs,hb,_,ho,fun k hk=>by
        have hbk:=List.all_eq_true.1 hback j (List.mem_range.2 hjs)
        rw [ho] at hbk
        have hkj:=of_decide_eq_true (List.all_eq_true.1 hbk k hk)
        exact ihn k (by omega) (by omega)⟩
       rw [hr] at this;cases this
    exact fin a w _ hE hs hd (fun j hj=>hI j hj (hall (j + 1) j (by omega) hj)) (fun t htt=>ht t (fun j o _ _ ho=>by
     have:=List.all_eq_true.1 htt o (by rw [Array.mem_toList_iff];exact Array.mem_of_getElem? ho)
     simpa using this))
   ·obtain ⟨h1,h2,o,ho,h3⟩:=mem_ready.1 hi
    have hst:=EachDn.get ops.toList 0 each i o (by simpa using ho)
    rw [Nat.zero_add] at hst
    have hnl:listed.getD i false≠true:=by
     intro hx
     rcases Nat.lt_or_ge i listed.size with h | h
     ·simp [Array.getD_eq_getD_getElem?,h] at h2 hx;rw [h2] at hx;cases hx
     ·simp [Array.getD_eq_getD_getElem?,Array.getElem?_eq_none h] at hx
    have his:i < listed.size:=by
     rcases Nat.lt_or_ge i listed.size with h | h
     ·exact h
     ·simp [Array.getD_eq_getD_getElem?,Array.getElem?_eq_none h] at h2
    have gset:∀ j (d:Bool),(listed.setIfInBounds i true).getD j d = if i = j then true else listed.getD j d:=by
     intro j d
     simp only [Array.getD_eq_getD_getElem?,Array.getElem?_setIfInBounds]
     by_cases e:i = j
     ·subst e;simp [his]
     ·simp [e]
    have hst':=hst a w _ (by simpa using hnl) hE hs (fun k hk=>hI k (by
      have hbk:=List.all_eq_true.1 hback i (List.mem_range.2 h1)
      rw [ho] at hbk
      have:=of_decide_eq_true (List.all_eq_true.1 hbk k hk);omega) (h3 k hk)) (fun t hti=>by
     refine ht t (fun j oj hj hlj hoj hdj=>?_)
     have:=List.all_eq_true.1 hti j (List.mem_range.2 hj)
     rw [hoj] at this
     by_cases e:j = i
     ·subst e;exact hnl hlj
     ·simp [e,hdj] at this
      exact hnl (hcl j oj hlj hoj i this))
    have next:∀ (v:Value) (w':World),R i w w'→Inv i (sl (a.put o.dst v)) w'→wpAny P .any ops Q fuel (listed.setIfInBounds i true) (a.put o.dst v) w':=by
     intro v w' hR hIi
     refine ih _ _ _ (by have:=unl_set (n:=ops.size) h1 h2;omega) (by have h:=ER _ i w w' (by simpa using hnl) hE hR;have e:(fun j=>if i = j then true else listed.getD j false) = fun j=>(listed.setIfInBounds i true).getD j false:=funext fun j=>(gset j false).symm;rw [e] at h;exact h) ((put_size _ _ _).trans hs) ((put_defers _ _ _).trans hd) ?_ ?_ ?_ ?_
     ·intro j oj hj hoj k hk
      rw [gset] at hj ⊢
      by_cases e:i = k
      ·rw [if_pos e]
      ·rw [if_neg e]
       by_cases e':i = j
       ·subst e';rw [ho] at hoj;cases hoj;exact h3 k hk
       ·rw [if_neg e'] at hj;exact hcl j oj hj hoj k hk
     ·intro j hj hl
      rw [gset] at hl ⊢
      by_cases e:i = j
      ·rw [if_pos e]
      ·rw [if_neg e] at hl ⊢;exact hlt j hj hl
     ·intro j hj hl
      rw [gset] at hl
      by_cases e:i = j
      ·subst e;exact hIi
      ·rw [if_neg e] at hl
       have hoj:ops[j]? = some ops[j]:=Array.getElem?_eq_getElem hj
       exact stable i j o _ (sl a) _ w w' e ho hoj (.inr trivial) (hI j hj hl) hR (fun t h=>put_sl _ _ _ _ h) (fun _=>trivial) (fun d hdd hp=>hnl (hcl j _ hl hoj i hp))
     ·intro t htt
      have hdt:o.dst≠some t:=htt i o h1 (by rw [gset,if_pos rfl]) ho
      rw [put_sl _ _ _ _ hdt]
      exact ht t (fun j oj hj hl hoj=>htt j oj hj (by rw [gset];split <;> simp [hl]) hoj)
    unfold wpOp
    rw [ho]
    show if Region.wanted o (yielded ops a.tmps) = true then _ else _
    split
    ·rename_i hw
     rw [if_pos hw] at hst'
     exact .inl (Oper.wp_mono (fun a' w' ⟨v,e,hR,hIi⟩=>by rw [e] at hIi ⊢;exact next v w' hR hIi) hst')
    ·rename_i hw
     rw [if_neg hw] at hst'
     exact next undef w hst'.1 hst'.2
 refine main ops.size _ a0 w0.drew ?_ (by have e:(fun j=>(Array.replicate ops.size false).getD j false) = fun _=>false:=funext fun j=>(by simp [Array.getD_eq_getD_getElem?,Array.getElem?_replicate];split <;> rfl);rw [e];exact E0) rfl rfl ?_ ?_ ?_ ?_
 ·unfold unl;exact Nat.le_trans List.countP_le_length (by simp)
 ·intro j o hj;simp [Array.getD_eq_getD_getElem?,Array.getElem?_replicate] at hj
  split at hj <;> simp at hj
 ·intro j hj hl;simp [Array.getD_eq_getD_getElem?,Array.getElem?_replicate,hj] at hl
 ·intro j hj hl;simp [Array.getD_eq_getD_getElem?,Array.getElem?_replicate,hj] at hl
 ·intro t _;rfl
def InvD (ops:Array Oper) (sh:Nat→Value→World→Prop) (i:Nat) (σ:Nat→Value) (w:World):Prop:=match dstOf ops i with
 | some d=>sh i (σ d) w
 | none=>True
def StepE (P:Program) (ops:Array Oper) (Q:Exit→Act→World→Prop) (a0:Act) (E:(Nat→Bool)→World→Prop) (R:Nat→World→World→Prop) (sh:Nat→Value→World→Prop) (i:Nat) (o:Oper):Prop :=
 ∀ (a:Act) (w:World) (dn:Nat→Bool),dn i = false→E dn w→a.tmps.size = a0.tmps.size→(∀ k,k ∈ preds o→InvD ops sh k (sl a) w)→(∀ t,initAt ops i t = true→sl a t = sl a0 t) →
  if Region.wanted o (yielded ops a.tmps) = true then o.wp P a w (fun a' w'=>∃ v,a' = a.put o.dst v∧R i w w'∧sh i v w') Q
  else R i w w∧sh i undef w
def EachE (P:Program) (ops:Array Oper) (Q:Exit→Act→World→Prop) (a0:Act) (E:(Nat→Bool)→World→Prop) (R:Nat→World→World→Prop) (sh:Nat→Value→World→Prop):List Oper→Nat→Prop
 | [],_=>True
 | o :: rest,i=>StepE P ops Q a0 E R sh i o∧EachE P ops Q a0 E R sh rest (i + 1)
theorem eachE_of {a0:Act} {E:(Nat→Bool)→World→Prop} {R:Nat→World→World→Prop} {sh:Nat→Value→World→Prop} {n:Nat} (hn:a0.tmps.size = n):∀ (l:List Oper) (k:Nat),(∀ j o,l[j]? = some o→ops[k + j]? = some o)→(l.all fun o=>match o.dst with
  | some d=>decide (d < n)
  | none=>false) = true →
  EachE P ops Q a0 E R sh l k→EachDn P ops Q a0 E R (InvD ops sh) l k:=by
 intro l
 induction l with
 | nil=>intro k _ _ _;trivial
 | cons o l ih =>
  intro k hk hd h
  simp only [List.all_cons,Bool.and_eq_true] at hd
  refine ⟨?_,ih (k + 1) (fun j o' hj=>by have:=hk (j + 1) o' (by simpa using hj);rwa [show k + (j + 1) = k + 1 + j by omega] at this) hd.2 h.2⟩
  intro a w dn hdn hE hs hp hi
  have ho:ops[k]? = some o:=by have:=hk 0 o (by simp);simpa using this
  have hs1:=h.1 a w dn hdn hE hs hp hi
  cases hdo:o.dst with
  | none=>rw [hdo] at hd;simp at hd
  | some d =>
   rw [hdo] at hd
   have hd1:d < n:=of_decide_eq_true hd.1
   have hdn:d < a.tmps.size:=by rw [hs,hn];exact hd1
   have hdst:dstOf ops k = some d:=by simp [dstOf,ho,hdo]
   split
   ·rename_i hw
    rw [if_pos hw] at hs1
    refine Oper.wp_mono ?_ hs1
    rintro a' w' ⟨v,e,hb,hok⟩
    refine ⟨v,e.trans (by rw [hdo]),hb,?_⟩
    unfold InvD
    rw [hdst]
    show sh k (sl a' d) w'
    rw [e,hdo,put_same _ _ _ hdn];exact hok
   ·rename_i hw
    rw [if_neg hw] at hs1
    refine ⟨hs1.1,?_⟩
    unfold InvD
    rw [hdst]
    show sh k (sl (a.put (some d) undef) d) w
    rw [put_same _ _ _ hdn];exact hs1.2
def predB (ops:Array Oper) (i j:Nat):Bool:=match ops[j]? with
 | some o=>(preds o).contains i
 | none=>false
theorem wp_region_dones {id:Nat} {a0:Act} {w0:World} (E:(Nat→Bool)→World→Prop) (R:Nat→World→World→Prop) (sh:Nat→Value→World→Prop) (n:Nat) (hn:a0.tmps.size = n) (hm:P.follows .mixedOrders = true) (hback:backB ops = true) (hdist:distB ops = true) (hdsts:dstsB ops n = true)
  (E0:E (fun _=>false) w0.drew) (ER:∀ dn i w w',dn i = false→E dn w→R i w w'→E (fun j=>if i = j then true else dn j) w') (keep:∀ i j v w w',i≠j→predB ops i j = false→sh j v w→R i w w'→sh j v w')
  (each:EachE P ops Q a0 E R sh ops.toList 0)
  (fin:∀ a w dn,E dn w→a.tmps.size = a0.tmps.size→a.defers = a0.defers→(∀ j,j < ops.size→InvD ops sh j (sl a) w)→(∀ t,(ops.toList.all fun o=>o.dst != some t) = true→sl a t = sl a0 t)→Q .normal a w) :
  (Code.region id ops true).wp P Q a0 w0:=by
 refine wp_region_done hm hback E R (InvD ops sh) E0 ER ?_ (eachE_of hn _ 0 (fun j o hj=>by simpa using hj) hdsts each) fin
 intro i j oi oj σ σ' w w' hij hoi hoj _ hI hR hσ _ hnp
 unfold InvD at hI ⊢
 cases hdj:dstOf ops j with
 | none=>trivial
 | some d =>
  rw [hdj] at hI
  show sh j (σ' d) w'
  have hne:oi.dst≠some d:=by
   intro e
   have hi':i < ops.size:=(Array.getElem?_eq_some_iff.1 hoi).1
   have hj':j < ops.size:=(Array.getElem?_eq_some_iff.1 hoj).1
   have:=List.all_eq_true.1 (List.all_eq_true.1 hdist i (List.mem_range.2 hi')) j (List.mem_range.2 hj')
   rw [hoi,hoj] at this
   have hdj':oj.dst = some d:=by simpa [dstOf,hoj] using hdj
   simp [e,hdj',hij] at this
  rw [hσ d hne]
  refine keep i j _ _ _ hij ?_ hI hR
  unfold predB
  rw [hoj]
  show (preds oj).contains i = false
  cases hc:(preds oj).contains i with
  | false=>rfl
  | true =>
   have hdo:=List.all_eq_true.1 hdsts oi (by rw [Array.mem_toList_iff];exact Array.mem_of_getElem? hoi)
   cases hd:oi.dst with
   | none=>rw [hd] at hdo;simp at hdo
   | some d=>exact (hnp d hd (by simpa using hc)).elim
end
end Go.By
namespace Go.By
open Go.RowKit
theorem eachE_all {P:Program} {ops:Array Oper} {Q:Exit→Act→World→Prop} {a0:Act} {E:(Nat→Bool)→World→Prop} {R:Nat→World→World→Prop} {sh:Nat→Value→World→Prop} (key:∀ i o,ops[i]? = some o→StepE P ops Q a0 E R sh i o) :
  ∀ (l:List Oper) (k:Nat),(∀ j o,l[j]? = some o→ops[k + j]? = some o)→EachE P ops Q a0 E R sh l k:=by
 intro l
 induction l with
 | nil=>intro k _;trivial
 | cons x l ih =>
  intro k h
  exact ⟨key k x (by have:=h 0 x rfl;simpa using this),ih (k + 1) fun j o hj=>by have:=h (j + 1) o (by simpa using hj);rwa [show k + 1 + j = k + (j + 1) by omega]⟩
def freeB (ops:Array Oper):Bool:=ops.toList.all fun o=>o.guard.isNone
theorem wp_region_call {P:Program} {ops:Array Oper} {Q:Exit→Act→World→Prop} {id:Nat} {a0:Act} {w0:World} (sv:Nat→Value) (n s:Nat) (P1:World→Prop) (hn:a0.tmps.size = n) (hm:P.follows .mixedOrders = true) (hback:backB ops = true) (hdist:distB ops = true) (hdsts:dstsB ops n = true) (hfree:freeB ops = true) (hs:s < ops.size)
  (each:∀ i o,i≠s→ops[i]? = some o→∀ a w,(w = w0.drew∨P1 w)→a.tmps.size = a0.tmps.size→(∀ k d,k ∈ preds o→dstOf ops k = some d→sl a d = sv k)→(∀ t,initAt ops i t = true→sl a t = sl a0 t)→(execOp a.eval o).run P w = .ok (.value (sv i)) w)
  (call:∀ o,ops[s]? = some o→∀ a,a.tmps.size = a0.tmps.size→(∀ k d,k ∈ preds o→dstOf ops k = some d→sl a d = sv k)→(∀ t,initAt ops s t = true→sl a t = sl a0 t)→o.wp P a w0.drew (fun a' w'=>a' = a.put o.dst (sv s)∧P1 w') Q)
  (fin:∀ a w,P1 w→a.tmps.size = a0.tmps.size→a.defers = a0.defers→(∀ j d,j < ops.size→dstOf ops j = some d→sl a d = sv j)→(∀ t,(ops.toList.all fun o=>o.dst != some t) = true→sl a t = sl a0 t)→Q .normal a w) :
  (Code.region id ops true).wp P Q a0 w0:=by
 have hg:∀ (i:Nat) (o:Oper),ops[i]? = some o→o.guard = none:=fun i o ho=>by
  have:=List.all_eq_true.1 hfree o (by rw [Array.mem_toList_iff];exact Array.mem_of_getElem? ho)
  cases hx:o.guard <;> simp [hx] at this ⊢
 refine wp_region_dones (fun dn w=>(dn s = true→P1 w)∧(dn s = false→w = w0.drew)) (fun i w w'=>if i = s then w = w0.drew∧P1 w' else w' = w) (fun j v w=>v = sv j∧(j = s→P1 w)) n hn hm hback hdist hdsts ?_ ?_ ?_ ?_ ?_
 ·exact ⟨fun h=>absurd h (by simp),fun _=>rfl⟩
 ·intro dn i w w' hdn hE hR
  by_cases hi:i = s
  ·have hR':w = w0.drew∧P1 w':=by simpa [hi] using hR
   exact ⟨fun _=>hR'.2,fun h=>by simp [hi] at h⟩
  ·have hR':w' = w:=by simpa [hi] using hR
   subst hR'
   exact ⟨fun h=>hE.1 (by simpa [hi] using h),fun h=>hE.2 (by simpa [hi] using h)⟩
 ·intro i j v w w' hij _ hv hR
  refine ⟨hv.1,fun hj=>?_⟩
  by_cases hi:i = s
  ·exact absurd (hi.trans hj.symm) hij
  ·rw [if_neg hi] at hR
   rw [hR];exact hv.2 hj
 ·refine eachE_all ?_ ops.toList 0 (fun j o hj=>by simpa using hj)
  intro i o ho a w dn hdn hE hsz hp hi
  have hp':∀ k d,k ∈ preds o→dstOf ops k = some d→sl a d = sv k:=fun k d hk hd=>by
   have:=hp k hk
   unfold InvD at this
   rw [hd] at this
   exact this.1
  rw [if_pos (by simp [Region.wanted,hg i o ho])]
  by_cases his:i = s
  ·subst his
   have hw:=hE.2 hdn
   subst hw
   refine Oper.wp_mono (fun a' w' hq=>?_) (call o ho a hsz hp' hi)
   obtain ⟨rfl,h1⟩:=hq
   refine ⟨sv i,rfl,?_,rfl,fun _=>h1⟩
   dsimp only
   rw [if_pos rfl]
   exact ⟨rfl,h1⟩
  ·have hw:w = w0.drew∨P1 w:=by
    cases hx:dn s with
    | true=>exact .inr (hE.1 hx)
    | false=>exact .inl (hE.2 hx)
   refine wp_val (sv i) (each i o his ho a w hw hsz hp' hi) ⟨sv i,rfl,?_,rfl,fun h=>absurd h his⟩
   dsimp only
   rw [if_neg his]
 ·intro a w dn hE hsz hd hI ht
  have hos:ops[s]? = some ops[s]:=Array.getElem?_eq_getElem hs
  have hds:∃ d,dstOf ops s = some d:=by
   have:=List.all_eq_true.1 hdsts ops[s] (Array.getElem_mem_toList hs)
   cases hx:ops[s].dst with
   | none=>rw [hx] at this;cases this
   | some d=>exact ⟨d,by simp [dstOf,hos,hx]⟩
  obtain ⟨d,hds⟩:=hds
  have h1:=hI s hs
  unfold InvD at h1
  rw [hds] at h1
  refine fin a w (h1.2 rfl) hsz hd (fun j d' hj hdj=>?_) ht
  have:=hI j hj
  unfold InvD at this
  rw [hdj] at this
  exact this.1
end Go.By
namespace Go.By
open Go.RowKit Go.Maps Go.Proofs.YtccaiiigdfieoaaGreatDoor
structure OneE (w:World) (g:Nat) (w':World):Prop where
 os:w'.os = w.os
 tape:w'.tape = w.tape
 output:w'.output = w.output
 size:w'.heap.size = w.heap.size
 block:∀ b,b≠g→w'.heap[b]? = w.heap[b]?
theorem OneE.refl (w:World) (g:Nat):OneE w g w:=⟨rfl,rfl,rfl,rfl,fun _ _=>rfl⟩
theorem OneE.set {w w':World} {g i:Nat} (h:OneE w g w') (v:Value):OneE w g (w'.setCell ⟨g,i,none⟩ v) :=
 ⟨h.os,h.tape,h.output,by simp [World.setCell];exact h.size,fun b hb=>(Below.heap_setCell _ _ _ _ hb).trans (h.block b hb)⟩
theorem OneE.below {w w':World} {g B:Nat} (h:OneE w g w') (hB:B≤g):Below B w w':=⟨h.os,h.tape,h.output,by rw [h.size];exact Nat.le_refl _,fun i hi=>h.block i (by omega)⟩
theorem OneE.fresh {T T' B g n c:Nat} {w w':World} {q:Option Addr} {xs:List UInt8} {old:Array Value} {fr:Nat × Nat} (hE:OneE w g w') (h:Fresh T B w q n c xs) (hg:w.heap[g]? = some (.cells old T' fr)) (hne:T'≠T):Fresh T B w' q n c xs:=by
 have hd:∀ a,q = some a→a.block≠g:=fun a ha e1=>by
  obtain ⟨cs,fr,e⟩:=h.ty a ha
  rw [e1,hg] at e;injection e with e;injection e with _ e _;exact hne e
 refine ⟨⟨h.sl.len,h.sl.le,h.sl.max,h.sl.nil,fun i hi=>?_⟩,h.new,fun a ha=>?_⟩
 ·obtain ⟨b,o,e,hc⟩:=h.sl.rs i hi
  exact ⟨b,o,e,(World.cell?_of_block (a:=⟨b,o + i,none⟩) (hE.block b (hd _ e))).trans hc⟩
 ·obtain ⟨cs,fr,e⟩:=h.ty a ha
  exact ⟨cs,fr,(hE.block _ (hd a ha)).trans e⟩
theorem OneE.bw {T g b:Nat} {w w':World} {u:Value} {xs:List UInt8} {old:Array Value} {T':Nat} {fr:Nat × Nat} (hE:OneE w g w') (h:Bw T w b u xs) (hg:w.heap[g]? = some (.cells old T' fr)) (hne:T'≠T):Bw T w' b u xs:=by
 obtain ⟨q,m,c,e,l,o⟩:=h
 refine ⟨q,m,c,e,l,owns_same o (by rw [hE.size];exact Nat.le_refl _) fun g2 hg2=>hE.block _ fun e2=>?_⟩
 rcases o.2 with ⟨e1,_⟩ | ⟨g',cap,cur,e1,_,hh,_⟩
 ·rw [e1] at hg2;cases hg2
 ·rw [e1] at hg2;cases hg2
  have e3:g' = g:=e2
  rw [e3,hg] at hh;injection hh with hh;injection hh with _ hh _;exact hne hh
theorem OneE.elm {g base be k t n:Nat} {w w':World} {v:Value} {K:List Rw} {old:Array Value} {T':Nat} {fr:Nat × Nat} (hE:OneE w g w') (h:Elm w base be k t v n K) (hg:w.heap[g]? = some (.cells old T' fr)) (h1:T'≠191) (h2:99≠T') (h3:T'≠5):Elm w' base be k t v n K:=by
 refine ⟨(hE.block be fun e=>?_).trans h.box,?_,h.old⟩
 ·have:=h.box
  rw [e,hg] at this;injection this with this;injection this with _ this _;exact h1 this
 ·have hv:=h.rows.ne_box hg h2
  obtain ⟨vs,a,b,o,r⟩:=h.rows
  exact ⟨vs,a,b,owns_same o (by rw [hE.size];exact Nat.le_refl _) fun g2 hg2=>hE.block _ fun e2=>hv (by rw [hg2,e2]),fun j u hj=>by obtain ⟨x,hk,g1,g2⟩:=r j u hj;exact ⟨x,hk,hE.bw g1 hg h3,hE.bw g2 hg h3⟩⟩
structure TChg (w w':World) (gt be:Nat) (v:Value):Prop where
 os:w'.os = w.os
 tape:w'.tape = w.tape
 output:w'.output = w.output
 size:w.heap.size≤w'.heap.size
 block:∀ b,b < w.heap.size→b≠gt→b≠be→v.ownBlock≠some b→w'.heap[b]? = w.heap[b]?
theorem TChg.of {w w':World} (gt be:Nat) (v:Value) (h:Below w.heap.size w w'):TChg w w' gt be v:=⟨h.os,h.tape,h.output,h.size,fun b hb _ _ _=>h.block b hb⟩
theorem TChg.one {w a b:World} {gt be:Nat} {v:Value} (h:TChg w a gt be v) (g:OneE a gt b):TChg w b gt be v :=
 ⟨g.os.trans h.os,g.tape.trans h.tape,g.output.trans h.output,by rw [g.size];exact h.size,fun i hi h1 h2 h3=>(g.block i h1).trans (h.block i hi h1 h2 h3)⟩
theorem TChg.then {w a b:World} {gt be:Nat} {v:Value} (h:TChg w a gt be v) (g:Below a.heap.size a b):TChg w b gt be v :=
 ⟨g.os.trans h.os,g.tape.trans h.tape,g.output.trans h.output,Nat.le_trans h.size g.size,fun i hi h1 h2 h3=>(g.block i (Nat.lt_of_lt_of_le hi h.size)).trans (h.block i hi h1 h2 h3)⟩
theorem TChg.chg {w a b:World} {gt be:Nat} {v:Value} (h:TChg w a gt be v) (g:Chg a b be v):TChg w b gt be v :=
 ⟨g.os.trans h.os,g.tape.trans h.tape,g.output.trans h.output,Nat.le_trans h.size g.size,fun i hi h1 h2 h3=>(g.block i (Nat.lt_of_lt_of_le hi h.size) h2 h3).trans (h.block i hi h1 h2 h3)⟩
end Go.By
namespace Go.Proofs.YtccaiiigdfieoaaGreatDoor
open Go.RowKit Go.By Go.Maps
theorem CntM.row {w:World} {M:Value} {N:Nat} {C:DataW Unit} (h:CntM w M N C) {g T:Nat} {old cs:Array Value} {fr:Nat × Nat} (hg:w.heap[g]? = some (.cells old T fr)):CntM (w.setRow g cs) M N C:=by
 refine ⟨?_,h.small⟩
 rcases h.at_ with h1 | ⟨b,e,ho⟩
 ·exact .inl h1
 ·refine .inr ⟨b,e,?_⟩
  obtain ⟨es,clock,h1,F,hs,hD⟩:=ho
  exact ⟨es,clock,hro h1 (fun e=>by rw [e,hg] at h1;cases h1),F,hs,hD⟩
theorem CntM.one {w w':World} {M:Value} {N g:Nat} {C:DataW Unit} (h:CntM w M N C) (hE:OneE w g w') {T:Nat} {old:Array Value} {fr:Nat × Nat} (hg:w.heap[g]? = some (.cells old T fr)):CntM w' M N C:=by
 refine ⟨?_,h.small⟩
 rcases h.at_ with h1 | ⟨b,e,ho⟩
 ·exact .inl h1
 ·refine .inr ⟨b,e,?_⟩
  obtain ⟨es,clock,h1,F,hs,hD⟩:=ho
  exact ⟨es,clock,(hE.block b (fun e=>by rw [e,hg] at h1;cases h1)).trans h1,F,hs,hD⟩
theorem PkC.one {w w':World} {B k t D:Nat} {xs:List UInt8} {v0 v1 v2 v3 v4 v5 v6:Value} (h:PkC w B k t D xs v0 v1 v2 v3 v4 v5 v6) {T g:Nat} {o1:Array Value} {f1:Nat × Nat} (hE:OneE w g w') (h1:w.heap[g]? = some (.cells o1 T f1)) (n1:T≠5):PkC w' B k t D xs v0 v1 v2 v3 v4 v5 v6 :=
 ⟨h.1,fun hc=>by obtain ⟨q,n,c,q2,n2',c2,e0,e1,e2,e3,e4,e5,e6,f1,f2⟩:=h.2 hc;exact ⟨q,n,c,q2,n2',c2,e0,e1,e2,e3,e4,e5,e6,hE.fresh f1 h1 n1,hE.fresh f2 h1 n1⟩⟩
theorem tk_ne:118≠5∧118≠191∧99≠118:=by decide
def TkRet (w:World) (base gt be L t k D N:Nat) (v:Value) (C:DataW Unit) (K:List Rw) (st:Nat) (code:Int) (e:Ending) (w':World):Prop :=
 e = .returned (.int .i64 code)∧∃ M' v',Tkr w' base gt be L t k D N M' v' C K st∧TChg w w' gt be v∧(v'.ownBlock = v.ownBlock∨∀ b,v'.ownBlock = some b→w.heap.size≤b)
set_option maxRecDepth 100000 in
set_option maxHeartbeats 4000000 in
theorem TTake_bad (base gt be L t k D N:Nat) (M v:Value) (C:DataW Unit) (K:List Rw) (st:Nat) (p:Option Addr) (n c:Nat) (xs:List UInt8) (w:World) (h:Tkr w base gt be L t k D N M v C K st) (hT:HalfT w) (hN:N < 1000000) (hs:Sl B8 w p n c xs) (hr:Room n) (hc:readC k t D xs≠0) :
  Calls Tryz.prog 16 #[.pointer (some ⟨gt,0,none⟩),.slice p n c] w (TkRet w base gt be L t k D (N + 1) v (bump C (readC k t D xs)) K st (readC k t D xs)):=by
 have HG:Hid (∀ w,HalfT w→CntM w M N C→Sl B8 w p n c xs→Calls Tryz.prog 62 #[GVal L t k D M,.slice p n c] w fun e w'=>∃ b2 v0 v1 v2 v3 v4 v5 v6,e = .returned (.tuple #[GVal L t k D (.map (some b2)),.agg #[v0,v1,v2,v3,v4,v5,v6],.int .i64 (readC k t D xs)]) ∧
   CntM w' (.map (some b2)) (N + 1) (bump C (readC k t D xs))∧PkC w' w.heap.size k t D xs v0 v1 v2 v3 v4 v5 v6∧Below w.heap.size w w'):=fun w hT hC hs=>GLook_any L t k D N M C p n c xs w h.ok hT hC hN hs hr
 have H:=Lib.hid h
 have HT:=Lib.hid hT
 have HS:=Lib.hid hs
 obtain ⟨c0,c1,c2,c3,c4,c5,c6⟩:=cells_seven h.box
 have e0:(readC k t D xs != 0) = true:=bne_iff_ne.2 hc
 generalize readC k t D xs = E at *
 clear h hT hs hr hN hc
 go_enter Tryz.func16,Tryz.ntmps16
 go_wp2_with fail
 refine Calls.mono (HG.out _ HT.out H.out.cnt HS.out) ?_
 rintro e w1 ⟨b2,v0,v1,v2,v3,v4,v5,v6,rfl,hcn,hpk,hb⟩
 have HB:=Lib.hid hb
 have HCn:=Lib.hid hcn
 have HPk:=Lib.hid hpk
 obtain ⟨o0,o1,o2,o3,o4,o5,o6⟩:=hpk.1
 clear c0 c1 c2 c3 c4 c5 c6 hb hcn hpk
 go_wp2_with (first | (refine wpList_store_row (o:=⟨none,.store 111 (.tmp 5) (.tmp 19),_,_,_,_⟩) rfl 111 (.tmp 5) (.tmp 19) rfl w1.heap.size #[.int .i64 (L:Nat),.int .i64 (t:Nat),.int .i64 (k:Nat),.int .u32 (D:Nat),.map (some b2)] rfl rfl _ _ (hal (hnew rfl)) info_gate rfl (ones_gate rfl) ?_) | (refine wpList_store_rowS (o:=⟨none,.store 122 (.tmp 6) (.tmp 20),_,_,_,_⟩) rfl 122 (.tmp 6) (.tmp 20) rfl (w1.heap.size + 1) #[v0,v1,v2,v3,v4,v5,v6] rfl rfl _ _ (hro (hnew (by simp)) (by omega)) info_packet rfl (by simp [o0,o1,o2,o3,o4,o5,o6]) ?_))
 intro w2 hr2
 have HB2:Hid (Below w.heap.size w w2):=by rw [hr2.eq];exact below_row (below_row (al (al HB.out HB.out.size) (by have:=HB.out.size;simp;omega)) HB.out.size) (by have:=HB.out.size;omega)
 have k5:w2.heap[w1.heap.size]? = some (.cells #[.int .i64 (L:Nat),.int .i64 (t:Nat),.int .i64 (k:Nat),.int .u32 (D:Nat),.map (some b2)] 111 (0,0)):=by rw [hr2.eq];exact hro (hrs (hal (hnew rfl))) (by omega)
 have k6:w2.heap[w1.heap.size + 1]? = some (.cells #[v0,v1,v2,v3,v4,v5,v6] 122 (0,0)):=by rw [hr2.eq];exact hrs (hro (hnew (by simp)) (by omega))
 have kt:=(HB2.out.block _ (lt_of_block H.out.box)).trans H.out.box
 have HPk2:Hid (PkC w2 w.heap.size k t D xs v0 v1 v2 v3 v4 v5 v6):=by rw [hr2.eq];exact ((HPk.out.keep (al (al (Below.refl _ _) (Nat.le_refl _)) (by simp))).row (hal (hnew rfl)) gate_ne).row (hro (hnew (by simp)) (by omega)) pkt_ne
 have HCn2:Hid (CntM w2 (.map (some b2)) (N + 1) (bump C E)):=by rw [hr2.eq];exact ((HCn.out.keep (al (al (Below.refl _ _) (Nat.le_refl _)) (by simp))).row (hal (hnew rfl))).row (hro (hnew (by simp)) (by omega))
 have hgt:=lt_of_block H.out.box
 have hG5:=HB.out.size
 clear hr2 HCn HPk HB
 obtain ⟨g5,hg5⟩:∃ g5,g5 = w1.heap.size:=⟨_,rfl⟩
 rw [← hg5] at k5 k6 hG5 ⊢
 clear hg5
 obtain ⟨c0,c1,c2,c3,c4,c5,c6⟩:=cells_seven kt
 obtain ⟨d0,d1,d2,d3,d4⟩:=cells_five k5
 have z0:=frozen_of_row _ _ 0 _ _ kt
 have z1:=frozen_of_row _ _ 1 _ _ kt
 have z2:=frozen_of_row _ _ 2 _ _ kt
 have z3:=frozen_of_row _ _ 3 _ _ kt
 have z4:=frozen_of_row _ _ 4 _ _ kt
 go_wp2
 go_ret
 have hO:OneE w2 gt (((((w2.setCell ⟨gt,0,none⟩ (.int .i64 (L:Nat))).setCell ⟨gt,1,none⟩ (.int .i64 (t:Nat))).setCell ⟨gt,2,none⟩ (.int .i64 (k:Nat))).setCell ⟨gt,3,none⟩ (.int .u32 (D:Nat))).setCell ⟨gt,4,none⟩ (.map (some b2))):=(((((OneE.refl w2 gt).set _).set _).set _).set _).set _
 exact ⟨rfl,.map (some b2),v,⟨H.out.ok,hss (hss (hss (hss (hss kt)))),HCn2.out.one hO kt,hO.elm (H.out.elm.keep HB2.out) kt tk_ne.2.1 tk_ne.2.2 tk_ne.1,H.out.red,H.out.old⟩,(TChg.of gt be v HB2.out).one hO,.inl rfl⟩
end Go.Proofs.YtccaiiigdfieoaaGreatDoor
namespace Go.By
open Go.RowKit Go.Maps Go.Proofs.YtccaiiigdfieoaaGreatDoor
theorem wpList_store_five {P:Program} {ops:Array Oper} {rest:List Oper} {o:Oper} {a:Act} {w:World} {Q:Exit→Act→World→Prop} (hgd:o.guard = none) (ty:TypeId) (x y:Operand) (ho:o.op = .store ty x y)
  (g:Nat) (a0 a1 a2 a3:Int) (m:Nat) (b0 b1 b2 b3 b4 b5 b6:Value) (T:TypeId) (hx:a.eval x = .pointer (some ⟨g,0,none⟩)) (hy:a.eval y = .agg #[.int .i64 a0,.int .i64 a1,.int .i64 a2,.int .u32 a3,.map (some m)])
  (kt:w.heap[g]? = some (.cells #[b0,b1,b2,b3,b4,b5,b6] T (0,0))) (hi:(P.info? ty).map (·.size) = some 5) {d:TypeDesc} (hu:P.underlying ty = some d)
  (h:∀ w',OneE w g w'→w'.heap[g]? = some (.cells #[.int .i64 a0,.int .i64 a1,.int .i64 a2,.int .u32 a3,.map (some m),b5,b6] T (0,0))→wpList P ops Q rest (a.put o.dst undef) w'):wpList P ops Q (o :: rest) a w:=by
 refine wpList_plain hgd fun K hK=>?_
 have hK':=hK _ _ (h (((((w.setCell ⟨g,0,none⟩ (.int .i64 a0)).setCell ⟨g,1,none⟩ (.int .i64 a1)).setCell ⟨g,2,none⟩ (.int .i64 a2)).setCell ⟨g,3,none⟩ (.int .u32 a3)).setCell ⟨g,4,none⟩ (.map (some m))) ((((((OneE.refl w g).set _).set _).set _).set _).set _) (hss (hss (hss (hss (hss kt))))))
 obtain ⟨c0,c1,c2,c3,c4,c5,c6⟩:=cells_seven kt
 have z0:=frozen_of_row _ _ 0 _ _ kt
 have z1:=frozen_of_row _ _ 1 _ _ kt
 have z2:=frozen_of_row _ _ 2 _ _ kt
 have z3:=frozen_of_row _ _ 3 _ _ kt
 have z4:=frozen_of_row _ _ 4 _ _ kt
 have hsz:(sizeOf ty).run P w = .ok 5 w:=by
  cases hI:P.info? ty with
  | none=>rw [hI] at hi;cases hi
  | some i =>
   rw [hI] at hi
   simp at hi
   simp [sizeOf,typeInfo,hI,hi]
 have _:=hu
 unfold Oper.wp
 simp only [execOp,ho,hx,hy]
 simp [go_sem,hsz,c0,c1,c2,c3,c4,z0,z1,z2,z3,z4]
 exact hK'
end Go.By
namespace Go.Proofs.YtccaiiigdfieoaaGreatDoor
open Go.RowKit Go.By Go.Maps
def eqX (k t:Nat) (xs:List UInt8):Rw:=(vecS (pktM xs) (pktX k xs) (pktS k xs) k,pktY k t xs)
def nextS (K:List Rw) (x:Rw) (k:Nat):Nat:=if codeF K x = 2 then 2 else if (putK K x).length = k then 1 else 0
set_option maxRecDepth 100000 in
set_option maxHeartbeats 4000000 in
theorem TTake_done (base gt be L t k D N:Nat) (M v:Value) (C:DataW Unit) (K:List Rw) (st:Nat) (p:Option Addr) (n c:Nat) (xs:List UInt8) (w:World) (h:Tkr w base gt be L t k D N M v C K st) (hT:HalfT w) (hN:N < 1000000) (hs:Sl B8 w p n c xs) (hr:Room n) (hc:readC k t D xs = 0) (hst:st≠0) :
  Calls Tryz.prog 16 #[.pointer (some ⟨gt,0,none⟩),.slice p n c] w (TkRet w base gt be L t k D (N + 1) v (bump C (readC k t D xs)) K st (readC k t D xs)):=by
 have HG:Hid (∀ w,HalfT w→CntM w M N C→Sl B8 w p n c xs→Calls Tryz.prog 62 #[GVal L t k D M,.slice p n c] w fun e w'=>∃ b2 v0 v1 v2 v3 v4 v5 v6,e = .returned (.tuple #[GVal L t k D (.map (some b2)),.agg #[v0,v1,v2,v3,v4,v5,v6],.int .i64 (readC k t D xs)]) ∧
   CntM w' (.map (some b2)) (N + 1) (bump C (readC k t D xs))∧PkC w' w.heap.size k t D xs v0 v1 v2 v3 v4 v5 v6∧Below w.heap.size w w'):=fun w hT hC hs=>GLook_any L t k D N M C p n c xs w h.ok hT hC hN hs hr
 have H:=Lib.hid h
 have HT:=Lib.hid hT
 have HS:=Lib.hid hs
 obtain ⟨c0,c1,c2,c3,c4,c5,c6⟩:=cells_seven h.box
 rw [hc] at HG ⊢
 have HC:=Lib.hid hc
 have e1:((st:Int) != 0) = true:=bne_iff_ne.2 (by omega)
 clear h hT hs hr hN hc hst
 go_enter Tryz.func16,Tryz.ntmps16
 go_wp2_with fail
 refine Calls.mono (HG.out _ HT.out H.out.cnt HS.out) ?_
 rintro e w1 ⟨b2,v0,v1,v2,v3,v4,v5,v6,rfl,hcn,hpk,hb⟩
 have HB:=Lib.hid hb
 have HCn:=Lib.hid hcn
 have HPk:=Lib.hid hpk
 obtain ⟨o0,o1,o2,o3,o4,o5,o6⟩:=hpk.1
 clear c0 c1 c2 c3 c4 c5 c6 hb hcn hpk
 go_wp2_with (first | (refine wpList_store_row (o:=⟨none,.store 111 (.tmp 5) (.tmp 19),_,_,_,_⟩) rfl 111 (.tmp 5) (.tmp 19) rfl w1.heap.size #[.int .i64 (L:Nat),.int .i64 (t:Nat),.int .i64 (k:Nat),.int .u32 (D:Nat),.map (some b2)] rfl rfl _ _ (hal (hnew rfl)) info_gate rfl (ones_gate rfl) ?_) | (refine wpList_store_rowS (o:=⟨none,.store 122 (.tmp 6) (.tmp 20),_,_,_,_⟩) rfl 122 (.tmp 6) (.tmp 20) rfl (w1.heap.size + 1) #[v0,v1,v2,v3,v4,v5,v6] rfl rfl _ _ (hro (hnew (by simp)) (by omega)) info_packet rfl (by simp [o0,o1,o2,o3,o4,o5,o6]) ?_))
 intro w2 hr2
 have HB2:Hid (Below w.heap.size w w2):=by rw [hr2.eq];exact below_row (below_row (al (al HB.out HB.out.size) (by have:=HB.out.size;simp;omega)) HB.out.size) (by have:=HB.out.size;omega)
 have k5:w2.heap[w1.heap.size]? = some (.cells #[.int .i64 (L:Nat),.int .i64 (t:Nat),.int .i64 (k:Nat),.int .u32 (D:Nat),.map (some b2)] 111 (0,0)):=by rw [hr2.eq];exact hro (hrs (hal (hnew rfl))) (by omega)
 have k6:w2.heap[w1.heap.size + 1]? = some (.cells #[v0,v1,v2,v3,v4,v5,v6] 122 (0,0)):=by rw [hr2.eq];exact hrs (hro (hnew (by simp)) (by omega))
 have kt:=(HB2.out.block _ (lt_of_block H.out.box)).trans H.out.box
 have HPk2:Hid (PkC w2 w.heap.size k t D xs v0 v1 v2 v3 v4 v5 v6):=by rw [hr2.eq];exact ((HPk.out.keep (al (al (Below.refl _ _) (Nat.le_refl _)) (by simp))).row (hal (hnew rfl)) gate_ne).row (hro (hnew (by simp)) (by omega)) pkt_ne
 have HCn2:Hid (CntM w2 (.map (some b2)) (N + 1) (bump C 0)):=by rw [hr2.eq];exact ((HCn.out.keep (al (al (Below.refl _ _) (Nat.le_refl _)) (by simp))).row (hal (hnew rfl))).row (hro (hnew (by simp)) (by omega))
 have hgt:=lt_of_block H.out.box
 have hG5:=HB.out.size
 clear hr2 HCn HPk HB
 obtain ⟨g5,hg5⟩:∃ g5,g5 = w1.heap.size:=⟨_,rfl⟩
 rw [← hg5] at k5 k6 hG5 ⊢
 clear hg5
 obtain ⟨c0,c1,c2,c3,c4,c5,c6⟩:=cells_seven kt
 obtain ⟨d0,d1,d2,d3,d4⟩:=cells_five k5
 go_wp2_with (refine wpList_store_five (o:=⟨none,.store 111 (.tmp 25) (.tmp 23),_,_,_,_⟩) rfl 111 (.tmp 25) (.tmp 23) rfl gt (L:Nat) (t:Nat) (k:Nat) (D:Nat) b2 _ _ _ _ _ _ _ _ rfl rfl kt info_gate Tryz.underlying111 ?_)
 intro w3 hO kt3
 have HO:=Lib.hid hO
 have m5:=(hO.block g5 (by omega)).trans k5
 have m6:=(hO.block (g5 + 1) (by omega)).trans k6
 have HCn3:=Lib.hid (HCn2.out.one hO kt)
 have HPk3:=Lib.hid (HPk2.out.one hO kt tk_ne.1)
 have HEl:=Lib.hid (hO.elm (H.out.elm.keep HB2.out) kt tk_ne.2.1 tk_ne.2.2 tk_ne.1)
 have HTC:=Lib.hid ((TChg.of gt be v HB2.out).one hO)
 have HT3:=Lib.hid (HT.out.keep HB2.out)
 have hs3:w3.heap.size = w2.heap.size:=hO.size
 have hl6:=lt_of_block k6
 clear k5 k6 kt hO c0 c1 c2 c3 c4 c5 c6 d0 d1 d2 d3 d4 HCn2 HPk2
 obtain ⟨c0,c1,c2,c3,c4,c5,c6⟩:=cells_seven kt3
 go_wp2
 go_ret
 exact ⟨rfl,.map (some b2),v,⟨H.out.ok,kt3,HCn3.out,HEl.out,H.out.red,H.out.old⟩,HTC.out,.inl rfl⟩
end Go.Proofs.YtccaiiigdfieoaaGreatDoor
namespace Go.Proofs.YtccaiiigdfieoaaGreatDoor
open Go.RowKit Go.By Go.Maps
def PutP (base be k t:Nat) (v:Value) (K:List Rw) (x:Rw) (w5 W:World):Prop:=∃ v' n',Elm W base be k t v' n' (putK K x)∧Chg w5 W be v∧(v'.ownBlock = v.ownBlock∨∀ b,v'.ownBlock = some b→w5.heap.size≤b)
set_option maxRecDepth 100000 in
set_option maxHeartbeats 4000000 in
theorem TTake_put (base gt be L t k D N:Nat) (M v:Value) (C:DataW Unit) (K:List Rw) (st:Nat) (p:Option Addr) (n c:Nat) (xs:List UInt8) (w:World) (h:Tkr w base gt be L t k D N M v C K st) (hT:HalfT w) (hN:N < 1000000) (hs:Sl B8 w p n c xs) (hr:Room n) (hc:readC k t D xs = 0) (hst:st = 0) :
  Calls Tryz.prog 16 #[.pointer (some ⟨gt,0,none⟩),.slice p n c] w (TkRet w base gt be L t k D (N + 1) v (bump C (readC k t D xs)) (putK K (eqX k t xs)) (nextS K (eqX k t xs) k) (readC k t D xs)):=by
 have HG:Hid (∀ w,HalfT w→CntM w M N C→Sl B8 w p n c xs→Calls Tryz.prog 62 #[GVal L t k D M,.slice p n c] w fun e w'=>∃ b2 v0 v1 v2 v3 v4 v5 v6,e = .returned (.tuple #[GVal L t k D (.map (some b2)),.agg #[v0,v1,v2,v3,v4,v5,v6],.int .i64 (readC k t D xs)]) ∧
   CntM w' (.map (some b2)) (N + 1) (bump C (readC k t D xs))∧PkC w' w.heap.size k t D xs v0 v1 v2 v3 v4 v5 v6∧Below w.heap.size w w'):=fun w hT hC hs=>GLook_any L t k D N M C p n c xs w h.ok hT hC hN hs hr
 have H:=Lib.hid h
 have HT:=Lib.hid hT
 have HS:=Lib.hid hs
 obtain ⟨c0,c1,c2,c3,c4,c5,c6⟩:=cells_seven h.box
 rw [hc] at HG ⊢
 have HC:=Lib.hid hc
 subst hst
 obtain ⟨hmo,hX0,hYl⟩:=read_fits hc
 have hXl:(pktX k xs).length≤4096:=by
  have:=h.ok.k2
  by_cases h0:pktM xs = 0
  ·rw [hX0 h0];exact this
  ·have e:pktX k xs = []:=if_neg h0
   rw [e];simp
 have hVl:(vecS (pktM xs) (pktX k xs) (pktS k xs) k).length = k:=by
  unfold vecS
  by_cases h0:pktM xs = 0
  ·rw [if_pos h0];exact hX0 h0
  ·rw [if_neg h0,mixRow_len]
 have HQ:Hid (∀ w p j c s q d,j = (pktX k xs).length→s = pktS k xs→Sl B8 w p j c (pktX k xs)→Sl B8 w q t d (pktY k t xs)→Calls Tryz.prog 63 #[PkVal (pktM xs) D (pktN xs) (pktM xs) p j c s q t d,PVal L t k D] w (EqRet w (eqX k t xs).1 (eqX k t xs).2)):=fun w p j c s q d hj hs s1 s2=>by
  subst hs
  exact PEquation_ok L t k D (pktN xs) (pktM xs) p j c (pktS k xs) q d (pktX k xs) (pktY k t xs) w h.ok hmo (fun h0=>by rw [hj];exact hX0 h0) (by rw [hj];show _≤_;omega) s1 s2
 obtain ⟨x,hx⟩:∃ x,eqX k t xs = x:=⟨_,rfl⟩
 have hx1:x.1.length = k:=by rw [← hx];exact hVl
 have hx2:x.2.length = t:=by rw [← hx];exact hYl
 rw [hx] at HQ ⊢
 have HX1:=Lib.hid hx1
 have HX2:=Lib.hid hx2
 have HYl:=Lib.hid hYl
 clear h hT hs hr hN hc hmo hX0 hYl hXl hVl hx hx1 hx2
 go_enter Tryz.func16,Tryz.ntmps16
 go_wp2_with fail
 refine Calls.mono (HG.out _ HT.out H.out.cnt HS.out) ?_
 rintro e w1 ⟨b2,v0,v1,v2,v3,v4,v5,v6,rfl,hcn,hpk,hb⟩
 have HB:=Lib.hid hb
 have HCn:=Lib.hid hcn
 have HPk:=Lib.hid hpk
 obtain ⟨o0,o1,o2,o3,o4,o5,o6⟩:=hpk.1
 clear c0 c1 c2 c3 c4 c5 c6 hb hcn hpk
 go_wp2_with (first | (refine wpList_store_row (o:=⟨none,.store 111 (.tmp 5) (.tmp 19),_,_,_,_⟩) rfl 111 (.tmp 5) (.tmp 19) rfl w1.heap.size #[.int .i64 (L:Nat),.int .i64 (t:Nat),.int .i64 (k:Nat),.int .u32 (D:Nat),.map (some b2)] rfl rfl _ _ (hal (hnew rfl)) info_gate rfl (ones_gate rfl) ?_) | (refine wpList_store_rowS (o:=⟨none,.store 122 (.tmp 6) (.tmp 20),_,_,_,_⟩) rfl 122 (.tmp 6) (.tmp 20) rfl (w1.heap.size + 1) #[v0,v1,v2,v3,v4,v5,v6] rfl rfl _ _ (hro (hnew (by simp)) (by omega)) info_packet rfl (by simp [o0,o1,o2,o3,o4,o5,o6]) ?_))
 intro w2 hr2
 have HB2:Hid (Below w.heap.size w w2):=by rw [hr2.eq];exact below_row (below_row (al (al HB.out HB.out.size) (by have:=HB.out.size;simp;omega)) HB.out.size) (by have:=HB.out.size;omega)
 have k5:w2.heap[w1.heap.size]? = some (.cells #[.int .i64 (L:Nat),.int .i64 (t:Nat),.int .i64 (k:Nat),.int .u32 (D:Nat),.map (some b2)] 111 (0,0)):=by rw [hr2.eq];exact hro (hrs (hal (hnew rfl))) (by omega)
 have k6:w2.heap[w1.heap.size + 1]? = some (.cells #[v0,v1,v2,v3,v4,v5,v6] 122 (0,0)):=by rw [hr2.eq];exact hrs (hro (hnew (by simp)) (by omega))
 have kt:=(HB2.out.block _ (lt_of_block H.out.box)).trans H.out.box
 have HPk2:Hid (PkC w2 w.heap.size k t D xs v0 v1 v2 v3 v4 v5 v6):=by rw [hr2.eq];exact ((HPk.out.keep (al (al (Below.refl _ _) (Nat.le_refl _)) (by simp))).row (hal (hnew rfl)) gate_ne).row (hro (hnew (by simp)) (by omega)) pkt_ne
 have HCn2:Hid (CntM w2 (.map (some b2)) (N + 1) (bump C 0)):=by rw [hr2.eq];exact ((HCn.out.keep (al (al (Below.refl _ _) (Nat.le_refl _)) (by simp))).row (hal (hnew rfl))).row (hro (hnew (by simp)) (by omega))
 have hgt:=lt_of_block H.out.box
 have hG5:=HB.out.size
 clear hr2 HCn HPk HB
 obtain ⟨g5,hg5⟩:∃ g5,g5 = w1.heap.size:=⟨_,rfl⟩
 rw [← hg5] at k5 k6 hG5 ⊢
 clear hg5
 obtain ⟨c0,c1,c2,c3,c4,c5,c6⟩:=cells_seven kt
 obtain ⟨d0,d1,d2,d3,d4⟩:=cells_five k5
 go_wp2_with (refine wpList_store_five (o:=⟨none,.store 111 (.tmp 25) (.tmp 23),_,_,_,_⟩) rfl 111 (.tmp 25) (.tmp 23) rfl gt (L:Nat) (t:Nat) (k:Nat) (D:Nat) b2 _ _ _ _ _ _ _ _ rfl rfl kt info_gate Tryz.underlying111 ?_)
 intro w3 hO kt3
 have HO:=Lib.hid hO
 have m5:=(hO.block g5 (by omega)).trans k5
 have m6:=(hO.block (g5 + 1) (by omega)).trans k6
 have HCn3:=Lib.hid (HCn2.out.one hO kt)
 have HPk3:=Lib.hid (HPk2.out.one hO kt tk_ne.1)
 have HEl:=Lib.hid (hO.elm (H.out.elm.keep HB2.out) kt tk_ne.2.1 tk_ne.2.2 tk_ne.1)
 have HTC:=Lib.hid ((TChg.of gt be v HB2.out).one hO)
 have HT3:=Lib.hid (HT.out.keep HB2.out)
 have hs3:w3.heap.size = w2.heap.size:=hO.size
 have hl6:=lt_of_block k6
 clear k5 k6 kt hO c0 c1 c2 c3 c4 c5 c6 d0 d1 d2 d3 d4 HCn2 HPk2
 obtain ⟨c0,c1,c2,c3,c4,c5,c6⟩:=cells_seven kt3
 obtain ⟨q,j,cq,q2,j2,cq2,r0,r1,r2,r3,r4,r5,r6,f1,f2⟩:=HPk3.out.2 HC.out
 subst r0 r1 r2 r3 r4 r5 r6
 have hj2:t = j2:=by rw [← f2.sl.len];exact HYl.out.symm
 subst hj2
 have hj:=f1.sl.len
 have F1:=Lib.hid f1.sl
 have F2:=Lib.hid f2.sl
 have HJ:=Lib.hid hj.symm
 clear f1 f2 hj
 obtain ⟨d0,d1,d2,d3,d4⟩:=cells_five m5
 obtain ⟨f0,f1,f2,f3,f4,f5,f6⟩:=cells_seven m6
 go_wp2_with fail
 refine Calls.mono (HQ.out _ _ _ _ _ _ _ HJ.out rfl F1.out F2.out) ?_
 rintro e w4 ⟨qa,na,ca,qb,nb,cb,rfl,Fa,Fb,hb⟩
 have hna:k = na:=by rw [← Fa.sl.len];exact HX1.out.symm
 have hnb:t = nb:=by rw [← Fb.sl.len];exact HX2.out.symm
 subst hna hnb
 have kt4:=(hb.block _ (lt_of_block kt3)).trans kt3
 have n5:=(hb.block _ (lt_of_block m5)).trans m5
 have HCn4:=Lib.hid (HCn3.out.keep hb)
 have HEl4:=Lib.hid (HEl.out.keep hb)
 have HTC4:=Lib.hid (HTC.out.then hb)
 have SA:=Lib.hid Fa.sl
 have SB:=Lib.hid Fb.sl
 have hown:v.ownBlock≠some w4.heap.size:=fun e=>by have:=(HEl4.out.rows.lt _ e).2;omega
 have HW:=Lib.hid (lt_of_block m5)
 have hs4:=hb.size
 clear hb kt3 m5 m6 HCn3 HPk3 HEl HTC Fa Fb c0 c1 c2 c3 c4 c5 c6 d0 d1 d2 d3 d4 f0 f1 f2 f3 f4 f5 f6
 go_wp2_with fail
 have kt5:(w4.alloc (.cells #[.slice qa k ca,.slice qb t cb] 99 (0,0))).heap[gt]? = some (.cells #[.int .i64 (L:Nat),.int .i64 (t:Nat),.int .i64 (k:Nat),.int .u32 (D:Nat),.map (some b2),.pointer (some ⟨be,0,none⟩),.int .i64 (0:Nat)] 118 (0,0)):=hal kt4
 have kg5:(w4.alloc (.cells #[.slice qa k ca,.slice qb t cb] 99 (0,0))).heap[g5]? = some (.cells #[.int .i64 (L:Nat),.int .i64 (t:Nat),.int .i64 (k:Nat),.int .u32 (D:Nat),.map (some b2)] 111 (0,0)):=hal n5
 have kr5:(w4.alloc (.cells #[.slice qa k ca,.slice qb t cb] 99 (0,0))).heap[w4.heap.size]? = some (.cells #[.slice qa k ca,.slice qb t cb] 99 (0,0)):=hnew rfl
 have HCn5:=Lib.hid (HCn4.out.keep (al (o:=.cells #[.slice qa k ca,.slice qb t cb] 99 (0,0)) (Below.refl _ _) (Nat.le_refl _)))
 have HEl5:=Lib.hid (HEl4.out.keep (al (o:=.cells #[.slice qa k ca,.slice qb t cb] 99 (0,0)) (Below.refl _ _) (Nat.le_refl _)))
 have HTC5:=Lib.hid (HTC4.out.then (al (o:=.cells #[.slice qa k ca,.slice qb t cb] 99 (0,0)) (Below.refl _ _) (Nat.le_refl _)))
 have SA5:=Lib.hid (SA.out.keep (al (o:=.cells #[.slice qa k ca,.slice qb t cb] 99 (0,0)) (Below.refl _ _) (Nat.le_refl _)))
 have SB5:=Lib.hid (SB.out.keep (al (o:=.cells #[.slice qa k ca,.slice qb t cb] 99 (0,0)) (Below.refl _ _) (Nat.le_refl _)))
 clear kt4 n5 HCn4 HEl4 HTC4 SA SB
 obtain ⟨g8,hg8⟩:∃ g8,g8 = w4.heap.size:=⟨_,rfl⟩
 rw [← hg8] at kr5 hown hs4 ⊢
 clear hg8
 generalize w4.alloc (.cells #[.slice qa k ca,.slice qb t cb] 99 (0,0)) = w5 at *
 have hmem:Hid (∀ W,(W = w5.drew∨PutP base be k t v K x w5 W)→W.heap[gt]? = some (.cells #[.int .i64 (L:Nat),.int .i64 (t:Nat),.int .i64 (k:Nat),.int .u32 (D:Nat),.map (some b2),.pointer (some ⟨be,0,none⟩),.int .i64 (0:Nat)] 118 (0,0))∧W.heap[g8]? = some (.cells #[.slice qa k ca,.slice qb t cb] 99 (0,0))):=by
  intro W hW
  rcases hW with rfl | ⟨v',n',-,hc,-⟩
  ·exact ⟨kt5,kr5⟩
  ·exact ⟨hc.blk2 HEl5.out kt5 tk_ne.2.1 tk_ne.2.2,hc.blk HEl5.out kr5 (by decide) hown⟩
 refine wp_region_call (fun ix=>([.pointer (some ⟨gt,0,none⟩),.pointer (some ⟨gt,0,none⟩),.pointer (some ⟨gt,5,none⟩),.pointer (some ⟨be,0,none⟩),.agg #[.slice qa k ca,.slice qb t cb],.tuple #[.int .i64 (codeF K x),.int .i64 0],.tuple #[.int .i64 (codeF K x),.int .i64 0],.int .i64 (codeF K x),.int .i64 0,.int .i64 (codeF K x),.int .i64 0][ix]?).getD undef) 75 5 (PutP base be k t v K x w5) rfl (by kernel_rfl) (by decide) (by decide) (by decide) (by decide) (by decide) ?_ ?_ ?_
 ·intro i o h1 ho a W hW hs hp hi
  obtain ⟨m1,m2⟩:=hmem.out W hW
  match i,h1,ho with
  | 0,_,ho =>
   simp at ho;subst ho
   have tt:sl a 0 = .pointer (some ⟨gt,0,none⟩):=hi 0 (by decide)
   simp only [execOp,eval_tmp,tt];rfl
  | 1,_,ho =>
   simp at ho;subst ho
   have tt:sl a 47 = .pointer (some ⟨gt,0,none⟩):=hp 0 47 (by decide) rfl
   simp only [execOp,eval_tmp,tt];simp [go_sem]
  | 2,_,ho =>
   simp at ho;subst ho
   have tt:sl a 48 = .pointer (some ⟨gt,0,none⟩):=hp 1 48 (by decide) rfl
   simp only [execOp,eval_tmp,tt];simp [go_sem]
  | 3,_,ho =>
   simp at ho;subst ho
   have tt:sl a 49 = .pointer (some ⟨gt,5,none⟩):=hp 2 49 (by decide) rfl
   obtain ⟨x0,x1,x2,x3,x4,x5,x6⟩:=cells_seven m1
   simp only [execOp,eval_tmp,tt];simp [go_sem,x5]
  | 4,_,ho =>
   simp at ho;subst ho
   have tt:sl a 8 = .pointer (some ⟨g8,0,none⟩):=hi 8 (by decide)
   obtain ⟨x0,x1⟩:=cells2 m2
   simp only [execOp,eval_tmp,tt];simp [go_sem,x0,x1]
  | 6,_,ho =>
   simp at ho;subst ho
   have tt:sl a 52 = .tuple #[.int .i64 (codeF K x),.int .i64 0]:=hp 5 52 (by decide) rfl
   simp only [execOp,eval_tmp,tt];rfl
  | 7,_,ho =>
   simp at ho;subst ho
   have tt:sl a 46 = .tuple #[.int .i64 (codeF K x),.int .i64 0]:=hp 6 46 (by decide) rfl
   simp only [execOp,eval_tmp,tt];rfl
  | 8,_,ho =>
   simp at ho;subst ho
   have tt:sl a 46 = .tuple #[.int .i64 (codeF K x),.int .i64 0]:=hp 6 46 (by decide) rfl
   simp only [execOp,eval_tmp,tt];rfl
  | 9,_,ho =>
   simp at ho;subst ho
   have tt:sl a 53 = .int .i64 (codeF K x):=hp 7 53 (by decide) rfl
   simp only [execOp,eval_tmp,tt];rfl
  | 10,_,ho =>
   simp at ho;subst ho
   have tt:sl a 54 = .int .i64 0:=hp 8 54 (by decide) rfl
   simp only [execOp,eval_tmp,tt];rfl
  | 5,h,_=>exact absurd rfl h
  | j + 11,_,ho=>simp at ho
 ·intro o ho a hs hp hi
  simp at ho;subst ho
  have t50:sl a 50 = .pointer (some ⟨be,0,none⟩):=hp 3 50 (by decide) rfl
  have t51:sl a 51 = .agg #[.slice qa k ca,.slice qb t cb]:=hp 4 51 (by decide) rfl
  have hbd:Below w5.heap.size w5 w5.drew:=⟨rfl,rfl,rfl,Nat.le_refl _,fun _ _=>rfl⟩
  refine wp_enter 64 #[.pointer (some ⟨be,0,none⟩),.agg #[.slice qa k ca,.slice qb t cb]] ?_ (EPut_fit base be k t K.length v K qa qb ca cb x w5.drew (HEl5.out.keep hbd) (SA5.out.keep hbd) (SB5.out.keep hbd) H.out.red H.out.ok.k2 H.out.ok.t2 (Nat.le_trans (Red.le H.out.red) H.out.ok.k2)) ?_
  ·simp only [execOp,resolve,List.map_toArray,List.map,eval_tmp,eval_func,eval_const,t50,t51];simp [go_sem]
  ·rintro e W' ⟨rfl,v',n',g1,g2,g3⟩
   exact ⟨_,rfl,rfl,v',n',g1,⟨g2.os,g2.tape,g2.output,g2.size,g2.block⟩,g3⟩
 ·intro a W hP1 hs hd hI ht
  have ha:=act_is [47,48,49,50,51,52,46,53,54,9,7] hs hd ht (by decide)
  have t9:sl a 9 = .int .i64 (codeF K x):=hI 9 9 (by decide) rfl
  have t7:sl a 7 = .int .i64 0:=hI 10 7 (by decide) rfl
  simp only [List.foldl,t9,t7] at ha
  generalize sl a 47 = u47 at ha
  generalize sl a 48 = u48 at ha
  generalize sl a 49 = u49 at ha
  generalize sl a 50 = u50 at ha
  generalize sl a 51 = u51 at ha
  generalize sl a 52 = u52 at ha
  generalize sl a 46 = u46 at ha
  generalize sl a 53 = u53 at ha
  generalize sl a 54 = u54 at ha
  simp only [Act.put,List.setIfInBounds_toArray,List.set_cons_zero,List.set_cons_succ] at ha
  rw [ha]
  obtain ⟨kt6,-⟩:=hmem.out W (.inr hP1)
  have kg6:W.heap[g5]? = some (.cells #[.int .i64 (L:Nat),.int .i64 (t:Nat),.int .i64 (k:Nat),.int .u32 (D:Nat),.map (some b2)] 111 (0,0)):=by
   obtain ⟨v',n',-,hc,-⟩:=hP1
   exact hc.blk2 HEl5.out kg5 (by decide) (by decide)
  have HCn6:Hid (CntM W (.map (some b2)) (N + 1) (bump C 0)):=by
   obtain ⟨v',n',-,hc,-⟩:=hP1
   refine ⟨?_,HCn5.out.small⟩
   rcases HCn5.out.at_ with h1 | ⟨bb,e,ho⟩
   ·exact .inl h1
   ·refine .inr ⟨bb,e,?_⟩
    have hlt:=ho.lt
    obtain ⟨es,clock,j1,F,j2,j3⟩:=ho
    refine ⟨es,clock,(hc.block bb hlt (fun e=>?_) (fun e=>?_)).trans j1,F,j2,j3⟩
    ·have:=HEl5.out.box;rw [← e,j1] at this;cases this
    ·obtain ⟨vs,_,_,o,_⟩:=HEl5.out.rows
     rcases o.2 with ⟨e1,_⟩ | ⟨g',cap,cur,e1,_,hh,_⟩
     ·rw [e1] at e;cases e
     ·rw [e1] at e;cases e
      rw [j1] at hh;cases hh
  obtain ⟨v',n',hE6,hc6,ho6⟩:=hP1
  have hn':n' = (putK K x).length:=hE6.rows.len.symm
  subst hn'
  have HE6:=Lib.hid hE6
  have HTC6:=Lib.hid (HTC5.out.chg hc6)
  have HO6:Hid (v'.ownBlock = v.ownBlock∨∀ b,v'.ownBlock = some b→w.heap.size≤b):=by
   rcases ho6 with h | h
   ·exact .inl h
   ·exact .inr fun b hb=>Nat.le_trans HTC5.out.size (h b hb)
  have HRd:Hid (Red k t (putK K x)):=by
   unfold putK
   by_cases hn:leadS (restF K x).1 < 0
   ·rw [if_pos hn];exact H.out.red
   ·rw [if_neg hn];exact (putF_red H.out.red ⟨HX1.out,HX2.out⟩ hn).1
  clear ha hI ht hs hd t9 t7 hE6 hc6 ho6 kt5 kg5 kr5 hmem hown
  obtain ⟨x0,x1,x2,x3,x4,x5,x6⟩:=cells_seven kt6
  have z6:=frozen_of_row _ _ 6 _ _ kt6
  have y2:=(cells_five kg6).2.2.1
  by_cases hcl:codeF K x = 2
  ·have HNX:Hid (nextS K x k = 2):=by unfold nextS;rw [if_pos hcl];rfl
   go_wp2
   go_ret
   have hO:OneE W gt (W.setCell ⟨gt,6,none⟩ (.int .i64 2)):=(OneE.refl W gt).set _
   exact ⟨rfl,.map (some b2),v',⟨H.out.ok,by rw [HNX.out];exact hss kt6,HCn6.out.one hO kt6,hO.elm HE6.out kt6 tk_ne.2.1 tk_ne.2.2 tk_ne.1,HRd.out,H.out.old⟩,HTC6.out.one hO,HO6.out⟩
  ·have e9:(codeF K x == 2) = false:=beq_eq_false_iff_ne.2 hcl
   by_cases hfull:(putK K x).length = k
   ·have HNX:Hid (nextS K x k = 1):=by unfold nextS;rw [if_neg hcl,if_pos hfull];rfl
    have e15:(((putK K x).length:Int) == (k:Int)) = true:=by simp [hfull]
    clear hcl hfull
    go_wp2_with fail
    refine wp_region_shapes (fun ix=>([.val (.pointer (some ⟨gt,0,none⟩)),.val (.pointer (some ⟨gt,0,none⟩)),.val (.pointer (some ⟨gt,5,none⟩)),.val (.pointer (some ⟨be,0,none⟩)),.val (.int .i64 ((putK K x).length:Nat)),.val (.pointer (some ⟨g5,0,none⟩)),.val (.pointer (some ⟨g5,2,none⟩)),.val (.int .i64 (k:Nat)),.val (.bool true)][ix]?).getD (.any)) 75 rfl (by kernel_rfl) (by decide) (by decide) (by decide) ?_ ?_
    ·refine ⟨?_,?_,?_,?_,?_,?_,?_,?_,?_,trivial⟩
     ·intro a W hb0 hs hp hi;have hb:=undrew hb0;clear hb0
      have t0:sl a 0 = .pointer (some ⟨gt,0,none⟩):=hi 0 (by decide)
      exact ite_y rfl (wp_val (sl a 0) rfl ⟨_,rfl,Below.refl _ _,t0⟩)
     ·intro a W hb0 hs hp hi;have hb:=undrew hb0;clear hb0
      have tt:sl a 63 = .pointer (some ⟨gt,0,none⟩):=hp 0 (by decide)
      refine ite_y rfl (wp_val (.pointer (some ⟨gt,0,none⟩)) ?_ ?_)
      ·simp only [execOp,eval_tmp,tt];simp [go_sem]
      ·exact ⟨_,rfl,Below.refl _ _,rfl⟩
     ·intro a W hb0 hs hp hi;have hb:=undrew hb0;clear hb0
      have t64:sl a 64 = .pointer (some ⟨gt,0,none⟩):=hp 1 (by decide)
      refine ite_y rfl (wp_val (.pointer (some ⟨gt,5,none⟩)) ?_ ?_)
      ·simp only [execOp,eval_tmp,eval_const,t64];simp [go_sem]
      ·exact ⟨_,rfl,Below.refl _ _,rfl⟩
     ·intro a W hb0 hs hp hi;have hb:=undrew hb0;clear hb0
      have tt:sl a 65 = .pointer (some ⟨gt,5,none⟩):=hp 2 (by decide)
      have dd:=(hb.cell (p:=⟨gt,5,none⟩) (lt_of_cell x5)).trans x5
      refine ite_y rfl (wp_val (.pointer (some ⟨be,0,none⟩)) ?_ ?_)
      ·simp only [execOp,eval_tmp,tt];simp [go_sem,dd]
      ·exact ⟨_,rfl,Below.refl _ _,rfl⟩
     ·intro a W hb0 hs hp hi;have hb:=undrew hb0;clear hb0
      have t66:sl a 66 = .pointer (some ⟨be,0,none⟩):=hp 3 (by decide)
      refine ite_y rfl (wp_enter 65 #[.pointer (some ⟨be,0,none⟩)] ?_ (Rank_any' base be k t _ v' _ _ (HE6.out.keep hb)) ?_)
      ·simp only [execOp,resolve,List.map_toArray,List.map,eval_tmp,eval_func,eval_const,t66];simp [go_sem]
      ·rintro e W' ⟨rfl,rfl⟩;exact ⟨_,rfl,_,rfl,Below.refl _ _,rfl⟩
     ·intro a W hb0 hs hp hi;have hb:=undrew hb0;clear hb0
      have tt:sl a 5 = .pointer (some ⟨g5,0,none⟩):=hi 5 (by decide)
      refine ite_y rfl (wp_val (.pointer (some ⟨g5,0,none⟩)) ?_ ?_)
      ·simp only [execOp,eval_tmp,tt];simp [go_sem]
      ·exact ⟨_,rfl,Below.refl _ _,rfl⟩
     ·intro a W hb0 hs hp hi;have hb:=undrew hb0;clear hb0
      have tt:sl a 68 = .pointer (some ⟨g5,0,none⟩):=hp 5 (by decide)
      refine ite_y rfl (wp_val (.pointer (some ⟨g5,2,none⟩)) ?_ ?_)
      ·simp only [execOp,eval_tmp,tt];simp [go_sem]
      ·exact ⟨_,rfl,Below.refl _ _,rfl⟩
     ·intro a W hb0 hs hp hi;have hb:=undrew hb0;clear hb0
      have tt:sl a 69 = .pointer (some ⟨g5,2,none⟩):=hp 6 (by decide)
      have dd:=(hb.cell (p:=⟨g5,2,none⟩) (lt_of_cell y2)).trans y2
      refine ite_y rfl (wp_val (.int .i64 (k:Nat)) ?_ ?_)
      ·simp only [execOp,eval_tmp,tt];simp [go_sem,dd]
      ·exact ⟨_,rfl,Below.refl _ _,rfl⟩
     ·intro a W hb0 hs hp hi;have hb:=undrew hb0;clear hb0
      have t67:sl a 67 = .int .i64 ((putK K x).length:Nat):=hp 4 (by decide)
      have t70:sl a 70 = .int .i64 (k:Nat):=hp 7 (by decide)
      refine ite_y rfl (wp_val (.bool true) ?_ ?_)
      ·simp only [execOp,eval_tmp,eval_const,t67,t70];simp [go_sem,e15]
      ·exact ⟨_,rfl,Below.refl _ _,rfl⟩
    intro a w9 hb hs hd hI ht
    have ha:=act_is [63,64,65,66,67,68,69,70,71] hs hd ht (by decide)
    have t71:sl a 71 = .bool true:=hI 8 (by decide)
    simp only [List.foldl,t71] at ha
    generalize sl a 63 = u63 at ha
    generalize sl a 64 = u64 at ha
    generalize sl a 65 = u65 at ha
    generalize sl a 66 = u66 at ha
    generalize sl a 67 = u67 at ha
    generalize sl a 68 = u68 at ha
    generalize sl a 69 = u69 at ha
    generalize sl a 70 = u70 at ha
    simp only [Act.put,List.setIfInBounds_toArray,List.set_cons_zero,List.set_cons_succ] at ha
    rw [ha]
    clear ha hI ht
    have kt7:=(hb.block _ (lt_of_block kt6)).trans kt6
    have HB7:=Lib.hid hb
    obtain ⟨x0,x1,x2,x3,x4,x5,x6⟩:=cells_seven kt7
    have z6:=frozen_of_row _ _ 6 _ _ kt7
    clear hb
    go_wp2
    go_ret
    have hO:OneE w9 gt (w9.setCell ⟨gt,6,none⟩ (.int .i64 1)):=(OneE.refl w9 gt).set _
    exact ⟨rfl,.map (some b2),v',⟨H.out.ok,by rw [HNX.out];exact hss kt7,(HCn6.out.keep HB7.out).one hO kt7,hO.elm (HE6.out.keep HB7.out) kt7 tk_ne.2.1 tk_ne.2.2 tk_ne.1,HRd.out,H.out.old⟩,(HTC6.out.then HB7.out).one hO,HO6.out⟩
   ·have HNX:Hid (nextS K x k = 0):=by unfold nextS;rw [if_neg hcl,if_neg hfull];rfl
    have e15:(((putK K x).length:Int) == (k:Int)) = false:=beq_eq_false_iff_ne.2 (by omega)
    clear hcl hfull
    go_wp2_with fail
    refine wp_region_shapes (fun ix=>([.val (.pointer (some ⟨gt,0,none⟩)),.val (.pointer (some ⟨gt,0,none⟩)),.val (.pointer (some ⟨gt,5,none⟩)),.val (.pointer (some ⟨be,0,none⟩)),.val (.int .i64 ((putK K x).length:Nat)),.val (.pointer (some ⟨g5,0,none⟩)),.val (.pointer (some ⟨g5,2,none⟩)),.val (.int .i64 (k:Nat)),.val (.bool false)][ix]?).getD (.any)) 75 rfl (by kernel_rfl) (by decide) (by decide) (by decide) ?_ ?_
    ·refine ⟨?_,?_,?_,?_,?_,?_,?_,?_,?_,trivial⟩
     ·intro a W hb0 hs hp hi;have hb:=undrew hb0;clear hb0
      have t0:sl a 0 = .pointer (some ⟨gt,0,none⟩):=hi 0 (by decide)
      exact ite_y rfl (wp_val (sl a 0) rfl ⟨_,rfl,Below.refl _ _,t0⟩)
     ·intro a W hb0 hs hp hi;have hb:=undrew hb0;clear hb0
      have tt:sl a 63 = .pointer (some ⟨gt,0,none⟩):=hp 0 (by decide)
      refine ite_y rfl (wp_val (.pointer (some ⟨gt,0,none⟩)) ?_ ?_)
      ·simp only [execOp,eval_tmp,tt];simp [go_sem]
      ·exact ⟨_,rfl,Below.refl _ _,rfl⟩
     ·intro a W hb0 hs hp hi;have hb:=undrew hb0;clear hb0
      have t64:sl a 64 = .pointer (some ⟨gt,0,none⟩):=hp 1 (by decide)
      refine ite_y rfl (wp_val (.pointer (some ⟨gt,5,none⟩)) ?_ ?_)
      ·simp only [execOp,eval_tmp,eval_const,t64];simp [go_sem]
      ·exact ⟨_,rfl,Below.refl _ _,rfl⟩
     ·intro a W hb0 hs hp hi;have hb:=undrew hb0;clear hb0
      have tt:sl a 65 = .pointer (some ⟨gt,5,none⟩):=hp 2 (by decide)
      have dd:=(hb.cell (p:=⟨gt,5,none⟩) (lt_of_cell x5)).trans x5
      refine ite_y rfl (wp_val (.pointer (some ⟨be,0,none⟩)) ?_ ?_)
      ·simp only [execOp,eval_tmp,tt];simp [go_sem,dd]
      ·exact ⟨_,rfl,Below.refl _ _,rfl⟩
     ·intro a W hb0 hs hp hi;have hb:=undrew hb0;clear hb0
      have t66:sl a 66 = .pointer (some ⟨be,0,none⟩):=hp 3 (by decide)
      refine ite_y rfl (wp_enter 65 #[.pointer (some ⟨be,0,none⟩)] ?_ (Rank_any' base be k t _ v' _ _ (HE6.out.keep hb)) ?_)
      ·simp only [execOp,resolve,List.map_toArray,List.map,eval_tmp,eval_func,eval_const,t66];simp [go_sem]
      ·rintro e W' ⟨rfl,rfl⟩;exact ⟨_,rfl,_,rfl,Below.refl _ _,rfl⟩
     ·intro a W hb0 hs hp hi;have hb:=undrew hb0;clear hb0
      have tt:sl a 5 = .pointer (some ⟨g5,0,none⟩):=hi 5 (by decide)
      refine ite_y rfl (wp_val (.pointer (some ⟨g5,0,none⟩)) ?_ ?_)
      ·simp only [execOp,eval_tmp,tt];simp [go_sem]
      ·exact ⟨_,rfl,Below.refl _ _,rfl⟩
     ·intro a W hb0 hs hp hi;have hb:=undrew hb0;clear hb0
      have tt:sl a 68 = .pointer (some ⟨g5,0,none⟩):=hp 5 (by decide)
      refine ite_y rfl (wp_val (.pointer (some ⟨g5,2,none⟩)) ?_ ?_)
      ·simp only [execOp,eval_tmp,tt];simp [go_sem]
      ·exact ⟨_,rfl,Below.refl _ _,rfl⟩
     ·intro a W hb0 hs hp hi;have hb:=undrew hb0;clear hb0
      have tt:sl a 69 = .pointer (some ⟨g5,2,none⟩):=hp 6 (by decide)
      have dd:=(hb.cell (p:=⟨g5,2,none⟩) (lt_of_cell y2)).trans y2
      refine ite_y rfl (wp_val (.int .i64 (k:Nat)) ?_ ?_)
      ·simp only [execOp,eval_tmp,tt];simp [go_sem,dd]
      ·exact ⟨_,rfl,Below.refl _ _,rfl⟩
     ·intro a W hb0 hs hp hi;have hb:=undrew hb0;clear hb0
      have t67:sl a 67 = .int .i64 ((putK K x).length:Nat):=hp 4 (by decide)
      have t70:sl a 70 = .int .i64 (k:Nat):=hp 7 (by decide)
      refine ite_y rfl (wp_val (.bool false) ?_ ?_)
      ·simp only [execOp,eval_tmp,eval_const,t67,t70];simp [go_sem,e15]
      ·exact ⟨_,rfl,Below.refl _ _,rfl⟩
    intro a w9 hb hs hd hI ht
    have ha:=act_is [63,64,65,66,67,68,69,70,71] hs hd ht (by decide)
    have t71:sl a 71 = .bool false:=hI 8 (by decide)
    simp only [List.foldl,t71] at ha
    generalize sl a 63 = u63 at ha
    generalize sl a 64 = u64 at ha
    generalize sl a 65 = u65 at ha
    generalize sl a 66 = u66 at ha
    generalize sl a 67 = u67 at ha
    generalize sl a 68 = u68 at ha
    generalize sl a 69 = u69 at ha
    generalize sl a 70 = u70 at ha
    simp only [Act.put,List.setIfInBounds_toArray,List.set_cons_zero,List.set_cons_succ] at ha
    rw [ha]
    clear ha hI ht
    have kt7:=(hb.block _ (lt_of_block kt6)).trans kt6
    have HB7:=Lib.hid hb
    clear hb
    go_wp2
    go_ret
    exact ⟨rfl,.map (some b2),v',⟨H.out.ok,by rw [HNX.out];exact kt7,HCn6.out.keep HB7.out,HE6.out.keep HB7.out,HRd.out,H.out.old⟩,HTC6.out.then HB7.out,HO6.out⟩
def takeK (k t D:Nat) (K:List Rw) (st:Nat) (xs:List UInt8):List Rw:=if readC k t D xs = 0∧st = 0 then putK K (eqX k t xs) else K
def takeS (k t D:Nat) (K:List Rw) (st:Nat) (xs:List UInt8):Nat:=if readC k t D xs = 0∧st = 0 then nextS K (eqX k t xs) k else st
theorem TTake_any (base gt be L t k D N:Nat) (M v:Value) (C:DataW Unit) (K:List Rw) (st:Nat) (p:Option Addr) (n c:Nat) (xs:List UInt8) (w:World) (h:Tkr w base gt be L t k D N M v C K st) (hT:HalfT w) (hN:N < 1000000) (hs:Sl B8 w p n c xs) (hr:Room n) :
  Calls Tryz.prog 16 #[.pointer (some ⟨gt,0,none⟩),.slice p n c] w (TkRet w base gt be L t k D (N + 1) v (bump C (readC k t D xs)) (takeK k t D K st xs) (takeS k t D K st xs) (readC k t D xs)):=by
 unfold takeK takeS
 by_cases hc:readC k t D xs = 0
 ·by_cases hst:st = 0
  ·rw [if_pos ⟨hc,hst⟩,if_pos ⟨hc,hst⟩]
   exact TTake_put base gt be L t k D N M v C K st p n c xs w h hT hN hs hr hc hst
  ·rw [if_neg (fun e=>hst e.2),if_neg (fun e=>hst e.2)]
   exact TTake_done base gt be L t k D N M v C K st p n c xs w h hT hN hs hr hc hst
 ·rw [if_neg (fun e=>hc e.1),if_neg (fun e=>hc e.1)]
  exact TTake_bad base gt be L t k D N M v C K st p n c xs w h hT hN hs hr hc
end Go.Proofs.YtccaiiigdfieoaaGreatDoor
namespace Go.Proofs.YtccaiiigdfieoaaGreatDoor
open Go.RowKit Go.By
end Go.Proofs.YtccaiiigdfieoaaGreatDoor
namespace Go.Proofs.YtccaiiigdfieoaaGreatDoor
open Go.RowKit Go.By
theorem Sl.take {α:Type} {enc:α→Value} {w:World} {p:Option Addr} {n c k c2:Nat} {xs:List α} (h:Sl enc w p n c xs) (hk:k≤n) (h1:k≤c2) (h2:c2≤c):Sl enc w p k c2 (xs.take k):=by
 refine ⟨by rw [List.length_take,h.len];omega,h1,Nat.le_trans h2 h.max,fun e=>?_,?_⟩
 ·have:=h.nil e;omega
 ·intro i hi
  have hi':i < xs.length:=by rw [List.length_take] at hi;omega
  obtain ⟨b,o,hp,hc⟩:=h.rs i hi'
  exact ⟨b,o,hp,by rw [hc];simp⟩
end Go.Proofs.YtccaiiigdfieoaaGreatDoor
namespace Go.Proofs.YtccaiiigdfieoaaGreatDoor
open Go.RowKit Go.By
end Go.Proofs.YtccaiiigdfieoaaGreatDoor
namespace Go.Proofs.YtccaiiigdfieoaaGreatDoor
open Go.RowKit Go.By
end Go.Proofs.YtccaiiigdfieoaaGreatDoor
namespace Go.By
open Go.RowKit
end Go.By
namespace Go.Proofs.YtccaiiigdfieoaaGreatDoor
open Go.RowKit Go.By
theorem info_bytesC:(Tryz.prog.info? 22).map (fun i=>(i.zero,i.size,i.bytes)) = some (some (.slice none 0 0),1,24):=by kernel_rfl
end Go.Proofs.YtccaiiigdfieoaaGreatDoor
namespace Go.By
open Go.RowKit
theorem Fresh.cell {T T' B g i n c:Nat} {w:World} {q:Option Addr} {xs:List UInt8} {old:Array Value} {fr:Nat × Nat} {v:Value} (h:Fresh T B w q n c xs) (hg:w.heap[g]? = some (.cells old T' fr)) (hne:T'≠T):Fresh T B (w.setCell ⟨g,i,Option.none⟩ v) q n c xs:=by
 have hd:∀ a,q = some a→a.block≠g:=fun a ha e=>by
  obtain ⟨c2,f2,e2⟩:=h.ty a ha
  rw [e,hg] at e2
  injection e2 with e2
  injection e2 with _ e3 _
  exact hne e3
 exact ⟨⟨h.sl.len,h.sl.le,h.sl.max,h.sl.nil,fun j hj=>by
  obtain ⟨b,o,e,hc⟩:=h.sl.rs j hj
  exact ⟨b,o,e,(World.cell?_of_block (a:=⟨b,o + j,Option.none⟩) (Below.heap_setCell _ _ _ _ (hd _ e))).trans hc⟩⟩,h.new,fun a ha=>by obtain ⟨c2,f2,e2⟩:=h.ty a ha;exact ⟨c2,f2,(Below.heap_setCell _ _ _ _ (hd a ha)).trans e2⟩⟩
end Go.By
namespace Go.Proofs.YtccaiiigdfieoaaGreatDoor
open Go.RowKit Go.By
end Go.Proofs.YtccaiiigdfieoaaGreatDoor
namespace Go.Proofs.YtccaiiigdfieoaaGreatDoor
open Go.RowKit Go.By
end Go.Proofs.YtccaiiigdfieoaaGreatDoor
namespace Go.By
open Go
section
variable {P:Program} (w:World)
theorem run_append_where (base:Nat) (t ty e:TypeId) (i:TypeInfo) (z:Value) (size bytes:Nat) (ht:P.underlying t = some (.slice e)) (hi:P.info? e = some i) (hz:i.zero = some z)
  (hsize:i.size = size) (hby:i.bytes = bytes) (hzs:z.cells.size = size) (hsz:0 < size)
  (v:Value) (n:Nat) (xs:List Value) (hown:w.ownsRow base e size v n xs)
  (a:Addr) (m c:Nat) (news:List Value) (hl:news.length = m * size) (hnews:∀ j u,news[j]? = some u→w.cell? (a.add j) = some u) (h1:∀ u ∈ news,u.oneCell' = true)
  (h63:n + m≤maxLen) (hbytes:(n + m) * bytes≤140737488355328) (hbase:base≤w.heap.size) (hm:0 < m) :
  ∃ v' w',(Builtin.append_ #[t,t] ty #[v,.slice (some a) m c]).run P w = .ok v' w'∧w'.ownsRow base e size v' (n + m) (xs ++ news)∧w.grownBy w' v.ownBlock∧(v'.ownBlock = v.ownBlock∨v'.ownBlock = some w.heap.size):=by
 obtain ⟨v',w',hr,h2,h3,-⟩:=run_append_own w base t ty e i z size bytes ht hi hz hsize hby hzs hsz v n xs hown a m c news hl hnews h1 h63 hbytes hbase
 refine ⟨v',w',hr,h2,h3,?_⟩
 subst hsize
 subst hby
 have hm':n + m≤9223372036854775807:=by simp only [maxLen] at h63;omega
 rcases hown.2 with ⟨rfl,rfl⟩ | ⟨g,cap,cur,rfl,hbg,hg,hnc,hcm,hcs,htake⟩
 ·have hr2:=run_append_nil (P:=P) w t ty e i z ht hi hz a m c news hl hnews (by omega) (by omega) (by have hb:=hbytes;simp only [Nat.zero_add] at hb;omega)
  have e2:=hr.symm.trans hr2
  cases e2
  exact .inr rfl
 ·by_cases hroom:n + m≤cap
  ·have hfit:n * i.size + news.length≤cur.size:=by rw [hl,hcs,← Nat.add_mul];exact Nat.mul_le_mul_right _ hroom
   have hr2:=run_append_room (P:=P) w t ty e i ht hi g n cap cur hg a m c news hl hnews h1 hroom hfit
   have e2:=hr.symm.trans hr2
   cases e2
   exact .inl rfl
  ·have holds:∀ j u,xs[j]? = some u→w.cell? ((⟨g,0,none⟩:Addr).add j) = some u:=hown.cells (g:=g) rfl
   have hr2:=run_append_grow (P:=P) w t ty e i z ht hi hz ⟨g,0,none⟩ n cap xs hown.1 holds a m c news hl hnews (by omega) (by omega) (growslice_fits (by omega) hbytes)
   have e2:=hr.symm.trans hr2
   cases e2
   exact .inr rfl
theorem wpList_append_where {ops:Array Oper} {rest:List Oper} {o:Oper} {a:Act} {Q:Exit→Act→World→Prop} (hgd:o.guard = none) (s x:Operand) (t:TypeId)
  (ho:o.op = .call { callee:=.builtin .append,args:=#[s,x],argTypes:=#[t,t] })
  (base:Nat) (e:TypeId) (i:TypeInfo) (z:Value) (size bytes:Nat) (ht:P.underlying t = some (.slice e)) (hi:P.info? e = some i) (hz:i.zero = some z)
  (hsize:i.size = size) (hby:i.bytes = bytes) (hzs:z.cells.size = size) (hsz:0 < size)
  (v:Value) (n:Nat) (xs:List Value) (hs:a.eval s = v) (hown:w.ownsRow base e size v n xs)
  (ad:Addr) (m c:Nat) (news:List Value) (hx:a.eval x = .slice (some ad) m c) (hl:news.length = m * size) (hnews:∀ j u,news[j]? = some u→w.cell? (ad.add j) = some u) (h1:∀ u ∈ news,u.oneCell' = true)
  (h63:n + m≤maxLen) (hbytes:(n + m) * bytes≤140737488355328) (hbase:base≤w.heap.size) (hm:0 < m)
  (h:∀ v' w',w'.ownsRow base e size v' (n + m) (xs ++ news)→w.grownBy w' v.ownBlock→(v'.ownBlock = v.ownBlock∨v'.ownBlock = some w.heap.size)→wpList P ops Q rest (a.put o.dst v') w'):wpList P ops Q (o :: rest) a w:=by
 refine wpList_plain hgd fun _ hK=>?_
 obtain ⟨v',w',hr,h2,h3,h4⟩:=run_append_where (P:=P) w base t o.type e i z size bytes ht hi hz hsize hby hzs hsz v n xs hown ad m c news hl hnews h1 h63 hbytes hbase hm
 unfold Oper.wp execOp
 simp only [ho,resolve,invoke,builtin,Sem.run_bind,Sem.run_pure,Result.andThen_ok,List.map_toArray,List.map_cons,List.map_nil,hs,hx,hr]
 exact hK _ _ (h v' w' h2 h3 h4)
end
end Go.By
namespace Go.Proofs.YtccaiiigdfieoaaGreatDoor
open Go.RowKit Go.By Go.Maps
end Go.Proofs.YtccaiiigdfieoaaGreatDoor
namespace Go.By
open Go.RowKit
theorem news_one {w:World} {g T:Nat} {v:Value} {fr:Nat × Nat} (h:w.heap[g]? = some (.cells #[v] T fr)):∀ (j:Nat) (u:Value),[v][j]? = some u→w.cell? ((⟨g,0,none⟩:Addr).add j) = some u:=by
 intro j u hj
 cases j with
 | zero =>
  simp at hj;subst hj
  rw [Addr.add_lit,cell_of_row _ _ _ _ _ _ h];rfl
 | succ j=>simp at hj
theorem ones_one {q:Option Addr} {n c:Nat}:∀ u,u ∈ [Value.slice q n c]→u.oneCell' = true:=by
 intro u hu;simp at hu;subst hu;rfl
def Hdr (T:TypeId) (w1:World) (base:Nat) (w:World) (v:Value) (i:Nat) (xss:List (List UInt8)):Prop :=
 ∃ vs,w.ownsRow base T 1 v i vs∧xss.length = i∧∀ (j:Nat) (u:Value),vs[j]? = some u→∃ q m c xs,u = .slice q m c∧xss[j]? = some xs∧Sl B8 w1 q m c xs
theorem Hdr.shape {T base i:Nat} {w1 w:World} {v:Value} {xss:List (List UInt8)} (h:Hdr T w1 base w v i xss):∃ q c,v = .slice q i c:=by
 obtain ⟨vs,o,_⟩:=h;exact owns_shape o
theorem Hdr.nil (T base:Nat) (w1 w:World):Hdr T w1 base w (.slice none 0 0) 0 []:=⟨[],World.ownsRow_nil _ _ _ _,rfl,fun j u h=>by simp at h⟩
theorem Hdr.push {T base i:Nat} {w1 w:World} {v:Value} {xss:List (List UInt8)} {vs:List Value} {q:Option Addr} {m c:Nat} {xs:List UInt8} (ho:w.ownsRow base T 1 v (i + 1) (vs ++ [.slice q m c])) (hl:xss.length = i) (hv:vs.length = i) (h:∀ (j:Nat) (u:Value),vs[j]? = some u→∃ q m c xs,u = .slice q m c∧xss[j]? = some xs∧Sl B8 w1 q m c xs) (hs:Sl B8 w1 q m c xs):Hdr T w1 base w v (i + 1) (xss ++ [xs]):=by
 refine ⟨_,ho,by simp [hl],fun j u hj=>?_⟩
 rcases Nat.lt_trichotomy j i with h1 | h1 | h1
 ·rw [List.getElem?_append_left (by omega)] at hj
  obtain ⟨q',m',c',xs',e,hx,hs'⟩:=h j u hj
  exact ⟨q',m',c',xs',e,by rw [List.getElem?_append_left (by omega)];exact hx,hs'⟩
 ·subst h1
  rw [List.getElem?_append_right (by omega),hv,Nat.sub_self] at hj
  simp at hj
  exact ⟨q,m,c,xs,hj.symm,by rw [List.getElem?_append_right (by omega),hl,Nat.sub_self];rfl,hs⟩
 ·rw [List.getElem?_eq_none (by simp [hv];omega)] at hj;cases hj
theorem Hdr.sl2 {T base i:Nat} {w1 w:World} {q:Option Addr} {c:Nat} {xss:List (List UInt8)} (h:Hdr T w1 base w (.slice q i c) i xss) (hb:Below w1.heap.size w1 w):Sl2 w q i c xss:=by
 obtain ⟨vs,o,hl,hr⟩:=h
 have hc:=owns_cap o
 have hvl:vs.length = i:=owns_len o
 refine ⟨hl,hc.1,hc.2,fun hp=>?_,fun j xs hj=>?_⟩
 ·rcases o.2 with ⟨h2,rfl⟩ | ⟨g,cap,cur,hv,_⟩
  ·simp at h2;exact ⟨rfl,h2.2⟩
  ·rw [hp] at hv;cases hv
 ·have hji:j < i:=by rw [← hl];exact (List.getElem?_eq_some_iff.1 hj).1
  obtain ⟨q',m',c',xs',e,hx,hs⟩:=hr j vs[j] (List.getElem?_eq_getElem (by omega))
  rw [hj] at hx;cases hx
  obtain ⟨g,rfl,_,_⟩:=owns_at o (by omega)
  refine ⟨g,0,q',c',rfl,?_,?_⟩
  ·rw [Nat.zero_add,o.cellAt j (by omega),List.getElem?_eq_getElem (by omega),e,hs.len]
  ·rw [hs.len];exact hs.keep hb
theorem Hdr.kept {T base i:Nat} {w1 w w':World} {v:Value} {row:Option Nat} {xss:List (List UInt8)} (h:Hdr T w1 base w v i xss) (hg:w.grownBy w' row) (hne:∀ b,v.ownBlock = some b→row≠some b):Hdr T w1 base w' v i xss:=by
 obtain ⟨vs,o,hl,hr⟩:=h
 refine ⟨vs,o.kept hg ?_,hl,hr⟩
 cases hv:v.ownBlock with
 | none=>simp
 | some b=>have:=hne b hv;simp;intro e;exact this e.symm
end Go.By
namespace Go.Proofs.YtccaiiigdfieoaaGreatDoor
open Go.RowKit Go.By Go.Maps
theorem field_gate (L t k D:Nat) (M:Value) (w:World):(Instr.field 111 (GVal L t k D M) 0).run Tryz.prog w = .ok (PVal L t k D) w:=by
 simp [Instr.field,go_sem,asAgg,Tryz.underlying111,Tryz.underlying27]
def PkS (T B:Nat) (D nx:Nat) (qd:Option Addr) (td cd:Nat) (V:List UInt8) (v:Value) (w:World):Prop:=∃ q n c,v = PkVal 0 D nx 0 q n c 0 qd td cd∧Fresh T B w q n c V
def ShPkS (T B:Nat) (D nx:Nat) (qd:Option Addr) (td cd:Nat) (V:List UInt8):Shp:=⟨PkS T B D nx qd td cd V,fun _ _ _ ⟨q,n,c,e,h⟩ hb=>⟨q,n,c,e,h.keep hb⟩⟩
end Go.Proofs.YtccaiiigdfieoaaGreatDoor
namespace Go.Proofs.YtccaiiigdfieoaaGreatDoor
open Go.RowKit Go.By
theorem read_write {m:UInt8} {D n s k t:Nat} {xs ys:List UInt8} (hm:modeC m = 0) (hx:m = 0→xs.length = k) (hy:ys.length = t) (hD:D < 4294967296) (hn:n < 4294967296) :
  readC k t D (pktB m D n xs s ys) = 0∧pktM (pktB m D n xs s ys) = m∧pktN (pktB m D n xs s ys) = n∧pktX k (pktB m D n xs s ys) = rdX m (srcB m xs s)∧pktS k (pktB m D n xs s ys) = rdS m (srcB m xs s)∧pktY k t (pktB m D n xs s ys) = ys:=by
 have hm01:m = 0∨m = 1:=by
  unfold modeC at hm
  split at hm
  ·assumption
  ·cases hm
 have hS:(srcB m xs s).length = widS m k:=by
  unfold srcB widS
  rcases hm01 with h | h
  ·rw [if_pos h,if_pos h];exact hx h
  ·rw [if_neg (by rw [h];decide),if_neg (by rw [h];decide),if_pos h,put8_len]
 obtain ⟨S,hSS⟩:∃ S,srcB m xs s = S:=⟨_,rfl⟩
 obtain ⟨W,hW⟩:∃ W,widS m k = W:=⟨_,rfl⟩
 obtain ⟨c,hc⟩:∃ c,crcS (bodyP m D n xs s ys) = c:=⟨_,rfl⟩
 have hcl:c < 4294967296:=by rw [← hc];exact crcS_lt _
 have hB:pktB m D n xs s ys = [1,m] ++ (put4 D ++ (put4 n ++ (S ++ (ys ++ put4 c)))):=by
  unfold pktB
  rw [hc]
  unfold bodyP headB
  rw [hSS];simp
 have hbody:bodyP m D n xs s ys = [1,m] ++ (put4 D ++ (put4 n ++ (S ++ ys))):=by unfold bodyP headB;rw [hSS];simp
 rw [hSS,hW] at hS
 have g0:(pktB m D n xs s ys).getD 0 0 = 1:=by rw [hB];rfl
 have g1:(pktB m D n xs s ys).getD 1 0 = m:=by rw [hB];rfl
 have hlen:(pktB m D n xs s ys).length = 10 + W + t + 4:=by rw [hB];simp [put4_len,hS,hy];omega
 have d2:(pktB m D n xs s ys).drop 2 = put4 D ++ (put4 n ++ (S ++ (ys ++ put4 c))):=by rw [hB];exact List.drop_left' rfl
 have d6:(pktB m D n xs s ys).drop 6 = put4 n ++ (S ++ (ys ++ put4 c)):=by
  rw [show (6:Nat) = 2 + 4 from rfl,← List.drop_drop,d2];exact List.drop_left' (put4_len D)
 have d10:(pktB m D n xs s ys).drop 10 = S ++ (ys ++ put4 c):=by
  rw [show (10:Nat) = 6 + 4 from rfl,← List.drop_drop,d6];exact List.drop_left' (put4_len n)
 have dW:(pktB m D n xs s ys).drop (10 + W) = ys ++ put4 c:=by
  rw [← List.drop_drop,d10];exact List.drop_left' hS
 have dt:(pktB m D n xs s ys).drop (10 + W + t) = put4 c:=by
  rw [← List.drop_drop,dW];exact List.drop_left' hy
 have tk:(pktB m D n xs s ys).take (10 + W + t) = bodyP m D n xs s ys:=by
  have e:pktB m D n xs s ys = bodyP m D n xs s ys ++ put4 c:=by unfold pktB;rw [hc]
  rw [e]
  exact List.take_left' (by rw [hbody];simp [put4_len,hS,hy];omega)
 have t2:((pktB m D n xs s ys).drop 2).take 4 = put4 D:=by rw [d2];exact List.take_left' (put4_len D)
 have t6:((pktB m D n xs s ys).drop 6).take 4 = put4 n:=by rw [d6];exact List.take_left' (put4_len n)
 have t10:((pktB m D n xs s ys).drop 10).take W = S:=by rw [d10];exact List.take_left' hS
 have tW:((pktB m D n xs s ys).drop (10 + W)).take t = ys:=by rw [dW];exact List.take_left' hy
 have tc:((pktB m D n xs s ys).drop (10 + W + t)).take 4 = put4 c:=by rw [dt];exact List.take_of_length_le (Nat.le_of_eq (put4_len c))
 refine ⟨?_,g1,?_,?_,?_,?_⟩
 ·have hh:headC (pktB m D n xs s ys) = 0:=by
   unfold headC
   rw [if_neg (by rw [hlen];omega),g0,g1,if_neg (by simp)]
   exact hm
  unfold readC
  rw [if_neg (by simp [hh]),g1]
  have hl:(pktB m D n xs s ys).length = lenP m k t:=by unfold lenP;rw [hlen,hW]
  rw [if_neg (by simp [hl]),show (pktB m D n xs s ys).length - 4 = 10 + W + t by omega,tc,tk,hc,get4_put4 hcl,if_neg (by simp),t2,get4_put4 hD,if_neg (by simp)]
 ·unfold pktN;rw [t6,get4_put4 hn]
 ·unfold pktX;rw [g1,hW,t10,hSS]
 ·unfold pktS;rw [g1,hW,t10,hSS]
 ·unfold pktY;rw [g1,hW,tW]
end Go.Proofs.YtccaiiigdfieoaaGreatDoor
namespace Go.By
open Go.RowKit Go.Maps Go.Proofs.YtccaiiigdfieoaaGreatDoor
section
variable {w w':World} {g:Nat} {old:Array Value} {T':Nat} {fr:Nat × Nat}
end
theorem TChg.blk {w w':World} {base gt be L t k D N:Nat} {M v:Value} {C:DataW Unit} {K:List Rw} {st:Nat} (h:TChg w w' gt be v) (hT:Tkr w base gt be L t k D N M v C K st) {b T:Nat} {cs:Array Value} {fr:Nat × Nat} (hb:w.heap[b]? = some (.cells cs T fr)) (h1:T≠118) (h2:T≠191) (h3:99≠T):w'.heap[b]? = some (.cells cs T fr):=by
 refine (h.block b (lt_of_block hb) (fun e=>?_) (fun e=>?_) (hT.elm.rows.ne_box hb h3)).trans hb
 ·have:=hT.box;rw [← e,hb] at this;injection this with this;injection this with _ this _;exact h1 this
 ·have:=hT.elm.box;rw [← e,hb] at this;injection this with this;injection this with _ this _;exact h2 this
theorem TChg.below {w w':World} {B base gt be L t k D N:Nat} {M v:Value} {C:DataW Unit} {K:List Rw} {st:Nat} (h:TChg w w' gt be v) (hT:Tkr w base gt be L t k D N M v C K st) (hB:B≤base) (hw:B≤w.heap.size):Below B w w':=by
 refine ⟨h.os,h.tape,h.output,h.size,fun i hi=>h.block i (by omega) (by have:=hT.old;omega) (by have:=hT.elm.old;omega) (fun e=>?_)⟩
 have:=(hT.elm.rows.lt _ e).1
 omega
end Go.By
namespace Go.Proofs.YtccaiiigdfieoaaGreatDoor
open Go.RowKit Go.By Go.Maps
end Go.Proofs.YtccaiiigdfieoaaGreatDoor
namespace Go.Proofs.YtccaiiigdfieoaaGreatDoor
open Go.RowKit Go.By Go.Maps
set_option maxRecDepth 100000 in
set_option maxHeartbeats 1000000 in
theorem TStatus_any (base gt be L t k D N:Nat) (M v:Value) (C:DataW Unit) (K:List Rw) (st:Nat) (w:World) (h:Tkr w base gt be L t k D N M v C K st) :
  Calls Tryz.prog 22 #[.pointer (some ⟨gt,0,none⟩)] w fun e w'=>e = .returned (.int .i64 (st:Nat))∧w = w':=by
 obtain ⟨c0,c1,c2,c3,c4,c5,c6⟩:=cells_seven h.box
 clear h
 go_enter Tryz.func22,Tryz.ntmps22
 go_wp2
 go_ret
 exact ⟨rfl,rfl⟩
set_option maxRecDepth 100000 in
set_option maxHeartbeats 1000000 in
theorem TRank_any (base gt be L t k D N:Nat) (M v:Value) (C:DataW Unit) (K:List Rw) (st:Nat) (w:World) (h:Tkr w base gt be L t k D N M v C K st) :
  Calls Tryz.prog 47 #[.pointer (some ⟨gt,0,none⟩)] w fun e w'=>e = .returned (.int .i64 (K.length:Nat))∧w = w':=by
 have HE:=Lib.hid (Rank_any' base be k t K.length v K w h.elm)
 obtain ⟨c0,c1,c2,c3,c4,c5,c6⟩:=cells_seven h.box
 clear h
 go_enter Tryz.func47,Tryz.ntmps47
 go_wp2_with fail
 refine Calls.mono HE.out ?_
 rintro e w1 ⟨rfl,rfl⟩
 go_wp2
 go_ret
 exact ⟨rfl,rfl⟩
end Go.Proofs.YtccaiiigdfieoaaGreatDoor
namespace Go.Proofs.YtccaiiigdfieoaaGreatDoor
open Go.RowKit Go.By
end Go.Proofs.YtccaiiigdfieoaaGreatDoor
namespace Go.Proofs.YtccaiiigdfieoaaGreatDoor
open Go.RowKit Go.By
end Go.Proofs.YtccaiiigdfieoaaGreatDoor
namespace Go.Proofs.YtccaiiigdfieoaaGreatDoor
open Go.RowKit Go.By
end Go.Proofs.YtccaiiigdfieoaaGreatDoor
namespace Go.Proofs.YtccaiiigdfieoaaGreatDoor
open Go.RowKit Go.By Gf
end Go.Proofs.YtccaiiigdfieoaaGreatDoor
namespace Go.Proofs.YtccaiiigdfieoaaGreatDoor
open Go.RowKit Go.By
end Go.Proofs.YtccaiiigdfieoaaGreatDoor
namespace Go.Proofs.YtccaiiigdfieoaaGreatDoor
open Go.RowKit Go.By
end Go.Proofs.YtccaiiigdfieoaaGreatDoor
namespace Go.Proofs.YtccaiiigdfieoaaGreatDoor
open Go.RowKit Go.By
end Go.Proofs.YtccaiiigdfieoaaGreatDoor
namespace Go.Proofs.YtccaiiigdfieoaaGreatDoor
open Go.RowKit Go.By
end Go.Proofs.YtccaiiigdfieoaaGreatDoor
namespace Go.Proofs.YtccaiiigdfieoaaGreatDoor
open Go.RowKit Go.By
end Go.Proofs.YtccaiiigdfieoaaGreatDoor
namespace Go.Proofs.YtccaiiigdfieoaaGreatDoor
open Go.RowKit Go.By
end Go.Proofs.YtccaiiigdfieoaaGreatDoor
namespace Go.Proofs.YtccaiiigdfieoaaGreatDoor
open Go.RowKit Go.By Gf
end Go.Proofs.YtccaiiigdfieoaaGreatDoor
namespace Go.Proofs.YtccaiiigdfieoaaGreatDoor
open Go.RowKit Go.By Gf
end Go.Proofs.YtccaiiigdfieoaaGreatDoor
namespace Go.Proofs.YtccaiiigdfieoaaGreatDoor
open Go.RowKit Go.By Gf
theorem vR_right {k n j:Nat} {r:Rw} (hf:Fit k n r):vR r (k + j) = vf r.2 j:=by
 unfold vR vf cat
 rw [List.getD_eq_getElem?_getD,List.getElem?_append_right (by rw [hf.1];omega),hf.1,Nat.add_sub_cancel_left,List.getD_eq_getElem?_getD]
theorem vR_left {k n j:Nat} {r:Rw} (hf:Fit k n r) (hj:j < k):vR r j = vf r.1 j:=vf_app_left (by rw [hf.1];exact hj)
theorem Sys.putX {k n:Nat} {D K:List Rw} {x:Rw} (h:Sys k n (kD D) K) (hx:Fit k n x):Sys k n (kD (D ++ [x])) (Go.Proofs.YtccaiiigdfieoaaGreatDoor.putK K x):=by
 rw [kD_snoc]
 unfold Go.Proofs.YtccaiiigdfieoaaGreatDoor.putK
 by_cases hn:leadS (restF K x).1 < 0
 ·have e:insF (kD D) x = kD D:=by unfold insF;rw [norm_leadS,h.rest hx,if_pos hn]
  rw [if_pos hn,e];exact h
 ·rw [if_neg hn];exact h.put hx hn
def prR (r:Rw):Rw:=(r.1,[])
theorem rest_pr:∀ (K:List Rw) (x:Rw),restF (K.map prR) (prR x) = prR (restF K x)
 | [],_=>rfl
 | a :: K,x=>by
  have h:=rest_pr K (lessF x (atS x.1 (leadS a.1)) a)
  unfold restF at h ⊢
  rw [List.map_cons,List.foldl_cons,List.foldl_cons,← h]
  rfl
theorem norm_pr (r:Rw):normS (prR r) = prR (normS r):=by
 unfold normS prR
 simp only
 split <;> simp
theorem ins_pr (K:List Rw) (x:Rw):insF (K.map prR) (prR x) = (insF K x).map prR:=by
 unfold insF
 rw [rest_pr,norm_pr]
 show (if leadS (normS (restF K x)).1 < 0 then _ else _) = _
 by_cases hl:leadS (normS (restF K x)).1 < 0
 ·rw [if_pos hl,if_pos hl]
 ·rw [if_neg hl,if_neg hl,List.map_append,List.map_cons,List.takeWhile_map,List.dropWhile_map]
  rfl
theorem kD_pr:∀ (X:List Rw) (K:List Rw),(X.map (fun x:Rw=>x.1)).foldl (fun K r=>insF K (r,[])) (K.map prR) = (X.foldl insF K).map prR
 | [],_=>rfl
 | x :: X,K=>by
  rw [List.map_cons,List.foldl_cons,List.foldl_cons,← kD_pr X (insF K x),← ins_pr]
  rfl
theorem sys_rank {k n:Nat} {X K:List Rw} (h:Sys k n (kD X) K):K.length = (iK (X.map (fun x:Rw=>x.1))).length:=by
 have h1:=kD_pr X []
 unfold iK
 rw [show ([]:List Rw) = ([]:List Rw).map prR from rfl,h1,List.length_map,h.same]
 unfold redL kD
 rw [List.length_map,List.length_range]
end Go.Proofs.YtccaiiigdfieoaaGreatDoor
namespace Go.By
end Go.By
namespace Go.Proofs.YtccaiiigdfieoaaGreatDoor
open Go.RowKit Go.By Gf
end Go.Proofs.YtccaiiigdfieoaaGreatDoor
namespace Go.By
open Go.RowKit Go.Maps Go.Proofs.YtccaiiigdfieoaaGreatDoor
section
variable {w w':World} {base gt be L t k D N:Nat} {M v:Value} {C:DataW Unit} {K:List Rw} {st:Nat}
theorem TChg.owns (h:TChg w w' gt be v) (hT:Tkr w base gt be L t k D N M v C K st) {b2 T e n:Nat} {v2:Value} {ys:List Value} (ho:w.ownsRow b2 T e v2 n ys) (h1:T≠118) (h2:T≠191) (h3:∀ g,v2.ownBlock = some g→v.ownBlock≠some g):w'.ownsRow b2 T e v2 n ys:=by
 refine owns_same ho h.size fun g2 hg2=>?_
 rcases ho.2 with ⟨e1,_⟩ | ⟨g',cap,cur,e1,_,hh,_⟩
 ·rw [e1] at hg2;cases hg2
 ·have h4:=h3 g2 hg2
  rw [e1] at hg2;cases hg2
  refine h.block _ (lt_of_block hh) (fun e=>?_) (fun e=>?_) h4
  ·have:=hT.box;rw [← e,hh] at this;injection this with this;injection this with _ this _;exact h1 this
  ·have:=hT.elm.box;rw [← e,hh] at this;injection this with this;injection this with _ this _;exact h2 this
theorem tkr_owns_ne {b2 T e n:Nat} {v2:Value} {ys:List Value} (hT:Tkr w base gt be L t k D N M v C K st) (ho:w.ownsRow b2 T e v2 n ys) (h:99≠T):∀ g,v2.ownBlock = some g→v.ownBlock≠some g:=by
 intro g hg
 rcases ho.2 with ⟨e1,_⟩ | ⟨g',cap,cur,e1,_,hh,_⟩
 ·rw [e1] at hg;cases hg
 ·rw [e1] at hg;cases hg
  exact hT.elm.rows.ne_box hh h
theorem TChg.bw (h:TChg w w' gt be v) (hT:Tkr w base gt be L t k D N M v C K st) {b:Nat} {u:Value} {xs:List UInt8} (hu:Bw 5 w b u xs):Bw 5 w' b u xs:=by
 obtain ⟨q,m,c,e,l,o⟩:=hu
 exact ⟨q,m,c,e,l,h.owns hT o (by decide) (by decide) (tkr_owns_ne hT o (by decide))⟩
theorem TChg.rwl (h:TChg w w' gt be v) (hT:Tkr w base gt be L t k D N M v C K st) {b2 n2:Nat} {v2:Value} {K2:List Rw} (h2:RwL 99 5 w b2 v2 n2 K2) (hne:∀ g,v2.ownBlock = some g→v.ownBlock≠some g):RwL 99 5 w' b2 v2 n2 K2:=by
 obtain ⟨vs,a,b,o,r⟩:=h2
 exact ⟨vs,a,b,h.owns hT o (by decide) (by decide) hne,fun j u hj=>by obtain ⟨x,hk,g1,g2⟩:=r j u hj;exact ⟨x,hk,h.bw hT g1,h.bw hT g2⟩⟩
theorem TChg.cnt (h:TChg w w' gt be v) (hT:Tkr w base gt be L t k D N M v C K st) {M2:Value} {N2:Nat} {C2:DataW Unit} (hc:CntM w M2 N2 C2):CntM w' M2 N2 C2:=by
 refine ⟨?_,hc.small⟩
 rcases hc.at_ with h1 | ⟨b,e,ho⟩
 ·exact .inl h1
 ·refine .inr ⟨b,e,?_⟩
  have hlt:=ho.lt
  obtain ⟨es,clock,h1,F,hs,hD⟩:=ho
  refine ⟨es,clock,(h.block b hlt (fun e=>?_) (fun e=>?_) (fun e=>?_)).trans h1,F,hs,hD⟩
  ·have:=hT.box;rw [← e,h1] at this;cases this
  ·have:=hT.elm.box;rw [← e,h1] at this;cases this
  ·obtain ⟨vs,_,_,o,_⟩:=hT.elm.rows
   rcases o.2 with ⟨e1,_⟩ | ⟨g',cap,cur,e1,_,hh,_⟩
   ·rw [e1] at e;cases e
   ·rw [e1] at e;cases e
    rw [h1] at hh;cases hh
end
end Go.By
namespace Go.Proofs.YtccaiiigdfieoaaGreatDoor
open Go.RowKit Go.By Go.Maps
end Go.Proofs.YtccaiiigdfieoaaGreatDoor
namespace Go.Proofs.YtccaiiigdfieoaaGreatDoor
open Go.RowKit Go.By Go.Maps
theorem pok_of {l s n d:Int} (hl:l≤9223372036854775807) (hc:checkS l s n = 0) (h0:0≤d) (h1:d < 4294967296):∃ L t k D:Nat,l = L∧s = t∧n = k∧d = D∧POK L t k D:=by
 have hf:fitS l s = 0∧n = needS l s:=by
  unfold checkS at hc
  by_cases hf:fitS l s = 0
  ·rw [if_pos hf] at hc
   refine ⟨hf,?_⟩
   by_cases hn:n = needS l s
   ·exact hn
   ·rw [if_neg hn] at hc;omega
  ·rw [if_neg hf] at hc;exact absurd hc hf
 obtain ⟨hf,hn⟩:=hf
 have hs:0≤l∧1≤s∧s≤65535∧needS l s≤4096:=by
  unfold fitS at hf
  split at hf
  ·omega
  ·split at hf
   ·omega
   ·split at hf
    ·omega
    ·omega
 obtain ⟨g1,g2⟩:=needS_pos hs.1 hs.2.1
 refine ⟨l.toNat,s.toNat,n.toNat,d.toNat,by omega,by omega,by omega,by omega,⟨?_,by omega,by omega,by omega,by omega,by omega,by omega⟩⟩
 rw [show ((l.toNat:Nat):Int) = l by omega,show ((s.toNat:Nat):Int) = s by omega,show ((n.toNat:Nat):Int) = n by omega]
 exact hc
end Go.Proofs.YtccaiiigdfieoaaGreatDoor
namespace Go.By
open Go.RowKit
section
variable {P:Program} {ops:Array Oper} {Q:Exit→Act→World→Prop}
end
end Go.By
namespace Go.By
open Go.RowKit
theorem Hdr.keep {T base i:Nat} {w1 w w':World} {v:Value} {xss:List (List UInt8)} (h:Hdr T w1 base w v i xss) (hb:Below w.heap.size w w'):Hdr T w1 base w' v i xss:=by
 obtain ⟨vs,o,hl,hr⟩:=h
 exact ⟨vs,owns_keepv o hb,hl,hr⟩
section
variable {T:Nat} {wz W w w':World} {va vb:Value} {n i4 i9 i:Nat} {A B:List (List UInt8)} {dn:Nat→Bool}
end
end Go.By
namespace Go.Proofs.YtccaiiigdfieoaaGreatDoor
open Go.RowKit Go.By Gf Go.Maps
end Go.Proofs.YtccaiiigdfieoaaGreatDoor
namespace Go.By
open Go.RowKit Go.Maps Go.Proofs.YtccaiiigdfieoaaGreatDoor
theorem fresh_same {T:TypeId} {B:Nat} {w w':World} {q:Option Addr} {n c:Nat} {xs:List UInt8} (h:Fresh T B w q n c xs) (hp:∀ (b:Nat) (cs:Array Value) (fr:Nat × Nat),w.heap[b]? = some (.cells cs T fr)→w'.heap[b]? = w.heap[b]?):Fresh T B w' q n c xs:=by
 have hd:∀ a,q = some a→w'.heap[a.block]? = w.heap[a.block]?:=fun a ha=>by
  obtain ⟨cs,fr,e⟩:=h.ty a ha;exact hp _ cs fr e
 refine ⟨⟨h.sl.len,h.sl.le,h.sl.max,h.sl.nil,fun i hi=>?_⟩,h.new,fun a ha=>?_⟩
 ·obtain ⟨b,o,e,hc⟩:=h.sl.rs i hi
  exact ⟨b,o,e,(World.cell?_of_block (a:=⟨b,o + i,none⟩) (show w'.heap[b]? = w.heap[b]? from hd ⟨b,o,none⟩ e)).trans hc⟩
 ·obtain ⟨cs,fr,e⟩:=h.ty a ha
  exact ⟨cs,fr,(hd a ha).trans e⟩
theorem TChg.same {w w':World} {base gt be L t k D N:Nat} {M v:Value} {C:DataW Unit} {K:List Rw} {st:Nat} (h:TChg w w' gt be v) (hT:Tkr w base gt be L t k D N M v C K st) {T:TypeId} (h1:T≠118) (h2:T≠191) (h3:99≠T):∀ (b:Nat) (cs:Array Value) (fr:Nat × Nat),w.heap[b]? = some (.cells cs T fr)→w'.heap[b]? = w.heap[b]?:=fun b cs fr hb =>
 (h.blk hT hb h1 h2 h3).trans hb.symm
def HdrF (T2 T1:TypeId) (B:Nat) (w:World) (v:Value) (n:Nat) (xss:List (List UInt8)):Prop :=
 ∃ vs,w.ownsRow B T2 1 v n vs∧xss.length = n∧∀ (j:Nat) (u:Value),vs[j]? = some u→∃ q m c xs,u = .slice q m c∧xss[j]? = some xs∧Fresh T1 B w q m c xs
theorem HdrF.nil (T2 T1 B:Nat) (w:World):HdrF T2 T1 B w (.slice none 0 0) 0 []:=⟨[],World.ownsRow_nil _ _ _ _,rfl,fun j u h=>by simp at h⟩
theorem HdrF.shape {T2 T1 B n:Nat} {w:World} {v:Value} {xss:List (List UInt8)} (h:HdrF T2 T1 B w v n xss):∃ q c,v = .slice q n c:=by
 obtain ⟨vs,o,_⟩:=h;exact owns_shape o
theorem HdrF.len {T2 T1 B n:Nat} {w:World} {v:Value} {xss:List (List UInt8)} (h:HdrF T2 T1 B w v n xss):xss.length = n:=by
 obtain ⟨vs,o,l,_⟩:=h;exact l
theorem HdrF.keep {T2 T1 B n:Nat} {w w':World} {v:Value} {xss:List (List UInt8)} (h:HdrF T2 T1 B w v n xss) (hb:Below w.heap.size w w'):HdrF T2 T1 B w' v n xss:=by
 obtain ⟨vs,o,l,r⟩:=h
 refine ⟨vs,owns_keepv o hb,l,fun j u hj=>?_⟩
 obtain ⟨q,m,c,xs,e,hx,hf⟩:=r j u hj
 exact ⟨q,m,c,xs,e,hx,hf.keep hb⟩
theorem HdrF.same {T2 T1 B n:Nat} {w w':World} {v:Value} {xss:List (List UInt8)} (h:HdrF T2 T1 B w v n xss) (hs:w.heap.size≤w'.heap.size) (h2:∀ (b:Nat) (cs:Array Value) (fr:Nat × Nat),w.heap[b]? = some (.cells cs T2 fr)→w'.heap[b]? = w.heap[b]?) (h1:∀ (b:Nat) (cs:Array Value) (fr:Nat × Nat),w.heap[b]? = some (.cells cs T1 fr)→w'.heap[b]? = w.heap[b]?):HdrF T2 T1 B w' v n xss:=by
 obtain ⟨vs,o,l,r⟩:=h
 refine ⟨vs,owns_same o hs fun g hg=>?_,l,fun j u hj=>?_⟩
 ·rcases o.2 with ⟨e1,_⟩ | ⟨g',cap,cur,e1,_,hh,_⟩
  ·rw [e1] at hg;cases hg
  ·rw [e1] at hg;cases hg
   exact h2 _ _ _ hh
 ·obtain ⟨q,m,c,xs,e,hx,hf⟩:=r j u hj
  exact ⟨q,m,c,xs,e,hx,fresh_same hf h1⟩
theorem HdrF.sl2 {T2 T1 B n:Nat} {w:World} {q:Option Addr} {c:Nat} {xss:List (List UInt8)} (h:HdrF T2 T1 B w (.slice q n c) n xss):Sl2 w q n c xss:=by
 obtain ⟨vs,o,l,r⟩:=h
 have hd:Hdr T2 w B w (.slice q n c) n xss:=⟨vs,o,l,fun j u hj=>by
  obtain ⟨q,m,c,xs,e,hx,hf⟩:=r j u hj
  exact ⟨q,m,c,xs,e,hx,hf.sl⟩⟩
 exact hd.sl2 (Below.refl _ _)
theorem HdrF.push {T2 T1 B n:Nat} {w w':World} {v v':Value} {xss:List (List UInt8)} {vs:List Value} {q:Option Addr} {m c:Nat} {xs:List UInt8} (ho:w'.ownsRow B T2 1 v' (n + 1) (vs ++ [.slice q m c])) (hvl:vs.length = n) (hl:xss.length = n)
  (hr:∀ (j:Nat) (u:Value),vs[j]? = some u→∃ q m c xs,u = .slice q m c∧xss[j]? = some xs∧Fresh T1 B w q m c xs) (hx:Fresh T1 B w q m c xs) (hp:∀ (b:Nat) (cs:Array Value) (fr:Nat × Nat),w.heap[b]? = some (.cells cs T1 fr)→w'.heap[b]? = w.heap[b]?):HdrF T2 T1 B w' v' (n + 1) (xss ++ [xs]):=by
 refine ⟨_,ho,by simp [hl],fun j u hj=>?_⟩
 by_cases h:j < vs.length
 ·rw [List.getElem?_append_left h] at hj
  obtain ⟨q,m,c,ys,e,hy,hf⟩:=hr j _ hj
  exact ⟨q,m,c,ys,e,by rw [List.getElem?_append_left (by omega)];exact hy,fresh_same hf hp⟩
 ·rw [List.getElem?_append_right (by omega)] at hj
  by_cases h0:j - vs.length = 0
  ·rw [h0] at hj
   simp at hj
   refine ⟨q,m,c,xs,hj.symm,?_,fresh_same hx hp⟩
   rw [List.getElem?_append_right (by omega),show j - xss.length = 0 by omega];rfl
  ·rw [List.getElem?_eq_none (by simp;omega)] at hj;cases hj
end Go.By
namespace Go.Proofs.YtccaiiigdfieoaaGreatDoor
open Go.RowKit Go.By Go.Maps
end Go.Proofs.YtccaiiigdfieoaaGreatDoor
namespace Go.By
open Go.RowKit Go.Maps Go.Proofs.YtccaiiigdfieoaaGreatDoor
end Go.By
namespace Go.Proofs.YtccaiiigdfieoaaGreatDoor
open Go.RowKit Go.By Gf Go.Maps
section
variable {wI w0 w w':World} {gs gt be base L t k D nx N st:Nat} {FX:List (List UInt8)} {v:Value} {K:List Rw}
end
end Go.Proofs.YtccaiiigdfieoaaGreatDoor
namespace Go.By
theorem crcBit_lt {r:Nat} (h:r < 4294967296):crcBit r < 4294967296:=by
 unfold crcBit
 have h2:r / 2 < 2 ^ 32:=by omega
 split
 ·exact Nat.xor_lt_two_pow h2 (by decide)
 ·omega
def crcBits:Nat→Nat→Nat
 | 0,r=>r
 | j + 1,r=>crcBit (crcBits j r)
theorem crcBits_lt {r:Nat} (h:r < 4294967296):∀ j,crcBits j r < 4294967296
 | 0=>h
 | j + 1=>crcBit_lt (crcBits_lt h j)
theorem crcBits_eight (r:Nat) (b:UInt8):crcBits 8 (r ^^^ b.toNat) = crcByte r b:=by
 rw [crc_byte];rfl
theorem crcRun_snoc {xs:List UInt8} {k:Nat} {x:UInt8} (r:Nat) (h:xs[k]? = some x):crcRun r (xs.take (k + 1)) = crcByte (crcRun r (xs.take k)) x:=by
 rw [List.take_add_one,h,crcRun_append];rfl
end Go.By
namespace Go.Proofs.YtccaiiigdfieoaaGreatDoor
open Go.RowKit Go.By
set_option maxHeartbeats 1000000 in
theorem RPut4_any (n:Nat) (h:n < 4294967296) (w:World) :
  Calls Tryz.prog 142 #[.int .u32 (n:Int)] w fun e w'=>∃ g,e = .returned (.slice (some ⟨g,0,none⟩) 4 4)∧w.heap.size≤g∧w'.heap[g]? = some (.cells ((put4 n).map B8).toArray 5 (0,0))∧Below w.heap.size w w':=by
 have e0:=put4_cells n h
 go_enter Tryz.func142,Tryz.ntmps142
 go_wp2
 rw [← e0]
 go_ret
 exact ⟨w.heap.size,rfl,Nat.le_refl _,hnew rfl,al (Below.refl _ _) (Nat.le_refl _)⟩
set_option maxRecDepth 100000 in
set_option maxHeartbeats 2000000 in
theorem RSum4_any (p:Option Addr) (n c:Nat) (xs:List UInt8) (w:World) (h:Sl B8 w p n c xs) :
  Calls Tryz.prog 143 #[.slice p n c] w fun e w'=>e = .returned (.int .u32 (crcS xs:Nat))∧w = w':=by
 have hb:=h.bound
 have H:=Lib.hid h;clear h
 go_enter Tryz.func143,Tryz.ntmps143
 go_wp2
 go_loop [3,4] (fun r i=>∃ k v:Nat,k≤n∧i = .int .i64 k∧r = .int .u32 (v:Nat)∧Hid (v = crcRun 4294967295 (xs.take k))) (fun _ i=>n - (intOf i).toNat)
 case atStart=>exact ⟨0,4294967295,Nat.zero_le _,rfl,rfl,rfl⟩
 case round =>
  obtain ⟨k,v,hk,rfl,rfl,hv⟩:=hrel
  have hv32:v < 4294967296:=by rw [hv.out];exact crcRun_lt (by decide)
  by_cases hlt:k < n
  ·obtain ⟨b,o,x,rfl,hc,hx⟩:=H.out.at k hlt
   have hlt':(k:Int) < (n:Int):=by omega
   have hxb:=x.toNat_lt
   have e1:bits .xor .u32 (v:Int) (x.toNat:Int) = ((v ^^^ x.toNat:Nat):Int):=bits_xor32 hv32 (by omega)
   have hu:v ^^^ x.toNat < 4294967296:=Nat.xor_lt_two_pow hv32 (show x.toNat < 2 ^ 32 by omega)
   obtain ⟨u,hu0⟩:∃ u,u = v ^^^ x.toNat:=⟨_,rfl⟩
   rw [← hu0] at e1 hu
   have HU:=Lib.hid hu0;clear hu0
   have e0:IntKind.u32.wrap (x.toNat:Int) = (x.toNat:Int):=by rw [IntKind.wrap_u32];omega
   clear hlt
   go_wp2_with (first | simp only [e1] | simp only [e0])
   go_loop [3,5] (fun r i=>∃ j y:Nat,j≤8∧i = .int .i64 j∧r = .int .u32 (y:Nat)∧Hid (y = crcBits j u)) (fun _ i=>8 - (intOf i).toNat)
   case atStart=>exact ⟨0,u,by omega,rfl,rfl,rfl⟩
   case round =>
    obtain ⟨j,y,hj,rfl,rfl,hy⟩:=hrel
    have hy32:y < 4294967296:=by rw [hy.out];exact crcBits_lt hu j
    by_cases hj8:j < 8
    ·have hj8':(j:Int) < 8:=by omega
     by_cases hodd:y % 2 = 1
     ·have hm:(y:Int) % 2 = 1:=by omega
      obtain ⟨z,hz⟩:∃ z,z = y / 2 ^^^ 3988292384:=⟨_,rfl⟩
      have e2:bits .xor .u32 ((y:Int) / 2) 3988292384 = (z:Int):=by
       rw [hz,show (y:Int) / 2 = ((y / 2:Nat):Int) by omega];exact bits_xor32 (by omega) (b:=3988292384) (by decide)
      have HY:Hid (z = crcBits (j + 1) u):=by
       show _ = crcBit (crcBits j u)
       rw [← hy.out,hz];unfold crcBit;rw [if_pos hodd]
      clear hodd hj8 hz
      go_wp2_with (first | simp only [e2] | simp only [hm])
      go_round
      case rel=>exact ⟨j + 1,_,by omega,by go_num,rfl,HY.out⟩
      case measure=>simp [intOf];omega
     ·have hm:(y:Int) % 2 = 0:=by omega
      have HY:Hid (y / 2 = crcBits (j + 1) u):=by
       show _ = crcBit (crcBits j u)
       rw [← hy.out];unfold crcBit;rw [if_neg hodd]
      clear hodd hj8
      go_wp2_with (first | simp only [hm])
      go_round
      case rel=>exact ⟨j + 1,_,by omega,by go_num,rfl,HY.out⟩
      case measure=>simp [intOf];omega
    ·obtain rfl:j = 8:=by omega
     have HV:Hid (y = crcRun 4294967295 (xs.take (k + 1))):=by
      show _ = _
      rw [hy.out,HU.out,crcBits_eight,crcRun_snoc _ hx.out,← hv.out]
     clear hj8
     go_wp2
     go_round
     case rel=>exact ⟨k + 1,y,by omega,by go_num,rfl,HV.out⟩
     case measure=>simp [intOf];omega
  ·obtain rfl:k = n:=by omega
   obtain ⟨d,hdd⟩:∃ d,d = 4294967295 - v:=⟨_,rfl⟩
   have HE:Hid (d = crcS xs):=by
    show _ = _
    rw [hdd,hv.out,← H.out.len,List.take_length];rfl
   have e3:IntKind.u32.wrap ((4294967295:Int) - (v:Int)) = (d:Int):=by rw [IntKind.wrap_u32];omega
   clear hlt hdd
   go_wp2_with (simp only [e3])
   go_ret
   exact ⟨by rw [HE.out];rfl,rfl⟩
end Go.Proofs.YtccaiiigdfieoaaGreatDoor
namespace Go.By
end Go.By
namespace Go.Proofs.YtccaiiigdfieoaaGreatDoor
open Go.RowKit Go.By
end Go.Proofs.YtccaiiigdfieoaaGreatDoor
namespace Go.By
open Go.RowKit Go.Maps Go.Proofs.YtccaiiigdfieoaaGreatDoor
theorem HdrF.lt {T2 T1 B n:Nat} {w:World} {v:Value} {xss:List (List UInt8)} (h:HdrF T2 T1 B w v n xss):∀ g,v.ownBlock = some g→g < w.heap.size:=by
 obtain ⟨vs,o,_⟩:=h
 exact fun g hg=>(o.lt g hg).2
theorem HdrF.at {T2 T1 B n:Nat} {w:World} {q:Option Addr} {c:Nat} {xss:List (List UInt8)} (h:HdrF T2 T1 B w (.slice q n c) n xss) {j:Nat} (hj:j < n):∃ b o p m d xs,q = some ⟨b,o,none⟩∧w.cell? ⟨b,o + j,none⟩ = some (.slice p m d)∧Hid (xss[j]? = some xs)∧Fresh T1 B w p m d xs:=by
 obtain ⟨b,o,p,m,d,xs,e,hc,_,hx⟩:=h.sl2.at j hj
 obtain ⟨vs,ow,l,r⟩:=h
 have hl:vs.length = n:=owns_len ow
 obtain ⟨p',m',d',xs',e1,hx',hf⟩:=r j vs[j] (List.getElem?_eq_getElem (by omega))
 have hx:=hx.out
 rw [hx'] at hx;cases hx
 refine ⟨b,o,p,m,d,xs,e,hc,hx',?_⟩
 have hc2:w.cell? ⟨b,o + j,none⟩ = some (.slice p' m' d'):=by
  rcases ow.2 with ⟨h2,_⟩ | ⟨g,cap,cur,hv,_⟩
  ·cases h2;cases e
  ·cases hv;cases e
   have h3:=ow.cellAt j (by omega)
   rw [Nat.zero_add,h3,List.getElem?_eq_getElem (by omega),e1]
 rw [hc2] at hc;cases hc
 exact hf
end Go.By
namespace Go.Proofs.YtccaiiigdfieoaaGreatDoor
open Go.RowKit Go.By Gf Go.Maps
def OwnsH (W:World) (B T:Nat) (v:Value) (n:Nat):Prop:=∃ ys,W.ownsRow B T 1 v n ys
theorem wpList_hdr {ops:Array Oper} {rest:List Oper} {o:Oper} {a:Act} {W:World} {Q:Exit→Act→World→Prop} (hgd:o.guard = none) (s x:Operand) (ho:o.op = .call { callee:=.builtin .append,args:=#[s,x],argTypes:=#[31,31] })
  (B n:Nat) (v:Value) (xss:List (List UInt8)) (hs:a.eval s = v) (hH:HdrF 22 5 B W v n xss) (hn:n≤1000000) (hB:B≤W.heap.size)
  (g:Nat) (hx:a.eval x = .slice (some ⟨g,0,none⟩) 1 1) (q:Option Addr) (m c:Nat) (fr:Nat × Nat) (xs:List UInt8) (hg:W.heap[g]? = some (.cells #[.slice q m c] 22 fr)) (hF:Fresh 5 B W q m c xs)
  (h:∀ v' W',HdrF 22 5 B W' v' (n + 1) (xss ++ [xs])→OwnsH W B 22 v n→W.grownBy W' v.ownBlock→(v'.ownBlock = v.ownBlock∨v'.ownBlock = some W.heap.size)→wpList Tryz.prog ops Q rest (a.put o.dst v') W'):wpList Tryz.prog ops Q (o :: rest) a W:=by
 obtain ⟨i0,hi0,hz0,hz1,hz2⟩:=info_parts info_bytesC
 obtain ⟨vs,ho1,hl,hr⟩:=hH
 refine wpList_append_where W hgd s x 31 ho B 22 i0 (.slice none 0 0) 1 24 Tryz.underlying31 hi0 hz0 hz1 hz2 rfl (by decide) v n vs hs ho1 ⟨g,0,none⟩ 1 1 [.slice q m c] hx rfl (news_one hg) ones_one (by unfold maxLen;omega) (by omega) hB (by decide) ?_
 intro v' W' h1 h2 h3
 refine h v' W' (HdrF.push (v:=v) h1 (by simpa using ho1.1) hl hr hF fun b cs fr hb=>?_) ⟨vs,ho1⟩ h2 h3
 rcases ho1.2 with ⟨e1,_⟩ | ⟨g',cap,cur,e1,_,hh,_⟩
 ·exact h2.block b (lt_of_block hb) (fun e=>by rw [e1] at e;cases e)
 ·refine h2.block b (lt_of_block hb) (fun e=>?_)
  rw [e1] at e;cases e
  rw [hh] at hb;injection hb with hb;injection hb with _ hb _;exact absurd hb (by decide)
section
variable {wI w0 w w':World} {gs gt be base L t k D nx N st:Nat} {FX:List (List UInt8)} {v:Value} {K:List Rw}
end
end Go.Proofs.YtccaiiigdfieoaaGreatDoor
namespace Go.By
open Go.RowKit
end Go.By
namespace Go.Proofs.YtccaiiigdfieoaaGreatDoor
open Go.RowKit Go.By Go.ChangeShapes Go.WideShapes Go.Deep
section
variable {H:Type} {enc:TypeId × Value→H} {P:Program} {w:World} {base:Nat} {held:Bool}
end
end Go.Proofs.YtccaiiigdfieoaaGreatDoor
namespace Go.By
open Go.RowKit
end Go.By
namespace Go.Proofs.YtccaiiigdfieoaaGreatDoor
open Go.RowKit Go.By Go.ChangeShapes Go.WideShapes Go.Deep
section
variable {H:Type} {enc:TypeId × Value→H} {P:Program} {w:World} {base:Nat} {held:Bool}
end
end Go.Proofs.YtccaiiigdfieoaaGreatDoor
namespace Go.Proofs.YtccaiiigdfieoaaGreatDoor
open Go.RowKit Go.By
def small19 (l s n:Int):Bool:=if checkS l s n = 0 then decide (n≤12) && decide (s≤20) else true
set_option maxRecDepth 100000 in
set_option maxHeartbeats 1000000 in
theorem Small19_any (l s n d:Int) (w:World) (hl2:l≤9223372036854775807) :
  Calls Tryz.prog 26 #[.agg #[.int .i64 l,.int .i64 s,.int .i64 n,.int .u32 d]] w fun e w'=>e = .returned (.bool (small19 l s n))∧Below w.heap.size w w':=by
 have HC:=Lib.hid (fun w=>Check_any l s n d w hl2)
 have HS:Hid (small19 l s n = if checkS l s n = 0 then decide (n≤12) && decide (s≤20) else true):=rfl
 generalize small19 l s n = R at *
 generalize checkS l s n = C at *
 by_cases hc:C = 0
 ·subst hc
  by_cases hn:n≤12
  ·by_cases hs:s≤20
   ·have HR:Hid (R = true):=by show _ = _;rw [HS.out,if_pos rfl,decide_eq_true hn,decide_eq_true hs];rfl
    clear HS
    go_enter Tryz.func26,Tryz.ntmps26
    go_wp2_with fail
    refine Calls.mono (HC.out _) ?_
    rintro e w1 ⟨rfl,hb⟩
    obtain ⟨hb1,h1,hsz⟩:=one_of hb
    obtain ⟨c0,c1,c2,c3⟩:=cells_four h1
    have HB:=Lib.hid hb1
    clear hb hb1
    go_wp2
    go_ret
    exact ⟨by rw [HR.out];first | rfl | (simp only [decide_eq_true hs];rfl),HB.out⟩
   ·have hs':¬ s≤20:=by omega
    have HR:Hid (R = false):=by show _ = _;rw [HS.out,if_pos rfl,decide_eq_true hn,decide_eq_false hs'];rfl
    clear HS
    go_enter Tryz.func26,Tryz.ntmps26
    go_wp2_with fail
    refine Calls.mono (HC.out _) ?_
    rintro e w1 ⟨rfl,hb⟩
    obtain ⟨hb1,h1,hsz⟩:=one_of hb
    obtain ⟨c0,c1,c2,c3⟩:=cells_four h1
    have HB:=Lib.hid hb1
    clear hb hb1
    go_wp2
    go_ret
    exact ⟨by rw [HR.out];first | rfl | (simp only [show decide (s≤20) = false from decide_eq_false (by omega)];rfl),HB.out⟩
  ·have HR:Hid (R = false):=by show _ = _;rw [HS.out,if_pos rfl,decide_eq_false hn];rfl
   clear HS
   go_enter Tryz.func26,Tryz.ntmps26
   go_wp2_with fail
   refine Calls.mono (HC.out _) ?_
   rintro e w1 ⟨rfl,hb⟩
   obtain ⟨hb1,h1,hsz⟩:=one_of hb
   obtain ⟨c0,c1,c2,c3⟩:=cells_four h1
   have HB:=Lib.hid hb1
   clear hb hb1
   go_wp2
   go_ret
   exact ⟨by rw [HR.out];rfl,HB.out⟩
 ·have hz:(C != 0) = true:=bne_iff_ne.2 hc
  have HR:Hid (R = true):=by show _ = _;rw [HS.out,if_neg hc]
  clear HS hc
  go_enter Tryz.func26,Tryz.ntmps26
  go_wp2_with fail
  refine Calls.mono (HC.out _) ?_
  rintro e w1 ⟨rfl,hb⟩
  obtain ⟨hb1,h1,hsz⟩:=one_of hb
  have HB:=Lib.hid hb1
  clear hb hb1
  go_wp2
  go_ret
  exact ⟨by rw [HR.out];rfl,HB.out⟩
end Go.Proofs.YtccaiiigdfieoaaGreatDoor
namespace Go.Proofs.YtccaiiigdfieoaaGreatDoor
open Go.RowKit Go.By Gf Go.Maps
end Go.Proofs.YtccaiiigdfieoaaGreatDoor
namespace Go.Proofs.YtccaiiigdfieoaaGreatDoor
open Go.RowKit Go.By
end Go.Proofs.YtccaiiigdfieoaaGreatDoor
namespace Go.Proofs.YtccaiiigdfieoaaGreatDoor
open Go.RowKit Go.By
end Go.Proofs.YtccaiiigdfieoaaGreatDoor
namespace Go.By
open Go.RowKit
abbrev Par:=Value × Int × List UInt8
section
variable {TP T1:Nat} {w w':World} {base n:Nat} {v:Value} {ts:List Par}
end
end Go.By
namespace Go.Proofs.YtccaiiigdfieoaaGreatDoor
open Go.RowKit Go.By
end Go.Proofs.YtccaiiigdfieoaaGreatDoor
namespace Go.Proofs.YtccaiiigdfieoaaGreatDoor
open Go.RowKit Go.By
def dropAt {α:Type} (ps:List α) (i:Nat):List α:=ps.take i ++ ps.drop (i + 1)
def putAtP {α:Type} (ps:List α) (k:Nat) (p:α):List α:=ps.take k ++ p :: ps.drop k
end Go.Proofs.YtccaiiigdfieoaaGreatDoor
namespace Go.Proofs.YtccaiiigdfieoaaGreatDoor
open Go.RowKit Go.By
end Go.Proofs.YtccaiiigdfieoaaGreatDoor
namespace Go.Proofs.YtccaiiigdfieoaaGreatDoor
open Go.RowKit Go.By
def cutP (p:List UInt8 × Int) (j:Nat):List UInt8 × Int:=if j < p.1.length then (p.1.take j,-1) else p
end Go.Proofs.YtccaiiigdfieoaaGreatDoor
namespace Go.Proofs.YtccaiiigdfieoaaGreatDoor
open Go.RowKit Go.By
def flip (xs:List UInt8) (at':Nat):List UInt8:=xs.set (at' / 8) ((xs.getD (at' / 8) 0) ^^^ UInt8.ofNat (2 ^ (at' % 8)))
def maskF (b j:Nat) (xs:List UInt8):Nat→List UInt8 × Bool
 | 0=>(xs,false)
 | k + 1=>if b.testBit k = true∧(j + k) / 8 < xs.length then (flip (maskF b j xs k).1 (j + k),true) else maskF b j xs k
end Go.Proofs.YtccaiiigdfieoaaGreatDoor
namespace Go.Proofs.YtccaiiigdfieoaaGreatDoor
open Go.RowKit Go.By
def maskP (p:List UInt8 × Int) (b j:Nat):List UInt8 × Int:=((maskF b j p.1 32).1,if (maskF b j p.1 32).2 then -1 else p.2)
end Go.Proofs.YtccaiiigdfieoaaGreatDoor
namespace Go.Proofs.YtccaiiigdfieoaaGreatDoor
open Go.RowKit Go.By
structure ActD where
 d:Int
 i:Int
 j:Int
 b:Nat
 bs:List UInt8
abbrev Pack:=List UInt8 × Int
def stepS (ps:List Pack) (a:ActD):List Pack :=
 if a.d < 0∨6≤a.d∨a.j < 0 then ps
 else if a.d = 5 then ps ++ [(a.bs,-1)]
 else match ps[a.i.toNat]? with
  | none=>ps
  | some p=>if a.i < 0 then ps
   else if a.d = 0 then dropAt ps a.i.toNat
   else if a.d = 1 then ps ++ [p]
   else if a.d = 2 then putAtP (dropAt ps a.i.toNat) (min a.j.toNat (ps.length - 1)) p
   else if a.d = 3 then ps.set a.i.toNat (cutP p a.j.toNat)
   else ps.set a.i.toNat (maskP p a.b a.j.toNat)
end Go.Proofs.YtccaiiigdfieoaaGreatDoor
namespace Go.Proofs.YtccaiiigdfieoaaGreatDoor
open Go.RowKit Go.By Go.ChangeShapes Go.WideShapes Go.Deep
section
variable {H:Type} {enc:TypeId × Value→H} {P:Program} {w:World} {base:Nat} {held:Bool}
instance:Inhabited ActD:=⟨⟨0,0,0,0,[]⟩⟩
end
end Go.Proofs.YtccaiiigdfieoaaGreatDoor
namespace Go.Proofs.YtccaiiigdfieoaaGreatDoor
open Go.RowKit Go.By
end Go.Proofs.YtccaiiigdfieoaaGreatDoor
namespace Go.Proofs.YtccaiiigdfieoaaGreatDoor
open Go.RowKit Go.By
end Go.Proofs.YtccaiiigdfieoaaGreatDoor
namespace Go.Proofs.YtccaiiigdfieoaaGreatDoor
open Go.RowKit Go.By
end Go.Proofs.YtccaiiigdfieoaaGreatDoor
namespace Go.Proofs.YtccaiiigdfieoaaGreatDoor
open Go.RowKit Go.By
end Go.Proofs.YtccaiiigdfieoaaGreatDoor
namespace Go.Proofs.YtccaiiigdfieoaaGreatDoor
open Go.RowKit Go.By
end Go.Proofs.YtccaiiigdfieoaaGreatDoor
namespace Go.Proofs.YtccaiiigdfieoaaGreatDoor
open Go.RowKit Go.By Gf Go.Maps
def tkF (k t D:Nat) (s:List Rw × Nat) (x:List UInt8):List Rw × Nat:=(takeK k t D s.1 s.2 x,takeS k t D s.1 s.2 x)
def tkR (k t D:Nat) (came:List (List UInt8)):List Rw × Nat:=came.foldl (tkF k t D) ([],0)
theorem tkR_snoc {k t D:Nat} {came:List (List UInt8)} {i:Nat} {x:List UInt8} (h:came[i]? = some x):tkR k t D (came.take (i + 1)) = tkF k t D (tkR k t D (came.take i)) x:=by
 obtain ⟨hi,e⟩:=List.getElem?_eq_some_iff.1 h
 unfold tkR
 rw [foldl_take_succ _ _ _ _ hi,e]
section
variable {wI w0 w w':World} {gs gt be base L t k D nx N st:Nat} {FX:List (List UInt8)} {v:Value} {K:List Rw}
end
end Go.Proofs.YtccaiiigdfieoaaGreatDoor
namespace Go.By
open Go.RowKit Go.Proofs.YtccaiiigdfieoaaGreatDoor
def clashRow (k t:Nat):Rw:=(List.replicate k 0,(List.replicate t (0:UInt8)).set 0 1)
theorem clashRow_len (k t:Nat):(clashRow k t).1.length = k∧(clashRow k t).2.length = t:=by simp [clashRow]
def expR (k t:Nat) (K:List Rw) (st:Nat):List Rw:=if st = 2 then K ++ [clashRow k t] else K
theorem expR_two (k t:Nat) (K:List Rw):expR k t K 2 = K ++ [clashRow k t]:=rfl
theorem expR_not {k t st:Nat} {K:List Rw} (h:st≠2):expR k t K st = K:=if_neg h
theorem expR_fit {k t st:Nat} {K:List Rw} (h:∀ r,r ∈ K→Fit k t r):∀ r,r ∈ expR k t K st→Fit k t r:=fun r hr=>by
 unfold expR at hr
 split at hr
 ·rcases List.mem_append.1 hr with hr | hr
  ·exact h r hr
  ·rw [List.mem_singleton.1 hr];exact clashRow_len k t
 ·exact h r hr
theorem expR_len {k t st:Nat} {K:List Rw}:(expR k t K st).length≤K.length + 1:=by
 unfold expR;split <;> simp
def expL (D:Nat) (R:List Rw):List (List UInt8):=R.zipIdx.map fun p=>pktB 0 D p.2 p.1.1 0 p.1.2
theorem expL_len (D:Nat) (R:List Rw):(expL D R).length = R.length:=by simp [expL]
theorem expL_snoc {D i:Nat} {R:List Rw} {x:Rw} (h:R[i]? = some x):expL D (R.take (i + 1)) = expL D (R.take i) ++ [pktB 0 D i x.1 0 x.2]:=by
 have hi:=(List.getElem?_eq_some_iff.1 h).1
 unfold expL
 rw [List.take_add_one,h,List.zipIdx_append,List.map_append]
 simp only [Option.toList_some,List.zipIdx_cons,List.zipIdx_nil,List.map_cons,List.map_nil,List.length_take,Nat.zero_add]
 rw [Nat.min_eq_left (by omega)]
theorem expL_at {D i:Nat} {R:List Rw} {x:Rw} (h:R[i]? = some x):(expL D R)[i]? = some (pktB 0 D i x.1 0 x.2):=by
 unfold expL
 rw [List.getElem?_map,List.getElem?_zipIdx,h]
 simp
theorem pktB_len0 (D i:Nat) (xs ys:List UInt8):(pktB 0 D i xs 0 ys).length = 14 + xs.length + ys.length:=by
 unfold pktB bodyP headB srcB
 rw [if_pos rfl]
 simp [put4_len]
 omega
def hexT (L:List (List UInt8)):List UInt8:=L.flatMap fun x=>hexL x ++ [10]
theorem hexT_snoc {L:List (List UInt8)} {i:Nat} {x:List UInt8} (h:L[i]? = some x):hexT (L.take (i + 1)) = hexT (L.take i) ++ (hexL x ++ [10]):=by
 unfold hexT
 rw [List.take_add_one,h,List.flatMap_append];simp
def keepT (L t k D:Nat) (K:List Rw) (st:Nat):List UInt8:=textW D L t k ++ [10] ++ hexT (expL D (expR k t K st))
end Go.By
namespace Go.Proofs.YtccaiiigdfieoaaGreatDoor
open Gf Go.By
def clashB (K:List Rw) (x:Rw):Bool:=decide (leadS (restF K x).1 < 0) && !zeroS (restF K x).2
theorem clashB_code {K:List Rw} {x:Rw}:clashB K x = true↔codeF K x = 2:=by
 unfold clashB codeF
 by_cases h:leadS (restF K x).1 < 0
 ·rw [if_pos h,decide_eq_true h]
  cases zeroS (restF K x).2 <;> simp
 ·rw [if_neg h,decide_eq_false h];simp
structure Spg (k n:Nat) (X K0:List Rw):Prop where
 kept:KeptS k n K0
 fit:∀ x,x ∈ X→Fit k n x
 le:∀ r,r ∈ K0→Sp (X.map vR) (vR r)
 ge:∀ x,x ∈ X→Sp (K0.map vR) (vR x)
theorem Spg.nil (k n:Nat):Spg k n [] []:=⟨KeptS.nil k n,fun x h=>by simp at h,fun x h=>by simp at h,fun x h=>by simp at h⟩
theorem zeroS_all {xs:List UInt8}:zeroS xs = true↔∀ x,x ∈ xs→x = 0:=by unfold zeroS;simp
theorem rest_span {k n:Nat} {K:List Rw} {x:Rw} (h:KeptS k n K) (hx:Fit k n x):(∀ j,vR (restF K x) j = 0)↔Sp (K.map vR) (vR x):=by
 have rK:vR (restF K x) = red (tri K) (vR x):=rest_red h.rows hx
 rw [rK]
 have:=red_zero (x:=vR x) (tri_of_sorted h.rows h.sorted)
 rw [tri_fst] at this
 exact this
theorem rest_nil {k n:Nat} {K:List Rw} {x:Rw} (h:KeptS k n K) (hx:Fit k n x) (hl:leadS (restF K x).1 < 0):(∀ j,vR (restF K x) j = 0)↔zeroS (restF K x).2 = true:=by
 have hf:=hx.rest (fun r hr=>(h.rows r hr).1)
 have h0:=vf_zero (leadS_neg hl)
 constructor
 ·intro hz
  refine zeroS_all.2 fun y hy=>?_
  obtain ⟨j,hj,rfl⟩:=List.mem_iff_getElem.1 hy
  have:=hz (k + j)
  rw [vR_right hf] at this
  unfold vf at this
  rw [List.getD_eq_getElem?_getD,List.getElem?_eq_getElem hj] at this
  exact this
 ·intro hz j
  by_cases hj:j < k
  ·rw [vR_left hf hj];exact h0 j
  ·have:=vf_zero (zeroS_all.1 hz) (j - k)
   rw [← vR_right hf,show k + (j - k) = j by omega] at this
   exact this
theorem Spg.snoc {k n:Nat} {X K0:List Rw} {x:Rw} (h:Spg k n X K0) (hx:Fit k n x) (hc:clashB K0 x = false):Spg k n (X ++ [x]) (insF K0 x):=by
 have memX:∀ a,a ∈ X.map vR→a ∈ (X ++ [x]).map vR:=fun a ha=>by rw [List.map_append];exact List.mem_append.2 (.inl ha)
 have lastX:vR x ∈ (X ++ [x]).map vR:=by simp
 refine ⟨h.kept.step hx,fun y hy=>?_,fun r hr=>?_,fun y hy=>?_⟩
 ·rcases List.mem_append.1 hy with hy | hy
  ·exact h.fit y hy
  ·rw [List.mem_singleton] at hy;rw [hy];exact hx
 ·by_cases hl:leadS (restF K0 x).1 < 0
  ·have e:insF K0 x = K0:=by unfold insF;rw [norm_leadS,if_pos hl]
   rw [e] at hr
   exact Sp.sub memX (h.le r hr)
  ·refine Sp.trans (fun a ha=>?_) ((insF_span h.kept hx hl).1 r hr)
   rcases List.mem_cons.1 ha with rfl | ha
   ·exact Sp.mem lastX
   ·obtain ⟨q,hq,rfl⟩:=List.mem_map.1 ha
    exact Sp.sub memX (h.le q hq)
 ·by_cases hl:leadS (restF K0 x).1 < 0
  ·have e:insF K0 x = K0:=by unfold insF;rw [norm_leadS,if_pos hl]
   rw [e]
   rcases List.mem_append.1 hy with hy | hy
   ·exact h.ge y hy
   ·rw [List.mem_singleton] at hy;rw [hy]
    have hz:zeroS (restF K0 x).2 = true:=by
     unfold clashB at hc
     rw [decide_eq_true hl] at hc
     simpa using hc
    exact (rest_span h.kept hx).1 ((rest_nil h.kept hx hl).2 hz)
  ·obtain ⟨i1,i2,i3⟩:=insF_span h.kept hx hl
   rcases List.mem_append.1 hy with hy | hy
   ·refine Sp.trans (fun a ha=>?_) (h.ge y hy)
    obtain ⟨q,hq,rfl⟩:=List.mem_map.1 ha
    exact i2 q hq
   ·rw [List.mem_singleton] at hy;rw [hy];exact i3
theorem kept_ind {k n:Nat} {K:List Rw} (h:KeptS k n K):Ind (K.map vR):=by
 have:=(tri_of_sorted h.rows h.sorted).ind
 rwa [tri_fst] at this
def widesL (X:List Rw):List (List UInt8):=X.map cat
def vecsL (X:List Rw):List (List UInt8):=X.map (fun x:Rw=>x.1)
theorem wides_vf (X:List Rw):(widesL X).map vf = X.map vR:=by unfold widesL;rw [List.map_map];rfl
theorem wides_rk {k n:Nat} {X:List Rw} (h:∀ x,x ∈ X→Fit k n x):Rk (X.map vR) (iK (widesL X)).length:=by
 have:=ins_rank (n:=k + n) (widesL X) (fun r hr=>by obtain ⟨x,hx,rfl⟩:=List.mem_map.1 hr;exact (h x hx).cat)
 rw [wides_vf] at this
 exact this
theorem Spg.rank {k n:Nat} {X K0:List Rw} (h:Spg k n X K0):(iK (widesL X)).length = K0.length:=by
 refine (wides_rk h.fit).unique ⟨K0.map vR,kept_ind h.kept,by simp,fun b hb=>?_,fun a ha=>?_⟩
 ·obtain ⟨r,hr,rfl⟩:=List.mem_map.1 hb;exact h.le r hr
 ·obtain ⟨x,hx,rfl⟩:=List.mem_map.1 ha;exact h.ge x hx
theorem vecs_rank (X:List Rw):(iK (vecsL X)).length = (kD X).length:=by
 have:=kD_pr X []
 show ((X.map (fun x:Rw=>x.1)).foldl (fun K r=>insF K (r,[])) []).length = _
 rw [show ([]:List Rw) = ([]:List Rw).map prR from rfl,this,List.length_map];rfl
theorem clash_rank {k n:Nat} {X K0:List Rw} {x:Rw} (h:Spg k n X K0) (hx:Fit k n x) (hc:clashB K0 x = true):K0.length + 1≤(iK (widesL (X ++ [x]))).length:=by
 have hl:leadS (restF K0 x).1 < 0:=by
  unfold clashB at hc;rw [Bool.and_eq_true] at hc;exact of_decide_eq_true hc.1
 have hz:¬ zeroS (restF K0 x).2 = true:=by
  unfold clashB at hc;rw [Bool.and_eq_true] at hc
  intro e;rw [e] at hc;exact absurd hc.2 (by decide)
 have hn:¬ ∀ j,vR (restF K0 x) j = 0:=fun g=>hz ((rest_nil h.kept hx hl).1 g)
 obtain ⟨l,hlz⟩:∃ l,vR (restF K0 x) l≠0:=Classical.byContradiction fun g=>hn fun j=>Classical.byContradiction fun e=>g ⟨j,e⟩
 have rK:vR (restF K0 x) = red (tri K0) (vR x):=rest_red h.kept.rows hx
 have T:=tri_of_sorted h.kept.rows h.kept.sorted
 have hT:Tri (tri K0 ++ [((fun j=>gmul (ginv (vR (restF K0 x) l)) (vR (restF K0 x) j)),l)]):=by
  refine T.snoc (fun p hp=>?_) (ginv_gmul _ hlz)
  show gmul _ _ = 0
  rw [rK,red_at T p hp,gmul_zero]
 have hI:=hT.ind
 rw [List.map_append,tri_fst] at hI
 obtain ⟨B,hB,hBl,hB1,hB2⟩:=wides_rk (X:=X ++ [x]) (k:=k) (n:=n) (fun y hy=>by
  rcases List.mem_append.1 hy with hy | hy
  ·exact h.fit y hy
  ·rw [List.mem_singleton] at hy;rw [hy];exact hx)
 rw [← hBl]
 have hlen:((K0.map fun r=>vf (cat r)) ++ [((fun j=>gmul (ginv (vR (restF K0 x) l)) (vR (restF K0 x) j)),l)].map (·.1)).length = K0.length + 1:=by simp
 rw [← hlen]
 have memX:∀ a,a ∈ X.map vR→a ∈ (X ++ [x]).map vR:=fun a ha=>by rw [List.map_append];exact List.mem_append.2 (.inl ha)
 refine exchange _ _ hI fun a ha=>Sp.trans hB2 ?_
 rcases List.mem_append.1 ha with ha | ha
 ·obtain ⟨r,hr,rfl⟩:=List.mem_map.1 ha
  exact Sp.sub memX (h.le r hr)
 ·simp only [List.map_cons,List.map_nil,List.mem_singleton] at ha
  rw [ha]
  refine Sp.scale _ ?_
  have s:=red_span (tri K0) (vR x)
  rw [tri_fst,← rK] at s
  have s2:Sp ((X ++ [x]).map vR) (fun j=>vR x j ^^^ vR (restF K0 x) j):=Sp.trans (fun a ha=>by
   obtain ⟨r,hr,rfl⟩:=List.mem_map.1 ha
   exact Sp.sub memX (h.le r hr)) s
  have s3:=Sp.add (Sp.mem (show vR x ∈ (X ++ [x]).map vR by simp)) s2
  have e:vR (restF K0 x) = fun j=>vR x j ^^^ (vR x j ^^^ vR (restF K0 x) j):=by
   funext j;rw [← xor_assoc,xor_self,zero_xor]
  rw [e];exact s3
def calm (D:List Rw) (j:Nat):Prop:=∀ i x,i < j→D[i]? = some x→clashB (kD (D.take i)) x = false
theorem calm_spg {k n:Nat} {D:List Rw} (hD:∀ x,x ∈ D→Fit k n x):∀ j,calm D j→Spg k n (D.take j) (kD (D.take j))
 | 0,_=>by rw [List.take_zero];exact Spg.nil k n
 | j + 1,h=>by
  have ih:=calm_spg hD j (fun i x hi hx=>h i x (by omega) hx)
  by_cases hj:j < D.length
  ·have e:=List.getElem?_eq_getElem hj
   rw [List.take_add_one,e]
   show Spg k n (D.take j ++ [D[j]]) (kD (D.take j ++ [D[j]]))
   rw [kD_snoc]
   exact ih.snoc (hD _ (List.getElem_mem hj)) (h j _ (by omega) e)
  ·rw [List.take_of_length_le (by omega)] at ih ⊢
   exact ih
theorem judge_at {k n:Nat} {D:List Rw} (hD:∀ x,x ∈ D→Fit k n x) {j:Nat} {x:Rw} (hx:D[j]? = some x) (h:calm D j):((iK (vecsL (D.take (j + 1)))).length = (iK (widesL (D.take (j + 1)))).length)↔clashB (kD (D.take j)) x = false:=by
 have S:=calm_spg hD j h
 have hxD:x ∈ D:=List.mem_of_getElem? hx
 have et:D.take (j + 1) = D.take j ++ [x]:=by rw [List.take_add_one,hx];rfl
 cases hc:clashB (kD (D.take j)) x with
 | false =>
  have S2:=S.snoc (hD x hxD) hc
  rw [et,S2.rank,vecs_rank,kD_snoc]
  simp
 | true =>
  have g:=clash_rank S (hD x hxD) hc
  have hl:leadS (restF (kD (D.take j)) x).1 < 0:=by
   unfold clashB at hc;rw [Bool.and_eq_true] at hc;exact of_decide_eq_true hc.1
  have e:insF (kD (D.take j)) x = kD (D.take j):=by unfold insF;rw [norm_leadS,if_pos hl]
  rw [et,vecs_rank,kD_snoc,e]
  constructor
  ·intro h2;omega
  ·intro h2;cases h2
end Go.Proofs.YtccaiiigdfieoaaGreatDoor
namespace Go.By
open Go.RowKit
def OwnH (T2:TypeId) (w0 w:World) (base:Nat) (v:Value) (n:Nat) (xss:List (List UInt8)):Prop :=
 ∃ vs:List Value,w.ownsRow base T2 1 v n vs∧xss.length = n∧∀ (j:Nat) (val:Value),vs[j]? = some val→∃ xs q c',xss[j]? = some xs∧val = Value.slice q xs.length c'∧Sl B8 w0 q xs.length c' xs
theorem OwnH.nil (T2:TypeId) (w0 w:World) (base:Nat):OwnH T2 w0 w base (.slice none 0 0) 0 []:=⟨[],World.ownsRow_nil _ _ _ _,rfl,fun j val h=>by simp at h⟩
theorem OwnH.sl2 {T2:TypeId} {w0 w:World} {base n c:Nat} {p:Option Addr} {xss:List (List UInt8)} (h:OwnH T2 w0 w base (.slice p n c) n xss) (hb:Below w0.heap.size w0 w):Sl2 w p n c xss:=by
 obtain ⟨vs,h1,h2,h3⟩:=h
 have hs:Sl id w p n c vs:=Sl.of_owns (by rw [List.map_id];exact h1)
 refine ⟨h2,hs.le,hs.max,hs.nil,?_⟩
 intro i xs hi
 have hlt:i < vs.length:=by
  have:=(List.getElem?_eq_some_iff.1 hi).1
  rw [hs.len];omega
 obtain ⟨b,o,hp,hc⟩:=hs.rs i hlt
 obtain ⟨xs',q,c',a1,a2,a3⟩:=h3 i _ (List.getElem?_eq_getElem hlt)
 have e:=hi.symm.trans a1
 cases e
 exact ⟨b,o,q,c',hp,by rw [hc,id,a2],a3.keep hb⟩
theorem OwnH.push {T2:TypeId} {w0 w':World} {base n:Nat} {vs:List Value} {v':Value} {q:Option Addr} {m c:Nat} {xs:List UInt8} {xss:List (List UInt8)} (hvl:vs.length = n) (h2:xss.length = n)
  (h3:∀ (j:Nat) (val:Value),vs[j]? = some val→∃ xs q c',xss[j]? = some xs∧val = Value.slice q xs.length c'∧Sl B8 w0 q xs.length c' xs)
  (hr:Sl B8 w0 q m c xs) (ho:w'.ownsRow base T2 1 v' (n + 1) (vs ++ [.slice q m c])):OwnH T2 w0 w' base v' (n + 1) (xss ++ [xs]):=by
 have hml:m = xs.length:=hr.len.symm
 refine ⟨_,ho,by simp [h2],?_⟩
 intro j val hj
 by_cases hjn:j < n
 ·rw [List.getElem?_append_left (by omega)] at hj
  obtain ⟨ys,q',c',a,b,d⟩:=h3 j val hj
  exact ⟨ys,q',c',by rw [List.getElem?_append_left (by omega)];exact a,b,d⟩
 ·rw [List.getElem?_append_right (by omega)] at hj
  have hj0:j = n:=by
   have:=(List.getElem?_eq_some_iff.1 hj).1
   simp at this;omega
  subst hj0
  rw [hvl] at hj
  simp at hj
  subst hj
  exact ⟨xs,q,c,by rw [List.getElem?_append_right (by omega),h2];simp,by rw [hml],by rw [← hml];exact hr⟩
end Go.By
namespace Go.Proofs.YtccaiiigdfieoaaGreatDoor
open Go.RowKit Go.By
theorem vecsL_take {D:List Rw} {j:Nat} {x:Rw} (h:D[j]? = some x):vecsL (D.take (j + 1)) = vecsL (D.take j) ++ [x.1]:=by
 unfold vecsL;rw [List.take_add_one,h,List.map_append];rfl
end Go.Proofs.YtccaiiigdfieoaaGreatDoor
namespace Go.Proofs.YtccaiiigdfieoaaGreatDoor
open Go.RowKit Go.By
def clashI (D:List Rw):Nat→Int
 | 0=>-1
 | i + 1=>match D[i]? with
  | some x=>if clashB (kD (D.take i)) x = true∧clashI D i < 0 then (i:Int) else clashI D i
  | none=>clashI D i
theorem clashI_step {D:List Rw} {i:Nat} {x:Rw} (h:D[i]? = some x):clashI D (i + 1) = if clashB (kD (D.take i)) x = true∧clashI D i < 0 then (i:Int) else clashI D i:=by
 show (match D[i]? with | some x=>_ | none=>_) = _
 rw [h]
theorem sys_len {k t:Nat} {X K:List Rw} (h:Sys k t (kD X) K):K.length = (kD X).length:=(sys_rank h).trans (vecs_rank X)
theorem sys_clash {k t:Nat} {X K:List Rw} {x:Rw} (h:Sys k t (kD X) K) (hx:Fit k t x):clashB (kD X) x = clashB K x:=by
 unfold clashB;rw [h.rest hx]
end Go.Proofs.YtccaiiigdfieoaaGreatDoor
