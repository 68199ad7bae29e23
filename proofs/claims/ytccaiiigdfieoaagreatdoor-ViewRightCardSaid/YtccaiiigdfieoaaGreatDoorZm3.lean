/- Rows kept one by one,as the grid's rank and the document's keep them: as many as the rank says. A region that draws its order,whose last operation (a store) waits for all others but one extract. The contract of the grid's Rank. Slices of rows that read so; the contract of the reference's Rest. Appends of rows: any part of a slice of rows onto a slice that the call owns. The contract of the reference's Insert. The contract of the reference's Turned. The contract of the reference's Rank. Determinants by the first row,over the field of 256 elements: linear in each row,nought where two rows are the same; what row steps do to them. Gauss-Jordan on rows with data: what each step keeps. slices.IndexFunc of rows; the closure of Inverse. The rows of Inverse in memory: one block of n rows. Rows that lead,reduced: what they span tells them; a row more,as a system of equations puts it. A row more into reduced rows (putF); reduced rows out of rows that lead by rising places (backB); both are the same. The document's reduced rows: one behind the other cleared,in place; they are the system's. The contracts of the reference's Same of layer 3,and of a law's rows: made,and as the document's. The contract of a grid's Turned. The contracts of grid.Of where rows fit,or are uneven. The contract of the law's Made. The contract of a grid's Mul. A region that draws its order,with two stores (an exchange): each value that comes up is told ahead; the world is one of two till the last store. A system of equations in memory; New,Size,Rank. Small parts of chapter 8's law; the reference's rows in one block. A drawn region with one store into a block of its own: a row in new memory. The contract of the reference's Rows of chapter 8: each equation put in by Insert,then cleared in place. The contract of the reference's Rest of chapter 8. The contract of a system's Rest. The contract of sort.Search. Arrays that the call owns,written in place; lists of parcels: cells of two. The contract of slices.Insert at rows: one more. -/
import Derived.Test.YtccaiiigdfieoaaGreatDoorZm2
import Derived.Laws.AppendOwnNone
import Derived.Deep.AppendLies
import Derived.Deep.RegionWith
import Derived.Laws.CopyOwn
import Derived.BigRegion
import Derived.Laws.IdiomCopy
import Derived.Deep.RegionLaw
import Derived.Lib.Overlaps
import Derived.Shelf.Spec.SlicesInsertGrow
import Derived.Lib.AppendZerosOnto
namespace Go.Proofs.YtccaiiigdfieoaaGreatDoor
open Go.By Gf
abbrev Rw:=List UInt8 × List UInt8
def vf (xs:List UInt8):V:=fun j=>xs.getD j 0
def cat (r:Rw):List UInt8:=r.1 ++ r.2
def Fit (n t:Nat) (r:Rw):Prop:=r.1.length = n∧r.2.length = t
def lessF (x:Rw) (c:UInt8) (o:Rw):Rw:=(axpy c o.1 x.1,axpy c o.2 x.2)
def restF (K:List Rw) (x:Rw):Rw:=K.foldl (fun x k=>lessF x (atS x.1 (leadS k.1)) k) x
theorem vf_axpy {c:UInt8} {xs ys:List UInt8} (h:xs.length = ys.length):vf (axpy c xs ys) = fun j=>vf ys j ^^^ gmul c (vf xs j):=by
 funext j
 unfold vf axpy
 simp only [List.getD_eq_getElem?_getD,List.getElem?_zipWith]
 by_cases hj:j < xs.length
 ·rw [List.getElem?_eq_getElem hj,List.getElem?_eq_getElem (by omega:j < ys.length)];rfl
 ·rw [List.getElem?_eq_none (by omega),List.getElem?_eq_none (by omega)];simp [gmul_zero,xor_zero]
theorem vf_scale (c:UInt8) (xs:List UInt8):vf (xs.map (gmul c)) = fun j=>gmul c (vf xs j):=by
 funext j
 unfold vf
 simp only [List.getD_eq_getElem?_getD,List.getElem?_map]
 cases xs[j]? <;> simp [gmul_zero]
theorem vf_inj {xs ys:List UInt8} (h:xs.length = ys.length) (e:∀ j,j < xs.length→vf xs j = vf ys j):xs = ys:=by
 apply List.ext_getElem h
 intro i h1 h2
 have:=e i h1
 simpa [vf,List.getD_eq_getElem?_getD,h1,h2] using this
theorem vf_app_left {xs ys:List UInt8} {j:Nat} (h:j < xs.length):vf (xs ++ ys) j = vf xs j:=by
 unfold vf;rw [List.getD_eq_getElem?_getD,List.getElem?_append_left h,List.getD_eq_getElem?_getD]
theorem axpy_append (c:UInt8):∀ (xs ys us vs:List UInt8),xs.length = us.length→axpy c (xs ++ ys) (us ++ vs) = axpy c xs us ++ axpy c ys vs:=by
 intro xs ys us vs h
 unfold axpy
 exact List.zipWith_append h
theorem cat_less {n t:Nat} {x o:Rw} (c:UInt8) (hx:Fit n t x) (ho:Fit n t o):cat (lessF x c o) = axpy c (cat o) (cat x):=by
 unfold cat lessF
 rw [axpy_append]
 rw [ho.1,hx.1]
theorem Fit.less {n t:Nat} {x o:Rw} {c:UInt8} (hx:Fit n t x) (ho:Fit n t o):Fit n t (lessF x c o):=by
 unfold Fit lessF
 exact ⟨by rw [axpy_length _ _ _ (by rw [ho.1,hx.1])];exact hx.1,by rw [axpy_length _ _ _ (by rw [ho.2,hx.2])];exact hx.2⟩
theorem Fit.rest {n t:Nat}:∀ {K:List Rw} {x:Rw},(∀ k,k ∈ K→Fit n t k)→Fit n t x→Fit n t (restF K x)
 | [],x,_,hx=>hx
 | k :: K,x,hK,hx=>Fit.rest (K:=K) (fun a ha=>hK a (by simp [ha])) (hx.less (hK k (by simp)))
theorem Fit.cat {n t:Nat} {x:Rw} (h:Fit n t x):(cat x).length = n + t:=by unfold Go.Proofs.YtccaiiigdfieoaaGreatDoor.cat;rw [List.length_append,h.1,h.2]
def LeadAt (r:Rw) (l:Nat):Prop:=leadS r.1 = (l:Int)∧r.1[l]? = some 1∧∀ (j:Nat) (y:UInt8),j < l→r.1[j]? = some y→y = 0
def Led (r:Rw):Prop:=∃ l,LeadAt r l
def leadN (r:Rw):Nat:=(leadS r.1).toNat
theorem Led.at {r:Rw} (h:Led r):LeadAt r (leadN r):=by
 obtain ⟨l,hl⟩:=h
 have:leadN r = l:=by unfold leadN;rw [hl.1];rfl
 rw [this];exact hl
theorem LeadAt.lt {r:Rw} {l n t:Nat} (h:LeadAt r l) (hf:Fit n t r):l < n:=by
 have:=(List.getElem?_eq_some_iff.1 h.2.1).1;rw [hf.1] at this;exact this
def tri (K:List Rw):List (V × Nat):=K.map fun k=>(vf (cat k),leadN k)
theorem tri_fst (K:List Rw):(tri K).map (·.1) = K.map fun k=>vf (cat k):=by simp [tri,List.map_map,Function.comp_def]
theorem tri_mem {K:List Rw} {p:V × Nat} (h:p ∈ tri K):∃ k,k ∈ K∧p = (vf (cat k),leadN k):=by
 simp only [tri,List.mem_map] at h
 obtain ⟨k,hk,rfl⟩:=h;exact ⟨k,hk,rfl⟩
theorem vf_at {n t l:Nat} {x:Rw} (hx:Fit n t x) (hl:l < n):vf (cat x) l = atS x.1 (l:Int):=by
 unfold cat
 rw [vf_app_left (by rw [hx.1];exact hl)]
 simp [vf,atS]
theorem rest_red {n t:Nat}:∀ {K:List Rw} {x:Rw},(∀ k,k ∈ K→Fit n t k∧Led k)→Fit n t x→vf (cat (restF K x)) = red (tri K) (vf (cat x))
 | [],x,_,_=>rfl
 | k :: K,x,hK,hx=>by
  obtain ⟨hf,hl⟩:=hK k (by simp)
  have hL:=hl.at
  have e:(restF (k :: K) x) = restF K (lessF x (atS x.1 (leadS k.1)) k):=rfl
  rw [e,rest_red (K:=K) (fun a ha=>hK a (by simp [ha])) (hx.less hf),cat_less _ hx hf,vf_axpy (by rw [hf.cat,hx.cat])]
  have e2:atS x.1 (leadS k.1) = vf (cat x) (leadN k):=by rw [vf_at hx (hL.lt hf),hL.1]
  rw [e2];rfl
theorem axpy_zero_of {c:UInt8} (h:c = 0) {xs ys:List UInt8} (hl:xs.length = ys.length):axpy c xs ys = ys:=by
 refine vf_inj (by rw [axpy_length _ _ _ hl]) (fun j _=>?_)
 rw [vf_axpy hl]
 show vf ys j ^^^ gmul c _ = _
 rw [h,zero_gmul,xor_zero]
theorem leadS_neg {v:List UInt8} (h:leadS v < 0):∀ x,x ∈ v→x = 0:=by
 rcases leadS_cases v with ⟨_,_,h3⟩ | ⟨k,x,e,_⟩
 ·exact h3
 ·omega
theorem vf_zero {v:List UInt8} (h:∀ x,x ∈ v→x = 0):∀ j,vf v j = 0:=by
 intro j
 unfold vf
 rw [List.getD_eq_getElem?_getD]
 cases e:v[j]? with
 | none=>rfl
 | some x=>exact h x (List.mem_of_getElem? e)
theorem norm_row {n t:Nat} {y:Rw} (hy:Fit n t y) (h:¬ leadS y.1 < 0):∃ (l:Nat) (c:UInt8),c≠0∧leadS y.1 = (l:Int)∧LeadAt (normS y) l∧Fit n t (normS y)∧vf (cat (normS y)) = fun j=>gmul c (vf (cat y) j):=by
 obtain ⟨v,d⟩:=y
 rcases norm_cases v d with ⟨h1,_⟩ | ⟨k,x,e,hx,hk,hj,g⟩
 ·exact absurd (by rw [h1];decide) h
 ·refine ⟨k,ginv x,ginv_ne x hx,e,?_,?_,?_⟩
  ·rw [g]
   refine ⟨by have:=norm_lead v d;rw [g] at this;rw [this,e],by simp [List.getElem?_map,hk,ginv_gmul x hx],?_⟩
   intro j y hjk hy'
   simp only [List.getElem?_map,Option.map_eq_some_iff] at hy'
   obtain ⟨z,hz,rfl⟩:=hy'
   rw [hj j z hjk hz,gmul_zero]
  ·rw [g];exact ⟨by simpa using hy.1,by simpa using hy.2⟩
  ·rw [g]
   have:cat (v.map (gmul (ginv x)),d.map (gmul (ginv x))) = (cat (v,d)).map (gmul (ginv x)):=by simp [cat]
   rw [this,vf_scale]
def keepF (K:List Rw) (x:Rw):List Rw:=if leadS (restF K x).1 < 0 then K else K ++ [normS (restF K x)]
structure Kept (n t:Nat) (K:List Rw):Prop where
 rows:∀ k,k ∈ K→Fit n t k∧Led k
 tri:Tri (tri K)
theorem Kept.nil (n t:Nat):Kept n t []:=⟨by simp,trivial⟩
theorem tri_append (K L:List Rw):tri (K ++ L) = tri K ++ tri L:=by simp [tri]
theorem leadN_of {r:Rw} {l:Nat} (h:LeadAt r l):leadN r = l:=by unfold leadN;rw [h.1];rfl
theorem vf_lead {n t l:Nat} {r:Rw} (h:LeadAt r l) (hf:Fit n t r):vf (cat r) l = 1:=by
 rw [vf_at hf (h.lt hf),at_of h.2.1]
theorem Kept.step {n t:Nat} {K:List Rw} {x:Rw} (h:Kept n t K) (hx:Fit n t x):Kept n t (keepF K x):=by
 unfold keepF
 split
 ·exact h
 ·rename_i hn
  have hr:=hx.rest (fun k hk=>(h.rows k hk).1)
  obtain ⟨l,c,hc,hl,hL,hF,hv⟩:=norm_row hr hn
  refine ⟨?_,?_⟩
  ·intro k hk
   rcases List.mem_append.1 hk with h' | h'
   ·exact h.rows k h'
   ·simp at h';subst h';exact ⟨hF,l,hL⟩
  ·rw [tri_append]
   show Tri (Go.Proofs.YtccaiiigdfieoaaGreatDoor.tri K ++ [(vf (cat (normS (restF K x))),leadN (normS (restF K x)))])
   refine h.tri.snoc ?_ ?_
   ·intro p hp
    rw [hv]
    show gmul c (vf (cat (restF K x)) p.2) = 0
    rw [rest_red h.rows hx,red_at h.tri p hp,gmul_zero]
   ·rw [leadN_of hL];exact vf_lead hL hF
def insF (K:List Rw) (x:Rw):List Rw :=
 if leadS (normS (restF K x)).1 < 0 then K else K.takeWhile (fun r=>decide (leadS r.1 < leadS (normS (restF K x)).1)) ++ normS (restF K x) :: K.dropWhile (fun r=>decide (leadS r.1 < leadS (normS (restF K x)).1))
theorem norm_leadS (r:Rw):leadS (normS r).1 = leadS r.1:=by obtain ⟨v,d⟩:=r;exact norm_lead v d
theorem ins_perm (K:List Rw) (x:Rw):(insF K x).Perm (keepF K x):=by
 unfold insF keepF
 rw [norm_leadS]
 split
 ·exact List.Perm.refl _
 ·refine (List.perm_middle).trans ?_
  rw [List.takeWhile_append_dropWhile]
  exact (List.perm_append_singleton _ _).symm
structure KeptS (n t:Nat) (K:List Rw):Prop where
 rows:∀ k,k ∈ K→Fit n t k∧Led k
 sorted:K.Pairwise (fun a b=>leadN a < leadN b)
theorem vf_before {n t l:Nat} {r:Rw} (hf:Fit n t r) (h:Led r) (hl:l < leadN r):vf (cat r) l = 0:=by
 have hL:=h.at
 have:=hL.lt hf
 rw [vf_at hf (by omega)]
 have hz:=hL.2.2 l
 simp only [atS,Int.toNat_natCast,Int.natCast_nonneg,if_true,List.getD_eq_getElem?_getD]
 cases e:r.1[l]? with
 | none=>rfl
 | some y=>exact hz y hl e
theorem tri_of_sorted {n t:Nat}:∀ {K:List Rw},(∀ k,k ∈ K→Fit n t k∧Led k)→K.Pairwise (fun a b=>leadN a < leadN b)→Tri (tri K)
 | [],_,_=>trivial
 | k :: K,h1,h2=>by
  obtain ⟨g1,g2⟩:=List.pairwise_cons.1 h2
  obtain ⟨hf,hl⟩:=h1 k (by simp)
  refine ⟨vf_lead hl.at hf,?_,tri_of_sorted (fun a ha=>h1 a (by simp [ha])) g2⟩
  intro p hp
  obtain ⟨k',hk',rfl⟩:=tri_mem hp
  exact vf_before (h1 k' (by simp [hk'])).1 (h1 k' (by simp [hk'])).2 (g1 k' hk')
theorem KeptS.kept {n t:Nat} {K:List Rw} (h:KeptS n t K):Kept n t K:=⟨h.rows,tri_of_sorted h.rows h.sorted⟩
theorem KeptS.nil (n t:Nat):KeptS n t []:=⟨by simp,List.Pairwise.nil⟩
theorem mem_take {α:Type} {p:α→Bool}:∀ {l:List α} {a:α},a ∈ l.takeWhile p→p a = true
 | b :: l,a,h=>by
  rw [List.takeWhile_cons] at h
  split at h
  ·rename_i hb
   rcases List.mem_cons.1 h with rfl | h
   ·exact hb
   ·exact mem_take h
  ·simp at h
theorem drop_head {α:Type} {p:α→Bool}:∀ {l:List α} {a:α} {r:List α},l.dropWhile p = a :: r→p a = false
 | b :: l,a,r,h=>by
  rw [List.dropWhile_cons] at h
  split at h
  ·exact drop_head h
  ·rename_i hb
   simp at h
   rw [← h.1];simpa using hb
theorem KeptS.step {n t:Nat} {K:List Rw} {x:Rw} (h:KeptS n t K) (hx:Fit n t x):KeptS n t (insF K x):=by
 have hkk:=h.kept.step hx
 have hp:=ins_perm K x
 refine ⟨fun k hk=>hkk.rows k (hp.mem_iff.1 hk),?_⟩
 unfold insF
 split
 ·exact h.sorted
 ·rename_i hn
  rw [norm_leadS] at hn
  have hr:=hx.rest (fun k hk=>(h.rows k hk).1)
  obtain ⟨l,c,hc,hl,hL,hF,hv⟩:=norm_row hr hn
  have hln:=leadN_of hL
  rw [hL.1]
  have hne:∀ k,k ∈ K→leadN k≠l:=by
   intro k hk e
   have h1:vf (cat (normS (restF K x))) l = 1:=vf_lead hL hF
   have h2:vf (cat (normS (restF K x))) (leadN k) = 0:=by
    rw [hv]
    show gmul c (vf (cat (restF K x)) (leadN k)) = 0
    rw [rest_red h.rows hx,red_at h.kept.tri (vf (cat k),leadN k) (List.mem_map.2 ⟨k,hk,rfl⟩),gmul_zero]
   rw [e,h1] at h2
   exact absurd h2 (by decide)
  have hlead:∀ k,k ∈ K→leadS k.1 = (leadN k:Int):=fun k hk=>(h.rows k hk).2.at.1
  have hs:(K.takeWhile (fun r=>decide (leadS r.1 < (l:Int))) ++ K.dropWhile (fun r=>decide (leadS r.1 < (l:Int)))).Pairwise (fun a b=>leadN a < leadN b):=by
   rw [List.takeWhile_append_dropWhile];exact h.sorted
  have mT:∀ k,k ∈ K.takeWhile (fun r=>decide (leadS r.1 < (l:Int)))→k ∈ K∧leadN k < l:=by
   intro k hk
   have h1:=(List.takeWhile_sublist _).mem hk
   refine ⟨h1,?_⟩
   have:=mem_take hk
   rw [decide_eq_true_eq,hlead k h1] at this
   omega
  have mD:∀ k,k ∈ K.dropWhile (fun r=>decide (leadS r.1 < (l:Int)))→l < leadN k:=by
   obtain ⟨h1,h2,h3⟩:=List.pairwise_append.1 hs
   cases e:K.dropWhile (fun r=>decide (leadS r.1 < (l:Int))) with
   | nil=>intro k hk;simp at hk
   | cons a r =>
    have ha:a ∈ K:=(List.dropWhile_sublist _).mem (by rw [e];simp)
    have hd:=drop_head e
    rw [decide_eq_false_iff_not,hlead a ha] at hd
    have hla:l < leadN a:=by have:=hne a ha;omega
    rw [e] at h2
    intro k hk
    rcases List.mem_cons.1 hk with rfl | hk
    ·exact hla
    ·exact Nat.lt_trans hla ((List.pairwise_cons.1 h2).1 k hk)
  obtain ⟨h1,h2,h3⟩:=List.pairwise_append.1 hs
  refine List.pairwise_append.2 ⟨h1,List.pairwise_cons.2 ⟨fun k hk=>by rw [hln];exact mD k hk,h2⟩,?_⟩
  intro a ha b hb
  rcases List.mem_cons.1 hb with rfl | hb
  ·rw [hln];exact (mT a ha).2
  ·exact h3 a ha b hb
end Go.Proofs.YtccaiiigdfieoaaGreatDoor
namespace Go.By
open Go.RowKit
def lateB (ops:Array Oper) (m e:Nat):Bool:=decide (ops.size = m + 1) && decide (e < m) && match ops[m]? with
 | some o=>o.guard.isNone && o.dst.isNone && (List.range m).all fun i=>i == e || (preds o).contains i
 | none=>false
theorem wpAny_one {P:Program} {ops:Array Oper} {Q:Exit→Act→World→Prop} {listed:Array Bool} {a:Act} {w:World} {e:Nat} {oe:Oper} (fuel:Nat) (he:ops[e]? = some oe) (hall:∀ j,j < ops.size→j≠e→listed.getD j true = true) (hle:listed.getD e true = false) (hpe:∀ k,k ∈ preds oe→listed.getD k false = true)
  (hu:unl ops.size listed≤fuel) (hg:oe.guard = none) (h:oe.wp P a w (fun a' w'=>Q .normal a' w') Q):wpAny P .any ops Q fuel listed a w:=by
 have hes:e < ops.size:=(Array.getElem?_eq_some_iff.1 he).1
 have hin:e ∈ Region.ready .any ops listed:=mem_ready.2 ⟨hes,hle,oe,he,hpe⟩
 cases fuel with
 | zero =>
  exfalso
  have h0:unl ops.size listed = 0:=by omega
  unfold unl at h0
  have:=List.countP_eq_zero.1 h0 e (List.mem_range.2 hes)
  simp [hle] at this
 | succ n =>
  refine ⟨fun hr=>by rw [hr] at hin;simp at hin,fun i hi=>?_⟩
  have hie:i = e:=by
   apply Classical.byContradiction
   intro hne
   obtain ⟨h1,h2,_⟩:=mem_ready.1 hi
   rw [hall i h1 hne] at h2;cases h2
  subst hie
  unfold wpOp
  rw [he]
  show if Region.wanted oe (yielded ops a.tmps) = true then _ else _
  rw [if_pos (by simp [Region.wanted,hg])]
  have his:i < listed.size:=by
   rcases Nat.lt_or_ge i listed.size with h | h
   ·exact h
   ·simp [Array.getD_eq_getD_getElem?,Array.getElem?_eq_none h] at hle
  refine .inl (Oper.wp_mono (fun a' w' hq=>wpAny_done _ (fun j hj=>?_) hq) h)
  simp only [Array.getD_eq_getD_getElem?,Array.getElem?_setIfInBounds]
  by_cases e2:i = j
  ·subst e2;simp [his]
  ·rw [if_neg e2]
   have:=hall j hj (fun h=>e2 h.symm)
   simpa [Array.getD_eq_getD_getElem?] using this
theorem wp_region_late {P:Program} {ops:Array Oper} {Q:Exit→Act→World→Prop} {id:Nat} {a0:Act} {w0:World} (sh:Nat→Shp) (n m e t d:Nat) (hn:a0.tmps.size = n) (hm:P.follows .mixedOrders = true) (hback:backB ops = true) (hdist:distB ops = true)
  (hlast:lateB ops m e = true) (oe:Oper) (hoe:ops[e]? = some oe) (hge:oe.guard = none) (hde:oe.dst = some d) (hdn:d < n)
  (hrun:∀ (a:Act) (u x:Value) (w:World),sl a t = .tuple #[u,x]→∃ v,(execOp a.eval oe).run P w = .ok (.value v) w) (hdsts:dstsB (ops.extract 0 m) n = true)
  (each:EachS P ops Q a0 w0.drew sh (ops.toList.take m) 0)
  (fin:∀ a w o,ops[m]? = some o→Below w0.heap.size w0 w→a.tmps.size = a0.tmps.size→a.defers = a0.defers→(∀ j,j < m→j≠e→InvS ops sh j (sl a) w)→(∀ t,(ops.toList.all fun o=>o.dst != some t) = true→sl a t = sl a0 t) →
   (∃ u x,sl a t = .tuple #[u,x])∧o.wp P a w (fun a' w'=>a' = a∧∀ b:Act,b.tmps.size = a0.tmps.size→b.defers = a0.defers→(∀ t',t'≠d→sl b t' = sl a t')→Q .normal b w') Q) :
  (Code.region id ops true).wp P Q a0 w0:=by
 unfold lateB at hlast
 rw [Bool.and_eq_true,Bool.and_eq_true] at hlast
 have hsz:ops.size = m + 1:=of_decide_eq_true hlast.1.1
 have hem:e < m:=of_decide_eq_true hlast.1.2
 have hm':m < ops.size:=by omega
 obtain ⟨ol,hol⟩:∃ ol,ops[m]? = some ol:=⟨_,Array.getElem?_eq_getElem hm'⟩
 have hl2:=hlast.2
 rw [hol] at hl2
 simp only [Bool.and_eq_true] at hl2
 have hguard:ol.guard = none:=by cases hg:ol.guard <;> simp [hg] at hl2 ⊢
 have hdst:ol.dst = none:=by cases hg:ol.dst <;> simp [hg] at hl2 ⊢
 have hpl:∀ i,i < m→i≠e→i ∈ preds ol:=fun i hi hne=>by
  have:=List.all_eq_true.1 hl2.2 i (List.mem_range.2 hi)
  simpa [hne] using this
 have hE:=each_of (Q:=Q) (P:=P) (a0:=a0) (W0:=w0.drew) (sh:=sh) hn (ops.toList.take m) 0 (fun j o hj=>by
   rw [List.getElem?_take] at hj;split at hj
   ·simpa using hj
   ·cases hj) (by
   unfold dstsB at hdsts
   have e:(ops.extract 0 m).toList = ops.toList.take m:=by simp
   rw [e] at hdsts;exact hdsts) each
 have stepAt:∀ i o,i < m→ops[i]? = some o→StepOf P ops Q a0 w0.drew (fun W w=>Below W.heap.size W w) (fun _ w w'=>Below w.heap.size w w') (InvS ops sh) i o:=fun i o hi ho=>by
  have:=Each.get _ 0 hE i o (by rw [List.getElem?_take,if_pos hi];simpa using ho)
  rwa [Nat.zero_add] at this
 have stable:∀ i j oi oj (σ σ':Nat→Value) w w',i≠j→ops[i]? = some oi→ops[j]? = some oj→InvS ops sh j σ w→Below w.heap.size w w'→(∀ t,oi.dst≠some t→σ' t = σ t)→InvS ops sh j σ' w':=by
  intro i j oi oj σ σ' w w' hij hoi hoj hI hR hσ
  unfold InvS at hI ⊢
  cases hdj:dstOf ops j with
  | none=>trivial
  | some d =>
   rw [hdj] at hI
   show (sh j).ok (σ' d) w'
   have hne:oi.dst≠some d:=by
    intro e
    have hi':i < ops.size:=(Array.getElem?_eq_some_iff.1 hoi).1
    have hj':j < ops.size:=(Array.getElem?_eq_some_iff.1 hoj).1
    have:=List.all_eq_true.1 (List.all_eq_true.1 hdist i (List.mem_range.2 hi')) j (List.mem_range.2 hj')
    rw [hoi,hoj] at this
    have hdj':oj.dst = some d:=by simpa [dstOf,hoj] using hdj
    simp [e,hdj',hij] at this
   rw [hσ d hne]
   exact (sh j).keep _ _ _ hI hR
 refine wp_region_any hm ?_
 show wpAny P .any ops Q ops.size (Array.replicate ops.size false) a0 w0.drew
 have main:∀ (fuel:Nat) (listed:Array Bool) (a:Act) (w:World),unl ops.size listed≤fuel→listed.getD m true = false→Below w0.heap.size w0 w→a.tmps.size = a0.tmps.size→a.defers = a0.defers →
   (∀ j o,listed.getD j false = true→ops[j]? = some o→∀ k,k ∈ preds o→listed.getD k false = true) →
   (∀ j,j < ops.size→listed.getD j true = true→listed.getD j false = true) →
   (∀ j,j < m→listed.getD j false = true→InvS ops sh j (sl a) w) →
   (∀ t,(∀ j o,j < m→listed.getD j false = true→ops[j]? = some o→o.dst≠some t)→sl a t = sl a0 t)→wpAny P .any ops Q fuel listed a w:=by
  intro fuel
  induction fuel with
  | zero =>
   intro listed a w hu hlm
   exfalso
   have h0:unl ops.size listed = 0:=by omega
   unfold unl at h0
   have:=List.countP_eq_zero.1 h0 m (List.mem_range.2 hm')
   simp [hlm] at this
  | succ fuel ih =>
   intro listed a w hu hlm hEw hs hd hcl hlt hI ht
   refine ⟨fun hr=>?_,fun i hi=>?_⟩
   ·exfalso
    have hall:∀ k j,j < k→j < ops.size→listed.getD j false = true:=by
     intro k
     induction k with
     | zero=>intro j hj;omega
     | succ k ihk =>
      intro j hj hjs
      refine hlt j hjs ?_
      cases hb:listed.getD j true with
      | true=>rfl
      | false =>
       exfalso
       have ho:ops[j]? = some ops[j]:=Array.getElem?_eq_getElem hjs
       have:j ∈ Region.ready .any ops listed:=mem_ready.2 ⟨hjs,hb,_,ho,fun q hq=>by
        have hbk:=List.all_eq_true.1 hback j (List.mem_range.2 hjs)
        rw [ho] at hbk
        have hkj:=of_decide_eq_true (List.all_eq_true.1 hbk q hq)
        exact ihk q (by omega) (by omega)⟩
       rw [hr] at this;cases this
    have hx:=hall (m + 1) m (by omega) hm'
    rcases Nat.lt_or_ge m listed.size with h | h
    ·simp [Array.getD_eq_getD_getElem?,h] at hlm hx;rw [hlm] at hx;cases hx
    ·simp [Array.getD_eq_getD_getElem?,Array.getElem?_eq_none h] at hx
   ·obtain ⟨h1,h2,o,ho,h3⟩:=mem_ready.1 hi
    have hnl:listed.getD i false≠true:=by
     intro hx
     rcases Nat.lt_or_ge i listed.size with h | h
     ·simp [Array.getD_eq_getD_getElem?,h] at h2 hx;rw [h2] at hx;cases hx
     ·simp [Array.getD_eq_getD_getElem?,Array.getElem?_eq_none h] at hx
    have his:i < listed.size:=by
     rcases Nat.lt_or_ge i listed.size with h | h
     ·exact h
     ·simp [Array.getD_eq_getD_getElem?,Array.getElem?_eq_none h] at h2
    have gset:∀ j (d:Bool),(listed.setIfInBounds i true).getD j d = if i = j then true else listed.getD j d:=by
     intro j d
     simp only [Array.getD_eq_getD_getElem?,Array.getElem?_setIfInBounds]
     by_cases e:i = j
     ·subst e;simp [his]
     ·simp [e]
    by_cases him:i = m
    ·subst him
     rw [hol] at ho;cases ho
     obtain ⟨⟨u,x,htu⟩,hf⟩:=fin a w ol hol hEw hs hd (fun j hj hje=>hI j hj (h3 j (hpl j hj hje))) (fun t htt=>ht t (fun j oj hj _ hoj=>by
      have:=List.all_eq_true.1 htt oj (by rw [Array.mem_toList_iff];exact Array.mem_of_getElem? hoj)
      simpa using this))
     unfold wpOp
     rw [hol]
     show if Region.wanted ol (yielded ops a.tmps) = true then _ else _
     rw [if_pos (by simp [Region.wanted,hguard])]
     have toT:∀ j,listed.getD j false = true→listed.getD j true = true:=fun j hjl=>by
      rcases Nat.lt_or_ge j listed.size with h | h
      ·simp [Array.getD_eq_getD_getElem?,h] at hjl ⊢;exact hjl
      ·simp [Array.getD_eq_getD_getElem?,Array.getElem?_eq_none h] at hjl
     refine .inl (Oper.wp_mono (fun a' w' hq=>?_) hf)
     obtain ⟨rfl,hq⟩:=hq
     cases hle:listed.getD e true with
     | true =>
      refine wpAny_done _ (fun j hj=>?_) (hq a' hs hd (fun _ _=>rfl))
      rw [gset]
      by_cases e2:i = j
      ·rw [if_pos e2]
      ·rw [if_neg e2]
       by_cases e3:j = e
       ·subst e3;exact hle
       ·exact toT j (h3 j (hpl j (by omega) e3))
     | false =>
      obtain ⟨v,hv⟩:=hrun a' u x w' htu
      refine wpAny_one _ hoe (fun j hj hje=>?_) (by rw [gset,if_neg (by omega)];exact hle) (fun k hk=>?_) (by have:=unl_set (n:=ops.size) h1 h2;omega) hge ?_
      ·rw [gset]
       by_cases e2:i = j
       ·rw [if_pos e2]
       ·rw [if_neg e2];exact toT j (h3 j (hpl j (by omega) hje))
      ·have hbk:=List.all_eq_true.1 hback e (List.mem_range.2 (by omega))
       rw [hoe] at hbk
       have hke:=of_decide_eq_true (List.all_eq_true.1 hbk k hk)
       rw [gset,if_neg (by omega)]
       exact h3 k (hpl k (by omega) (by omega))
      ·refine wp_val v hv ?_
       refine hq _ ((put_size _ _ _).trans hs) ((put_defers _ _ _).trans hd) (fun t' ht'=>?_)
       rw [hde,put_sl _ _ _ _ (fun h=>ht' (by injection h with h;exact h.symm))]
    ·have him':i < m:=by omega
     have hst:=stepAt i o him' ho
     have hst':=hst a w ⟨hEw.os,hEw.tape,hEw.output,hEw.size,hEw.block⟩ hs (fun k hk=>hI k (by
       have hbk:=List.all_eq_true.1 hback i (List.mem_range.2 h1)
       rw [ho] at hbk
       have:=of_decide_eq_true (List.all_eq_true.1 hbk k hk);omega) (h3 k hk)) (fun t hti=>by
      refine ht t (fun j oj hj hlj hoj hdj=>?_)
      have:=List.all_eq_true.1 hti j (List.mem_range.2 (by omega))
      rw [hoj] at this
      by_cases e:j = i
      ·subst e;exact hnl hlj
      ·simp [e,hdj] at this
       exact hnl (hcl j oj hlj hoj i this))
     have next:∀ (v:Value) (w':World),Below w.heap.size w w'→InvS ops sh i (sl (a.put o.dst v)) w'→wpAny P .any ops Q fuel (listed.setIfInBounds i true) (a.put o.dst v) w':=by
      intro v w' hR hIi
      refine ih _ _ _ (by have:=unl_set (n:=ops.size) h1 h2;omega) (by rw [gset,if_neg him];exact hlm) (hEw.trans (hR.mono hEw.size)) ((put_size _ _ _).trans hs) ((put_defers _ _ _).trans hd) ?_ ?_ ?_ ?_
      ·intro j oj hj hoj k hk
       rw [gset] at hj ⊢
       by_cases e:i = k
       ·rw [if_pos e]
       ·rw [if_neg e]
        by_cases e':i = j
        ·subst e';rw [ho] at hoj;cases hoj;exact h3 k hk
        ·rw [if_neg e'] at hj;exact hcl j oj hj hoj k hk
      ·intro j hj hl
       rw [gset] at hl ⊢
       by_cases e:i = j
       ·rw [if_pos e]
       ·rw [if_neg e] at hl ⊢;exact hlt j hj hl
      ·intro j hj hl
       rw [gset] at hl
       by_cases e:i = j
       ·subst e;exact hIi
       ·rw [if_neg e] at hl
        have hoj:ops[j]? = some ops[j]:=Array.getElem?_eq_getElem (by omega)
        exact stable i j o _ (sl a) _ w w' e ho hoj (hI j hj hl) hR (fun t h=>put_sl _ _ _ _ h)
      ·intro t htt
       have hdt:o.dst≠some t:=htt i o him' (by rw [gset,if_pos rfl]) ho
       rw [put_sl _ _ _ _ hdt]
       exact ht t (fun j oj hj hl hoj=>htt j oj hj (by rw [gset];split <;> simp [hl]) hoj)
     unfold wpOp
     rw [ho]
     show if Region.wanted o (yielded ops a.tmps) = true then _ else _
     split
     ·rename_i hw
      rw [if_pos hw] at hst'
      exact .inl (Oper.wp_mono (fun a' w' ⟨v,e,hR,hIi⟩=>by rw [e] at hIi ⊢;exact next v w' hR hIi) hst')
     ·rename_i hw
      rw [if_neg hw] at hst'
      exact next undef w hst'.1 hst'.2
 refine main ops.size _ a0 w0.drew ?_ ?_ ⟨rfl,rfl,rfl,Nat.le_refl _,fun _ _=>rfl⟩ rfl rfl ?_ ?_ ?_ ?_
 ·unfold unl;exact Nat.le_trans List.countP_le_length (by simp)
 ·simp [Array.getD_eq_getD_getElem?,Array.getElem?_replicate,hm']
 ·intro j o hj;simp [Array.getD_eq_getD_getElem?,Array.getElem?_replicate] at hj
  split at hj <;> simp at hj
 ·intro j hj hl;simp [Array.getD_eq_getD_getElem?,Array.getElem?_replicate,hj] at hl
 ·intro j hj hl;simp [Array.getD_eq_getD_getElem?,Array.getElem?_replicate,show j < ops.size by omega] at hl
 ·intro t _;rfl
theorem grownBy_setCell' (w:World) (g o:Nat) (v:Value):w.grownBy (w.setCell ⟨g,o,none⟩ v) (some g) :=
 ⟨rfl,rfl,rfl,by simp,fun b hb hne=>Below.heap_setCell _ _ _ _ (fun e=>hne (by rw [e]))⟩
theorem Sl.set {α:Type} {enc:α→Value} {w:World} {p:Option Addr} {n c g o:Nat} {v:Value} {xs:List α} (h:Sl enc w p n c xs) (hne:∀ a,p = some a→a.block≠g):Sl enc (w.setCell ⟨g,o,none⟩ v) p n c xs :=
 h.grown (grownBy_setCell' w g o v) (fun a ha e=>hne a ha (by injection e))
theorem run_extract1 {P:Program} {a:Act} {u x:Value} {w:World} {t:Nat} (oe:Oper) (hop:oe.op = .extract (.tmp t) 1) (h:sl a t = .tuple #[u,x]):∃ v,(execOp a.eval oe).run P w = .ok (.value v) w :=
 ⟨x,by unfold execOp;rw [hop];simp only [eval_tmp,h];rfl⟩
end Go.By
namespace Go.Proofs.YtccaiiigdfieoaaGreatDoor
open Go.RowKit Go.By
theorem info_vrow:(Tryz.prog.info? 99).map (fun i=>(i.zero,i.size,i.bytes)) = some (some (.agg #[.slice none 0 0,.slice none 0 0]),2,48):=by kernel_rfl
theorem restF_snoc (K:List Rw) (k x:Rw):restF (K ++ [k]) x = lessF (restF K x) (atS (restF K x).1 (leadS k.1)) k:=by unfold restF;rw [List.foldl_append];rfl
theorem restF_take {K:List Rw} {j:Nat} {k x:Rw} (h:K[j]? = some k):restF (K.take (j + 1)) x = lessF (restF (K.take j) x) (atS (restF (K.take j) x).1 (leadS k.1)) k:=by
 have e:K.take (j + 1) = K.take j ++ [k]:=by
  rw [List.take_add_one,h];rfl
 rw [e,restF_snoc]
theorem lessS_fit {n t:Nat} {x k:Rw} {c:UInt8} (hx:Fit n t x) (hk:Fit n t k):lessS x c k = (lessF x c k,0):=by
 unfold lessS lessF
 rw [if_pos ⟨by rw [hx.1,hk.1],by rw [hx.2,hk.2]⟩]
end Go.Proofs.YtccaiiigdfieoaaGreatDoor
namespace Go.By
open Go.RowKit
structure RwS (w:World) (p:Option Addr) (n c:Nat) (K:List (List UInt8 × List UInt8)):Prop where
 len:K.length = n
 le:n≤c
 max:c≤maxLen
 nil:p = none→n = 0∧c = 0
 row:∀ (j:Nat) (k:List UInt8 × List UInt8),K[j]? = some k→∃ b o q1 m1 c1 q2 m2 c2,p = some ⟨b,o,none⟩∧w.cell? ⟨b,o + j * 2,none⟩ = some (.slice q1 m1 c1)∧w.cell? ⟨b,o + j * 2 + 1,none⟩ = some (.slice q2 m2 c2)∧Sl B8 w q1 m1 c1 k.1∧Sl B8 w q2 m2 c2 k.2
theorem RwS.keep {w w':World} {p:Option Addr} {n c:Nat} {K:List (List UInt8 × List UInt8)} (h:RwS w p n c K) (hb:Below w.heap.size w w'):RwS w' p n c K :=
 ⟨h.len,h.le,h.max,h.nil,fun j k hj=>by
  obtain ⟨b,o,q1,m1,c1,q2,m2,c2,e,h1,h2,h3,h4⟩:=h.row j k hj
  exact ⟨b,o,q1,m1,c1,q2,m2,c2,e,(hb.cell (p:=⟨b,o + j * 2,none⟩) (lt_of_cell h1)).trans h1,(hb.cell (p:=⟨b,o + j * 2 + 1,none⟩) (lt_of_cell h2)).trans h2,h3.keep hb,h4.keep hb⟩⟩
theorem RwS.nil0 (w:World):RwS w none 0 0 []:=⟨rfl,Nat.le_refl _,by simp [maxLen],fun _=>⟨rfl,rfl⟩,fun j k h=>by simp at h⟩
theorem Sl.set2 {α:Type} {enc:α→Value} {w:World} {p:Option Addr} {n c g o:Nat} {v:Value} {xs:List α} (h:Sl enc w p n c xs) (hne:0 < n→∀ a,p = some a→a.block≠g):Sl enc (w.setCell ⟨g,o,none⟩ v) p n c xs:=by
 rcases Nat.eq_zero_or_pos n with h0 | h0
 ·have hx:xs = []:=List.length_eq_zero_iff.1 (by rw [h.len,h0])
  subst hx
  exact ⟨h.len,h.le,h.max,h.nil,Rs.nil⟩
 ·exact h.set (hne h0)
end Go.By
namespace Go.Proofs.YtccaiiigdfieoaaGreatDoor
open Go.RowKit Go.By
end Go.Proofs.YtccaiiigdfieoaaGreatDoor
namespace Go.By
open Go.RowKit
def RwP (w:World) (u:Value × Value) (k:List UInt8 × List UInt8):Prop:=∃ q1 m1 c1 q2 m2 c2,u = (.slice q1 m1 c1,.slice q2 m2 c2)∧Sl B8 w q1 m1 c1 k.1∧Sl B8 w q2 m2 c2 k.2
theorem RwP.keep {w w':World} {u:Value × Value} {k:List UInt8 × List UInt8} (h:RwP w u k) (hb:Below w.heap.size w w'):RwP w' u k:=by
 obtain ⟨q1,m1,c1,q2,m2,c2,e,h1,h2⟩:=h;exact ⟨q1,m1,c1,q2,m2,c2,e,h1.keep hb,h2.keep hb⟩
structure RwV (w:World) (p:Option Addr) (n c:Nat) (vs:List (Value × Value)):Prop where
 len:vs.length = n
 le:n≤c
 max:c≤maxLen
 nil:p = none→n = 0∧c = 0
 cell:∀ (j:Nat) (u:Value),(fl2 vs)[j]? = some u→∃ b o,p = some ⟨b,o,none⟩∧w.cell? ⟨b,o + j,none⟩ = some u
 one:∀ u,u ∈ fl2 vs→u.oneCell' = true
theorem RwS.vals {w:World} {p:Option Addr} {n c:Nat} {K:List (List UInt8 × List UInt8)} (h:RwS w p n c K):∃ vs,RwV w p n c vs∧∀ (j:Nat) (u:Value × Value),vs[j]? = some u→∃ k,K[j]? = some k∧RwP w u k:=by
 have each:∀ j,j < n→∃ (u:Value × Value),∃ b o,p = some ⟨b,o,none⟩∧w.cell? ⟨b,o + j * 2,none⟩ = some u.1∧w.cell? ⟨b,o + j * 2 + 1,none⟩ = some u.2∧(∃ k,K[j]? = some k∧RwP w u k)∧u.1.oneCell' = true∧u.2.oneCell' = true:=by
  intro j hj
  obtain ⟨k,hk⟩:∃ k,K[j]? = some k:=⟨_,List.getElem?_eq_getElem (by rw [h.len];exact hj)⟩
  obtain ⟨b,o,q1,m1,c1,q2,m2,c2,e,h1,h2,h3,h4⟩:=h.row j k hk
  exact ⟨(.slice q1 m1 c1,.slice q2 m2 c2),b,o,e,h1,h2,⟨k,hk,q1,m1,c1,q2,m2,c2,rfl,h3,h4⟩,rfl,rfl⟩
 obtain ⟨f,hf⟩:∃ f:Nat→Value × Value,∀ j,j < n→∃ b o,p = some ⟨b,o,none⟩∧w.cell? ⟨b,o + j * 2,none⟩ = some (f j).1∧w.cell? ⟨b,o + j * 2 + 1,none⟩ = some (f j).2∧(∃ k,K[j]? = some k∧RwP w (f j) k)∧(f j).1.oneCell' = true∧(f j).2.oneCell' = true :=
  ⟨fun j=>if hj:j < n then Classical.choose (each j hj) else (undef,undef),fun j hj=>by simp only [dif_pos hj];exact Classical.choose_spec (each j hj)⟩
 have hat:∀ (j:Nat) (u:Value × Value),((List.range n).map f)[j]? = some u→j < n∧u = f j:=by
  intro j u hj
  have hj':=(List.getElem?_eq_some_iff.1 hj).1
  simp at hj'
  rw [List.getElem?_map,List.getElem?_range hj'] at hj
  exact ⟨hj',by simpa using hj.symm⟩
 refine ⟨(List.range n).map f,⟨by simp,h.le,h.max,h.nil,?_,?_⟩,?_⟩
 ·intro i u hi
  have hlen:=(List.getElem?_eq_some_iff.1 hi).1
  rw [fl2_length] at hlen
  have hj:i / 2 < n:=by simp at hlen;omega
  obtain ⟨b,o,e,h1,h2,_⟩:=hf (i / 2) hj
  have hv:((List.range n).map f)[i / 2]? = some (f (i / 2)):=by rw [List.getElem?_map,List.getElem?_range hj];rfl
  obtain ⟨g1,g2⟩:=fl2_at hv
  refine ⟨b,o,e,?_⟩
  rcases Nat.mod_two_eq_zero_or_one i with hm | hm
  ·have:i / 2 * 2 = i:=by omega
   rw [this] at g1 h1
   rw [g1] at hi;rw [h1,← hi]
  ·have:i / 2 * 2 + 1 = i:=by omega
   rw [this] at g2
   rw [g2] at hi
   rw [show o + i = o + i / 2 * 2 + 1 by omega,h2,← hi]
 ·intro u hu
  obtain ⟨i,hi,rfl⟩:=List.getElem_of_mem hu
  rw [fl2_length] at hi
  have hj:i / 2 < n:=by simp at hi;omega
  obtain ⟨b,o,e,_,_,_,o1,o2⟩:=hf (i / 2) hj
  have hv:((List.range n).map f)[i / 2]? = some (f (i / 2)):=by rw [List.getElem?_map,List.getElem?_range hj];rfl
  obtain ⟨g1,g2⟩:=fl2_at hv
  rcases Nat.mod_two_eq_zero_or_one i with hm | hm
  ·have:i / 2 * 2 = i:=by omega
   rw [this] at g1
   have:(fl2 ((List.range n).map f))[i] = (f (i / 2)).1:=by
    rw [List.getElem?_eq_getElem (by rw [fl2_length];exact hi)] at g1;injection g1
   rw [this];exact o1
  ·have:i / 2 * 2 + 1 = i:=by omega
   rw [this] at g2
   have:(fl2 ((List.range n).map f))[i] = (f (i / 2)).2:=by
    rw [List.getElem?_eq_getElem (by rw [fl2_length];exact hi)] at g2;injection g2
   rw [this];exact o2
 ·intro j u hj
  obtain ⟨hjn,rfl⟩:=hat j u hj
  obtain ⟨b,o,_,_,_,hk,_⟩:=hf j hjn
  exact hk
theorem RwV.keep {w w':World} {p:Option Addr} {n c:Nat} {vs:List (Value × Value)} (h:RwV w p n c vs) (hb:Below w.heap.size w w'):RwV w' p n c vs :=
 ⟨h.len,h.le,h.max,h.nil,fun j u hj=>by
  obtain ⟨b,o,e,h1⟩:=h.cell j u hj
  exact ⟨b,o,e,(hb.cell (p:=⟨b,o + j,none⟩) (lt_of_cell h1)).trans h1⟩,h.one⟩
end Go.By
namespace Go.By
open Go.RowKit
theorem fl2_take (vs:List (Value × Value)):∀ k,fl2 (vs.take k) = (fl2 vs).take (k * 2):=by
 induction vs with
 | nil=>intro k;simp [fl2]
 | cons v vs ih =>
  intro k
  cases k with
  | zero=>simp [fl2]
  | succ k =>
   rw [List.take_succ_cons,show (k + 1) * 2 = k * 2 + 2 by omega]
   show v.1 :: v.2 :: fl2 (vs.take k) = (v.1 :: v.2 :: fl2 vs).take (k * 2 + 2)
   rw [List.take_succ_cons,List.take_succ_cons,ih k]
theorem fl2_drop (vs:List (Value × Value)):∀ k,fl2 (vs.drop k) = (fl2 vs).drop (k * 2):=by
 induction vs with
 | nil=>intro k;simp [fl2]
 | cons v vs ih =>
  intro k
  cases k with
  | zero=>simp [fl2]
  | succ k =>
   rw [List.drop_succ_cons,show (k + 1) * 2 = k * 2 + 2 by omega]
   show fl2 (vs.drop k) = (v.1 :: v.2 :: fl2 vs).drop (k * 2 + 2)
   rw [List.drop_succ_cons,List.drop_succ_cons,ih k]
section
variable {w:World} {p:Option Addr} {n c j:Nat} {vs:List (Value × Value)}
theorem RwV.take (h:RwV w p n c vs) (hj:j≤n):RwV w p j c (vs.take j):=by
 refine ⟨by rw [List.length_take,h.len];omega,by have:=h.le;omega,h.max,fun e=>by have:=h.nil e;omega,fun i u hi=>?_,fun u hu=>?_⟩
 ·rw [fl2_take,List.getElem?_take] at hi
  split at hi
  ·exact h.cell i u hi
  ·cases hi
 ·rw [fl2_take] at hu;exact h.one u (List.mem_of_mem_take hu)
theorem RwV.drop {b o:Nat} (h:RwV w (some ⟨b,o,none⟩) n c vs) (hj:j≤n):RwV w (some ⟨b,o + j * 2,none⟩) (n - j) (c - j) (vs.drop j):=by
 refine ⟨by rw [List.length_drop,h.len],by have:=h.le;omega,by have:=h.max;omega,fun e=>(by cases e),fun i u hi=>?_,fun u hu=>?_⟩
 ·rw [fl2_drop,List.getElem?_drop] at hi
  obtain ⟨b',o',e,hc⟩:=h.cell (j * 2 + i) u hi
  cases e
  exact ⟨b,o + j * 2,rfl,by rw [show o + j * 2 + i = o + (j * 2 + i) by omega];exact hc⟩
 ·rw [fl2_drop] at hu;exact h.one u (List.mem_of_mem_drop hu)
theorem RwV.none (hp:p = none→c = 0) (hm:c≤maxLen):RwV w p 0 c []:=⟨rfl,Nat.zero_le _,hm,fun e=>⟨rfl,hp e⟩,fun i u h=>by simp [fl2] at h,fun u h=>by simp [fl2] at h⟩
theorem Sl.away {g T:Nat} {fr:Nat × Nat} {p1 p2 q:Option Addr} {n1 c1 n2 c2 m k:Nat} {xs:List UInt8} (h:Sl B8 w q m k xs) (hg:w.heap[g]? = some (.cells #[.slice p1 n1 c1,.slice p2 n2 c2] T fr)) (h0:0 < m):∀ a,q = some a→a.block≠g:=by
 intro a ha e
 obtain ⟨b,o,hp,hc⟩:=h.rs 0 (by rw [h.len];exact h0)
 rw [hp] at ha;cases ha
 have e':b = g:=e
 subst e'
 rw [cell_of_row _ _ _ _ _ _ hg] at hc
 rcases ho:o + 0 with _ | _ | x
 ·rw [ho] at hc;simp at hc
 ·rw [ho] at hc;simp at hc
 ·rw [ho] at hc;simp at hc
theorem RwS.of_owns {base T n c:Nat} {q:Option Addr} {vs:List (Value × Value)} {K:List (List UInt8 × List UInt8)} (h:w.ownsRow base T 2 (.slice q n c) n (fl2 vs)) (hl:K.length = n) (hv:∀ (j:Nat) (k:List UInt8 × List UInt8),K[j]? = some k→∃ u,vs[j]? = some u∧RwP w u k):RwS w q n c K:=by
 rcases h.2 with ⟨h1,h2⟩ | ⟨g,cap,cur,h1,_,_,h3,h4,_⟩
 ·cases h1
  have:K = []:=List.length_eq_zero_iff.1 (by omega)
  subst this
  exact ⟨hl,Nat.le_of_eq h2,by simp [maxLen],fun _=>⟨h2,rfl⟩,fun j k hk=>by simp at hk⟩
 ·cases h1
  refine ⟨hl,h3,h4,fun e=>(by cases e),fun j k hk=>?_⟩
  obtain ⟨u,hu,q1,m1,c1,q2,m2,c2,rfl,s1,s2⟩:=hv j k hk
  have hj:=(List.getElem?_eq_some_iff.1 hk).1
  obtain ⟨g1,g2⟩:=fl2_at hu
  refine ⟨g,0,q1,m1,c1,q2,m2,c2,rfl,?_,?_,s1,s2⟩
  ·rw [Nat.zero_add,h.cellAt _ (by omega),g1]
  ·rw [Nat.zero_add,h.cellAt _ (by omega),g2]
end
end Go.By
namespace Go.Proofs.YtccaiiigdfieoaaGreatDoor
open Go.RowKit Go.By
end Go.Proofs.YtccaiiigdfieoaaGreatDoor
namespace Go.By
open Go.RowKit
end Go.By
namespace Go.Proofs.YtccaiiigdfieoaaGreatDoor
open Go.RowKit Go.By
end Go.Proofs.YtccaiiigdfieoaaGreatDoor
namespace Go.Proofs.YtccaiiigdfieoaaGreatDoor
open Go.RowKit Go.By
end Go.Proofs.YtccaiiigdfieoaaGreatDoor
namespace Gf
def skip (i k:Nat):Nat:=if k < i then k else k + 1
end Gf
namespace Go.Proofs.YtccaiiigdfieoaaGreatDoor
open Go.By Gf
def updF (F:Nat→Rw) (i:Nat) (r:Rw):Nat→Rw:=fun k=>if k = i then r else F k
theorem updF_same (F:Nat→Rw) (i:Nat) (r:Rw):updF F i r i = r:=by simp [updF]
theorem updF_ne (F:Nat→Rw) {i k:Nat} (r:Rw) (h:k≠i):updF F i r k = F k:=by simp [updF,h]
end Go.Proofs.YtccaiiigdfieoaaGreatDoor
namespace Go.Proofs.YtccaiiigdfieoaaGreatDoor
open Go.RowKit Go.By
set_option maxHeartbeats 400000 in
theorem IndexRow_any (f:Rw→Bool) (g:Nat) (lb:Array Value) (eg:Enters Tryz.prog g) (p:Option Addr) (n c:Nat) (K:List Rw) (w:World) (h:RwS w p n c K)
  (hf:∀ (W:World) (q1 q2:Option Addr) (m1 c1 m2 c2:Nat) (x:Rw),Below w.heap.size w W→Sl B8 W q1 m1 c1 x.1→Calls Tryz.prog g (#[.agg #[.slice q1 m1 c1,.slice q2 m2 c2]] ++ lb) W fun e w'=>e = .returned (.bool (f x))∧Below W.heap.size W w') :
  Calls Tryz.prog 166 #[.slice p n c,.func (.func g) #[] lb] w fun e w'=>e = .returned (.int .i64 (idxf f K))∧Below w.heap.size w w':=by
 have hn:=Nat.le_trans h.le h.max
 unfold maxLen at hn
 have H:=Lib.hid h;clear h
 have HF:=Lib.hid hf;clear hf
 have eg':∀ args w,(callFunc g args).run Tryz.prog w = .ok (.enter g args) w:=eg
 clear eg
 go_enter Tryz.func166,Tryz.ntmps166
 go_wp2
 go_loopw [8] (fun i wr=>∃ k:Nat,k≤n∧i = .int .i64 k∧Hid (∀ j y,j < k→K[j]? = some y→f y = false)∧Hid (Below w.heap.size w wr)) (fun i _=>n - (intOf i).toNat)
 case atStart=>exact ⟨0,Nat.zero_le _,rfl,fun j y hj=>by omega,Below.refl _ _⟩
 case round =>
  obtain ⟨k,hk,rfl,hr,hB⟩:=hrel
  by_cases hlt:k < n
  ·obtain ⟨x,hx⟩:∃ x,K[k]? = some x:=⟨_,List.getElem?_eq_getElem (by rw [H.out.len];exact hlt)⟩
   obtain ⟨b,o,q1,m1,c1,q2,m2,c2,rfl,h1,h2,h3,-⟩:=H.out.row k x hx
   have d1:=(hB.out.cell (p:=⟨b,o + k * 2,none⟩) (lt_of_cell h1)).trans h1
   have d2:=(hB.out.cell (p:=⟨b,o + k * 2 + 1,none⟩) (lt_of_cell h2)).trans h2
   have HX:=Lib.hid hx
   have HS:Hid (Sl B8 wr q1 m1 c1 x.1):=h3.keep hB.out
   have kn:(k:Int) < (n:Int):=by omega
   clear h1 h2 h3 hx
   cases hfx:f x with
   | false =>
    have HQ:=Lib.hid hfx;clear hfx
    go_wp2_with fail
    refine (HF.out wr q1 q2 m1 c1 m2 c2 x hB.out HS.out).mono ?_;rintro e w2 ⟨rfl,hb2⟩
    have B2:Hid (Below w.heap.size w w2):=bl hB.out hb2 hB.out.size
    rw [HQ.out]
    clear hb2 d1 d2 hB HS
    go_wp2
    go_roundw
    case rel =>
     refine ⟨k + 1,by omega,by go_num,fun j y hj hy=>?_,B2.out⟩
     by_cases e:j = k
     ·subst e;have:=HX.out.symm.trans hy;cases this;exact HQ.out
     ·exact hr.out j y (by omega) hy
    case measure=>simp [intOf];omega
   | true =>
    have HQ:=Lib.hid hfx;clear hfx
    go_wp2_with fail
    refine (HF.out wr q1 q2 m1 c1 m2 c2 x hB.out HS.out).mono ?_;rintro e w2 ⟨rfl,hb2⟩
    have B2:Hid (Below w.heap.size w w2):=bl hB.out hb2 hB.out.size
    rw [HQ.out]
    clear hb2 d1 d2 hB HS
    go_wp2
    go_ret
    exact ⟨by rw [idxf_found HX.out HQ.out hr.out];rfl,B2.out⟩
  ·go_wp2
   go_ret
   exact ⟨by rw [idxf_none (k:=k) (by have:=H.out.len;omega) hr.out];rfl,hB.out⟩
end Go.Proofs.YtccaiiigdfieoaaGreatDoor
namespace Go.Proofs.YtccaiiigdfieoaaGreatDoor
open Go.RowKit Go.By
end Go.Proofs.YtccaiiigdfieoaaGreatDoor
namespace Go.Proofs.YtccaiiigdfieoaaGreatDoor
open Go.By Gf
def vR (r:Rw):V:=vf (cat r)
structure Red (n t:Nat) (K:List Rw):Prop where
 kept:KeptS n t K
 red:K.Pairwise (fun a b=>vR a (leadN b) = 0)
theorem Red.nil (n t:Nat):Red n t []:=⟨KeptS.nil n t,List.Pairwise.nil⟩
theorem KeptS.tail {n t:Nat} {k:Rw} {K:List Rw} (h:KeptS n t (k :: K)):KeptS n t K:=⟨fun a ha=>h.rows a (by simp [ha]),(List.pairwise_cons.1 h.sorted).2⟩
theorem Red.tail {n t:Nat} {k:Rw} {K:List Rw} (h:Red n t (k :: K)):Red n t K:=⟨h.kept.tail,(List.pairwise_cons.1 h.red).2⟩
theorem vR_lead {n t:Nat} {r:Rw} (hf:Fit n t r) (hl:Led r):vR r (leadN r) = 1:=vf_lead hl.at hf
theorem coords_red {n t:Nat}:∀ {K:List Rw} {v:V},Red n t K→Sp (K.map vR) v→v = comb (K.map fun k=>v (leadN k)) (K.map vR)
 | [],v,_,⟨c,hc,e⟩=>by rw [e];funext j;rw [List.map_nil,comb_nil,List.map_nil,comb_nil]
 | k :: K,v,h,⟨c,hc,e⟩=>by
  cases c with
  | nil=>simp at hc
  | cons x c =>
   obtain ⟨hf,hl⟩:=h.kept.rows k (by simp)
   have hs:=(List.pairwise_cons.1 h.kept.sorted).1
   have hr:=(List.pairwise_cons.1 h.red).1
   have hu:Sp (K.map vR) (comb c (K.map vR)):=⟨c,by simpa using hc,rfl⟩
   have hv:∀ j,v j = gmul x (vR k j) ^^^ comb c (K.map vR) j:=fun j=>by rw [e,List.map_cons,comb_cons]
   have h0:comb c (K.map vR) (leadN k) = 0:=hu.at_zero fun a ha=>by
    obtain ⟨b,hb,rfl⟩:=List.mem_map.1 ha
    exact vf_before (h.kept.rows b (by simp [hb])).1 (h.kept.rows b (by simp [hb])).2 (hs b hb)
   have hx:v (leadN k) = x:=by rw [hv,vR_lead hf hl,gmul_one,h0,xor_zero]
   have hc2:(K.map fun b=>v (leadN b)) = K.map fun b=>comb c (K.map vR) (leadN b):=List.map_congr_left fun b hb=>by
    rw [hv,hr b hb,gmul_zero,zero_xor]
   have ih:=coords_red h.tail hu
   funext j
   rw [List.map_cons,List.map_cons,comb_cons,hx,hc2,← ih,hv]
theorem comb_map_zero {α:Type} (f:α→UInt8) (g:α→V) (j:Nat):∀ (K:List α),(∀ k,k ∈ K→gmul (f k) (g k j) = 0)→comb (K.map f) (K.map g) j = 0
 | [],_=>by rw [List.map_nil,comb_nil']
 | k :: K,h=>by rw [List.map_cons,List.map_cons,comb_cons,h k (by simp),comb_map_zero f g j K (fun a ha=>h a (by simp [ha])),xor_self]
theorem lead_red {n t l:Nat} {K:List Rw} {v:V} (h:Red n t K) (hv:Sp (K.map vR) v) (h0:∀ j,j < l→v j = 0) (h1:v l≠0):∃ k,k ∈ K∧leadN k = l:=by
 apply Classical.byContradiction
 intro hn
 refine h1 ?_
 rw [coords_red h hv]
 refine comb_map_zero _ _ _ K fun k hk=>?_
 rcases Nat.lt_trichotomy (leadN k) l with g | g | g
 ·rw [h0 _ g,zero_gmul]
 ·exact absurd ⟨k,hk,g⟩ hn
 ·rw [show vR k l = 0 from vf_before (h.kept.rows k hk).1 (h.kept.rows k hk).2 g,gmul_zero]
theorem sorted_ext:∀ {l m:List Nat},l.Pairwise (· < ·)→m.Pairwise (· < ·)→(∀ x,x ∈ l↔x ∈ m)→l = m
 | [],m,_,_,h=>by
  cases m with
  | nil=>rfl
  | cons b m=>exact absurd ((h b).2 (by simp)) (by simp)
 | a :: l,[],_,_,h=>absurd ((h a).1 (by simp)) (by simp)
 | a :: l,b :: m,h1,h2,h=>by
  obtain ⟨g1,g2⟩:=List.pairwise_cons.1 h1
  obtain ⟨k1,k2⟩:=List.pairwise_cons.1 h2
  have e:a = b:=by
   rcases List.mem_cons.1 ((h a).1 (by simp)) with e | e
   ·exact e
   ·rcases List.mem_cons.1 ((h b).2 (by simp)) with e' | e'
    ·exact e'.symm
    ·exact absurd (g1 b e') (by have:=k1 a e;omega)
  subst e
  rw [sorted_ext g2 k2 fun x=>⟨fun hx=>by
   rcases List.mem_cons.1 ((h x).1 (by simp [hx])) with e | e
   ·subst e;exact absurd (g1 x hx) (Nat.lt_irrefl x)
   ·exact e,fun hx=>by
   rcases List.mem_cons.1 ((h x).2 (by simp [hx])) with e | e
   ·subst e;exact absurd (k1 x hx) (Nat.lt_irrefl x)
   ·exact e⟩]
theorem Red.leads {n t:Nat} {K:List Rw} (h:Red n t K):(K.map leadN).Pairwise (· < ·):=List.pairwise_map.2 h.kept.sorted
theorem Red.delta {n t i j:Nat} {K:List Rw} {a b:Rw} (h:Red n t K) (ha:K[i]? = some a) (hb:K[j]? = some b):vR a (leadN b) = if i = j then 1 else 0:=by
 have ma:=h.kept.rows a (List.mem_of_getElem? ha)
 obtain ⟨hi,ea⟩:=List.getElem?_eq_some_iff.1 ha
 obtain ⟨hj,eb⟩:=List.getElem?_eq_some_iff.1 hb
 rcases Nat.lt_trichotomy i j with g | g | g
 ·rw [if_neg (by omega)]
  have:=List.pairwise_iff_getElem.1 h.red i j hi hj g
  rwa [ea,eb] at this
 ·subst g;rw [ha] at hb;cases hb
  rw [if_pos rfl];exact vR_lead ma.1 ma.2
 ·rw [if_neg (by omega)]
  have:=List.pairwise_iff_getElem.1 h.kept.sorted j i hj hi g
  rw [ea,eb] at this
  exact vf_before ma.1 ma.2 this
theorem Red.unique {n t:Nat} {K M:List Rw} (h:Red n t K) (g:Red n t M) (h1:∀ k,k ∈ K→Sp (M.map vR) (vR k)) (h2:∀ k,k ∈ M→Sp (K.map vR) (vR k)):K = M:=by
 have key:∀ {A B:List Rw},Red n t A→Red n t B→(∀ k,k ∈ A→Sp (B.map vR) (vR k))→∀ x,x ∈ A.map leadN→x ∈ B.map leadN:=by
  intro A B hA hB hs x hx
  obtain ⟨a,ha,rfl⟩:=List.mem_map.1 hx
  obtain ⟨hf,hl⟩:=hA.kept.rows a ha
  obtain ⟨b,hb,e⟩:=lead_red hB (hs a ha) (l:=leadN a) (fun j hj=>vf_before hf hl hj) (by rw [vR_lead hf hl];decide)
  exact List.mem_map.2 ⟨b,hb,e⟩
 have hl:K.map leadN = M.map leadN:=sorted_ext h.leads g.leads fun x=>⟨key h g h1 x,key g h h2 x⟩
 have hlen:K.length = M.length:=by have:=congrArg List.length hl;simpa using this
 have lead_at:∀ {i:Nat} {a b:Rw},K[i]? = some a→M[i]? = some b→leadN a = leadN b:=by
  intro i a b ha hb
  have:=congrArg (fun l=>l[i]?) hl
  simp only [List.getElem?_map,ha,hb,Option.map_some] at this
  injection this
 apply List.ext_getElem?
 intro i
 by_cases hi:i < K.length
 ·have ha:K[i]? = some K[i]:=List.getElem?_eq_getElem hi
  have hb:M[i]? = some (M[i]'(by omega)):=List.getElem?_eq_getElem (by omega)
  rw [ha,hb]
  congr 1
  obtain ⟨f1,-⟩:=h.kept.rows _ (List.mem_of_getElem? ha)
  obtain ⟨f2,-⟩:=g.kept.rows _ (List.mem_of_getElem? hb)
  have e1:=coords_red h (v:=vR K[i]) (Sp.mem (List.mem_map.2 ⟨_,List.mem_of_getElem? ha,rfl⟩))
  have e2:=coords_red h (h2 _ (List.mem_of_getElem? hb))
  have e3:(K.map fun k=>vR K[i] (leadN k)) = K.map fun k=>vR (M[i]'(by omega)) (leadN k):=by
   apply List.map_congr_left
   intro k hk
   obtain ⟨j,hj,rfl⟩:=List.getElem_of_mem hk
   have hkj:K[j]? = some K[j]:=List.getElem?_eq_getElem hj
   have hmj:M[j]? = some (M[j]'(by omega)):=List.getElem?_eq_getElem (by omega)
   rw [h.delta ha hkj,lead_at hkj hmj,g.delta hb hmj]
  have ev:vR K[i] = vR (M[i]'(by omega)):=by rw [e1,e2,e3]
  have hc:cat K[i] = cat (M[i]'(by omega)):=vf_inj (by rw [f1.cat,f2.cat]) fun j _=>by
   have:=congrFun ev j;exact this
  have l1:(K[i]).1.length = ((M[i]'(by omega)):Rw).1.length:=by rw [f1.1,f2.1]
  unfold cat at hc
  obtain ⟨p1,p2⟩:=List.append_inj hc l1
  exact Prod.ext p1 p2
 ·rw [List.getElem?_eq_none (by omega),List.getElem?_eq_none (by omega)]
end Go.Proofs.YtccaiiigdfieoaaGreatDoor
namespace Go.Proofs.YtccaiiigdfieoaaGreatDoor
open Go.By Gf
theorem leadAt_of {n t l:Nat} {r:Rw} (hf:Fit n t r) (hl:l < n) (h1:vR r l = 1) (h0:∀ j,j < l→vR r j = 0):LeadAt r l:=by
 have hv:∀ j,j < n→∀ y,r.1[j]? = some y→vR r j = y:=fun j hj y hy=>by
  show vf (cat r) j = y
  rw [vf_at hf hj,at_of hy]
 have hx:r.1[l]? = some (r.1[l]'(by rw [hf.1];exact hl)):=List.getElem?_eq_getElem (by rw [hf.1];exact hl)
 have e1:r.1[l]'(by rw [hf.1];exact hl) = 1:=by rw [← hv l hl _ hx];exact h1
 rw [e1] at hx
 have hz:∀ (j:Nat) (y:UInt8),j < l→r.1[j]? = some y→y = 0:=fun j y hj hy=>by rw [← hv j (by omega) y hy];exact h0 j hj
 exact ⟨idxf_found hx (by decide) fun j y hj hy=>by rw [hz j y hj hy];rfl,hx,hz⟩
theorem vR_less {n t:Nat} {x o:Rw} (c:UInt8) (hx:Fit n t x) (ho:Fit n t o):vR (lessF x c o) = fun j=>vR x j ^^^ gmul c (vR o j):=by
 unfold vR;rw [cat_less c hx ho,vf_axpy (by rw [ho.cat,hx.cat])]
theorem vR_at {n t l:Nat} {x:Rw} (hx:Fit n t x) (hl:l < n):atS x.1 (l:Int) = vR x l:=(vf_at hx hl).symm
theorem rest_norm {n t:Nat} {K:List Rw} {x:Rw} (h:KeptS n t K) (hx:Fit n t x) (hn:¬ leadS (restF K x).1 < 0) :
  ∃ l,LeadAt (normS (restF K x)) l∧Fit n t (normS (restF K x))∧(∀ k,k ∈ K→vR (normS (restF K x)) (leadN k) = 0)∧Sp (vR x :: K.map vR) (vR (normS (restF K x)))∧∃ d,Sp (K.map vR) (fun j=>vR x j ^^^ gmul d (vR (normS (restF K x)) j)):=by
 have hr:=hx.rest (fun k hk=>(h.rows k hk).1)
 have hred:=rest_red h.rows hx
 have hspan:=red_span (tri K) (vf (cat x))
 rw [tri_fst] at hspan
 obtain ⟨l,c,hc,hl,hL,hF,hv⟩:=norm_row hr hn
 refine ⟨l,hL,hF,fun k hk=>?_,?_,ginv c,?_⟩
 ·show vf (cat _) _ = 0
  rw [hv]
  show gmul c (vf (cat (restF K x)) (leadN k)) = 0
  rw [hred,red_at h.kept.tri (vf (cat k),leadN k) (List.mem_map.2 ⟨k,hk,rfl⟩),gmul_zero]
 ·show Sp _ (vf (cat _))
  rw [hv,hred]
  refine Sp.scale c ?_
  have e:red (tri K) (vf (cat x)) = fun j=>vf (cat x) j ^^^ (vf (cat x) j ^^^ red (tri K) (vf (cat x)) j):=by funext j;rw [← xor_assoc,xor_self,zero_xor]
  rw [e]
  exact Sp.add (Sp.mem (by simp [vR])) (hspan.cons _)
 ·have e:(fun j=>vR x j ^^^ gmul (ginv c) (vR (normS (restF K x)) j)) = fun j=>vf (cat x) j ^^^ red (tri K) (vf (cat x)) j:=by
   funext j
   show _ ^^^ gmul (ginv c) (vf (cat (normS (restF K x))) j) = _
   rw [hv,hred]
   show _ ^^^ gmul (ginv c) (gmul c _) = _
   rw [← gmul_assoc,ginv_gmul c hc,one_gmul];rfl
  rw [e];exact hspan
theorem ne_lead {n t l:Nat} {K:List Rw} {y:Rw} (hL:LeadAt y l) (hF:Fit n t y) (h0:∀ k,k ∈ K→vR y (leadN k) = 0):∀ k,k ∈ K→leadN k≠l:=fun k hk e=>by
 have h1:vR y l = 1:=vf_lead hL hF
 rw [← e,h0 k hk] at h1
 exact absurd h1 (by decide)
def putAt (M:List Rw) (y:Rw):List Rw:=M.takeWhile (fun r=>decide (leadS r.1≤leadS y.1)) ++ y :: M.dropWhile (fun r=>decide (leadS r.1≤leadS y.1))
theorem putAt_mem {M:List Rw} {y k:Rw}:k ∈ putAt M y↔k = y∨k ∈ M:=by
 unfold putAt
 rw [List.mem_append,List.mem_cons]
 conv=>rhs;rw [← List.takeWhile_append_dropWhile (p:=fun r:Rw=>decide (leadS r.1≤leadS y.1)) (l:=M),List.mem_append]
 constructor
 ·rintro (h | h | h)
  ·exact .inr (.inl h)
  ·exact .inl h
  ·exact .inr (.inr h)
 ·rintro (h | h | h)
  ·exact .inr (.inl h)
  ·exact .inl h
  ·exact .inr (.inr h)
theorem putAt_kept {n t l:Nat} {M:List Rw} {y:Rw} (h:KeptS n t M) (hL:LeadAt y l) (hF:Fit n t y) (hne:∀ k,k ∈ M→leadN k≠l):KeptS n t (putAt M y):=by
 refine ⟨fun k hk=>?_,?_⟩
 ·rcases putAt_mem.1 hk with rfl | hk
  ·exact ⟨hF,l,hL⟩
  ·exact h.rows k hk
 unfold putAt
 have hln:=leadN_of hL
 rw [hL.1]
 have hlead:∀ k,k ∈ M→leadS k.1 = (leadN k:Int):=fun k hk=>(h.rows k hk).2.at.1
 have hs:(M.takeWhile (fun r=>decide (leadS r.1≤(l:Int))) ++ M.dropWhile (fun r=>decide (leadS r.1≤(l:Int)))).Pairwise (fun a b=>leadN a < leadN b):=by
  rw [List.takeWhile_append_dropWhile];exact h.sorted
 have mT:∀ k,k ∈ M.takeWhile (fun r=>decide (leadS r.1≤(l:Int)))→leadN k < l:=by
  intro k hk
  have h1:=(List.takeWhile_sublist _).mem hk
  have:=mem_take hk
  rw [decide_eq_true_eq,hlead k h1] at this
  have:=hne k h1
  omega
 obtain ⟨h1,h2,h3⟩:=List.pairwise_append.1 hs
 have mD:∀ k,k ∈ M.dropWhile (fun r=>decide (leadS r.1≤(l:Int)))→l < leadN k:=by
  cases e:M.dropWhile (fun r=>decide (leadS r.1≤(l:Int))) with
  | nil=>intro k hk;simp at hk
  | cons a r =>
   have ha:a ∈ M:=(List.dropWhile_sublist _).mem (by rw [e];simp)
   have hd:=drop_head e
   rw [decide_eq_false_iff_not,hlead a ha] at hd
   have hla:l < leadN a:=by omega
   rw [e] at h2
   intro k hk
   rcases List.mem_cons.1 hk with rfl | hk
   ·exact hla
   ·exact Nat.lt_trans hla ((List.pairwise_cons.1 h2).1 k hk)
 refine List.pairwise_append.2 ⟨h1,List.pairwise_cons.2 ⟨fun k hk=>by rw [hln];exact mD k hk,h2⟩,?_⟩
 intro a ha b hb
 rcases List.mem_cons.1 hb with rfl | hb
 ·rw [hln];exact mT a ha
 ·exact h3 a ha b hb
def clrF (y r:Rw):Rw:=lessF r (atS r.1 (leadS y.1)) y
def putF (K:List Rw) (x:Rw):List Rw:=putAt (K.map (clrF (normS (restF K x)))) (normS (restF K x))
theorem clr_row {n t l:Nat} {y r:Rw} (hL:LeadAt y l) (hF:Fit n t y) (hr:Fit n t r) (hl:Led r) (h0:vR y (leadN r) = 0):Fit n t (clrF y r)∧LeadAt (clrF y r) (leadN r)∧vR (clrF y r) = (fun j=>vR r j ^^^ gmul (vR r l) (vR y j))∧vR (clrF y r) l = 0:=by
 have hln:=hL.lt hF
 have e:clrF y r = lessF r (vR r l) y:=by unfold clrF;rw [hL.1,vR_at hr hln]
 have hv:vR (clrF y r) = fun j=>vR r j ^^^ gmul (vR r l) (vR y j):=by rw [e,vR_less _ hr hF]
 have hf:Fit n t (clrF y r):=by rw [e];exact hr.less hF
 have y1:vR y l = 1:=vf_lead hL hF
 refine ⟨hf,leadAt_of hf (hl.at.lt hr) ?_ fun j hj=>?_,hv,?_⟩
 ·rw [hv];show _ ^^^ gmul _ (vR y (leadN r)) = 1
  rw [h0,gmul_zero,xor_zero];exact vR_lead hr hl
 ·rw [hv];show vR r j ^^^ gmul (vR r l) (vR y j) = 0
  rw [show vR r j = 0 from vf_before hr hl hj,zero_xor]
  rcases Nat.lt_or_ge l (leadN r) with g | g
  ·rw [show vR r l = 0 from vf_before hr hl g,zero_gmul]
  ·have hyL:Led y:=⟨l,hL⟩
   have:vR y j = 0:=vf_before hF hyL (by rw [leadN_of hL];omega)
   rw [this,gmul_zero]
 ·rw [hv];show vR r l ^^^ gmul (vR r l) (vR y l) = 0
  rw [y1,gmul_one,xor_self]
theorem putF_red {n t:Nat} {K:List Rw} {x:Rw} (h:Red n t K) (hx:Fit n t x) (hn:¬ leadS (restF K x).1 < 0) :
  Red n t (putF K x)∧(∀ k,k ∈ putF K x→Sp (vR x :: K.map vR) (vR k))∧(∀ k,k ∈ K→Sp ((putF K x).map vR) (vR k))∧Sp ((putF K x).map vR) (vR x)∧(putF K x).length = K.length + 1:=by
 obtain ⟨l,hL,hF,h0,hsp,d,hd⟩:=rest_norm h.kept hx hn
 have hne:=ne_lead hL hF h0
 have hclr:=fun r (hr:r ∈ K)=>clr_row hL hF (h.kept.rows r hr).1 (h.kept.rows r hr).2 (h0 r hr)
 obtain ⟨y,hy⟩:∃ y,y = normS (restF K x):=⟨_,rfl⟩
 unfold putF
 rw [← hy] at hL hF h0 hsp hd hclr ⊢
 have hlead:∀ r,r ∈ K→leadN (clrF y r) = leadN r:=fun r hr=>leadN_of (hclr r hr).2.1
 have hM:KeptS n t (K.map (clrF y)):=by
  refine ⟨fun k hk=>?_,List.pairwise_map.2 (h.kept.sorted.imp_of_mem fun {a b} ha hb hab=>by rw [hlead a ha,hlead b hb];exact hab)⟩
  obtain ⟨r,hr,rfl⟩:=List.mem_map.1 hk
  exact ⟨(hclr r hr).1,_,(hclr r hr).2.1⟩
 have hneM:∀ k,k ∈ K.map (clrF y)→leadN k≠l:=fun k hk=>by
  obtain ⟨r,hr,rfl⟩:=List.mem_map.1 hk
  rw [hlead r hr];exact hne r hr
 have hyM:∀ k,k ∈ K.map (clrF y)→vR y (leadN k) = 0∧vR k l = 0:=fun k hk=>by
  obtain ⟨r,hr,rfl⟩:=List.mem_map.1 hk
  rw [hlead r hr];exact ⟨h0 r hr,(hclr r hr).2.2.2⟩
 have hrM:(K.map (clrF y)).Pairwise (fun a b=>vR a (leadN b) = 0):=List.pairwise_map.2 (h.red.imp_of_mem fun {a b} ha hb hab=>by
  rw [hlead b hb,(hclr a ha).2.2.1]
  show vR a (leadN b) ^^^ gmul _ (vR y (leadN b)) = 0
  rw [hab,h0 b hb,gmul_zero,xor_self])
 have inP:∀ {k:Rw},k = y∨k ∈ K.map (clrF y)→Sp ((putAt (K.map (clrF y)) y).map vR) (vR k):=fun hk=>Sp.mem (List.mem_map.2 ⟨_,putAt_mem.2 hk,rfl⟩)
 have back:∀ k,k ∈ K→Sp ((putAt (K.map (clrF y)) y).map vR) (vR k):=fun k hk=>by
  have e:vR k = fun j=>vR (clrF y k) j ^^^ gmul (vR k l) (vR y j):=by
   funext j
   rw [(hclr k hk).2.2.1]
   show _ = (vR k j ^^^ gmul (vR k l) (vR y j)) ^^^ gmul (vR k l) (vR y j)
   rw [xor_cancel]
  rw [e]
  exact Sp.add (inP (.inr (List.mem_map.2 ⟨k,hk,rfl⟩))) (Sp.scale _ (inP (.inl rfl)))
 refine ⟨⟨putAt_kept hM hL hF hneM,?_⟩,fun k hk=>?_,back,?_,?_⟩
 ·unfold putAt
  have hs:=hrM
  rw [← List.takeWhile_append_dropWhile (p:=fun r:Rw=>decide (leadS r.1≤leadS y.1)) (l:=K.map (clrF y))] at hs
  obtain ⟨g1,g2,g3⟩:=List.pairwise_append.1 hs
  refine List.pairwise_append.2 ⟨g1,List.pairwise_cons.2 ⟨fun b hb=>(hyM b ((List.dropWhile_sublist _).mem hb)).1,g2⟩,fun a ha b hb=>?_⟩
  rcases List.mem_cons.1 hb with rfl | hb
  ·rw [leadN_of hL];exact (hyM a ((List.takeWhile_sublist _).mem ha)).2
  ·exact g3 a ha b hb
 ·rcases putAt_mem.1 hk with rfl | hk
  ·exact hsp
  ·obtain ⟨r,hr,rfl⟩:=List.mem_map.1 hk
   rw [(hclr r hr).2.2.1]
   exact Sp.add (Sp.mem (List.mem_cons_of_mem _ (List.mem_map.2 ⟨r,hr,rfl⟩))) (Sp.scale _ hsp)
 ·have e:vR x = fun j=>(vR x j ^^^ gmul d (vR y j)) ^^^ gmul d (vR y j):=by funext j;rw [xor_cancel]
  rw [e]
  refine Sp.add (Sp.trans (fun a ha=>?_) hd) (Sp.scale _ (inP (.inl rfl)))
  obtain ⟨k,hk,rfl⟩:=List.mem_map.1 ha
  exact back k hk
 ·unfold putAt
  rw [List.length_append,List.length_cons]
  have:=congrArg List.length (List.takeWhile_append_dropWhile (p:=fun r:Rw=>decide (leadS r.1≤leadS y.1)) (l:=K.map (clrF y)))
  rw [List.length_append,List.length_map] at this
  omega
theorem insF_span {n t:Nat} {K:List Rw} {x:Rw} (h:KeptS n t K) (hx:Fit n t x) (hn:¬ leadS (restF K x).1 < 0) :
  (∀ k,k ∈ insF K x→Sp (vR x :: K.map vR) (vR k))∧(∀ k,k ∈ K→Sp ((insF K x).map vR) (vR k))∧Sp ((insF K x).map vR) (vR x):=by
 obtain ⟨l,hL,hF,h0,hsp,d,hd⟩:=rest_norm h hx hn
 have hm:∀ k,k ∈ insF K x↔k ∈ K∨k = normS (restF K x):=fun k=>by
  rw [(ins_perm K x).mem_iff];unfold keepF;rw [if_neg hn,List.mem_append,List.mem_singleton]
 have inP:∀ {k:Rw},k ∈ K∨k = normS (restF K x)→Sp ((insF K x).map vR) (vR k):=fun hk=>Sp.mem (List.mem_map.2 ⟨_,(hm _).2 hk,rfl⟩)
 refine ⟨fun k hk=>?_,fun k hk=>inP (.inl hk),?_⟩
 ·rcases (hm k).1 hk with hk | rfl
  ·exact Sp.mem (List.mem_cons_of_mem _ (List.mem_map.2 ⟨k,hk,rfl⟩))
  ·exact hsp
 ·have e:vR x = fun j=>(vR x j ^^^ gmul d (vR (normS (restF K x)) j)) ^^^ gmul d (vR (normS (restF K x)) j):=by funext j;rw [xor_cancel]
  rw [e]
  refine Sp.add (Sp.trans (fun a ha=>?_) hd) (Sp.scale _ (inP (.inr rfl)))
  obtain ⟨k,hk,rfl⟩:=List.mem_map.1 ha
  exact inP (.inl hk)
end Go.Proofs.YtccaiiigdfieoaaGreatDoor
namespace Go.Proofs.YtccaiiigdfieoaaGreatDoor
open Go.By Gf
def stepB (F:Nat→Rw) (i k:Nat):Nat→Rw:=if k = i then F else updF F i (lessF (F i) (atS (F i).1 (leadS (F k).1)) (F k))
def rowB (i:Nat):Nat→(Nat→Rw)→(Nat→Rw)
 | 0,F=>F
 | k + 1,F=>stepB (rowB i k F) i k
def backB (m:Nat):Nat→(Nat→Rw)→(Nat→Rw)
 | 0,F=>F
 | i + 1,F=>rowB i m (backB m i F)
structure BI (n t m:Nat) (L:Nat→Nat) (W:List V) (F:Nat→Rw) (i k:Nat):Prop where
 good:∀ a,a < m→Fit n t (F a)∧LeadAt (F a) (L a)
 done:∀ a,a < i→a < m→∀ b,b < m→b≠a→vR (F a) (L b) = 0
 cur:∀ b,b < k→b < m→b≠i→vR (F i) (L b) = 0
 sp1:∀ a,a < m→Sp W (vR (F a))
 sp2:∀ v,v ∈ W→Sp ((List.range m).map fun a=>vR (F a)) v
theorem BI.led {n t m:Nat} {L:Nat→Nat} {W:List V} {F:Nat→Rw} {i k a:Nat} (h:BI n t m L W F i k) (ha:a < m):Fit n t (F a)∧Led (F a)∧leadN (F a) = L a :=
 ⟨(h.good a ha).1,⟨_,(h.good a ha).2⟩,leadN_of (h.good a ha).2⟩
theorem BI.step {n t m:Nat} {L:Nat→Nat} {W:List V} {F:Nat→Rw} {i k:Nat} (h:BI n t m L W F i k) (hL:∀ a b,a < b→b < m→L a < L b) (hi:i < m) (hk:k < m):BI n t m L W (stepB F i k) i (k + 1):=by
 unfold stepB
 by_cases hki:k = i
 ·rw [if_pos hki]
  exact ⟨h.good,h.done,fun b hb hbm hne=>h.cur b (by omega) hbm hne,h.sp1,h.sp2⟩
 ·rw [if_neg hki]
  obtain ⟨fi,li,ni⟩:=h.led hi
  obtain ⟨fk,lk,nk⟩:=h.led hk
  have hLk:L k < n:=(h.good k hk).2.lt fk
  have e:lessF (F i) (atS (F i).1 (leadS (F k).1)) (F k) = lessF (F i) (vR (F i) (L k)) (F k):=by rw [(h.good k hk).2.1,vR_at fi hLk]
  rw [e]
  obtain ⟨Y,hY⟩:∃ Y,Y = lessF (F i) (vR (F i) (L k)) (F k):=⟨_,rfl⟩
  rw [← hY]
  have hv:vR Y = fun j=>vR (F i) j ^^^ gmul (vR (F i) (L k)) (vR (F k) j):=by rw [hY,vR_less _ fi fk]
  have fY:Fit n t Y:=by rw [hY];exact fi.less fk
  have vk1:vR (F k) (L k) = 1:=by rw [← nk];exact vR_lead fk lk
  have kz:∀ j,j < L k→vR (F k) j = 0:=fun j hj=>vf_before fk lk (by rw [nk];exact hj)
  have iz:∀ j,j < L i→vR (F i) j = 0:=fun j hj=>vf_before fi li (by rw [ni];exact hj)
  have vi1:vR (F i) (L i) = 1:=by rw [← ni];exact vR_lead fi li
  -- up to where row i leads nothing turns
  have same:∀ j,j≤L i→vR Y j = vR (F i) j:=fun j hj=>by
   rw [hv]
   show vR (F i) j ^^^ gmul (vR (F i) (L k)) (vR (F k) j) = _
   rcases Nat.lt_or_ge k i with g | g
   ·rw [iz (L k) (hL k i g hi),zero_gmul,xor_zero]
   ·rw [kz j (by have:=hL i k (by omega) hk;omega),gmul_zero,xor_zero]
  have lY:LeadAt Y (L i):=leadAt_of fY ((h.good i hi).2.lt fi) (by rw [same _ (Nat.le_refl _)];exact vi1) fun j hj=>by rw [same j (by omega)];exact iz j hj
  have ui:updF F i Y i = Y:=updF_same F i Y
  have un:∀ a,a≠i→updF F i Y a = F a:=fun a ha=>updF_ne F Y ha
  refine ⟨fun a ha=>?_,fun a ha ham b hb hne=>?_,fun b hb hbm hne=>?_,fun a ha=>?_,fun v hvW=>?_⟩
  ·by_cases e:a = i
   ·subst e;rw [ui];exact ⟨fY,lY⟩
   ·rw [un a e];exact h.good a ha
  ·rw [un a (by omega)];exact h.done a ha ham b hb hne
  ·rw [ui,hv]
   show vR (F i) (L b) ^^^ gmul (vR (F i) (L k)) (vR (F k) (L b)) = 0
   by_cases e:b = k
   ·subst e;rw [vk1,gmul_one,xor_self]
   ·have hbk:b < k:=by omega
    rw [h.cur b hbk hbm hne,kz (L b) (hL b k hbk hk),gmul_zero,xor_self]
  ·by_cases e:a = i
   ·subst e;rw [ui,hv];exact Sp.add (h.sp1 a hi) (Sp.scale _ (h.sp1 k hk))
   ·rw [un a e];exact h.sp1 a ha
  ·refine Sp.trans (fun u hu=>?_) (h.sp2 v hvW)
   obtain ⟨a,ha,rfl⟩:=List.mem_map.1 hu
   have ham:=List.mem_range.1 ha
   have mem:∀ c,c < m→Sp ((List.range m).map fun a=>vR (updF F i Y a)) (vR (updF F i Y c)):=fun c hc=>Sp.mem (List.mem_map.2 ⟨c,List.mem_range.2 hc,rfl⟩)
   by_cases e:a = i
   ·subst e
    have e2:vR (F a) = fun j=>vR Y j ^^^ gmul (vR (F a) (L k)) (vR (F k) j):=by
     funext j;rw [hv];show _ = (vR (F a) j ^^^ _) ^^^ _;rw [xor_cancel]
    show Sp _ (vR (F a))
    rw [e2]
    have m1:=mem a hi;rw [ui] at m1
    have m2:=mem k hk;rw [un k hki] at m2
    exact Sp.add m1 (Sp.scale _ m2)
   ·have m1:=mem a ham;rw [un a e] at m1;exact m1
theorem BI.row {n t m:Nat} {L:Nat→Nat} {W:List V} {F:Nat→Rw} {i:Nat} (h:BI n t m L W F i 0) (hL:∀ a b,a < b→b < m→L a < L b) (hi:i < m):∀ k,k≤m→BI n t m L W (rowB i k F) i k
 | 0,_=>h
 | k + 1,hk=>(BI.row h hL hi k (by omega)).step hL hi (by omega)
theorem BI.next {n t m:Nat} {L:Nat→Nat} {W:List V} {F:Nat→Rw} {i:Nat} (h:BI n t m L W F i m):BI n t m L W F (i + 1) 0 :=
 ⟨h.good,fun a ha ham b hb hne=>by
  by_cases e:a = i
  ·subst e;exact h.cur b hb hb hne
  ·exact h.done a (by omega) ham b hb hne,fun b hb=>by omega,h.sp1,h.sp2⟩
theorem BI.all {n t m:Nat} {L:Nat→Nat} {W:List V} {F:Nat→Rw} (h:BI n t m L W F 0 0) (hL:∀ a b,a < b→b < m→L a < L b):∀ i,i≤m→BI n t m L W (backB m i F) i 0
 | 0,_=>h
 | i + 1,hi=>((BI.all h hL i (by omega)).row hL (by omega) m (Nat.le_refl m)).next
theorem BI.red {n t m:Nat} {L:Nat→Nat} {W:List V} {F:Nat→Rw} (h:BI n t m L W F m 0) (hL:∀ a b,a < b→b < m→L a < L b):Red n t ((List.range m).map F):=by
 refine ⟨⟨fun k hk=>?_,?_⟩,?_⟩
 ·obtain ⟨a,ha,rfl⟩:=List.mem_map.1 hk
  exact ⟨(h.led (List.mem_range.1 ha)).1,(h.led (List.mem_range.1 ha)).2.1⟩
 ·refine List.pairwise_map.2 (List.pairwise_iff_getElem.2 fun i j hi hj hij=>?_)
  simp only [List.length_range] at hi hj
  simp only [List.getElem_range]
  rw [(h.led hi).2.2,(h.led hj).2.2];exact hL i j hij hj
 ·refine List.pairwise_map.2 (List.pairwise_iff_getElem.2 fun i j hi hj hij=>?_)
  simp only [List.length_range] at hi hj
  simp only [List.getElem_range]
  rw [(h.led hj).2.2];exact h.done i hi hi j hj (by omega)
def listF (K:List Rw):Nat→Rw:=fun i=>K.getD i ([],[])
theorem listF_map (K:List Rw):(List.range K.length).map (listF K) = K:=by
 apply List.ext_getElem?
 intro i
 by_cases hi:i < K.length
 ·rw [List.getElem?_map,List.getElem?_range hi,List.getElem?_eq_getElem hi]
  simp [listF,hi]
 ·rw [List.getElem?_eq_none (by simpa using hi),List.getElem?_eq_none (by omega)]
def redL (K:List Rw):List Rw:=(List.range K.length).map (backB K.length K.length (listF K))
theorem redL_red {n t:Nat} {K:List Rw} (h:KeptS n t K):Red n t (redL K)∧(∀ k,k ∈ redL K→Sp (K.map vR) (vR k))∧(∀ k,k ∈ K→Sp ((redL K).map vR) (vR k))∧(redL K).map leadN = K.map leadN:=by
 have hat:∀ a,a < K.length→listF K a ∈ K:=fun a ha=>by
  have:listF K a = K[a]:=by simp [listF,ha]
  rw [this];exact List.getElem_mem ha
 have hL:∀ a b,a < b→b < K.length→leadN (listF K a) < leadN (listF K b):=fun a b hab hb=>by
  have e1:listF K a = K[a]:=by simp [listF,show a < K.length by omega]
  have e2:listF K b = K[b]:=by simp [listF,hb]
  rw [e1,e2];exact List.pairwise_iff_getElem.1 h.sorted a b (by omega) hb hab
 have h0:BI n t K.length (fun a=>leadN (listF K a)) (K.map vR) (listF K) 0 0:=by
  refine ⟨fun a ha=>⟨(h.rows _ (hat a ha)).1,(h.rows _ (hat a ha)).2.at⟩,fun a ha=>by omega,fun b hb=>by omega,fun a ha=>Sp.mem (List.mem_map.2 ⟨_,hat a ha,rfl⟩),fun v hv=>?_⟩
  have e:((List.range K.length).map fun a=>vR (listF K a)) = K.map vR:=by
   conv=>rhs;rw [← listF_map K]
   rw [List.map_map];rfl
  rw [e];exact Sp.mem hv
 have hA:=h0.all hL K.length (Nat.le_refl _)
 refine ⟨hA.red hL,fun k hk=>?_,fun k hk=>?_,?_⟩
 ·obtain ⟨a,ha,rfl⟩:=List.mem_map.1 hk
  exact hA.sp1 a (List.mem_range.1 ha)
 ·have:=hA.sp2 (vR k) (List.mem_map.2 ⟨k,hk,rfl⟩)
  unfold redL
  rw [List.map_map];exact this
 ·conv=>rhs;rw [← listF_map K]
  unfold redL
  rw [List.map_map,List.map_map]
  apply List.map_congr_left
  intro a ha
  exact (hA.led (List.mem_range.1 ha)).2.2
theorem rest_same {n t:Nat} {K M:List Rw} {x:Rw} (h:KeptS n t K) (g:Red n t M) (hx:Fit n t x) (h1:∀ k,k ∈ K→Sp (M.map vR) (vR k)) (hl:M.map leadN = K.map leadN):restF K x = restF M x:=by
 have fK:=hx.rest (fun k hk=>(h.rows k hk).1)
 have fM:=hx.rest (fun k hk=>(g.kept.rows k hk).1)
 have rK:vR (restF K x) = red (tri K) (vR x):=rest_red h.rows hx
 have rM:vR (restF M x) = red (tri M) (vR x):=rest_red g.kept.rows hx
 have s1:=red_span (tri K) (vR x)
 have s2:=red_span (tri M) (vR x)
 rw [tri_fst] at s1 s2
 have hD:Sp (M.map vR) (fun j=>vR (restF K x) j ^^^ vR (restF M x) j):=by
  have e:(fun j=>vR (restF K x) j ^^^ vR (restF M x) j) = fun j=>(vR x j ^^^ red (tri K) (vR x) j) ^^^ (vR x j ^^^ red (tri M) (vR x) j):=by
   funext j;rw [rK,rM,xor4,xor_self,zero_xor]
  rw [e]
  exact Sp.add (Sp.trans (fun a ha=>by obtain ⟨k,hk,rfl⟩:=List.mem_map.1 ha;exact h1 k hk) s1) s2
 have hz:∀ k,k ∈ M→vR (restF K x) (leadN k) ^^^ vR (restF M x) (leadN k) = 0:=fun k hk=>by
  have m1:leadN k ∈ K.map leadN:=by rw [← hl];exact List.mem_map.2 ⟨k,hk,rfl⟩
  obtain ⟨k',hk',e⟩:=List.mem_map.1 m1
  rw [rK,rM]
  rw [red_at g.kept.kept.tri (vf (cat k),leadN k) (List.mem_map.2 ⟨k,hk,rfl⟩)]
  rw [← e,red_at h.kept.tri (vf (cat k'),leadN k') (List.mem_map.2 ⟨k',hk',rfl⟩),xor_self]
 have hzero:∀ j,vR (restF K x) j ^^^ vR (restF M x) j = 0:=fun j=>by
  have:=congrFun (coords_red g hD) j
  rw [this]
  exact comb_map_zero _ _ j M fun k hk=>by rw [hz k hk,zero_gmul]
 have hc:cat (restF K x) = cat (restF M x):=vf_inj (by rw [fK.cat,fM.cat]) fun j _=>xor_eq_zero (hzero j)
 unfold cat at hc
 obtain ⟨p1,p2⟩:=List.append_inj hc (by rw [fK.1,fM.1])
 exact Prod.ext p1 p2
structure Sys (n t:Nat) (K0 K:List Rw):Prop where
 kept:KeptS n t K0
 same:K = redL K0
theorem Sys.nil (n t:Nat):Sys n t [] []:=⟨KeptS.nil n t,rfl⟩
theorem Sys.red {n t:Nat} {K0 K:List Rw} (h:Sys n t K0 K):Red n t K:=by rw [h.same];exact (redL_red h.kept).1
theorem Sys.rest {n t:Nat} {K0 K:List Rw} {x:Rw} (h:Sys n t K0 K) (hx:Fit n t x):restF K0 x = restF K x:=by
 obtain ⟨r1,r2,r3,r4⟩:=redL_red h.kept
 rw [h.same];exact rest_same h.kept r1 hx r3 r4
theorem Sys.put {n t:Nat} {K0 K:List Rw} {x:Rw} (h:Sys n t K0 K) (hx:Fit n t x) (hn:¬ leadS (restF K x).1 < 0):Sys n t (insF K0 x) (putF K x):=by
 have hn0:¬ leadS (restF K0 x).1 < 0:=by rw [h.rest hx];exact hn
 have hk0:=h.kept.step hx
 obtain ⟨r1,r2,r3,r4⟩:=redL_red h.kept
 obtain ⟨q1,q2,q3,q4⟩:=redL_red hk0
 obtain ⟨i1,i2,i3⟩:=insF_span h.kept hx hn0
 obtain ⟨p1,p2,p3,p4,-⟩:=putF_red h.red hx hn
 rw [← h.same] at r1 r2 r3
 refine ⟨hk0,p1.unique q1 (fun k hk=>?_) fun k hk=>?_⟩
 ·refine Sp.trans (fun a ha=>?_) (p2 k hk)
  rcases List.mem_cons.1 ha with rfl | ha
  ·exact Sp.trans (fun b hb=>by obtain ⟨c,hc,rfl⟩:=List.mem_map.1 hb;exact q3 c hc) i3
  ·obtain ⟨c,hc,rfl⟩:=List.mem_map.1 ha
   refine Sp.trans (fun b hb=>?_) (r2 c hc)
   obtain ⟨d,hd,rfl⟩:=List.mem_map.1 hb
   exact Sp.trans (fun b hb=>by obtain ⟨c,hc,rfl⟩:=List.mem_map.1 hb;exact q3 c hc) (i2 d hd)
 ·refine Sp.trans (fun a ha=>?_) (q2 k hk)
  obtain ⟨c,hc,rfl⟩:=List.mem_map.1 ha
  refine Sp.trans (fun b hb=>?_) (i1 c hc)
  rcases List.mem_cons.1 hb with rfl | hb
  ·exact p4
  ·obtain ⟨d,hd,rfl⟩:=List.mem_map.1 hb
   exact Sp.trans (fun b hb=>by obtain ⟨e,he,rfl⟩:=List.mem_map.1 hb;exact p3 e he) (r3 d hd)
end Go.Proofs.YtccaiiigdfieoaaGreatDoor
namespace Go.Proofs.YtccaiiigdfieoaaGreatDoor
open Go.RowKit Go.By
end Go.Proofs.YtccaiiigdfieoaaGreatDoor
namespace Go.Proofs.YtccaiiigdfieoaaGreatDoor
open Go.RowKit Go.By
theorem use_w1 {P:Program} {f:FuncId} {args:Array Value} {W:World} {Q:Ending→World→Prop} (I:World→Prop) (h:I W) (k:∀ W',I W'→Calls P f args W' Q):Calls P f args W Q:=k W h
end Go.Proofs.YtccaiiigdfieoaaGreatDoor
namespace Go.Proofs.YtccaiiigdfieoaaGreatDoor
open Go.RowKit Go.By
end Go.Proofs.YtccaiiigdfieoaaGreatDoor
namespace Go.By
open Go.RowKit
end Go.By
namespace Go.Proofs.YtccaiiigdfieoaaGreatDoor
open Go.RowKit Go.By
end Go.Proofs.YtccaiiigdfieoaaGreatDoor
namespace Go.By
open Go.RowKit
end Go.By
namespace Go.Proofs.YtccaiiigdfieoaaGreatDoor
open Go.RowKit Go.By
def mulR (w2:Nat) (R2:List (List UInt8)) (r:List UInt8):List UInt8:=combF (List.replicate w2 0) r R2
theorem mulR_len {w2:Nat} {R2:List (List UInt8)} (h:∀ x,x ∈ R2→x.length = w2) (r:List UInt8):(mulR w2 R2 r).length = w2:=combF_len r R2 w2 h _ (by simp)
theorem comb_ok {w2:Nat} {R2:List (List UInt8)} {r:List UInt8} (h:∀ x,x ∈ R2→x.length = w2) (hl:r.length = R2.length):combS r R2 = (if R2 = [] then [] else mulR w2 R2 r,0):=by
 unfold combS
 rw [if_pos hl]
 cases R2 with
 | nil =>
  have:r = []:=List.length_eq_zero_iff.1 (by simpa using hl)
  subst this
  simp [noughtS,combF]
 | cons x l =>
  have hx:=h x (by simp)
  have e:noughtS (x :: l) = (List.replicate w2 0,0):=noughtS_of (x0:=x) rfl hx h
  rw [e,if_pos rfl,if_neg (by simp)]
  rfl
end Go.Proofs.YtccaiiigdfieoaaGreatDoor
namespace Go.By
open Go.RowKit
theorem getD_tf {listed:Array Bool} {i:Nat} (h:listed.getD i true = false):listed.getD i false≠true∧i < listed.size:=by
 rcases Nat.lt_or_ge i listed.size with h' | h'
 ·refine ⟨fun hx=>?_,h'⟩
  simp [Array.getD_eq_getD_getElem?,h'] at h hx;rw [h] at hx;cases hx
 ·simp [Array.getD_eq_getD_getElem?,Array.getElem?_eq_none h'] at h
theorem getD_ft {listed:Array Bool} {j:Nat} (h:listed.getD j false = true):listed.getD j true = true:=by
 rcases Nat.lt_or_ge j listed.size with h' | h'
 ·simp [Array.getD_eq_getD_getElem?,h'] at h ⊢;exact h
 ·simp [Array.getD_eq_getD_getElem?,Array.getElem?_eq_none h'] at h
end Go.By
namespace Go.Proofs.YtccaiiigdfieoaaGreatDoor
open Go.RowKit Go.By
structure Elm (w:World) (base be k t:Nat) (v:Value) (n:Nat) (K:List Rw):Prop where
 box:w.heap[be]? = some (.cells #[.int .i64 k,.int .i64 t,v] 191 (0,0))
 rows:RwL 99 5 w base v n K
 old:base≤be
theorem Elm.keep {w w':World} {base be k t n:Nat} {v:Value} {K:List Rw} (h:Elm w base be k t v n K) (hb:Below w.heap.size w w'):Elm w' base be k t v n K :=
 ⟨(hb.block _ (blk_lt h.box)).trans h.box,h.rows.keep hb,h.old⟩
theorem New_good (k t:Nat) (w:World) (h1:1≤k) (h2:k≤4096) (h3:t≤65535):Calls Tryz.prog 61 #[.int .i64 k,.int .i64 t] w fun e w'=>∃ be,e = .returned (.tuple #[.pointer (some ⟨be,0,none⟩),.int .i64 0])∧Elm w' w.heap.size be k t (.slice none 0 0) 0 []∧Below w.heap.size w w':=by
 have a1:¬ ((k:Int) < 1):=by omega
 have a2:¬ (4096 < (k:Int)):=by omega
 have a3:¬ ((t:Int) < 0):=by omega
 have a4:¬ (65535 < (t:Int)):=by omega
 clear h1 h2 h3
 go_enter Tryz.func61,Tryz.ntmps61
 go_wp2
 go_ret2
 exact ⟨w.heap.size,rfl,⟨hnew rfl,RwL.nil _ _ _ _,Nat.le_refl _⟩,al (Below.refl _ _) (Nat.le_refl _)⟩
theorem Rank_any' (base be k t n:Nat) (v:Value) (K:List Rw) (w:World) (h:Elm w base be k t v n K):Calls Tryz.prog 65 #[.pointer (some ⟨be,0,none⟩)] w fun e w'=>e = .returned (.int .i64 n)∧w = w':=by
 obtain ⟨f0,f1,f2⟩:=cells3 h.box
 obtain ⟨q,c,rfl⟩:=h.rows.shape
 clear h
 go_enter Tryz.func65,Tryz.ntmps65
 go_wp2
 go_ret
 exact ⟨rfl,rfl⟩
end Go.Proofs.YtccaiiigdfieoaaGreatDoor
namespace Go.Proofs.YtccaiiigdfieoaaGreatDoor
open Go.RowKit Go.By
def kD (D:List Rw):List Rw:=D.foldl insF []
theorem kD_snoc (D:List Rw) (r:Rw):kD (D ++ [r]) = insF (kD D) r:=by unfold kD;rw [List.foldl_append];rfl
end Go.Proofs.YtccaiiigdfieoaaGreatDoor
namespace Go.By
open Go.RowKit
end Go.By
namespace Go.Proofs.YtccaiiigdfieoaaGreatDoor
open Go.RowKit Go.By
end Go.Proofs.YtccaiiigdfieoaaGreatDoor
namespace Go.By
open Go.RowKit
theorem RwS.set {w:World} {p p1 p2:Option Addr} {n c g o T n1 c1 n2 c2:Nat} {fr:Nat × Nat} {v:Value} {K:List (List UInt8 × List UInt8)} (h:RwS w p n c K) (hp:0 < n→∀ a,p = some a→a.block≠g) (hg:w.heap[g]? = some (.cells #[.slice p1 n1 c1,.slice p2 n2 c2] T fr)) :
  RwS (w.setCell ⟨g,o,none⟩ v) p n c K:=by
 refine ⟨h.len,h.le,h.max,h.nil,fun j k hj=>?_⟩
 have hjn:0 < n:=by have:=(List.getElem?_eq_some_iff.1 hj).1;have:=h.len;omega
 obtain ⟨b,o',q1,m1,d1,q2,m2,d2,e,h1,h2,h3,h4⟩:=h.row j k hj
 have hb:b≠g:=hp hjn ⟨b,o',none⟩ e
 exact ⟨b,o',q1,m1,d1,q2,m2,d2,e,(World.cell?_of_block (a:=⟨b,o' + j * 2,none⟩) (Below.heap_setCell _ _ _ _ hb)).trans h1,(World.cell?_of_block (a:=⟨b,o' + j * 2 + 1,none⟩) (Below.heap_setCell _ _ _ _ hb)).trans h2,
  h3.set2 (fun h0=>h3.away hg h0),h4.set2 (fun h0=>h4.away hg h0)⟩
end Go.By
namespace Go.Proofs.YtccaiiigdfieoaaGreatDoor
open Go.RowKit Go.By
end Go.Proofs.YtccaiiigdfieoaaGreatDoor
namespace Go.Proofs.YtccaiiigdfieoaaGreatDoor
open Go.RowKit Go.By
theorem less_zero {n t:Nat} {x k:Rw} (hx:Fit n t x) (hk:Fit n t k):lessF x 0 k = x:=by
 unfold lessF
 rw [axpy_zero_of rfl (by rw [hk.1,hx.1]),axpy_zero_of rfl (by rw [hk.2,hx.2])]
set_option maxRecDepth 100000 in
set_option maxHeartbeats 4000000 in
theorem ERest_any (base be k t n:Nat) (v:Value) (K:List Rw) (p1 p2:Option Addr) (c1 c2:Nat) (x:Rw) (w:World) (hE:Elm w base be k t v n K) (s1:Sl B8 w p1 k c1 x.1) (s2:Sl B8 w p2 t c2 x.2) (hK:∀ r,r ∈ K→Fit k t r∧Led r) (hk:k≤4096) (ht:t≤65535) :
  Calls Tryz.prog 113 #[.pointer (some ⟨be,0,none⟩),.agg #[.slice p1 k c1,.slice p2 t c2]] w (RetR2 5 w (restF K x) 0):=by
 have hinfo:=info_row
 obtain ⟨q,c,rfl⟩:=hE.rows.shape
 have HE:=Lib.hid hE;have S1:=Lib.hid s1;have S2:=Lib.hid s2;have HK:=Lib.hid hK;have HLEN:=Lib.hid hE.rows.len
 have HX:Hid (Fit k t x):=⟨s1.len,s2.len⟩
 have hnb:n≤9223372036854775807:=by
  obtain ⟨vs,a,b,o,r⟩:=hE.rows
  rcases o.2 with ⟨hv,hn⟩ | ⟨g,cap,cur,hv,_,_,h1,h2,_⟩
  ·simp at hv;omega
  ·unfold maxLen at h2;omega
 clear hE s1 s2 hK
 go_enter Tryz.func113,Tryz.ntmps113
 go_wp2
 have b0:Below w.heap.size w ((w.alloc (.cells #[.slice p1 k c1,.slice p2 t c2] 99)).alloc (.cells #[.slice none 0 0,.slice none 0 0] 99)):=al (al (Below.refl _ _) (Nat.le_refl _)) (by simp)
 have x0:((w.alloc (.cells #[.slice p1 k c1,.slice p2 t c2] 99)).alloc (.cells #[.slice none 0 0,.slice none 0 0] 99)).heap[w.heap.size]? = some (.cells #[.slice p1 k c1,.slice p2 t c2] 99 (0,0)):=hal (hnew rfl)
 have z0:((w.alloc (.cells #[.slice p1 k c1,.slice p2 t c2] 99)).alloc (.cells #[.slice none 0 0,.slice none 0 0] 99)).heap[w.heap.size + 1]? = some (.cells #[.slice none 0 0,.slice none 0 0] 99 (0,0)):=hnew (by simp)
 generalize (w.alloc (.cells #[.slice p1 k c1,.slice p2 t c2] 99)).alloc (.cells #[.slice none 0 0,.slice none 0 0] 99) = w2 at b0 x0 z0 ⊢
 have B2:=Lib.hid b0;have X2:=Lib.hid x0;have Z2:=Lib.hid z0
 clear b0 x0 z0
 have E2:=Lib.hid (HE.out.keep B2.out)
 obtain ⟨f0,f1,f2⟩:=cells3 E2.out.box
 obtain ⟨y0,y1⟩:=cells2 X2.out
 refine wp_region_shapes (fun ix=>([.val (.pointer (some ⟨w.heap.size,0,none⟩)),.val (.slice p1 k c1),.val (.int .i64 (k:Nat)),.val (.pointer (some ⟨be,0,none⟩)),.val (.pointer (some ⟨be,0,none⟩)),.val (.pointer (some ⟨be,0,none⟩)),.val (.int .i64 k),.val (.bool false),.val (.bool false),.val (.pointer (some ⟨w.heap.size,1,none⟩)),.val (.slice p2 t c2),.val (.int .i64 (t:Nat)),.val (.pointer (some ⟨be,0,none⟩)),.val (.pointer (some ⟨be,0,none⟩)),.val (.pointer (some ⟨be,1,none⟩)),.val (.int .i64 t),.val (.bool false),.val (.bool false)][ix]?).getD (.any)) 60 rfl (by kernel_rfl) (by decide) (by decide) (by decide) ?_ ?_
 ·refine ⟨?_,?_,?_,?_,?_,?_,?_,?_,?_,?_,?_,?_,?_,?_,?_,?_,?_,?_,trivial⟩
  ·intro a W hb0 hs hp hi;have hb:=undrew hb0;clear hb0
   have t3:sl a 3 = .pointer (some ⟨w.heap.size,0,none⟩):=hi 3 (by decide)
   refine ite_y rfl (wp_val (.pointer (some ⟨w.heap.size,0,none⟩)) ?_ ?_)
   ·simp only [execOp,eval_tmp,eval_const,t3];simp [go_sem]
   ·exact ⟨_,rfl,Below.refl _ _,rfl⟩
  ·intro a W hb0 hs hp hi;have hb:=undrew hb0;clear hb0
   have tt:sl a 13 = .pointer (some ⟨w.heap.size,0,none⟩):=hp 0 (by decide)
   have dd:=(hb.cell (p:=⟨w.heap.size,0,none⟩) (lt_of_cell y0)).trans y0
   refine ite_y rfl (wp_val (.slice p1 k c1) ?_ ?_)
   ·simp only [execOp,eval_tmp,tt];simp [go_sem,dd]
   ·exact ⟨_,rfl,Below.refl _ _,rfl⟩
  ·intro a W hb0 hs hp hi;have hb:=undrew hb0;clear hb0
   have t14:sl a 14 = .slice p1 k c1:=hp 1 (by decide)
   refine ite_y rfl (wp_val (.int .i64 (k:Nat)) ?_ ?_)
   ·simp only [execOp,resolve,List.map_toArray,List.map,eval_tmp,eval_func,eval_const,t14];simp [go_sem]
   ·exact ⟨_,rfl,Below.refl _ _,rfl⟩
  ·intro a W hb0 hs hp hi;have hb:=undrew hb0;clear hb0
   have t0:sl a 0 = .pointer (some ⟨be,0,none⟩):=hi 0 (by decide)
   exact ite_y rfl (wp_val (sl a 0) rfl ⟨_,rfl,Below.refl _ _,t0⟩)
  ·intro a W hb0 hs hp hi;have hb:=undrew hb0;clear hb0
   have tt:sl a 16 = .pointer (some ⟨be,0,none⟩):=hp 3 (by decide)
   refine ite_y rfl (wp_val (.pointer (some ⟨be,0,none⟩)) ?_ ?_)
   ·simp only [execOp,eval_tmp,tt];simp [go_sem]
   ·exact ⟨_,rfl,Below.refl _ _,rfl⟩
  ·intro a W hb0 hs hp hi;have hb:=undrew hb0;clear hb0
   have t17:sl a 17 = .pointer (some ⟨be,0,none⟩):=hp 4 (by decide)
   refine ite_y rfl (wp_val (.pointer (some ⟨be,0,none⟩)) ?_ ?_)
   ·simp only [execOp,eval_tmp,eval_const,t17];simp [go_sem]
   ·exact ⟨_,rfl,Below.refl _ _,rfl⟩
  ·intro a W hb0 hs hp hi;have hb:=undrew hb0;clear hb0
   have tt:sl a 18 = .pointer (some ⟨be,0,none⟩):=hp 5 (by decide)
   have dd:=(hb.cell (p:=⟨be,0,none⟩) (lt_of_cell f0)).trans f0
   refine ite_y rfl (wp_val (.int .i64 k) ?_ ?_)
   ·simp only [execOp,eval_tmp,tt];simp [go_sem,dd]
   ·exact ⟨_,rfl,Below.refl _ _,rfl⟩
  ·intro a W hb0 hs hp hi;have hb:=undrew hb0;clear hb0
   have t15:sl a 15 = .int .i64 (k:Nat):=hp 2 (by decide)
   have t19:sl a 19 = .int .i64 k:=hp 6 (by decide)
   refine ite_y rfl (wp_val (.bool false) ?_ ?_)
   ·simp only [execOp,eval_tmp,eval_const,t15,t19];simp [go_sem]
   ·exact ⟨_,rfl,Below.refl _ _,rfl⟩
  ·intro a W hb0 hs hp hi;have hb:=undrew hb0;clear hb0
   have t20:sl a 20 = .bool false:=hp 7 (by decide)
   exact ite_y rfl (wp_val (sl a 20) rfl ⟨_,rfl,Below.refl _ _,t20⟩)
  ·intro a W hb0 hs hp hi;have hb:=undrew hb0;clear hb0
   have tg:sl a 21 = .bool false:=hp 8 (by decide)
   have t3:sl a 3 = .pointer (some ⟨w.heap.size,0,none⟩):=hi 3 (by decide)
   refine ite_y (wanted_yes rfl rfl (by have hz:a.tmps.size = 60:=hs;rw [hz];decide) tg) (wp_val (.pointer (some ⟨w.heap.size,1,none⟩)) ?_ ?_)
   ·simp only [execOp,eval_tmp,eval_const,t3];simp [go_sem]
   ·exact ⟨_,rfl,Below.refl _ _,rfl⟩
  ·intro a W hb0 hs hp hi;have hb:=undrew hb0;clear hb0
   have tg:sl a 21 = .bool false:=hp 8 (by decide)
   have tt:sl a 22 = .pointer (some ⟨w.heap.size,1,none⟩):=hp 9 (by decide)
   have dd:=(hb.cell (p:=⟨w.heap.size,1,none⟩) (lt_of_cell y1)).trans y1
   refine ite_y (wanted_yes rfl rfl (by have hz:a.tmps.size = 60:=hs;rw [hz];decide) tg) (wp_val (.slice p2 t c2) ?_ ?_)
   ·simp only [execOp,eval_tmp,tt];simp [go_sem,dd]
   ·exact ⟨_,rfl,Below.refl _ _,rfl⟩
  ·intro a W hb0 hs hp hi;have hb:=undrew hb0;clear hb0
   have tg:sl a 21 = .bool false:=hp 8 (by decide)
   have t23:sl a 23 = .slice p2 t c2:=hp 10 (by decide)
   refine ite_y (wanted_yes rfl rfl (by have hz:a.tmps.size = 60:=hs;rw [hz];decide) tg) (wp_val (.int .i64 (t:Nat)) ?_ ?_)
   ·simp only [execOp,resolve,List.map_toArray,List.map,eval_tmp,eval_func,eval_const,t23];simp [go_sem]
   ·exact ⟨_,rfl,Below.refl _ _,rfl⟩
  ·intro a W hb0 hs hp hi;have hb:=undrew hb0;clear hb0
   have tg:sl a 21 = .bool false:=hp 8 (by decide)
   have t0:sl a 0 = .pointer (some ⟨be,0,none⟩):=hi 0 (by decide)
   exact ite_y (wanted_yes rfl rfl (by have hz:a.tmps.size = 60:=hs;rw [hz];decide) tg) (wp_val (sl a 0) rfl ⟨_,rfl,Below.refl _ _,t0⟩)
  ·intro a W hb0 hs hp hi;have hb:=undrew hb0;clear hb0
   have tg:sl a 21 = .bool false:=hp 8 (by decide)
   have tt:sl a 25 = .pointer (some ⟨be,0,none⟩):=hp 12 (by decide)
   refine ite_y (wanted_yes rfl rfl (by have hz:a.tmps.size = 60:=hs;rw [hz];decide) tg) (wp_val (.pointer (some ⟨be,0,none⟩)) ?_ ?_)
   ·simp only [execOp,eval_tmp,tt];simp [go_sem]
   ·exact ⟨_,rfl,Below.refl _ _,rfl⟩
  ·intro a W hb0 hs hp hi;have hb:=undrew hb0;clear hb0
   have tg:sl a 21 = .bool false:=hp 8 (by decide)
   have t26:sl a 26 = .pointer (some ⟨be,0,none⟩):=hp 13 (by decide)
   refine ite_y (wanted_yes rfl rfl (by have hz:a.tmps.size = 60:=hs;rw [hz];decide) tg) (wp_val (.pointer (some ⟨be,1,none⟩)) ?_ ?_)
   ·simp only [execOp,eval_tmp,eval_const,t26];simp [go_sem]
   ·exact ⟨_,rfl,Below.refl _ _,rfl⟩
  ·intro a W hb0 hs hp hi;have hb:=undrew hb0;clear hb0
   have tg:sl a 21 = .bool false:=hp 8 (by decide)
   have tt:sl a 27 = .pointer (some ⟨be,1,none⟩):=hp 14 (by decide)
   have dd:=(hb.cell (p:=⟨be,1,none⟩) (lt_of_cell f1)).trans f1
   refine ite_y (wanted_yes rfl rfl (by have hz:a.tmps.size = 60:=hs;rw [hz];decide) tg) (wp_val (.int .i64 t) ?_ ?_)
   ·simp only [execOp,eval_tmp,tt];simp [go_sem,dd]
   ·exact ⟨_,rfl,Below.refl _ _,rfl⟩
  ·intro a W hb0 hs hp hi;have hb:=undrew hb0;clear hb0
   have tg:sl a 21 = .bool false:=hp 8 (by decide)
   have t24:sl a 24 = .int .i64 (t:Nat):=hp 11 (by decide)
   have t28:sl a 28 = .int .i64 t:=hp 15 (by decide)
   refine ite_y (wanted_yes rfl rfl (by have hz:a.tmps.size = 60:=hs;rw [hz];decide) tg) (wp_val (.bool false) ?_ ?_)
   ·simp only [execOp,eval_tmp,eval_const,t24,t28];simp [go_sem]
   ·exact ⟨_,rfl,Below.refl _ _,rfl⟩
  ·intro a W hb0 hs hp hi;have hb:=undrew hb0;clear hb0
   have t21:sl a 21 = .bool false:=hp 8 (by decide)
   have t29:sl a 29 = .bool false:=hp 16 (by decide)
   refine ite_y rfl (wp_val (.bool false) ?_ ?_)
   ·simp only [execOp,eval_tmp,eval_const,t21,t29];simp [go_sem]
   ·exact ⟨_,rfl,Below.refl _ _,rfl⟩
 intro a w3 hb hs hd hI ht
 have ha:=act_is [13,14,15,16,17,18,19,20,21,22,23,24,25,26,27,28,29,30] hs hd ht (by decide)
 have t30:sl a 30 = .bool false:=hI 17 (by decide)
 simp only [List.foldl,t30] at ha
 generalize sl a 13 = u13 at ha
 generalize sl a 14 = u14 at ha
 generalize sl a 15 = u15 at ha
 generalize sl a 16 = u16 at ha
 generalize sl a 17 = u17 at ha
 generalize sl a 18 = u18 at ha
 generalize sl a 19 = u19 at ha
 generalize sl a 20 = u20 at ha
 generalize sl a 21 = u21 at ha
 generalize sl a 22 = u22 at ha
 generalize sl a 23 = u23 at ha
 generalize sl a 24 = u24 at ha
 generalize sl a 25 = u25 at ha
 generalize sl a 26 = u26 at ha
 generalize sl a 27 = u27 at ha
 generalize sl a 28 = u28 at ha
 generalize sl a 29 = u29 at ha
 simp only [Act.put,List.setIfInBounds_toArray,List.set_cons_zero,List.set_cons_succ] at ha
 rw [ha]
 clear ha hI ht
 have B3:=Lib.hid (bl B2.out hb B2.out.size)
 have X3:=Lib.hid ((hb.block _ (blk_lt X2.out)).trans X2.out);have Z3:=Lib.hid ((hb.block _ (blk_lt Z2.out)).trans Z2.out)
 have hsz3:w.heap.size + 2≤w3.heap.size:=by have:=blk_lt Z3.out;omega
 clear hb B2 X2 Z2 E2 f0 f1 f2 y0 y1
 obtain ⟨y0,y1⟩:=cells2 X3.out
 go_wp2_with fail
 refine Calls.mono (RClone_any p1 p2 k c1 t c2 x.1 x.2 w3 (S1.out.keep B3.out) (S2.out.keep B3.out) (by unfold Room;omega) (by unfold Room;omega)) ?_
 rintro e w4 ⟨q1,m1,g1,q2,m2,g2,l1,l2,rfl,o1,o2,hb⟩
 have B4:=Lib.hid (bl B3.out hb B3.out.size)
 have Z4:=Lib.hid ((hb.block _ (blk_lt Z3.out)).trans Z3.out)
 have O1:=Lib.hid (owns_mono o1 hsz3);have O2:=Lib.hid (owns_mono o2 hsz3)
 have E4:=Lib.hid (HE.out.keep B4.out)
 have BA:Hid (∀ o,Below w4.heap.size w4 (w4.alloc o)):=fun o=>al (Below.refl _ _) (Nat.le_refl _)
 have hb4:w.heap.size + 2≤w4.heap.size:=Nat.le_trans hsz3 hb.size
 clear hb o1 o2 B3 X3 Z3 y0 y1 l1 l2
 obtain ⟨f0,f1,f2⟩:=cells3 (hal (o:=.cells #[.slice q1 m1 g1,.slice q2 m2 g2] 99) E4.out.box)
 obtain ⟨b6,h6⟩:∃ b6,b6 = w4.heap.size:=⟨_,rfl⟩
 go_wp2
 clear f0 f1 f2
 rw [← h6]
 have hb6w:w.heap.size + 2≤b6:=by omega
 have H6:=Lib.hid h6
 clear h6
 go_loopw [39] (fun i wr=>∃ (j:Nat) (q1:Option Addr) (m1 g1:Nat) (q2:Option Addr) (m2 g2:Nat),j≤n∧i = .int .i64 j∧Hid (wr.heap[b6]? = some (.cells #[.slice q1 m1 g1,.slice q2 m2 g2] 99 (0,0))) ∧
  Hid (wr.ownsRow (w.heap.size + 2) 5 1 (.slice q1 m1 g1) m1 ((restF (K.take j) x).1.map B8))∧Hid (wr.ownsRow (w.heap.size + 2) 5 1 (.slice q2 m2 g2) m2 ((restF (K.take j) x).2.map B8))∧Hid (Below w.heap.size w wr) ∧
  Hid (wr.heap[w.heap.size + 1]? = some (.cells #[.slice none 0 0,.slice none 0 0] 99 (0,0)))) (fun i _=>n - (intOf i).toNat)
 case atStart=>exact ⟨0,q1,m1,g1,q2,m2,g2,Nat.zero_le _,rfl,hnew H6.out,owns_keep O1.out (BA.out _),owns_keep O2.out (BA.out _),bl B4.out (BA.out _) B4.out.size,hal Z4.out⟩
 case round =>
  clear O1 O2 B4 Z4 E4 BA
  obtain ⟨j,q1,m1,g1,q2,m2,g2,hj,rfl,hL,hO1,hO2,hB,hZ⟩:=hrel
  by_cases hjl:j < n
  ·obtain ⟨gk,kk,a1,b1,d1,a2,b2,d2,rfl,e1,e2,hkk,t1,t2⟩:=(HE.out.keep hB.out).rows.at hjl
   have T1:=Lib.hid t1;have T2:=Lib.hid t2
   have jn:(j:Int) < (n:Int):=by omega
   have fk:=HK.out kk (List.mem_of_getElem? hkk.out)
   obtain ⟨XJ,hXJ⟩:∃ XJ,XJ = restF (K.take j) x:=⟨_,rfl⟩
   have fitX:Fit k t XJ:=by rw [hXJ];exact HX.out.rest (fun a ha=>(HK.out a (List.mem_of_mem_take ha)).1)
   rw [← hXJ] at hO1 hO2
   obtain ⟨LJ,hLJ⟩:∃ LJ,LJ = leadS kk.1:=⟨_,rfl⟩
   obtain ⟨CJ,hCJ⟩:∃ CJ,CJ = atS XJ.1 LJ:=⟨_,rfl⟩
   obtain ⟨YJ,hYJ⟩:∃ YJ,YJ = lessF XJ CJ kk:=⟨_,rfl⟩
   have hnext:Hid (restF (K.take (j + 1)) x = YJ):=by show _ = _;rw [restF_take hkk.out,← hXJ,hYJ,hCJ,hLJ]
   have lm1:m1 = k:=by have:=(Sl.of_owns hO1.out).len;rw [fitX.1] at this;exact this.symm
   have lm2:m2 = t:=by have:=(Sl.of_owns hO2.out).len;rw [fitX.2] at this;exact this.symm
   have HLD:Hid (∀ W,Sl B8 W a1 b1 d1 kk.1→Calls Tryz.prog 115 #[.slice a1 b1 d1] W fun e w'=>e = .returned (.int .i64 LJ)∧W = w'):=fun W h=>by rw [hLJ];exact Lead_any _ _ _ _ W h
   have HAT:Hid (∀ W,Sl B8 W q1 m1 g1 XJ.1→Calls Tryz.prog 116 #[.slice q1 m1 g1,.int .i64 LJ] W fun e w'=>e = .returned (B8 CJ)∧W = w'):=fun W h=>by rw [hCJ];exact At_any _ _ _ _ LJ W h
   have HLS:Hid (∀ W,Sl B8 W q1 m1 g1 XJ.1→Sl B8 W q2 m2 g2 XJ.2→Sl B8 W a1 b1 d1 kk.1→Sl B8 W a2 b2 d2 kk.2→Calls Tryz.prog 117 #[.agg #[.slice q1 m1 g1,.slice q2 m2 g2],B8 CJ,.agg #[.slice a1 b1 d1,.slice a2 b2 d2]] W (RetR2 5 W YJ 0)):=fun W h1 h2 h3 h4=>by
    have:=Less_any q1 q2 a1 a2 m1 g1 m2 g2 b1 d1 b2 d2 XJ.1 XJ.2 kk.1 kk.2 CJ W h1 h2 h3 h4 (by rw [lm1];unfold Room;omega) (by rw [lm2];unfold Room;omega)
    rw [lessS_fit (n:=k) (t:=t) (x:=XJ) (k:=kk) fitX fk.1,← hYJ] at this
    exact this
   have hYz:Hid (CJ = 0→YJ = XJ):=fun h=>by rw [hYJ,h];exact less_zero fitX fk.1
   have E1':=Lib.hid e1;have E2':=Lib.hid e2
   clear hXJ hLJ hCJ hYJ fk fitX lm1 lm2 t1 t2
   go_wp2
   clear e1 e2
   have ba:Below wr.heap.size wr (wr.alloc (.cells #[.slice a1 b1 d1,.slice a2 b2 d2] 99)):=al (Below.refl _ _) (Nat.le_refl _)
   have bx:(wr.alloc (.cells #[.slice a1 b1 d1,.slice a2 b2 d2] 99)).heap[wr.heap.size]? = some (.cells #[.slice a1 b1 d1,.slice a2 b2 d2] 99 (0,0)):=hnew rfl
   generalize wr.alloc (.cells #[.slice a1 b1 d1,.slice a2 b2 d2] 99) = w5 at ba bx ⊢
   have BA:=Lib.hid ba;have BX:=Lib.hid bx
   clear ba bx
   have L5:=Lib.hid ((BA.out.block _ (blk_lt hL.out)).trans hL.out)
   obtain ⟨y0,y1⟩:=cells2 L5.out
   obtain ⟨u0,u1⟩:=cells2 BX.out
   refine wp_region_shapes (fun ix=>([.val (.pointer (some ⟨b6,0,none⟩)),.val (.slice q1 m1 g1),.val (.pointer (some ⟨wr.heap.size,0,none⟩)),.val (.slice a1 b1 d1),.val (.int .i64 LJ),.val (B8 CJ),.val (B8 CJ)][ix]?).getD (.any)) 60 rfl (by kernel_rfl) (by decide) (by decide) (by decide) ?_ ?_
   ·refine ⟨?_,?_,?_,?_,?_,?_,?_,trivial⟩
    ·intro a W hb0 hs hp hi;have hb:=undrew hb0;clear hb0
     have t6:sl a 6 = .pointer (some ⟨b6,0,none⟩):=hi 6 (by decide)
     refine ite_y rfl (wp_val (.pointer (some ⟨b6,0,none⟩)) ?_ ?_)
     ·simp only [execOp,eval_tmp,eval_const,t6];simp [go_sem]
     ·exact ⟨_,rfl,Below.refl _ _,rfl⟩
    ·intro a W hb0 hs hp hi;have hb:=undrew hb0;clear hb0
     have tt:sl a 43 = .pointer (some ⟨b6,0,none⟩):=hp 0 (by decide)
     have dd:=(hb.cell (p:=⟨b6,0,none⟩) (lt_of_cell y0)).trans y0
     refine ite_y rfl (wp_val (.slice q1 m1 g1) ?_ ?_)
     ·simp only [execOp,eval_tmp,tt];simp [go_sem,dd]
     ·exact ⟨_,rfl,Below.refl _ _,rfl⟩
    ·intro a W hb0 hs hp hi;have hb:=undrew hb0;clear hb0
     have t8:sl a 8 = .pointer (some ⟨wr.heap.size,0,none⟩):=hi 8 (by decide)
     refine ite_y rfl (wp_val (.pointer (some ⟨wr.heap.size,0,none⟩)) ?_ ?_)
     ·simp only [execOp,eval_tmp,eval_const,t8];simp [go_sem]
     ·exact ⟨_,rfl,Below.refl _ _,rfl⟩
    ·intro a W hb0 hs hp hi;have hb:=undrew hb0;clear hb0
     have tt:sl a 45 = .pointer (some ⟨wr.heap.size,0,none⟩):=hp 2 (by decide)
     have dd:=(hb.cell (p:=⟨wr.heap.size,0,none⟩) (lt_of_cell u0)).trans u0
     refine ite_y rfl (wp_val (.slice a1 b1 d1) ?_ ?_)
     ·simp only [execOp,eval_tmp,tt];simp [go_sem,dd]
     ·exact ⟨_,rfl,Below.refl _ _,rfl⟩
    ·intro a W hb0 hs hp hi;have hb:=undrew hb0;clear hb0
     have t46:sl a 46 = .slice a1 b1 d1:=hp 3 (by decide)
     refine ite_y rfl (wp_enter 115 #[.slice a1 b1 d1] ?_ (HLD.out W (T1.out.keep (BA.out.trans (hb.mono BA.out.size)))) ?_)
     ·simp only [execOp,resolve,List.map_toArray,List.map,eval_tmp,eval_func,eval_const,t46];simp [go_sem]
     ·rintro e W' ⟨rfl,rfl⟩;exact ⟨_,rfl,_,rfl,Below.refl _ _,rfl⟩
    ·intro a W hb0 hs hp hi;have hb:=undrew hb0;clear hb0
     have t44:sl a 44 = .slice q1 m1 g1:=hp 1 (by decide)
     have t47:sl a 47 = .int .i64 LJ:=hp 4 (by decide)
     refine ite_y rfl (wp_enter 116 #[.slice q1 m1 g1,.int .i64 LJ] ?_ (HAT.out W (Sl.of_owns (owns_keep hO1.out (BA.out.trans (hb.mono BA.out.size))))) ?_)
     ·simp only [execOp,resolve,List.map_toArray,List.map,eval_tmp,eval_func,eval_const,t44,t47];simp [go_sem]
     ·rintro e W' ⟨rfl,rfl⟩;exact ⟨_,rfl,_,rfl,Below.refl _ _,rfl⟩
    ·intro a W hb0 hs hp hi;have hb:=undrew hb0;clear hb0
     have t48:sl a 48 = B8 CJ:=hp 5 (by decide)
     exact ite_y rfl (wp_val (sl a 48) rfl ⟨_,rfl,Below.refl _ _,t48⟩)
   intro a w6 hb hs hd hI ht
   have ha:=act_is [43,44,45,46,47,48,9] hs hd ht (by decide)
   have t9:sl a 9 = B8 CJ:=hI 6 (by decide)
   simp only [List.foldl,t9] at ha
   generalize sl a 43 = u43 at ha
   generalize sl a 44 = u44 at ha
   generalize sl a 45 = u45 at ha
   generalize sl a 46 = u46 at ha
   generalize sl a 47 = u47 at ha
   generalize sl a 48 = u48 at ha
   simp only [Act.put,List.setIfInBounds_toArray,List.set_cons_zero,List.set_cons_succ] at ha
   rw [ha]
   clear ha hI ht
   have B6:=Lib.hid (BA.out.trans (hb.mono BA.out.size))
   have L6:=Lib.hid ((hb.block _ (blk_lt L5.out)).trans L5.out);have X6:=Lib.hid ((hb.block _ (blk_lt BX.out)).trans BX.out)
   have Z6:=Lib.hid ((B6.out.block _ (blk_lt hZ.out)).trans hZ.out)
   have O16:=Lib.hid (owns_keep hO1.out B6.out);have O26:=Lib.hid (owns_keep hO2.out B6.out)
   have BB6:=Lib.hid (bl hB.out B6.out hB.out.size)
   have T16:=Lib.hid (T1.out.keep B6.out);have T26:=Lib.hid (T2.out.keep B6.out)
   clear hb BA BX L5 y0 y1 u0 u1 hL hO1 hO2 hZ T1 T2 hB HLD HAT
   by_cases hc:CJ = 0
   ·have hz:((CJ.toNat:Int) != 0) = false:=by rw [hc];rfl
    have P1:Hid (w6.ownsRow (w.heap.size + 2) 5 1 (.slice q1 m1 g1) m1 ((restF (K.take (j + 1)) x).1.map B8)):=by show World.ownsRow _ _ _ _ _ _ _;rw [hnext.out,hYz.out hc];exact O16.out
    have P2:Hid (w6.ownsRow (w.heap.size + 2) 5 1 (.slice q2 m2 g2) m2 ((restF (K.take (j + 1)) x).2.map B8)):=by show World.ownsRow _ _ _ _ _ _ _;rw [hnext.out,hYz.out hc];exact O26.out
    clear hc hnext hYz O16 O26 HLS B6 T16 T26
    go_wp2
    go_roundw
    case rel=>exact ⟨j + 1,q1,m1,g1,q2,m2,g2,by omega,by go_num,L6.out,P1.out,P2.out,BB6.out,Z6.out⟩
    case measure=>simp [intOf];omega
   ·have hz:((CJ.toNat:Int) != 0) = true:=by simp;exact fun h=>hc (UInt8.toNat_inj.1 (by simpa using h))
    obtain ⟨y0,y1⟩:=cells2 L6.out
    obtain ⟨u0,u1⟩:=cells2 X6.out
    clear hc hYz
    go_wp2_with fail
    refine Calls.mono (HLS.out _ (Sl.of_owns O16.out) (Sl.of_owns O26.out) T16.out T26.out) ?_
    rintro e w7 ⟨q5,m5,g5,q6,m6,g6,e5,e6,rfl,o5,o6,hb⟩
    have L7:=Lib.hid ((hb.block _ (blk_lt L6.out)).trans L6.out)
    have Z7:=Lib.hid ((hb.block _ (blk_lt Z6.out)).trans Z6.out)
    have BB7:=Lib.hid (bl BB6.out hb BB6.out.size)
    have hb6:b6 < w6.heap.size:=blk_lt L6.out
    have hsz6:w.heap.size + 2≤w6.heap.size:=by have:=B6.out.size;have:=blk_lt Z6.out;omega
    have NX:Hid (((w7.setCell ⟨b6,0,none⟩ (.slice q5 m5 g5)).setCell ⟨b6,1,none⟩ (.slice q6 m6 g6)).heap[b6]? = some (.cells #[.slice q5 m5 g5,.slice q6 m6 g6] 99 (0,0)) ∧
      ((w7.setCell ⟨b6,0,none⟩ (.slice q5 m5 g5)).setCell ⟨b6,1,none⟩ (.slice q6 m6 g6)).ownsRow (w.heap.size + 2) 5 1 (.slice q5 m5 g5) m5 ((restF (K.take (j + 1)) x).1.map B8) ∧
      ((w7.setCell ⟨b6,0,none⟩ (.slice q5 m5 g5)).setCell ⟨b6,1,none⟩ (.slice q6 m6 g6)).ownsRow (w.heap.size + 2) 5 1 (.slice q6 m6 g6) m6 ((restF (K.take (j + 1)) x).2.map B8) ∧
      Below w.heap.size w ((w7.setCell ⟨b6,0,none⟩ (.slice q5 m5 g5)).setCell ⟨b6,1,none⟩ (.slice q6 m6 g6)) ∧
      ((w7.setCell ⟨b6,0,none⟩ (.slice q5 m5 g5)).setCell ⟨b6,1,none⟩ (.slice q6 m6 g6)).heap[w.heap.size + 1]? = some (.cells #[.slice none 0 0,.slice none 0 0] 99 (0,0))):=by
     rw [hnext.out]
     have hge:w.heap.size≤b6:=by omega
     have hne:w.heap.size + 1≠b6:=by omega
     exact ⟨hss (hss L7.out),owns_mono (owns_set (owns_set o5 hb6) hb6) hsz6,owns_mono (owns_set (owns_set o6 hb6) hb6) hsz6,(BB7.out.setCell hge _).setCell hge _,hsc (hsc Z7.out hne) hne⟩
    clear o5 o6 hb L6 Z6 BB6 X6 u0 u1 y0 y1 O16 O26 T16 T26 B6 hnext e5 e6 Z7 BB7
    obtain ⟨y0,y1⟩:=cells2 L7.out
    have v0:=frozen_of_row _ _ 0 _ _ L7.out
    have v1:=frozen_of_row _ _ 1 _ _ L7.out
    go_wp2
    generalize (w7.setCell ⟨b6,0,none⟩ (.slice q5 m5 g5)).setCell ⟨b6,1,none⟩ (.slice q6 m6 g6) = wn at NX ⊢
    go_roundw
    case rel=>exact ⟨j + 1,q5,m5,g5,q6,m6,g6,by omega,by go_num,NX.out.1,NX.out.2.1,NX.out.2.2.1,NX.out.2.2.2.1,NX.out.2.2.2.2⟩
    case measure=>simp [intOf];omega
  ·have hjn:j = n:=by omega
   have hge:(n:Int)≤(j:Int):=by omega
   have P1:Hid (wr.ownsRow (w.heap.size + 2) 5 1 (.slice q1 m1 g1) m1 ((restF K x).1.map B8)):=by have h:=hO1.out;rw [List.take_of_length_le (by rw [HLEN.out];omega)] at h;exact h
   have P2:Hid (wr.ownsRow (w.heap.size + 2) 5 1 (.slice q2 m2 g2) m2 ((restF K x).2.map B8)):=by have h:=hO2.out;rw [List.take_of_length_le (by rw [HLEN.out];omega)] at h;exact h
   have hl1:Hid ((restF K x).1.length = m1):=(Sl.of_owns P1.out).len
   have hl2:Hid ((restF K x).2.length = m2):=(Sl.of_owns P2.out).len
   obtain ⟨y0,y1⟩:=cells2 hL.out
   obtain ⟨f0,f1⟩:=cells2 hZ.out
   have z0:=frozen_of_row _ _ 0 _ _ hZ.out
   have z1:=frozen_of_row _ _ 1 _ _ hZ.out
   clear hjn hO1 hO2 hL
   go_wp2
   refine bodyPost_ret (results_cell_tmp rfl _ _ _ 99 #[.slice q1 m1 g1,.slice q2 m2 g2] (0,0) _ (.int .i64 0) rfl (hss (hss hZ.out)) rfl Tryz.underlying99 rfl hinfo) rfl ⟨q1,m1,g1,q2,m2,g2,hl1,hl2,rfl,?_,?_,(hB.out.setCell (by simp) _).setCell (by simp) _⟩
   ·exact owns_mono (owns_set (owns_set P1.out (by simp)) (by simp)) (by simp)
   ·exact owns_mono (owns_set (owns_set P2.out (by simp)) (by simp)) (by simp)
end Go.Proofs.YtccaiiigdfieoaaGreatDoor
namespace Go.Proofs.YtccaiiigdfieoaaGreatDoor
open Go.RowKit Go.By
set_option maxRecDepth 100000 in
set_option maxHeartbeats 4000000 in
theorem Search_any (f:Nat→Bool) (g:Nat) (lb:Array Value) (eg:Enters Tryz.prog g) (n:Nat) (w:World) (hn:n≤65536)
  (hf:∀ (W:World) (i:Nat),Below w.heap.size w W→i < n→Calls Tryz.prog g (#[.int .i64 i] ++ lb) W fun e w'=>e = .returned (.bool (f i))∧Below W.heap.size W w') (hm:∀ i j,i≤j→j < n→f i = true→f j = true) :
  Calls Tryz.prog 119 #[.int .i64 n,.func (.func g) #[] lb] w fun e w'=>∃ r:Nat,r≤n∧e = .returned (.int .i64 r)∧(∀ i,i < r→f i = false)∧(∀ i,r≤i→i < n→f i = true)∧Below w.heap.size w w':=by
 have HF:=Lib.hid hf;have HM:=Lib.hid hm
 clear hf hm
 have eg':∀ args w,(callFunc g args).run Tryz.prog w = .ok (.enter g args) w:=eg
 clear eg
 go_enter Tryz.func119,Tryz.ntmps119
 go_wp2
 go_loopw [5,6] (fun i j wr=>∃ (a b:Nat),a≤b∧b≤n∧i = .int .i64 a∧j = .int .i64 b∧Hid (∀ x,x < a→f x = false)∧Hid (∀ x,b≤x→x < n→f x = true)∧Hid (Below w.heap.size w wr)) (fun i j _=>(intOf j).toNat - (intOf i).toNat)
 case atStart=>exact ⟨0,n,Nat.zero_le _,Nat.le_refl _,rfl,rfl,fun x hx=>by omega,fun x h1 h2=>by omega,Below.refl _ _⟩
 case round =>
  obtain ⟨a,b,hab,hbn,rfl,rfl,hlo,hhi,hB⟩:=hrel
  by_cases hlt:a < b
  ·have an:(a:Int) < (b:Int):=by omega
   have w1:IntKind.i64.wrap ((a:Int) + (b:Int)) = ((a + b:Nat):Int):=by rw [← Int.natCast_add];exact Go.IntWalk.i64_in _ (by omega)
   go_wp2_with fail
   obtain ⟨m,hmid⟩:∃ m,m = (a + b) / 2:=⟨_,rfl⟩
   have hmz:((a:Int) + (b:Int)) / 2 = ((m:Nat):Int):=by omega
   have ham:a≤m:=by omega
   have hmb:m < b:=by omega
   rw [hmz]
   refine (HF.out wr m hB.out (by omega)).mono ?_
   rintro e w2 ⟨rfl,hb⟩
   have B2:=Lib.hid (bl hB.out hb hB.out.size)
   clear hb hmz hmid w1 hB
   cases hfm:f m with
   | false =>
    have HL:=Lib.hid hfm
    clear hfm
    have HN:Hid (∀ x,x < m + 1→f x = false):=fun x hx=>by
     cases hfx:f x with
     | false=>rfl
     | true=>have h:=HM.out x m (by omega) (by omega) hfx;rw [HL.out] at h;cases h
    go_wp2
    go_roundw
    case rel=>exact ⟨m + 1,b,by omega,hbn,by go_num,rfl,HN.out,hhi.out,B2.out⟩
    case measure=>simp [intOf];omega
   | true =>
    have HL:=Lib.hid hfm
    clear hfm
    go_wp2
    go_roundw
    case rel=>exact ⟨a,m,ham,by omega,rfl,rfl,hlo.out,fun x h1 h2=>HM.out m x h1 h2 HL.out,B2.out⟩
    case measure=>simp [intOf];omega
  ·have hge:(b:Int)≤(a:Int):=by omega
   have hba:b = a:=by omega
   subst hba
   go_wp2
   go_ret
   exact ⟨b,hbn,rfl,hlo.out,hhi.out,hB.out⟩
end Go.Proofs.YtccaiiigdfieoaaGreatDoor
namespace Go.By
open Go.RowKit
theorem heap_setCells {g T:Nat}:∀ (vs:List Value) (o:Nat) (w:World) (cur:List Value),w.heap[g]? = some (.cells cur.toArray T (0,0))→o + vs.length≤cur.length →
  (w.setCells g o vs).heap[g]? = some (.cells (cur.take o ++ vs ++ cur.drop (o + vs.length)).toArray T (0,0))
 | [],o,w,cur,h,_=>by simpa [World.setCells] using h
 | v :: r,o,w,cur,h,hl=>by
  have hl':o + (r.length + 1)≤cur.length:=hl
  have h1:(w.setCell ⟨g,o,none⟩ v).heap[g]? = some (.cells (cur.set o v).toArray T (0,0)):=by
   rw [hss h];simp
  rw [World.setCells,heap_setCells r (o + 1) _ _ h1 (by rw [List.length_set];omega)]
  congr 3
  apply List.ext_getElem?
  intro j
  simp only [List.getElem?_append,List.length_append,List.length_take,List.length_set,List.length_cons,List.getElem?_take,List.getElem?_drop,List.getElem?_set,List.getElem?_cons,show min (o + 1) cur.length = o + 1 by omega,show min o cur.length = o by omega]
  by_cases c1:j < o
  ·simp [c1,show j < o + 1 by omega,show j < o + 1 + r.length by omega,show j < o + (r.length + 1) by omega,show ¬ o = j by omega]
  ·by_cases c2:j = o
   ·subst c2;simp [show j < j + 1 + r.length by omega,show j < cur.length by omega]
   ·by_cases c3:j < o + 1 + r.length
    ·simp [c1,c3,show ¬ j < o + 1 by omega,show j < o + (r.length + 1) by omega,show ¬ j - o = 0 by omega,show j - o - 1 = j - (o + 1) by omega]
    ·simp [c1,c3,show ¬ j < o + (r.length + 1) by omega,show ¬ o = o + 1 + r.length + (j - (o + 1 + r.length)) by omega,show o + (r.length + 1) + (j - (o + (r.length + 1))) = o + 1 + r.length + (j - (o + 1 + r.length)) by omega]
theorem grownBy_setCell (w:World) (g o:Nat) (v:Value):w.grownBy (w.setCell ⟨g,o,none⟩ v) (some g) :=
 ⟨rfl,rfl,rfl,by simp,fun i hi hne=>by
  have e:i≠g:=fun e=>hne (by rw [e])
  have:=hsc (w:=w) (a:=⟨g,o,none⟩) (v:=v) (x:=w.heap[i]) (i:=i) (Array.getElem?_eq_getElem hi) e
  rw [this,Array.getElem?_eq_getElem hi]⟩
theorem grownBy_setCells (g:Nat):∀ (vs:List Value) (o:Nat) (w:World),w.grownBy (w.setCells g o vs) (some g)
 | [],_,w=>World.grownBy.refl _ _
 | v :: r,o,w=>grown_trans (grownBy_setCell w g o v) (grownBy_setCells g r (o + 1) _)
theorem grownBy_drew (w:World) (row:Option Nat):w.grownBy w.drew row:=⟨rfl,rfl,rfl,Nat.le_refl _,fun _ _ _=>rfl⟩
def pcs (us:List (Value × Int)):List Value:=us.flatMap fun u=>[u.1,.int .i64 u.2]
theorem pcs_append (us vs:List (Value × Int)):pcs (us ++ vs) = pcs us ++ pcs vs:=by simp [pcs]
theorem owns2_open {w:World} {base T n c:Nat} {q:Option Addr} {L:List Value} (h:w.ownsRow base T 2 (.slice q n c) n L) (h0:0 < n) :
  ∃ g cur,q = some ⟨g,0,none⟩∧base≤g∧w.heap[g]? = some (.cells (List.toArray cur) T (0,0))∧n≤c∧c≤maxLen∧cur.length = c * 2∧cur.take (n * 2) = L:=by
 rcases h.2 with ⟨h1,rfl⟩ | ⟨g,cap,cur,hv,hg,hh,h1,h2,h3,h4⟩
 ·omega
 ·obtain ⟨rfl,rfl⟩:q = some ⟨g,0,none⟩∧c = cap:=by simpa using hv
  exact ⟨g,cur.toList,rfl,hg,by simpa using hh,h1,h2,by simpa using h3,by simpa using h4⟩
theorem owns2_shut {w:World} {base T n c g:Nat} {cur L:List Value} (hg:base≤g) (hh:w.heap[g]? = some (.cells (List.toArray cur) T (0,0))) (h1:n≤c) (h2:c≤maxLen) (h3:cur.length = c * 2) (h4:cur.take (n * 2) = L) :
  w.ownsRow base T 2 (.slice (some ⟨g,0,none⟩) n c) n L :=
 ⟨by rw [← h4,List.length_take];omega,.inr ⟨g,c,cur.toArray,rfl,hg,hh,h1,h2,by simpa using h3,by simpa using h4⟩⟩
theorem cell_arr {w:World} {g T:Nat} {cur:List Value} (h:w.heap[g]? = some (.cells (List.toArray cur) T (0,0))) (j:Nat):w.cell? ⟨g,j,none⟩ = cur[j]?:=by
 rw [cell_of_row _ _ j _ T (0,0) h];simp
theorem frozen_arr {w:World} {g T:Nat} {cur:List Value} (h:w.heap[g]? = some (.cells (List.toArray cur) T (0,0))) (j:Nat):w.frozen? ⟨g,j,none⟩ = false:=frozen_of_row _ _ j _ _ h
theorem run_copy_two {P:Program} (w:World) (dT sT ty elem:TypeId) (b o dLen dCap:Nat) (a:Addr) (sLen sCap:Nat) (cs:List Value)
  (hu:P.underlying dT = some (.slice elem)) (hs:(P.info? elem).map (·.size) = some 2) (hn:cs.length = Nat.min sLen dLen * 2)
  (hsrc:∀ j v,cs[j]? = some v→w.cell? (a.add j) = some v) (hc:∀ j,j < cs.length→(w.cell? ⟨b,o + j,none⟩).isSome = true) (hf:∀ j,j < cs.length→w.frozen? ⟨b,o + j,none⟩ = false) (h1:∀ v ∈ cs,v.oneCell' = true) :
  (Builtin.copy_ #[dT,sT] ty #[.slice (some ⟨b,o,none⟩) dLen dCap,.slice (some a) sLen sCap]).run P w = .ok (goInt (Nat.min sLen dLen)) (w.setCells b o cs):=by
 have hl:=run_loadCells_list (P:=P) w a cs hsrc
 have hst:=run_storeCells_cells (P:=P) b o cs 0 w (by simpa using hc) (by simpa using hf) h1
 cases hq:P.info? elem with
 | none=>simp [hq] at hs
 | some i =>
  have hi:i.size = 2:=by simpa [hq] using hs
  simp only [Nat.add_zero] at hst
  simp [Builtin.copy_,run_underlying hu,Builtin.lenOf,Builtin.firstCells,sizeOf,typeInfo,hq,hi,← hn,hl,hst]
end Go.By
namespace Go.By
open Go.RowKit
theorem fl2_cons (u:Value × Value) (us:List (Value × Value)):fl2 (u :: us) = u.1 :: u.2 :: fl2 us:=rfl
theorem fl2_one {us:List (Value × Value)} (h:∀ u,u ∈ us→u.1.oneCell' = true∧u.2.oneCell' = true):∀ v,v ∈ fl2 us→v.oneCell' = true:=by
 intro v hv
 obtain ⟨u,hu,hv⟩:=List.mem_flatMap.1 hv
 simp at hv
 rcases hv with rfl | rfl
 ·exact (h u hu).1
 ·exact (h u hu).2
end Go.By
namespace Go.Proofs.YtccaiiigdfieoaaGreatDoor
open Go.RowKit Go.By
theorem owns2_some {w:World} {base T n c g:Nat} {L:List Value} (h:w.ownsRow base T 2 (.slice (some ⟨g,0,none⟩) n c) n L) :
  ∃ cur,base≤g∧w.heap[g]? = some (.cells (List.toArray cur) T (0,0))∧n≤c∧c≤maxLen∧cur.length = c * 2∧cur.take (n * 2) = L:=by
 rcases h.2 with ⟨h1,_⟩ | ⟨g',cap,cur,hv,hg,hh,h1,h2,h3,h4⟩
 ·simp at h1
 ·obtain ⟨rfl,rfl⟩:g = g'∧c = cap:=by simpa using hv
  exact ⟨cur.toList,hg,by simpa using hh,h1,h2,by simpa using h3,by simpa using h4⟩
set_option maxRecDepth 100000 in
set_option maxHeartbeats 2000000 in
theorem InsRoom_any (base g n c vb:Nat) (us:List (Value × Value)) (u:Value × Value) (w:World) (h:w.ownsRow base 99 2 (.slice (some ⟨g,0,none⟩) n c) n (fl2 us)) (hroom:n + 1≤c) (hu:u.1.oneCell' = true∧u.2.oneCell' = true)
  (hv:w.heap[vb]? = some (.cells #[u.1,u.2] 99 (0,0))) :
  Calls Tryz.prog 120 #[.slice (some ⟨g,0,none⟩) n c,.int .i64 n,.slice (some ⟨vb,0,none⟩) 1 1] w fun e w' =>
   e = .returned (.slice (some ⟨g,0,none⟩) (n + 1) c)∧w'.ownsRow base 99 2 (.slice (some ⟨g,0,none⟩) (n + 1) c) (n + 1) (fl2 (us ++ [u]))∧w.grownBy w' (some g):=by
 obtain ⟨i0,hi0,hz0,hz1,hz2⟩:=info_parts info_vrow
 obtain ⟨cur,hg,hh,hnc,hcm,hcl,hct⟩:=owns2_some h
 have hr:=fun ty=>run_append_room_cells (P:=Tryz.prog) (w:=w) 44 ty 99 i0 Tryz.underlying44 hi0 g 0 n c ⟨vb,0,none⟩ 1 1 [u.1,u.2] (by rw [hz1];rfl)
  (fun j x hj=>by
   rw [Addr.add_lit,Nat.zero_add,cell_of_row _ _ j _ _ _ hv]
   match j with
   | 0=>simpa using hj
   | 1=>simpa using hj
   | j + 2=>simp at hj)
  (by intro x hx;simp at hx;rcases hx with rfl | rfl;exact hu.1;exact hu.2) hroom
  (fun j hj=>by rw [hz1,cell_arr hh,List.getElem?_eq_getElem (by simp at hj;omega)];rfl) (fun j hj=>frozen_arr hh _)
 rw [hz1,Nat.zero_add] at hr
 have HR:=Lib.hid hr
 have FIN:Hid ((w.setCells g (n * 2) [u.1,u.2]).ownsRow base 99 2 (.slice (some ⟨g,0,none⟩) (n + 1) c) (n + 1) (fl2 (us ++ [u]))∧w.grownBy (w.setCells g (n * 2) [u.1,u.2]) (some g)):=by
  refine ⟨owns2_shut hg (heap_setCells _ _ _ _ hh (by simp;omega)) hroom hcm ?_ ?_,grownBy_setCells g _ _ _⟩
  ·simp only [List.length_append,List.length_take,List.length_drop,hcl,List.length_cons,List.length_nil];omega
  ·rw [fl2_append,← hct,List.take_append_of_le_length (by simp only [List.length_append,List.length_take,List.length_cons,List.length_nil];omega),List.take_of_length_le (by simp only [List.length_append,List.length_take,List.length_cons,List.length_nil];omega)]
   rfl
 unfold maxLen at hcm
 clear h hh hct hr hv hcl hu
 go_enter Tryz.func120,Tryz.ntmps120
 go_wp2_with (at_builtin;refine Lib.wpList_append_run _ rfl _ _ _ _ rfl _ _ rfl rfl _ _ (HR.out _) ?_)
 go_ret
 exact ⟨rfl,FIN.out.1,FIN.out.2⟩
set_option maxRecDepth 100000 in
set_option maxHeartbeats 4000000 in
theorem InsLast_any (base n c vb:Nat) (q:Option Addr) (us:List (Value × Value)) (u:Value × Value) (w:World) (h:w.ownsRow base 99 2 (.slice q n c) n (fl2 us)) (hroom:c < n + 1) (hb:base≤w.heap.size) (hu:u.1.oneCell' = true∧u.2.oneCell' = true) (hn:n≤65536)
  (hv:w.heap[vb]? = some (.cells #[u.1,u.2] 99 (0,0))) :
  Calls Tryz.prog 120 #[.slice q n c,.int .i64 n,.slice (some ⟨vb,0,none⟩) 1 1] w fun e w' =>
   ∃ c',e = .returned (.slice (some ⟨w.heap.size,0,none⟩) (n + 1) c')∧w'.ownsRow base 99 2 (.slice (some ⟨w.heap.size,0,none⟩) (n + 1) c') (n + 1) (fl2 (us ++ [u]))∧w.grownBy w' none:=by
 obtain ⟨i0,hi0,hz0,hzs,hzb⟩:=info_parts info_vrow
 have hul:us.length = n:=by have:=h.1;rw [fl2_length] at this;omega
 have hnc:n≤c∧(q = none→n = 0∧c = 0)∧∀ a,q = some a→∀ j v,(fl2 us)[j]? = some v→w.cell? (a.add j) = some v:=by
  rcases h.2 with ⟨h1,h2⟩ | ⟨g,cap,cur,h1,_,hh,h3,_,h5,h6⟩
  ·have e1:q = none∧n = 0∧c = 0:=by simp at h1;exact ⟨h1.1,h1.2.1,h1.2.2⟩
   refine ⟨by omega,fun _=>⟨e1.2.1,e1.2.2⟩,fun a ha=>?_⟩
   rw [e1.1] at ha;cases ha
  ·obtain ⟨rfl,rfl⟩:q = some ⟨g,0,none⟩∧c = cap:=by simpa using h1
   refine ⟨h3,fun e=>by (cases e),fun a ha j v hj=>?_⟩
   cases ha
   rw [Addr.add_lit,Nat.zero_add,cell_of_row _ _ j _ _ _ hh]
   rw [← h6,List.getElem?_take] at hj
   split at hj
   ·simpa using hj
   ·cases hj
 obtain ⟨hnc,hnil,hcs⟩:=hnc
 have hva:∀ j x,[u.1,u.2][j]? = some x→w.cell? ((⟨vb,0,none⟩:Addr).add j) = some x:=fun j x hj=>by
  rw [Addr.add_lit,Nat.zero_add,cell_of_row _ _ j _ _ _ hv]
  match j with
  | 0=>simpa using hj
  | 1=>simpa using hj
  | j + 2=>simp at hj
 have h1v:∀ v ∈ [u.1,u.2],v.oneCell' = true:=by intro x hx;simp at hx;rcases hx with rfl | rfl;exact hu.1;exact hu.2
 have hsrc:Src Tryz.prog i0.size 44 (.slice (some ⟨vb,0,none⟩) 1 1) 1 [u.1,u.2] w:=by
  rw [hzs]
  exact Src.ofSlice w Tryz.underlying44 ⟨vb,0,none⟩ 1 1 [u.1,u.2] rfl hva h1v
 have hold:(Builtin.firstCells i0.size n (.slice q n c)).run Tryz.prog w.drew = .ok (fl2 us).toArray w.drew:=by
  rw [hzs]
  cases q with
  | none =>
   obtain ⟨rfl,-⟩:=hnil rfl
   have:us = []:=List.length_eq_zero_iff.1 hul
   rw [this]
   exact run_firstCells_none w.drew 2 0 0 c
  | some a=>exact run_firstCells_some w.drew 2 n a n c (fl2 us) (by rw [fl2_length,hul]) (fun j v hj=>hcs a rfl j v hj)
 have hrun:∀ ty,(Builtin.append_ #[44,44] ty #[.slice q n c,.slice (some ⟨vb,0,none⟩) 1 1]).run Tryz.prog w = _:=fun ty =>
  run_append_grow_src w 44 44 ty 99 i0 _ Tryz.underlying44 hi0 hz0 q n c (fl2 us) hold _ 1 [u.1,u.2] hsrc hroom (by omega) (by rw [hzb];exact growslice_fits hroom (by omega))
 obtain ⟨G,hG⟩:∃ G,G = grownCap w (n + 1) c 99:=⟨_,rfl⟩
 rw [← hG] at hrun
 obtain ⟨ROW,hROW⟩:∃ ROW:Array Value,ROW = (fl2 us ++ [u.1,u.2]).toArray ++ Builtin.zeroCells (Value.agg #[.slice none 0 0,.slice none 0 0]).cells (G - (n + 1)):=⟨_,rfl⟩
 rw [← hROW] at hrun
 have hGn:n + 1≤G:=by rw [hG];exact grownCap_ge w _ _ _
 have hGm:G≤maxLen:=by rw [hG];exact grownCap_le_maxLen w (n + 1) c 99 (by unfold maxLen;omega)
 have hz2:(Value.agg #[.slice none 0 0,.slice none 0 0]).cells = #[.slice none 0 0,.slice none 0 0]:=rfl
 have zl:∀ (a b:Value) (k:Nat),(Builtin.zeroCells #[a,b] k).size = k * 2:=fun a b k=>by simp [Builtin.zeroCells]
 have hRl:ROW.size = G * 2:=by
  rw [hROW,hz2,Array.size_append,zl,List.size_toArray,List.length_append,fl2_length,hul];simp;omega
 have FIN:Hid ((w.drew.alloc (.cells ROW 99)).ownsRow base 99 2 (.slice (some ⟨w.heap.size,0,none⟩) (n + 1) G) (n + 1) (fl2 (us ++ [u]))∧w.grownBy (w.drew.alloc (.cells ROW 99)) none):=by
  refine ⟨owns2_shut (cur:=ROW.toList) hb (hnew rfl) hGn hGm (by rw [Array.length_toList,hRl]) ?_,⟨rfl,rfl,rfl,by simp,fun b hb _=>by show (w.heap.push _)[b]? = _;rw [Array.getElem?_push_lt hb,Array.getElem?_eq_getElem hb]⟩⟩
  rw [hROW,Array.toList_append,List.toList_toArray,fl2_append]
  exact List.take_left' (by rw [List.length_append,fl2_length,hul];simp [fl2];omega)
 have HR:=Lib.hid hrun
 clear h hu hv hva h1v hsrc hold hrun hROW hRl hG hcs hul hGn hGm hb
 go_enter Tryz.func120,Tryz.ntmps120
 cases q with
 | none =>
  obtain ⟨rfl,rfl⟩:=hnil rfl
  go_wp2_with (at_builtin;refine Lib.wpList_append_run _ rfl _ _ _ _ rfl _ _ rfl rfl _ _ (HR.out _) ?_)
  go_ret
  exact ⟨_,rfl,FIN.out.1,FIN.out.2⟩
 | some a =>
  obtain ⟨ab,ao,asp⟩:=a
  go_wp2_with (at_builtin;refine Lib.wpList_append_run _ rfl _ _ _ _ rfl _ _ rfl rfl _ _ (HR.out _) ?_)
  all_goals (go_ret;exact ⟨_,rfl,FIN.out.1,FIN.out.2⟩)
theorem InsEnd_any (base n vb:Nat) (v:Value) (us:List (Value × Value)) (u:Value × Value) (w:World) (h:w.ownsRow base 99 2 v n (fl2 us)) (hb:base≤w.heap.size) (hu:u.1.oneCell' = true∧u.2.oneCell' = true) (hn:n≤65536)
  (hv:w.heap[vb]? = some (.cells #[u.1,u.2] 99 (0,0))) :
  Calls Tryz.prog 120 #[v,.int .i64 n,.slice (some ⟨vb,0,none⟩) 1 1] w fun e w' =>
   ∃ v',e = .returned v'∧w'.ownsRow base 99 2 v' (n + 1) (fl2 (us ++ [u]))∧w.grownBy w' v.ownBlock∧(v'.ownBlock = v.ownBlock∨v'.ownBlock = some w.heap.size):=by
 obtain ⟨q,c,rfl⟩:=owns_shape h
 by_cases hroom:n + 1≤c
 ·obtain ⟨g,rfl⟩:∃ g,q = some ⟨g,0,none⟩:=by
   rcases h.2 with ⟨h1,h2⟩ | ⟨g,cap,cur,h1,_⟩
   ·simp at h1;omega
   ·simp at h1;exact ⟨g,h1.1⟩
  refine (InsRoom_any base g n c vb us u w h hroom hu hv).mono ?_
  rintro e w' ⟨rfl,ho,hg⟩
  exact ⟨_,rfl,ho,by simpa [Value.ownBlock] using hg,.inl (by simp [Value.ownBlock])⟩
 ·refine (InsLast_any base n c vb q us u w h (by omega) hb hu hn hv).mono ?_
  rintro e w' ⟨c',rfl,ho,g1,g2,g3,g4,g5⟩
  exact ⟨_,rfl,ho,⟨g1,g2,g3,g4,fun b hb _=>g5 b hb (by simp)⟩,.inr (by simp [Value.ownBlock])⟩
set_option maxRecDepth 100000 in
set_option maxHeartbeats 4000000 in
theorem InsMid_any (base g n c i vb:Nat) (us:List (Value × Value)) (u:Value × Value) (w:World) (h:w.ownsRow base 99 2 (.slice (some ⟨g,0,none⟩) n c) n (fl2 us)) (hi:i < n) (hroom:n + 1≤c) (h1:∀ x,x ∈ us→x.1.oneCell' = true∧x.2.oneCell' = true) (hu:u.1.oneCell' = true∧u.2.oneCell' = true)
  (hv:w.heap[vb]? = some (.cells #[u.1,u.2] 99 (0,0))) (hvb:vb≠g) :
  Calls Tryz.prog 120 #[.slice (some ⟨g,0,none⟩) n c,.int .i64 i,.slice (some ⟨vb,0,none⟩) 1 1] w fun e w' =>
   e = .returned (.slice (some ⟨g,0,none⟩) (n + 1) c)∧w'.ownsRow base 99 2 (.slice (some ⟨g,0,none⟩) (n + 1) c) (n + 1) (fl2 (us.take i ++ u :: us.drop i))∧w.grownBy w' (some g):=by
 obtain ⟨i0,hi0,hz0,hz1,hz2⟩:=info_parts info_vrow
 have hul:us.length = n:=by have:=h.1;rw [fl2_length] at this;omega
 obtain ⟨cur,hg,hh,hnc,hcm,hcl,hct⟩:=owns2_some h
 have hsz:(Tryz.prog.info? 99).map (·.size) = some 2:=by rw [hi0];simp [hz1]
 have hov:∀ lb cb,(callFunc 183 #[.slice (some ⟨vb,0,none⟩) 1 1,.slice (some ⟨g,(i + 1) * 2,none⟩) lb cb]).run Tryz.prog w = .ok (.value (.bool false)) w:=fun lb cb=>by
  rw [run_callFunc_extern Tryz.func183 (by kernel_rfl) (by kernel_rfl) (by kernel_rfl) (e:=Extern.SlicesOverlaps.overlaps #[44,44] #[4]) (by kernel_rfl),
   Lib.run_overlaps_apart w 44 4 99 Tryz.underlying44 2 (fun w=>by simp [Go.sizeOf,typeInfo,hi0,hz1]) ⟨vb,0,none⟩ ⟨g,(i + 1) * 2,none⟩ 1 1 lb cb hvb 99 99 2 (c * 2)
    (by simp [World.shape?,hv]) (by simp [World.shape?,hh,hcl]) (by omega) (frozen_of_row _ _ 0 _ _ hv) (frozen_of_row _ _ 2 _ _ hv)]
  rfl
 have hw1:IntKind.i64.wrap ((i:Int) + 1) = (i:Int) + 1:=by rw [IntKind.wrap_i64];unfold maxLen at hcm;omega
 have hb1:(0:Int)≤(i:Int) + 1:=by omega
 have htn:((i:Int) + 1).toNat = i + 1:=by omega
 have hb2:¬ (c = i + 1):=by omega
 have hb4:¬ (c = i):=by omega
 have hb5:(i:Int) + 1≤(n:Int) + 1:=by omega
 have hb6:(i:Int)≤(n:Int) + 1:=by omega
 have hb7:i + 1≤n + 1:=by omega
 have hb8:i≤n + 1:=by omega
 have hz2':((i:Int) == (n:Int)) = false:=by simp;omega
 obtain ⟨mv,hmv⟩:∃ mv,mv = fl2 (us.drop i):=⟨_,rfl⟩
 have hml:mv.length = (n - i) * 2:=by rw [hmv,fl2_length,List.length_drop,hul]
 have hmc:∀ j v,mv[j]? = some v→cur[i * 2 + j]? = some v:=by
  intro j v hj
  rw [hmv,fl2_drop,← hct,List.getElem?_drop,List.getElem?_take] at hj
  split at hj
  ·exact hj
  ·cases hj
 have hcp1:∀ ty dc sc,(Builtin.copy_ #[44,44] ty #[.slice (some ⟨g,(i + 1) * 2,none⟩) (n - i) dc,.slice (some ⟨g,i * 2,none⟩) (n + 1 - i) sc]).run Tryz.prog w.drew = .ok (goInt ((n - i:Nat):Int)) (w.drew.setCells g ((i + 1) * 2) mv):=fun ty dc sc=>by
  have hmin:Nat.min (n + 1 - i) (n - i) = n - i:=by simp only [Nat.min_def];split <;> omega
  have:=run_copy_two (P:=Tryz.prog) w.drew 44 44 ty 99 g ((i + 1) * 2) (n - i) dc ⟨g,i * 2,none⟩ (n + 1 - i) sc mv Tryz.underlying44 hsz (by rw [hmin];exact hml)
   (fun j v hj=>by rw [Addr.add_lit];show w.cell? _ = _;rw [cell_arr hh];exact hmc j v hj)
   (fun j hj=>by show (w.cell? _).isSome = true;rw [cell_arr hh,List.getElem?_eq_getElem (by omega)];rfl) (fun j hj=>frozen_arr (w:=w) hh _)
   (by rw [hmv];exact fl2_one (fun x hx=>h1 x (List.mem_of_mem_drop hx)))
  rw [hmin] at this
  exact this
 obtain ⟨W1,hW1⟩:∃ W1,W1 = w.drew.setCells g ((i + 1) * 2) mv:=⟨_,rfl⟩
 have hh1:W1.heap[g]? = some (.cells (cur.take ((i + 1) * 2) ++ mv ++ cur.drop ((i + 1) * 2 + mv.length)).toArray 99 (0,0)):=by
  rw [hW1];exact heap_setCells mv ((i + 1) * 2) w.drew cur hh (by omega)
 have hgr1:w.grownBy W1 (some g):=by rw [hW1];exact grown_trans (grownBy_drew w _) (grownBy_setCells g _ _ _)
 have hvw:W1.heap[vb]? = some (.cells #[u.1,u.2] 99 (0,0)):=by
  rw [hgr1.block vb (lt_of_cell (cell_of_row _ _ 0 _ _ _ hv)) (by simpa using hvb)];exact hv
 have hlen1:(cur.take ((i + 1) * 2) ++ mv ++ cur.drop ((i + 1) * 2 + mv.length)).length = c * 2:=by
  simp only [List.length_append,List.length_take,List.length_drop];omega
 obtain ⟨cur1,hcur1⟩:∃ cur1,cur1 = cur.take ((i + 1) * 2) ++ mv ++ cur.drop ((i + 1) * 2 + mv.length):=⟨_,rfl⟩
 rw [← hcur1] at hh1 hlen1
 have hcp2:∀ ty dc,(Builtin.copy_ #[44,44] ty #[.slice (some ⟨g,i * 2,none⟩) (n + 1 - i) dc,.slice (some ⟨vb,0,none⟩) 1 1]).run Tryz.prog W1 = .ok (goInt 1) (W1.setCells g (i * 2) [u.1,u.2]):=fun ty dc=>by
  have hmin:Nat.min 1 (n + 1 - i) = 1:=by simp only [Nat.min_def];split <;> omega
  have:=run_copy_two (P:=Tryz.prog) W1 44 44 ty 99 g (i * 2) (n + 1 - i) dc ⟨vb,0,none⟩ 1 1 [u.1,u.2] Tryz.underlying44 hsz (by rw [hmin];rfl)
   (fun j x hj=>by
    rw [Addr.add_lit,Nat.zero_add,cell_of_row _ _ j _ _ _ hvw]
    match j with
    | 0=>simpa using hj
    | 1=>simpa using hj
    | j + 2=>simp at hj)
   (fun j hj=>by rw [cell_arr hh1,List.getElem?_eq_getElem (by simp at hj;omega)];rfl) (fun j hj=>frozen_arr hh1 _)
   (by intro x hx;simp at hx;rcases hx with rfl | rfl;exact hu.1;exact hu.2)
  rw [hmin] at this
  exact this
 rw [← hW1] at hcp1
 have FIN:Hid ((W1.setCells g (i * 2) [u.1,u.2]).ownsRow base 99 2 (.slice (some ⟨g,0,none⟩) (n + 1) c) (n + 1) (fl2 (us.take i ++ u :: us.drop i))∧w.grownBy (W1.setCells g (i * 2) [u.1,u.2]) (some g)):=by
  refine ⟨owns2_shut hg (heap_setCells _ _ _ _ hh1 (by rw [hlen1];simp;omega)) hroom hcm ?_ ?_,grown_trans hgr1 (grownBy_setCells g _ _ _)⟩
  ·simp only [List.length_append,List.length_take,List.length_drop,hlen1,List.length_cons,List.length_nil];omega
  ·have e1:cur1.take (i * 2) = cur.take (i * 2):=by
    rw [hcur1,List.append_assoc,List.take_append_of_le_length (by rw [List.length_take];omega),List.take_take,show min (i * 2) ((i + 1) * 2) = i * 2 by omega]
   have e2:cur1.drop (i * 2 + [u.1,u.2].length) = mv ++ cur.drop ((i + 1) * 2 + mv.length):=by
    rw [hcur1,List.append_assoc]
    exact List.drop_left' (by rw [List.length_take,List.length_cons,List.length_cons,List.length_nil];omega)
   rw [e1,e2,← List.append_assoc,List.take_left' (by simp only [List.length_append,List.length_take,List.length_cons,List.length_nil,hml];omega),fl2_append,fl2_cons,fl2_take,← hmv,← hct,List.take_take,show min (i * 2) (n * 2) = i * 2 by omega]
   simp
 unfold maxLen at hcm
 have HC1:=Lib.hid hcp1;have HC2:=Lib.hid hcp2
 clear h hh hct hv hcl hu hcp1 hcp2 hh1 hgr1 hvw hcur1 hlen1 hW1 hmv hml hmc h1 hul hg
 go_enter Tryz.func120,Tryz.ntmps120
 go_wp2_with (simp only [hov])
 go_region_law (refine step_copy_runI rfl _ _ 44 44 rfl _ _ (by simp [Act.eval,Act.put]) (by simp [Act.eval,Act.put]) (HC1.out _ (c - (i + 1)) (c - i)) ?_)
 have hc2:=HC2.out 3 (c - i)
 go_wp2
 go_ret
 exact ⟨rfl,FIN.out.1,FIN.out.2⟩
end Go.Proofs.YtccaiiigdfieoaaGreatDoor
