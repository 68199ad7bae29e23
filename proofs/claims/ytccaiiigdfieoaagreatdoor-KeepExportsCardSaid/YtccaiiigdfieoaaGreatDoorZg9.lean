/- An append stays in its own block,or goes to a new one. Chapter 21: a relay in memory; New,Next,Say of what says nothing. Chapter 21: relay.Say of what says something. What is written is read again; the numbers of the law's examples. Chapter 21: what a turn of a sender,a taker,a relay leaves as it is; sender.Explicit. Chapter 19: taker.Status,Rank,Object. Plain laws of GridTells: rows and what they are joined; a unit's bytes. GridTells: the walk,no unit. The walk of the grid's Inverse. Plain laws of GridReckons: rows and their vectors,products,columns,the inverse. The contract of the reference's Mul. GridTells: the walk,no grid,a unit. GridTells: the walk,a grid,a unit. GridTells: the walk,whole. What the laws of grids carry along from call to call. The contract of the reference's without. The contract of the reference's Det. Plain laws of GridRanks: ranks of turned grids and products,determinants,inverses of inverses. Plain law of ElimSolves: equations that symbols solve. Plain law: packets of one object. They never clash; the rows are as many as the rank of the vectors that came; full rows have the object. A sender while others turn; two takers beside each other. Of a plan that may not be there is no gate,no taker,no relay; a plan that may be as numbers. A region that draws its order,by shapes,by what holds of the world as operations run,and by ties between slots. Two slices of headers,each grown by one in a region that draws its order. A plan of an object; ranks of combinations; rows of headers of new bytes while others turn. Chapter 19: the law's awake. A sender and a taker in memory,carried along. The contracts of the document's sum: Put,Sum (bit by bit). Plain law: a packet of which one stretch of four bytes has turned is not let in. What TakerHas,TripRuns,TripArrives carry: rows of bytes that grow; a sender that may refuse. Arguments that came in,as bytes and slices of bytes. Slices of structs of two slices of bytes,that came in. Sources that came in: a slice of structs of a byte,bytes and a number,opened. What the laws of the packets ask first: few bytes,small plans. Chapter 19: TakerHas,of an object that the plan fits. The contracts of slices.Delete and slices.Insert at parcels. The contract of slices.Insert at parcels: one more,where there is room. Lists of parcels that the call owns: each owns its bytes,no two share them. The contracts of the acts: drop,move,forge. The contract of the act move. The contract of the act double. The contract of the act cut. One cell of a parcel is written: its bytes,or where it came from. The contract of the act mask. What acts do to lists of packets; acts that came in,read from memory. Acts that came in: a slice of structs of five cells,and one by value,opened. The contract of play. The contracts of Apply and Whole. The contracts of Whole,of slices.Equal at ints,of Harms; of the law's Few; the chapter's example. The contract of the law's Few of layer 20; the chapter's example. The plain law of WayWhole: what came whole is what was sent; acts that harm nothing leave all whole; acts one by one are as all at once. Chapter 22: what a trip comes to (plain); what a sender and a taker carry along while other blocks turn. Chapter 24,plain: what a taker's rows are as packets,and as a text. strings.Builder: WriteString,WriteByte,String. A builder in a block of its own; the digits of base 16. A used strings.Builder,WriteByte with its whole frame. Chapter 24,the reference: Hex. Chapter 24: keep.Text. The document's mixing: shifted,Next,Bytes (chapter 5). A region that draws its order,in which one whole row is stored: all else is told values (calls that change nothing among them). The document's heads as read (chapter 13); widths,lengths (chapters 14,15). -/
import Derived.Test.YtccaiiigdfieoaaGreatDoorZg8
import Derived.WalkKit
import Derived.Laws.AppendOwn
import Derived.OpenShut
import Derived.Lib.SmallJoins
import Derived.Deep.DeepCutAuto
import Derived.Deep.RegionLaw
import Derived.Lib.Overlaps
import Derived.Shelf.Spec.SlicesInsert
import Derived.Lib.AppendZeros
import Derived.Deep.AppendLies
import Derived.Deep.RegionWith
import Derived.BigQuiet
import Derived.Shelf.Strings.Builder1
namespace Go.By
open Go
section
variable {P : Program} (w : World)
theorem run_append_where (base : Nat) (t ty e : TypeId) (i : TypeInfo) (z : Value) (size bytes : Nat) (ht : P.underlying t = some (.slice e)) (hi : P.info? e = some i) (hz : i.zero = some z)
  (hsize : i.size = size) (hby : i.bytes = bytes) (hzs : z.cells.size = size) (hsz : 0 < size)
  (v : Value) (n : Nat) (xs : List Value) (hown : w.ownsRow base e size v n xs)
  (a : Addr) (m c : Nat) (news : List Value) (hl : news.length = m * size) (hnews : ∀ j u,news[j]? = some u → w.cell? (a.add j) = some u) (h1 : ∀ u ∈ news,u.oneCell' = true)
  (h63 : n + m ≤ maxLen) (hbytes : (n + m) * bytes ≤ 140737488355328) (hbase : base ≤ w.heap.size) (hm : 0 < m) :
  ∃ v' w',(Builtin.append_ #[t,t] ty #[v,.slice (some a) m c]).run P w = .ok v' w' ∧ w'.ownsRow base e size v' (n + m) (xs ++ news) ∧ w.grownBy w' v.ownBlock ∧ (v'.ownBlock = v.ownBlock ∨ v'.ownBlock = some w.heap.size) := by
 obtain ⟨v',w',hr,h2,h3,-⟩ := run_append_own w base t ty e i z size bytes ht hi hz hsize hby hzs hsz v n xs hown a m c news hl hnews h1 h63 hbytes hbase
 refine ⟨v',w',hr,h2,h3,?_⟩
 subst hsize
 subst hby
 have hm' : n + m ≤ 9223372036854775807 := by simp only [maxLen] at h63; omega
 rcases hown.2 with ⟨rfl,rfl⟩ | ⟨g,cap,cur,rfl,hbg,hg,hnc,hcm,hcs,htake⟩
 ·have hr2 := run_append_nil (P := P) w t ty e i z ht hi hz a m c news hl hnews (by omega) (by omega) (by have hb := hbytes; simp only [Nat.zero_add] at hb; omega)
  have e2 := hr.symm.trans hr2
  cases e2
  exact .inr rfl
 ·by_cases hroom : n + m ≤ cap
  ·have hfit : n * i.size + news.length ≤ cur.size := by rw [hl,hcs,← Nat.add_mul]; exact Nat.mul_le_mul_right _ hroom
   have hr2 := run_append_room (P := P) w t ty e i ht hi g n cap cur hg a m c news hl hnews h1 hroom hfit
   have e2 := hr.symm.trans hr2
   cases e2
   exact .inl rfl
  ·have holds : ∀ j u,xs[j]? = some u → w.cell? ((⟨g,0,none⟩ : Addr).add j) = some u := hown.cells (g := g) rfl
   have hr2 := run_append_grow (P := P) w t ty e i z ht hi hz ⟨g,0,none⟩ n cap xs hown.1 holds a m c news hl hnews (by omega) (by omega) (growslice_fits (by omega) hbytes)
   have e2 := hr.symm.trans hr2
   cases e2
   exact .inr rfl
theorem wpList_append_where {ops : Array Oper} {rest : List Oper} {o : Oper} {a : Act} {Q : Exit → Act → World → Prop} (hgd : o.guard = none) (s x : Operand) (t : TypeId)
  (ho : o.op = .call { callee := .builtin .append,args := #[s,x],argTypes := #[t,t] })
  (base : Nat) (e : TypeId) (i : TypeInfo) (z : Value) (size bytes : Nat) (ht : P.underlying t = some (.slice e)) (hi : P.info? e = some i) (hz : i.zero = some z)
  (hsize : i.size = size) (hby : i.bytes = bytes) (hzs : z.cells.size = size) (hsz : 0 < size)
  (v : Value) (n : Nat) (xs : List Value) (hs : a.eval s = v) (hown : w.ownsRow base e size v n xs)
  (ad : Addr) (m c : Nat) (news : List Value) (hx : a.eval x = .slice (some ad) m c) (hl : news.length = m * size) (hnews : ∀ j u,news[j]? = some u → w.cell? (ad.add j) = some u) (h1 : ∀ u ∈ news,u.oneCell' = true)
  (h63 : n + m ≤ maxLen) (hbytes : (n + m) * bytes ≤ 140737488355328) (hbase : base ≤ w.heap.size) (hm : 0 < m)
  (h : ∀ v' w',w'.ownsRow base e size v' (n + m) (xs ++ news) → w.grownBy w' v.ownBlock → (v'.ownBlock = v.ownBlock ∨ v'.ownBlock = some w.heap.size) → wpList P ops Q rest (a.put o.dst v') w') : wpList P ops Q (o :: rest) a w := by
 refine wpList_plain hgd fun _ hK => ?_
 obtain ⟨v',w',hr,h2,h3,h4⟩ := run_append_where (P := P) w base t o.type e i z size bytes ht hi hz hsize hby hzs hsz v n xs hown ad m c news hl hnews h1 h63 hbytes hbase hm
 unfold Oper.wp execOp
 simp only [ho,resolve,invoke,builtin,Sem.run_bind,Sem.run_pure,Result.andThen_ok,List.map_toArray,List.map_cons,List.map_nil,hs,hx,hr]
 exact hK _ _ (h v' w' h2 h3 h4)
end
end Go.By
namespace Go.Proofs.YtccaiiigdfieoaaGreatDoor
open Go.RowKit Go.By Go.Maps
end Go.Proofs.YtccaiiigdfieoaaGreatDoor
namespace Go.By
open Go.RowKit
theorem news_one {w : World} {g T : Nat} {v : Value} {fr : Nat × Nat} (h : w.heap[g]? = some (.cells #[v] T fr)) : ∀ (j : Nat) (u : Value),[v][j]? = some u → w.cell? ((⟨g,0,none⟩ : Addr).add j) = some u := by
 intro j u hj
 cases j with
 | zero =>
  simp at hj; subst hj
  rw [Addr.add_lit,cell_of_row _ _ _ _ _ _ h]; rfl
 | succ j => simp at hj
theorem ones_one {q : Option Addr} {n c : Nat} : ∀ u,u ∈ [Value.slice q n c] → u.oneCell' = true := by
 intro u hu; simp at hu; subst hu; rfl
def Hdr (T : TypeId) (w1 : World) (base : Nat) (w : World) (v : Value) (i : Nat) (xss : List (List UInt8)) : Prop :=
 ∃ vs,w.ownsRow base T 1 v i vs ∧ xss.length = i ∧ ∀ (j : Nat) (u : Value),vs[j]? = some u → ∃ q m c xs,u = .slice q m c ∧ xss[j]? = some xs ∧ Sl B8 w1 q m c xs
theorem Hdr.shape {T base i : Nat} {w1 w : World} {v : Value} {xss : List (List UInt8)} (h : Hdr T w1 base w v i xss) : ∃ q c,v = .slice q i c := by
 obtain ⟨vs,o,_⟩ := h; exact owns_shape o
theorem Hdr.nil (T base : Nat) (w1 w : World) : Hdr T w1 base w (.slice none 0 0) 0 [] := ⟨[],World.ownsRow_nil _ _ _ _,rfl,fun j u h => by simp at h⟩
theorem Hdr.push {T base i : Nat} {w1 w : World} {v : Value} {xss : List (List UInt8)} {vs : List Value} {q : Option Addr} {m c : Nat} {xs : List UInt8} (ho : w.ownsRow base T 1 v (i + 1) (vs ++ [.slice q m c])) (hl : xss.length = i) (hv : vs.length = i) (h : ∀ (j : Nat) (u : Value),vs[j]? = some u → ∃ q m c xs,u = .slice q m c ∧ xss[j]? = some xs ∧ Sl B8 w1 q m c xs) (hs : Sl B8 w1 q m c xs) : Hdr T w1 base w v (i + 1) (xss ++ [xs]) := by
 refine ⟨_,ho,by simp [hl],fun j u hj => ?_⟩
 rcases Nat.lt_trichotomy j i with h1 | h1 | h1
 ·rw [List.getElem?_append_left (by omega)] at hj
  obtain ⟨q',m',c',xs',e,hx,hs'⟩ := h j u hj
  exact ⟨q',m',c',xs',e,by rw [List.getElem?_append_left (by omega)]; exact hx,hs'⟩
 ·subst h1
  rw [List.getElem?_append_right (by omega),hv,Nat.sub_self] at hj
  simp at hj
  exact ⟨q,m,c,xs,hj.symm,by rw [List.getElem?_append_right (by omega),hl,Nat.sub_self]; rfl,hs⟩
 ·rw [List.getElem?_eq_none (by simp [hv]; omega)] at hj; cases hj
theorem Hdr.sl2 {T base i : Nat} {w1 w : World} {q : Option Addr} {c : Nat} {xss : List (List UInt8)} (h : Hdr T w1 base w (.slice q i c) i xss) (hb : Below w1.heap.size w1 w) : Sl2 w q i c xss := by
 obtain ⟨vs,o,hl,hr⟩ := h
 have hc := owns_cap o
 have hvl : vs.length = i := owns_len o
 refine ⟨hl,hc.1,hc.2,fun hp => ?_,fun j xs hj => ?_⟩
 ·rcases o.2 with ⟨h2,rfl⟩ | ⟨g,cap,cur,hv,_⟩
  ·simp at h2; exact ⟨rfl,h2.2⟩
  ·rw [hp] at hv; cases hv
 ·have hji : j < i := by rw [← hl]; exact (List.getElem?_eq_some_iff.1 hj).1
  obtain ⟨q',m',c',xs',e,hx,hs⟩ := hr j vs[j] (List.getElem?_eq_getElem (by omega))
  rw [hj] at hx; cases hx
  obtain ⟨g,rfl,_,_⟩ := owns_at o (by omega)
  refine ⟨g,0,q',c',rfl,?_,?_⟩
  ·rw [Nat.zero_add,o.cellAt j (by omega),List.getElem?_eq_getElem (by omega),e,hs.len]
  ·rw [hs.len]; exact hs.keep hb
theorem Hdr.kept {T base i : Nat} {w1 w w' : World} {v : Value} {row : Option Nat} {xss : List (List UInt8)} (h : Hdr T w1 base w v i xss) (hg : w.grownBy w' row) (hne : ∀ b,v.ownBlock = some b → row ≠ some b) : Hdr T w1 base w' v i xss := by
 obtain ⟨vs,o,hl,hr⟩ := h
 refine ⟨vs,o.kept hg ?_,hl,hr⟩
 cases hv : v.ownBlock with
 | none => simp
 | some b => have := hne b hv; simp; intro e; exact this e.symm
end Go.By
namespace Go.Proofs.YtccaiiigdfieoaaGreatDoor
open Go.RowKit Go.By Go.Maps
theorem field_gate (L t k D : Nat) (M : Value) (w : World) : (Instr.field 111 (GVal L t k D M) 0).run Tryz.prog w = .ok (PVal L t k D) w := by
 simp [Instr.field,go_sem,asAgg,Tryz.underlying111,Tryz.underlying27]
def PkS (T B : Nat) (D nx : Nat) (qd : Option Addr) (td cd : Nat) (V : List UInt8) (v : Value) (w : World) : Prop := ∃ q n c,v = PkVal 0 D nx 0 q n c 0 qd td cd ∧ Fresh T B w q n c V
def ShPkS (T B : Nat) (D nx : Nat) (qd : Option Addr) (td cd : Nat) (V : List UInt8) : Shp := ⟨PkS T B D nx qd td cd V,fun _ _ _ ⟨q,n,c,e,h⟩ hb => ⟨q,n,c,e,h.keep hb⟩⟩
end Go.Proofs.YtccaiiigdfieoaaGreatDoor
namespace Go.Proofs.YtccaiiigdfieoaaGreatDoor
open Go.RowKit Go.By
end Go.Proofs.YtccaiiigdfieoaaGreatDoor
namespace Go.By
open Go.RowKit Go.Maps Go.Proofs.YtccaiiigdfieoaaGreatDoor
section
variable {w w' : World} {g : Nat} {old : Array Value} {T' : Nat} {fr : Nat × Nat}
end
theorem TChg.blk {w w' : World} {base gt be L t k D N : Nat} {M v : Value} {C : DataW Unit} {K : List Rw} {st : Nat} (h : TChg w w' gt be v) (hT : Tkr w base gt be L t k D N M v C K st) {b T : Nat} {cs : Array Value} {fr : Nat × Nat} (hb : w.heap[b]? = some (.cells cs T fr)) (h1 : T ≠ 118) (h2 : T ≠ 191) (h3 : 99 ≠ T) : w'.heap[b]? = some (.cells cs T fr) := by
 refine (h.block b (lt_of_block hb) (fun e => ?_) (fun e => ?_) (hT.elm.rows.ne_box hb h3)).trans hb
 ·have := hT.box; rw [← e,hb] at this; injection this with this; injection this with _ this _; exact h1 this
 ·have := hT.elm.box; rw [← e,hb] at this; injection this with this; injection this with _ this _; exact h2 this
theorem TChg.below {w w' : World} {B base gt be L t k D N : Nat} {M v : Value} {C : DataW Unit} {K : List Rw} {st : Nat} (h : TChg w w' gt be v) (hT : Tkr w base gt be L t k D N M v C K st) (hB : B ≤ base) (hw : B ≤ w.heap.size) : Below B w w' := by
 refine ⟨h.os,h.tape,h.output,h.size,fun i hi => h.block i (by omega) (by have := hT.old; omega) (by have := hT.elm.old; omega) (fun e => ?_)⟩
 have := (hT.elm.rows.lt _ e).1
 omega
end Go.By
namespace Go.Proofs.YtccaiiigdfieoaaGreatDoor
open Go.RowKit Go.By Go.Maps
end Go.Proofs.YtccaiiigdfieoaaGreatDoor
namespace Go.Proofs.YtccaiiigdfieoaaGreatDoor
open Go.RowKit Go.By Go.Maps
set_option maxRecDepth 100000 in
set_option maxHeartbeats 1000000 in
theorem TStatus_any (base gt be L t k D N : Nat) (M v : Value) (C : DataW Unit) (K : List Rw) (st : Nat) (w : World) (h : Tkr w base gt be L t k D N M v C K st) :
  Calls Tryz.prog 22 #[.pointer (some ⟨gt,0,none⟩)] w fun e w' => e = .returned (.int .i64 (st : Nat)) ∧ w = w' := by
 obtain ⟨c0,c1,c2,c3,c4,c5,c6⟩ := cells_seven h.box
 clear h
 go_enter Tryz.func22,Tryz.ntmps22
 go_wp2
 go_ret
 exact ⟨rfl,rfl⟩
end Go.Proofs.YtccaiiigdfieoaaGreatDoor
namespace Go.Proofs.YtccaiiigdfieoaaGreatDoor
open Go.RowKit Go.By
end Go.Proofs.YtccaiiigdfieoaaGreatDoor
namespace Go.Proofs.YtccaiiigdfieoaaGreatDoor
open Go.RowKit Go.By
end Go.Proofs.YtccaiiigdfieoaaGreatDoor
namespace Go.Proofs.YtccaiiigdfieoaaGreatDoor
open Go.RowKit Go.By
end Go.Proofs.YtccaiiigdfieoaaGreatDoor
namespace Go.Proofs.YtccaiiigdfieoaaGreatDoor
open Go.RowKit Go.By Gf
end Go.Proofs.YtccaiiigdfieoaaGreatDoor
namespace Go.Proofs.YtccaiiigdfieoaaGreatDoor
open Go.RowKit Go.By
end Go.Proofs.YtccaiiigdfieoaaGreatDoor
namespace Go.Proofs.YtccaiiigdfieoaaGreatDoor
open Go.RowKit Go.By
end Go.Proofs.YtccaiiigdfieoaaGreatDoor
namespace Go.Proofs.YtccaiiigdfieoaaGreatDoor
open Go.RowKit Go.By
end Go.Proofs.YtccaiiigdfieoaaGreatDoor
namespace Go.Proofs.YtccaiiigdfieoaaGreatDoor
open Go.RowKit Go.By
end Go.Proofs.YtccaiiigdfieoaaGreatDoor
namespace Go.Proofs.YtccaiiigdfieoaaGreatDoor
open Go.RowKit Go.By
end Go.Proofs.YtccaiiigdfieoaaGreatDoor
namespace Go.Proofs.YtccaiiigdfieoaaGreatDoor
open Go.RowKit Go.By
end Go.Proofs.YtccaiiigdfieoaaGreatDoor
namespace Go.Proofs.YtccaiiigdfieoaaGreatDoor
open Go.RowKit Go.By Gf
end Go.Proofs.YtccaiiigdfieoaaGreatDoor
namespace Go.Proofs.YtccaiiigdfieoaaGreatDoor
open Go.RowKit Go.By Gf
end Go.Proofs.YtccaiiigdfieoaaGreatDoor
namespace Go.Proofs.YtccaiiigdfieoaaGreatDoor
open Go.RowKit Go.By Gf
theorem vR_right {k n j : Nat} {r : Rw} (hf : Fit k n r) : vR r (k + j) = vf r.2 j := by
 unfold vR vf cat
 rw [List.getD_eq_getElem?_getD,List.getElem?_append_right (by rw [hf.1]; omega),hf.1,Nat.add_sub_cancel_left,List.getD_eq_getElem?_getD]
theorem vR_left {k n j : Nat} {r : Rw} (hf : Fit k n r) (hj : j < k) : vR r j = vf r.1 j := vf_app_left (by rw [hf.1]; exact hj)
theorem Sys.putX {k n : Nat} {D K : List Rw} {x : Rw} (h : Sys k n (kD D) K) (hx : Fit k n x) : Sys k n (kD (D ++ [x])) (Go.Proofs.YtccaiiigdfieoaaGreatDoor.putK K x) := by
 rw [kD_snoc]
 unfold Go.Proofs.YtccaiiigdfieoaaGreatDoor.putK
 by_cases hn : leadS (restF K x).1 < 0
 ·have e : insF (kD D) x = kD D := by unfold insF; rw [norm_leadS,h.rest hx,if_pos hn]
  rw [if_pos hn,e]; exact h
 ·rw [if_neg hn]; exact h.put hx hn
def prR (r : Rw) : Rw := (r.1,[])
theorem rest_pr : ∀ (K : List Rw) (x : Rw),restF (K.map prR) (prR x) = prR (restF K x)
 | [],_ => rfl
 | a :: K,x => by
  have h := rest_pr K (lessF x (atS x.1 (leadS a.1)) a)
  unfold restF at h ⊢
  rw [List.map_cons,List.foldl_cons,List.foldl_cons,← h]
  rfl
theorem norm_pr (r : Rw) : normS (prR r) = prR (normS r) := by
 unfold normS prR
 simp only
 split <;> simp
theorem ins_pr (K : List Rw) (x : Rw) : insF (K.map prR) (prR x) = (insF K x).map prR := by
 unfold insF
 rw [rest_pr,norm_pr]
 show (if leadS (normS (restF K x)).1 < 0 then _ else _) = _
 by_cases hl : leadS (normS (restF K x)).1 < 0
 ·rw [if_pos hl,if_pos hl]
 ·rw [if_neg hl,if_neg hl,List.map_append,List.map_cons,List.takeWhile_map,List.dropWhile_map]
  rfl
theorem kD_pr : ∀ (X : List Rw) (K : List Rw),(X.map (fun x : Rw => x.1)).foldl (fun K r => insF K (r,[])) (K.map prR) = (X.foldl insF K).map prR
 | [],_ => rfl
 | x :: X,K => by
  rw [List.map_cons,List.foldl_cons,List.foldl_cons,← kD_pr X (insF K x),← ins_pr]
  rfl
theorem sys_rank {k n : Nat} {X K : List Rw} (h : Sys k n (kD X) K) : K.length = (iK (X.map (fun x : Rw => x.1))).length := by
 have h1 := kD_pr X []
 unfold iK
 rw [show ([] : List Rw) = ([] : List Rw).map prR from rfl,h1,List.length_map,h.same]
 unfold redL kD
 rw [List.length_map,List.length_range]
end Go.Proofs.YtccaiiigdfieoaaGreatDoor
namespace Go.By
end Go.By
namespace Go.Proofs.YtccaiiigdfieoaaGreatDoor
open Go.RowKit Go.By Gf
end Go.Proofs.YtccaiiigdfieoaaGreatDoor
namespace Go.By
open Go.RowKit Go.Maps Go.Proofs.YtccaiiigdfieoaaGreatDoor
section
variable {w w' : World} {base gt be L t k D N : Nat} {M v : Value} {C : DataW Unit} {K : List Rw} {st : Nat}
theorem TChg.owns (h : TChg w w' gt be v) (hT : Tkr w base gt be L t k D N M v C K st) {b2 T e n : Nat} {v2 : Value} {ys : List Value} (ho : w.ownsRow b2 T e v2 n ys) (h1 : T ≠ 118) (h2 : T ≠ 191) (h3 : ∀ g,v2.ownBlock = some g → v.ownBlock ≠ some g) : w'.ownsRow b2 T e v2 n ys := by
 refine owns_same ho h.size fun g2 hg2 => ?_
 rcases ho.2 with ⟨e1,_⟩ | ⟨g',cap,cur,e1,_,hh,_⟩
 ·rw [e1] at hg2; cases hg2
 ·have h4 := h3 g2 hg2
  rw [e1] at hg2; cases hg2
  refine h.block _ (lt_of_block hh) (fun e => ?_) (fun e => ?_) h4
  ·have := hT.box; rw [← e,hh] at this; injection this with this; injection this with _ this _; exact h1 this
  ·have := hT.elm.box; rw [← e,hh] at this; injection this with this; injection this with _ this _; exact h2 this
theorem tkr_owns_ne {b2 T e n : Nat} {v2 : Value} {ys : List Value} (hT : Tkr w base gt be L t k D N M v C K st) (ho : w.ownsRow b2 T e v2 n ys) (h : 99 ≠ T) : ∀ g,v2.ownBlock = some g → v.ownBlock ≠ some g := by
 intro g hg
 rcases ho.2 with ⟨e1,_⟩ | ⟨g',cap,cur,e1,_,hh,_⟩
 ·rw [e1] at hg; cases hg
 ·rw [e1] at hg; cases hg
  exact hT.elm.rows.ne_box hh h
theorem TChg.bw (h : TChg w w' gt be v) (hT : Tkr w base gt be L t k D N M v C K st) {b : Nat} {u : Value} {xs : List UInt8} (hu : Bw 5 w b u xs) : Bw 5 w' b u xs := by
 obtain ⟨q,m,c,e,l,o⟩ := hu
 exact ⟨q,m,c,e,l,h.owns hT o (by decide) (by decide) (tkr_owns_ne hT o (by decide))⟩
theorem TChg.rwl (h : TChg w w' gt be v) (hT : Tkr w base gt be L t k D N M v C K st) {b2 n2 : Nat} {v2 : Value} {K2 : List Rw} (h2 : RwL 99 5 w b2 v2 n2 K2) (hne : ∀ g,v2.ownBlock = some g → v.ownBlock ≠ some g) : RwL 99 5 w' b2 v2 n2 K2 := by
 obtain ⟨vs,a,b,o,r⟩ := h2
 exact ⟨vs,a,b,h.owns hT o (by decide) (by decide) hne,fun j u hj => by obtain ⟨x,hk,g1,g2⟩ := r j u hj; exact ⟨x,hk,h.bw hT g1,h.bw hT g2⟩⟩
theorem TChg.cnt (h : TChg w w' gt be v) (hT : Tkr w base gt be L t k D N M v C K st) {M2 : Value} {N2 : Nat} {C2 : DataW Unit} (hc : CntM w M2 N2 C2) : CntM w' M2 N2 C2 := by
 refine ⟨?_,hc.small⟩
 rcases hc.at_ with h1 | ⟨b,e,ho⟩
 ·exact .inl h1
 ·refine .inr ⟨b,e,?_⟩
  have hlt := ho.lt
  obtain ⟨es,clock,h1,F,hs,hD⟩ := ho
  refine ⟨es,clock,(h.block b hlt (fun e => ?_) (fun e => ?_) (fun e => ?_)).trans h1,F,hs,hD⟩
  ·have := hT.box; rw [← e,h1] at this; cases this
  ·have := hT.elm.box; rw [← e,h1] at this; cases this
  ·obtain ⟨vs,_,_,o,_⟩ := hT.elm.rows
   rcases o.2 with ⟨e1,_⟩ | ⟨g',cap,cur,e1,_,hh,_⟩
   ·rw [e1] at e; cases e
   ·rw [e1] at e; cases e
    rw [h1] at hh; cases hh
end
end Go.By
namespace Go.Proofs.YtccaiiigdfieoaaGreatDoor
open Go.RowKit Go.By Go.Maps
end Go.Proofs.YtccaiiigdfieoaaGreatDoor
namespace Go.Proofs.YtccaiiigdfieoaaGreatDoor
open Go.RowKit Go.By Go.Maps
theorem pok_of {l s n d : Int} (hl : l ≤ 9223372036854775807) (hc : checkS l s n = 0) (h0 : 0 ≤ d) (h1 : d < 4294967296) : ∃ L t k D : Nat,l = L ∧ s = t ∧ n = k ∧ d = D ∧ POK L t k D := by
 have hf : fitS l s = 0 ∧ n = needS l s := by
  unfold checkS at hc
  by_cases hf : fitS l s = 0
  ·rw [if_pos hf] at hc
   refine ⟨hf,?_⟩
   by_cases hn : n = needS l s
   ·exact hn
   ·rw [if_neg hn] at hc; omega
  ·rw [if_neg hf] at hc; exact absurd hc hf
 obtain ⟨hf,hn⟩ := hf
 have hs : 0 ≤ l ∧ 1 ≤ s ∧ s ≤ 65535 ∧ needS l s ≤ 4096 := by
  unfold fitS at hf
  split at hf
  ·omega
  ·split at hf
   ·omega
   ·split at hf
    ·omega
    ·omega
 obtain ⟨g1,g2⟩ := needS_pos hs.1 hs.2.1
 refine ⟨l.toNat,s.toNat,n.toNat,d.toNat,by omega,by omega,by omega,by omega,⟨?_,by omega,by omega,by omega,by omega,by omega,by omega⟩⟩
 rw [show ((l.toNat : Nat) : Int) = l by omega,show ((s.toNat : Nat) : Int) = s by omega,show ((n.toNat : Nat) : Int) = n by omega]
 exact hc
set_option maxRecDepth 100000 in
set_option maxHeartbeats 1000000 in
theorem GNew_bad (l s n d : Int) (w : World) (hl : l ≤ 9223372036854775807) (hc : checkS l s n ≠ 0) :
  Calls Tryz.prog 60 #[.agg #[.int .i64 l,.int .i64 s,.int .i64 n,.int .u32 d]] w fun e w' => e = .returned (.tuple #[.agg #[.int .i64 0,.int .i64 0,.int .i64 0,.int .u32 0,.map none],.int .i64 (checkS l s n)]) ∧ Below w.heap.size w w' := by
 have HK := Lib.hid (fun w => Check_any l s n d w hl)
 have hz : (checkS l s n != 0) = true := bne_iff_ne.2 hc
 clear hc
 generalize checkS l s n = C at *
 go_enter Tryz.func60,Tryz.ntmps60
 go_wp2_with fail
 refine Calls.mono (HK.out _) ?_
 rintro e w1 ⟨rfl,hb⟩
 obtain ⟨hb1,h1,h2,hs⟩ := two_of hb
 have HB := Lib.hid hb1
 obtain ⟨c0,c1,c2,c3⟩ := cells_four h1
 clear hb hb1
 go_wp2_with (refine wpList_store_row (o := ⟨none,.store 111 (.tmp 2) (.tmp 9),_,_,_,_⟩) rfl 111 (.tmp 2) (.tmp 9) rfl (w.heap.size + 1) #[.int .i64 0,.int .i64 0,.int .i64 0,.int .u32 0,.map none] rfl rfl _ _ h2 info_gate rfl (by simp [Value.oneCell']) ?_)
 refine bodyPost_ret (res_ct rfl _ _ _ 111 #[.int .i64 0,.int .i64 0,.int .i64 0,.int .u32 0,.map none] (0,0) _ (.int .i64 C) rfl (hrs h2) rfl Tryz.underlying111 rfl info_gate) rfl ?_
 exact ⟨rfl,below_row HB.out (by omega)⟩
set_option maxRecDepth 100000 in
set_option maxHeartbeats 1000000 in
theorem TNew_bad (l s n d : Int) (w : World) (hl : l ≤ 9223372036854775807) (hc : checkS l s n ≠ 0) :
  Calls Tryz.prog 15 #[.agg #[.int .i64 l,.int .i64 s,.int .i64 n,.int .u32 d]] w fun e w' => e = .returned (.tuple #[.pointer none,.int .i64 (checkS l s n)]) ∧ Below w.heap.size w w' := by
 have HK := Lib.hid (fun w => GNew_bad l s n d w hl hc)
 have hz : (checkS l s n != 0) = true := bne_iff_ne.2 hc
 clear hc
 generalize checkS l s n = C at *
 go_enter Tryz.func15,Tryz.ntmps15
 go_wp2_with fail
 refine Calls.mono (HK.out _) ?_
 rintro e w1 ⟨rfl,hb⟩
 obtain ⟨hb1,h1,hs⟩ := one_of hb
 have HB := Lib.hid hb1
 clear hb hb1
 go_wp2
 go_ret2
 exact ⟨rfl,al HB.out HB.out.size⟩
end Go.Proofs.YtccaiiigdfieoaaGreatDoor
namespace Go.By
open Go.RowKit
section
variable {P : Program} {ops : Array Oper} {Q : Exit → Act → World → Prop}
end
end Go.By
namespace Go.By
open Go.RowKit
theorem Hdr.keep {T base i : Nat} {w1 w w' : World} {v : Value} {xss : List (List UInt8)} (h : Hdr T w1 base w v i xss) (hb : Below w.heap.size w w') : Hdr T w1 base w' v i xss := by
 obtain ⟨vs,o,hl,hr⟩ := h
 exact ⟨vs,owns_keepv o hb,hl,hr⟩
section
variable {T : Nat} {wz W w w' : World} {va vb : Value} {n i4 i9 i : Nat} {A B : List (List UInt8)} {dn : Nat → Bool}
end
end Go.By
namespace Go.Proofs.YtccaiiigdfieoaaGreatDoor
open Go.RowKit Go.By Gf Go.Maps
end Go.Proofs.YtccaiiigdfieoaaGreatDoor
namespace Go.By
open Go.RowKit Go.Maps Go.Proofs.YtccaiiigdfieoaaGreatDoor
theorem fresh_same {T : TypeId} {B : Nat} {w w' : World} {q : Option Addr} {n c : Nat} {xs : List UInt8} (h : Fresh T B w q n c xs) (hp : ∀ (b : Nat) (cs : Array Value) (fr : Nat × Nat),w.heap[b]? = some (.cells cs T fr) → w'.heap[b]? = w.heap[b]?) : Fresh T B w' q n c xs := by
 have hd : ∀ a,q = some a → w'.heap[a.block]? = w.heap[a.block]? := fun a ha => by
  obtain ⟨cs,fr,e⟩ := h.ty a ha; exact hp _ cs fr e
 refine ⟨⟨h.sl.len,h.sl.le,h.sl.max,h.sl.nil,fun i hi => ?_⟩,h.new,fun a ha => ?_⟩
 ·obtain ⟨b,o,e,hc⟩ := h.sl.rs i hi
  exact ⟨b,o,e,(World.cell?_of_block (a := ⟨b,o + i,none⟩) (show w'.heap[b]? = w.heap[b]? from hd ⟨b,o,none⟩ e)).trans hc⟩
 ·obtain ⟨cs,fr,e⟩ := h.ty a ha
  exact ⟨cs,fr,(hd a ha).trans e⟩
theorem TChg.same {w w' : World} {base gt be L t k D N : Nat} {M v : Value} {C : DataW Unit} {K : List Rw} {st : Nat} (h : TChg w w' gt be v) (hT : Tkr w base gt be L t k D N M v C K st) {T : TypeId} (h1 : T ≠ 118) (h2 : T ≠ 191) (h3 : 99 ≠ T) : ∀ (b : Nat) (cs : Array Value) (fr : Nat × Nat),w.heap[b]? = some (.cells cs T fr) → w'.heap[b]? = w.heap[b]? := fun b cs fr hb =>
 (h.blk hT hb h1 h2 h3).trans hb.symm
def HdrF (T2 T1 : TypeId) (B : Nat) (w : World) (v : Value) (n : Nat) (xss : List (List UInt8)) : Prop :=
 ∃ vs,w.ownsRow B T2 1 v n vs ∧ xss.length = n ∧ ∀ (j : Nat) (u : Value),vs[j]? = some u → ∃ q m c xs,u = .slice q m c ∧ xss[j]? = some xs ∧ Fresh T1 B w q m c xs
theorem HdrF.nil (T2 T1 B : Nat) (w : World) : HdrF T2 T1 B w (.slice none 0 0) 0 [] := ⟨[],World.ownsRow_nil _ _ _ _,rfl,fun j u h => by simp at h⟩
theorem HdrF.shape {T2 T1 B n : Nat} {w : World} {v : Value} {xss : List (List UInt8)} (h : HdrF T2 T1 B w v n xss) : ∃ q c,v = .slice q n c := by
 obtain ⟨vs,o,_⟩ := h; exact owns_shape o
theorem HdrF.len {T2 T1 B n : Nat} {w : World} {v : Value} {xss : List (List UInt8)} (h : HdrF T2 T1 B w v n xss) : xss.length = n := by
 obtain ⟨vs,o,l,_⟩ := h; exact l
theorem HdrF.keep {T2 T1 B n : Nat} {w w' : World} {v : Value} {xss : List (List UInt8)} (h : HdrF T2 T1 B w v n xss) (hb : Below w.heap.size w w') : HdrF T2 T1 B w' v n xss := by
 obtain ⟨vs,o,l,r⟩ := h
 refine ⟨vs,owns_keepv o hb,l,fun j u hj => ?_⟩
 obtain ⟨q,m,c,xs,e,hx,hf⟩ := r j u hj
 exact ⟨q,m,c,xs,e,hx,hf.keep hb⟩
theorem HdrF.same {T2 T1 B n : Nat} {w w' : World} {v : Value} {xss : List (List UInt8)} (h : HdrF T2 T1 B w v n xss) (hs : w.heap.size ≤ w'.heap.size) (h2 : ∀ (b : Nat) (cs : Array Value) (fr : Nat × Nat),w.heap[b]? = some (.cells cs T2 fr) → w'.heap[b]? = w.heap[b]?) (h1 : ∀ (b : Nat) (cs : Array Value) (fr : Nat × Nat),w.heap[b]? = some (.cells cs T1 fr) → w'.heap[b]? = w.heap[b]?) : HdrF T2 T1 B w' v n xss := by
 obtain ⟨vs,o,l,r⟩ := h
 refine ⟨vs,owns_same o hs fun g hg => ?_,l,fun j u hj => ?_⟩
 ·rcases o.2 with ⟨e1,_⟩ | ⟨g',cap,cur,e1,_,hh,_⟩
  ·rw [e1] at hg; cases hg
  ·rw [e1] at hg; cases hg
   exact h2 _ _ _ hh
 ·obtain ⟨q,m,c,xs,e,hx,hf⟩ := r j u hj
  exact ⟨q,m,c,xs,e,hx,fresh_same hf h1⟩
theorem HdrF.sl2 {T2 T1 B n : Nat} {w : World} {q : Option Addr} {c : Nat} {xss : List (List UInt8)} (h : HdrF T2 T1 B w (.slice q n c) n xss) : Sl2 w q n c xss := by
 obtain ⟨vs,o,l,r⟩ := h
 have hd : Hdr T2 w B w (.slice q n c) n xss := ⟨vs,o,l,fun j u hj => by
  obtain ⟨q,m,c,xs,e,hx,hf⟩ := r j u hj
  exact ⟨q,m,c,xs,e,hx,hf.sl⟩⟩
 exact hd.sl2 (Below.refl _ _)
theorem HdrF.push {T2 T1 B n : Nat} {w w' : World} {v v' : Value} {xss : List (List UInt8)} {vs : List Value} {q : Option Addr} {m c : Nat} {xs : List UInt8} (ho : w'.ownsRow B T2 1 v' (n + 1) (vs ++ [.slice q m c])) (hvl : vs.length = n) (hl : xss.length = n)
  (hr : ∀ (j : Nat) (u : Value),vs[j]? = some u → ∃ q m c xs,u = .slice q m c ∧ xss[j]? = some xs ∧ Fresh T1 B w q m c xs) (hx : Fresh T1 B w q m c xs) (hp : ∀ (b : Nat) (cs : Array Value) (fr : Nat × Nat),w.heap[b]? = some (.cells cs T1 fr) → w'.heap[b]? = w.heap[b]?) : HdrF T2 T1 B w' v' (n + 1) (xss ++ [xs]) := by
 refine ⟨_,ho,by simp [hl],fun j u hj => ?_⟩
 by_cases h : j < vs.length
 ·rw [List.getElem?_append_left h] at hj
  obtain ⟨q,m,c,ys,e,hy,hf⟩ := hr j _ hj
  exact ⟨q,m,c,ys,e,by rw [List.getElem?_append_left (by omega)]; exact hy,fresh_same hf hp⟩
 ·rw [List.getElem?_append_right (by omega)] at hj
  by_cases h0 : j - vs.length = 0
  ·rw [h0] at hj
   simp at hj
   refine ⟨q,m,c,xs,hj.symm,?_,fresh_same hx hp⟩
   rw [List.getElem?_append_right (by omega),show j - xss.length = 0 by omega]; rfl
  ·rw [List.getElem?_eq_none (by simp; omega)] at hj; cases hj
end Go.By
namespace Go.Proofs.YtccaiiigdfieoaaGreatDoor
open Go.RowKit Go.By Go.Maps
end Go.Proofs.YtccaiiigdfieoaaGreatDoor
namespace Go.By
open Go.RowKit Go.Maps Go.Proofs.YtccaiiigdfieoaaGreatDoor
def OthS (T : TypeId) : Prop := T ≠ 118 ∧ T ≠ 191 ∧ 99 ≠ T ∧ 174 ≠ T
structure KeepS (w w' : World) : Prop where
 size : w.heap.size ≤ w'.heap.size
 same : ∀ T,OthS T → ∀ (b : Nat) (cs : Array Value) (fr : Nat × Nat),w.heap[b]? = some (.cells cs T fr) → w'.heap[b]? = w.heap[b]?
theorem KeepS.of {w w' : World} (h : Below w.heap.size w w') : KeepS w w' := ⟨h.size,fun _ _ b _ _ hb => h.block b (lt_of_block hb)⟩
theorem KeepS.trans {w a b : World} (h : KeepS w a) (h2 : KeepS a b) : KeepS w b :=
 ⟨Nat.le_trans h.size h2.size,fun T hT i cs fr hi => (h2.same T hT i cs fr ((h.same T hT i cs fr hi).trans hi)).trans (h.same T hT i cs fr hi)⟩
theorem KeepS.blk {w w' : World} (h : KeepS w w') {T b : Nat} {cs : Array Value} {fr : Nat × Nat} (hT : OthS T) (hb : w.heap[b]? = some (.cells cs T fr)) : w'.heap[b]? = some (.cells cs T fr) := (h.same T hT b cs fr hb).trans hb
theorem KeepS.fresh {w w' : World} (h : KeepS w w') {T B n c : Nat} {q : Option Addr} {xs : List UInt8} (hT : OthS T) (hf : Fresh T B w q n c xs) : Fresh T B w' q n c xs := fresh_same hf (h.same T hT)
theorem KeepS.hdr {w w' : World} (h : KeepS w w') {T2 T1 B n : Nat} {v : Value} {xss : List (List UInt8)} (h2 : OthS T2) (h1 : OthS T1) (hf : HdrF T2 T1 B w v n xss) : HdrF T2 T1 B w' v n xss := hf.same h.size (h.same T2 h2) (h.same T1 h1)
theorem KeepS.owns {w w' : World} (h : KeepS w w') {b2 T e n : Nat} {v : Value} {ys : List Value} (hT : OthS T) (ho : w.ownsRow b2 T e v n ys) : w'.ownsRow b2 T e v n ys :=
 owns_same ho h.size fun g hg => by
  rcases ho.2 with ⟨e1,_⟩ | ⟨g',cap,cur,e1,_,hh,_⟩
  ·rw [e1] at hg; cases hg
  ·rw [e1] at hg; cases hg
   exact h.same T hT _ _ _ hh
theorem os_u8 : OthS 5 := ⟨by decide,by decide,by decide,by decide⟩
theorem TChg.keepS {w w' : World} {base gt be L t k D N : Nat} {M v : Value} {C : DataW Unit} {K : List Rw} {st : Nat} (h : TChg w w' gt be v) (hT : Tkr w base gt be L t k D N M v C K st) : KeepS w w' :=
 ⟨h.size,fun T hO => h.same hT hO.1 hO.2.1 hO.2.2.1⟩
end Go.By
namespace Go.Proofs.YtccaiiigdfieoaaGreatDoor
open Go.RowKit Go.By Gf Go.Maps
section
variable {wI w0 w w' : World} {gs gt be base L t k D nx N st : Nat} {FX : List (List UInt8)} {v : Value} {K : List Rw}
end
end Go.Proofs.YtccaiiigdfieoaaGreatDoor
namespace Go.By
theorem crcBit_lt {r : Nat} (h : r < 4294967296) : crcBit r < 4294967296 := by
 unfold crcBit
 have h2 : r / 2 < 2 ^ 32 := by omega
 split
 ·exact Nat.xor_lt_two_pow h2 (by decide)
 ·omega
def crcBits : Nat → Nat → Nat
 | 0,r => r
 | j + 1,r => crcBit (crcBits j r)
theorem crcBits_lt {r : Nat} (h : r < 4294967296) : ∀ j,crcBits j r < 4294967296
 | 0 => h
 | j + 1 => crcBit_lt (crcBits_lt h j)
theorem crcBits_eight (r : Nat) (b : UInt8) : crcBits 8 (r ^^^ b.toNat) = crcByte r b := by
 rw [crc_byte]; rfl
theorem crcRun_snoc {xs : List UInt8} {k : Nat} {x : UInt8} (r : Nat) (h : xs[k]? = some x) : crcRun r (xs.take (k + 1)) = crcByte (crcRun r (xs.take k)) x := by
 rw [List.take_add_one,h,crcRun_append]; rfl
end Go.By
namespace Go.Proofs.YtccaiiigdfieoaaGreatDoor
open Go.RowKit Go.By
set_option maxHeartbeats 1000000 in
theorem RPut4_any (n : Nat) (h : n < 4294967296) (w : World) :
  Calls Tryz.prog 142 #[.int .u32 (n : Int)] w fun e w' => ∃ g,e = .returned (.slice (some ⟨g,0,none⟩) 4 4) ∧ w.heap.size ≤ g ∧ w'.heap[g]? = some (.cells ((put4 n).map B8).toArray 5 (0,0)) ∧ Below w.heap.size w w' := by
 have e0 := put4_cells n h
 go_enter Tryz.func142,Tryz.ntmps142
 go_wp2
 rw [← e0]
 go_ret
 exact ⟨w.heap.size,rfl,Nat.le_refl _,hnew rfl,al (Below.refl _ _) (Nat.le_refl _)⟩
set_option maxRecDepth 100000 in
set_option maxHeartbeats 2000000 in
theorem RSum4_any (p : Option Addr) (n c : Nat) (xs : List UInt8) (w : World) (h : Sl B8 w p n c xs) :
  Calls Tryz.prog 143 #[.slice p n c] w fun e w' => e = .returned (.int .u32 (crcS xs : Nat)) ∧ w = w' := by
 have hb := h.bound
 have H := Lib.hid h; clear h
 go_enter Tryz.func143,Tryz.ntmps143
 go_wp2
 go_loop [3,4] (fun r i => ∃ k v : Nat,k ≤ n ∧ i = .int .i64 k ∧ r = .int .u32 (v : Nat) ∧ Hid (v = crcRun 4294967295 (xs.take k))) (fun _ i => n - (intOf i).toNat)
 case atStart => exact ⟨0,4294967295,Nat.zero_le _,rfl,rfl,rfl⟩
 case round =>
  obtain ⟨k,v,hk,rfl,rfl,hv⟩ := hrel
  have hv32 : v < 4294967296 := by rw [hv.out]; exact crcRun_lt (by decide)
  by_cases hlt : k < n
  ·obtain ⟨b,o,x,rfl,hc,hx⟩ := H.out.at k hlt
   have hlt' : (k : Int) < (n : Int) := by omega
   have hxb := x.toNat_lt
   have e1 : bits .xor .u32 (v : Int) (x.toNat : Int) = ((v ^^^ x.toNat : Nat) : Int) := bits_xor32 hv32 (by omega)
   have hu : v ^^^ x.toNat < 4294967296 := Nat.xor_lt_two_pow hv32 (show x.toNat < 2 ^ 32 by omega)
   obtain ⟨u,hu0⟩ : ∃ u,u = v ^^^ x.toNat := ⟨_,rfl⟩
   rw [← hu0] at e1 hu
   have HU := Lib.hid hu0; clear hu0
   have e0 : IntKind.u32.wrap (x.toNat : Int) = (x.toNat : Int) := by rw [IntKind.wrap_u32]; omega
   clear hlt
   go_wp2_with (first | simp only [e1] | simp only [e0])
   go_loop [3,5] (fun r i => ∃ j y : Nat,j ≤ 8 ∧ i = .int .i64 j ∧ r = .int .u32 (y : Nat) ∧ Hid (y = crcBits j u)) (fun _ i => 8 - (intOf i).toNat)
   case atStart => exact ⟨0,u,by omega,rfl,rfl,rfl⟩
   case round =>
    obtain ⟨j,y,hj,rfl,rfl,hy⟩ := hrel
    have hy32 : y < 4294967296 := by rw [hy.out]; exact crcBits_lt hu j
    by_cases hj8 : j < 8
    ·have hj8' : (j : Int) < 8 := by omega
     by_cases hodd : y % 2 = 1
     ·have hm : (y : Int) % 2 = 1 := by omega
      obtain ⟨z,hz⟩ : ∃ z,z = y / 2 ^^^ 3988292384 := ⟨_,rfl⟩
      have e2 : bits .xor .u32 ((y : Int) / 2) 3988292384 = (z : Int) := by
       rw [hz,show (y : Int) / 2 = ((y / 2 : Nat) : Int) by omega]; exact bits_xor32 (by omega) (b := 3988292384) (by decide)
      have HY : Hid (z = crcBits (j + 1) u) := by
       show _ = crcBit (crcBits j u)
       rw [← hy.out,hz]; unfold crcBit; rw [if_pos hodd]
      clear hodd hj8 hz
      go_wp2_with (first | simp only [e2] | simp only [hm])
      go_round
      case rel => exact ⟨j + 1,_,by omega,by go_num,rfl,HY.out⟩
      case measure => simp [intOf]; omega
     ·have hm : (y : Int) % 2 = 0 := by omega
      have HY : Hid (y / 2 = crcBits (j + 1) u) := by
       show _ = crcBit (crcBits j u)
       rw [← hy.out]; unfold crcBit; rw [if_neg hodd]
      clear hodd hj8
      go_wp2_with (first | simp only [hm])
      go_round
      case rel => exact ⟨j + 1,_,by omega,by go_num,rfl,HY.out⟩
      case measure => simp [intOf]; omega
    ·obtain rfl : j = 8 := by omega
     have HV : Hid (y = crcRun 4294967295 (xs.take (k + 1))) := by
      show _ = _
      rw [hy.out,HU.out,crcBits_eight,crcRun_snoc _ hx.out,← hv.out]
     clear hj8
     go_wp2
     go_round
     case rel => exact ⟨k + 1,y,by omega,by go_num,rfl,HV.out⟩
     case measure => simp [intOf]; omega
  ·obtain rfl : k = n := by omega
   obtain ⟨d,hdd⟩ : ∃ d,d = 4294967295 - v := ⟨_,rfl⟩
   have HE : Hid (d = crcS xs) := by
    show _ = _
    rw [hdd,hv.out,← H.out.len,List.take_length]; rfl
   have e3 : IntKind.u32.wrap ((4294967295 : Int) - (v : Int)) = (d : Int) := by rw [IntKind.wrap_u32]; omega
   clear hlt hdd
   go_wp2_with (simp only [e3])
   go_ret
   exact ⟨by rw [HE.out]; rfl,rfl⟩
end Go.Proofs.YtccaiiigdfieoaaGreatDoor
namespace Go.By
end Go.By
namespace Go.Proofs.YtccaiiigdfieoaaGreatDoor
open Go.RowKit Go.By
end Go.Proofs.YtccaiiigdfieoaaGreatDoor
namespace Go.By
open Go.RowKit Go.Maps Go.Proofs.YtccaiiigdfieoaaGreatDoor
theorem HdrF.lt {T2 T1 B n : Nat} {w : World} {v : Value} {xss : List (List UInt8)} (h : HdrF T2 T1 B w v n xss) : ∀ g,v.ownBlock = some g → g < w.heap.size := by
 obtain ⟨vs,o,_⟩ := h
 exact fun g hg => (o.lt g hg).2
theorem HdrF.at {T2 T1 B n : Nat} {w : World} {q : Option Addr} {c : Nat} {xss : List (List UInt8)} (h : HdrF T2 T1 B w (.slice q n c) n xss) {j : Nat} (hj : j < n) : ∃ b o p m d xs,q = some ⟨b,o,none⟩ ∧ w.cell? ⟨b,o + j,none⟩ = some (.slice p m d) ∧ Hid (xss[j]? = some xs) ∧ Fresh T1 B w p m d xs := by
 obtain ⟨b,o,p,m,d,xs,e,hc,_,hx⟩ := h.sl2.at j hj
 obtain ⟨vs,ow,l,r⟩ := h
 have hl : vs.length = n := owns_len ow
 obtain ⟨p',m',d',xs',e1,hx',hf⟩ := r j vs[j] (List.getElem?_eq_getElem (by omega))
 have hx := hx.out
 rw [hx'] at hx; cases hx
 refine ⟨b,o,p,m,d,xs,e,hc,hx',?_⟩
 have hc2 : w.cell? ⟨b,o + j,none⟩ = some (.slice p' m' d') := by
  rcases ow.2 with ⟨h2,_⟩ | ⟨g,cap,cur,hv,_⟩
  ·cases h2; cases e
  ·cases hv; cases e
   have h3 := ow.cellAt j (by omega)
   rw [Nat.zero_add,h3,List.getElem?_eq_getElem (by omega),e1]
 rw [hc2] at hc; cases hc
 exact hf
end Go.By
namespace Go.Proofs.YtccaiiigdfieoaaGreatDoor
open Go.RowKit Go.By Gf Go.Maps
def OwnsH (W : World) (B T : Nat) (v : Value) (n : Nat) : Prop := ∃ ys,W.ownsRow B T 1 v n ys
theorem wpList_hdr {ops : Array Oper} {rest : List Oper} {o : Oper} {a : Act} {W : World} {Q : Exit → Act → World → Prop} (hgd : o.guard = none) (s x : Operand) (ho : o.op = .call { callee := .builtin .append,args := #[s,x],argTypes := #[31,31] })
  (B n : Nat) (v : Value) (xss : List (List UInt8)) (hs : a.eval s = v) (hH : HdrF 22 5 B W v n xss) (hn : n ≤ 1000000) (hB : B ≤ W.heap.size)
  (g : Nat) (hx : a.eval x = .slice (some ⟨g,0,none⟩) 1 1) (q : Option Addr) (m c : Nat) (fr : Nat × Nat) (xs : List UInt8) (hg : W.heap[g]? = some (.cells #[.slice q m c] 22 fr)) (hF : Fresh 5 B W q m c xs)
  (h : ∀ v' W',HdrF 22 5 B W' v' (n + 1) (xss ++ [xs]) → OwnsH W B 22 v n → W.grownBy W' v.ownBlock → (v'.ownBlock = v.ownBlock ∨ v'.ownBlock = some W.heap.size) → wpList Tryz.prog ops Q rest (a.put o.dst v') W') : wpList Tryz.prog ops Q (o :: rest) a W := by
 obtain ⟨i0,hi0,hz0,hz1,hz2⟩ := info_parts info_bytesC
 obtain ⟨vs,ho1,hl,hr⟩ := hH
 refine wpList_append_where W hgd s x 31 ho B 22 i0 (.slice none 0 0) 1 24 Tryz.underlying31 hi0 hz0 hz1 hz2 rfl (by decide) v n vs hs ho1 ⟨g,0,none⟩ 1 1 [.slice q m c] hx rfl (news_one hg) ones_one (by unfold maxLen; omega) (by omega) hB (by decide) ?_
 intro v' W' h1 h2 h3
 refine h v' W' (HdrF.push (v := v) h1 (by simpa using ho1.1) hl hr hF fun b cs fr hb => ?_) ⟨vs,ho1⟩ h2 h3
 rcases ho1.2 with ⟨e1,_⟩ | ⟨g',cap,cur,e1,_,hh,_⟩
 ·exact h2.block b (lt_of_block hb) (fun e => by rw [e1] at e; cases e)
 ·refine h2.block b (lt_of_block hb) (fun e => ?_)
  rw [e1] at e; cases e
  rw [hh] at hb; injection hb with hb; injection hb with _ hb _; exact absurd hb (by decide)
section
variable {wI w0 w w' : World} {gs gt be base L t k D nx N st : Nat} {FX : List (List UInt8)} {v : Value} {K : List Rw}
end
end Go.Proofs.YtccaiiigdfieoaaGreatDoor
namespace Go.By
open Go.RowKit
theorem sl_of_row {w : World} {a : Option Addr} {len cap : Nat} {zs : List Int}
  (h : (a = none ∧ len = 0 ∧ cap = 0 ∧ zs = []) ∨ ∃ x,a = some x ∧ len ≤ cap ∧ cap ≤ maxLen ∧ zs.length = cap ∧ (∀ i,i < zs.length → w.cell? (x.add i) = some (.int .u8 (zs.getD i 0))) ∧ ∀ n ∈ zs,(Lit.int .u8 n).wf = true) :
  ∃ xs,Sl B8 w a len cap xs := by
 rcases h with ⟨rfl,rfl,rfl,_⟩ | ⟨x,rfl,hl,hm,hz,hc,hw⟩
 ·exact ⟨[],Sl.nil0 _ _⟩
 ·refine ⟨(zs.take len).map fun z => UInt8.ofNat z.toNat,⟨by simp; omega,hl,hm,fun h => by simp at h,?_⟩⟩
  intro i hi
  have hi' : i < zs.length := by simp at hi; omega
  obtain ⟨b,o,hx,hc'⟩ := ints_at hc (by omega)
  refine ⟨b,o,by rw [hx],?_⟩
  have hh := hc i hi'
  rw [hx,Addr.add_lit] at hh
  rw [hh]
  have e : zs.getD i 0 = zs[i] := by simp [hi']
  rw [e]
  have hb := bounds_u8 (hw _ (List.getElem_mem hi'))
  simp
  omega
end Go.By
namespace Go.Proofs.YtccaiiigdfieoaaGreatDoor
open Go.RowKit Go.By Go.ChangeShapes Go.WideShapes Go.Deep
section
variable {H : Type} {enc : TypeId × Value → H} {P : Program} {w : World} {base : Nat} {held : Bool}
end
end Go.Proofs.YtccaiiigdfieoaaGreatDoor
namespace Go.By
open Go.RowKit
end Go.By
namespace Go.Proofs.YtccaiiigdfieoaaGreatDoor
open Go.RowKit Go.By Go.ChangeShapes Go.WideShapes Go.Deep
section
variable {H : Type} {enc : TypeId × Value → H} {P : Program} {w : World} {base : Nat} {held : Bool}
end
end Go.Proofs.YtccaiiigdfieoaaGreatDoor
namespace Go.Proofs.YtccaiiigdfieoaaGreatDoor
open Go.RowKit Go.By
set_option maxRecDepth 100000 in
set_option maxHeartbeats 1000000 in
theorem Few18_any (p : Option Addr) (m c : Nat) (xss : List (List UInt8)) (w : World) (h : Sl2 w p m c xss) :
  Calls Tryz.prog 25 #[.slice p m c] w fun e w' => e = .returned (.bool (xss.all (fun y => decide (y.length ≤ 800)) && decide (m ≤ 30))) ∧ w = w' := by
 have H := Lib.hid h
 have HL := Lib.hid h.len
 have hmb := h.bound
 obtain ⟨R,hR⟩ : ∃ R : Bool,R = (xss.all (fun y => decide (y.length ≤ 800)) && decide (m ≤ 30)) := ⟨_,rfl⟩
 rw [← hR]
 have HR := Lib.hid hR
 clear h hR
 go_enter Tryz.func25,Tryz.ntmps25
 go_wp2
 go_loop [7] (fun i => ∃ k : Nat,k ≤ m ∧ i = .int .i64 k ∧ Hid (∀ (j : Nat) (x : List UInt8),j < k → xss[j]? = some x → x.length ≤ 800)) (fun i => m - (intOf i).toNat)
 case atStart => exact ⟨0,Nat.zero_le _,rfl,fun j x hj => by omega⟩
 case round =>
  obtain ⟨k,hk,rfl,hj⟩ := hrel
  by_cases hlt : k < m
  ·obtain ⟨b,o,q,mx,cx,xs,rfl,hc,hs,hx⟩ := H.out.at k hlt
   have hmx := hs.len
   have hxb := hs.bound
   by_cases e : mx ≤ 800
   ·have HX := Lib.hid hmx
    clear hs hmx
    have e' : (mx : Int) ≤ 800 := by omega
    go_wp2
    go_round
    case rel => exact ⟨k + 1,by omega,by go_num,fun j x hjk hx' => by
     rcases Nat.lt_or_ge j k with h | h
     ·exact hj.out j x h hx'
     ·obtain rfl : j = k := by omega
      have := hx.out; rw [hx'] at this; cases this; rw [HX.out]; exact e⟩
    case measure => simp [intOf]; omega
   ·have e' : (800 : Int) < (mx : Int) := by omega
    have hRf : Hid (R = false) := by
     show R = false
     rw [HR.out]
     have : xss.all (fun y => decide (y.length ≤ 800)) = false := by
      rw [List.all_eq_false]
      exact ⟨xs,List.mem_of_getElem? hx.out,by simp; omega⟩
     rw [this]; rfl
    clear hs hmx e
    go_wp2
    go_ret
    exact ⟨by rw [hRf.out]; rfl,rfl⟩
  ·have hkm : k = m := by omega
   have hRt : Hid (R = decide ((m : Int) ≤ 30)) := by
    show R = _
    rw [HR.out]
    have : xss.all (fun y => decide (y.length ≤ 800)) = true := by
     rw [List.all_eq_true]
     intro x hx
     obtain ⟨i,hi,rfl⟩ := List.getElem_of_mem hx
     exact decide_eq_true (hj.out i _ (by rw [hkm,← HL.out]; exact hi) (List.getElem?_eq_getElem hi))
    rw [this,Bool.true_and]
    by_cases h30 : m ≤ 30
    ·rw [decide_eq_true h30,decide_eq_true (by omega)]
    ·rw [decide_eq_false h30,decide_eq_false (by omega)]
   have hge : (m : Int) ≤ (k : Int) := by omega
   clear hkm
   go_wp2
   go_ret
   exact ⟨by rw [hRt.out]; rfl,rfl⟩
def small19 (l s n : Int) : Bool := if checkS l s n = 0 then decide (n ≤ 12) && decide (s ≤ 20) else true
set_option maxRecDepth 100000 in
set_option maxHeartbeats 1000000 in
theorem Small19_any (l s n d : Int) (w : World) (hl2 : l ≤ 9223372036854775807) :
  Calls Tryz.prog 26 #[.agg #[.int .i64 l,.int .i64 s,.int .i64 n,.int .u32 d]] w fun e w' => e = .returned (.bool (small19 l s n)) ∧ Below w.heap.size w w' := by
 have HC := Lib.hid (fun w => Check_any l s n d w hl2)
 have HS : Hid (small19 l s n = if checkS l s n = 0 then decide (n ≤ 12) && decide (s ≤ 20) else true) := rfl
 generalize small19 l s n = R at *
 generalize checkS l s n = C at *
 by_cases hc : C = 0
 ·subst hc
  by_cases hn : n ≤ 12
  ·by_cases hs : s ≤ 20
   ·have HR : Hid (R = true) := by show _ = _; rw [HS.out,if_pos rfl,decide_eq_true hn,decide_eq_true hs]; rfl
    clear HS
    go_enter Tryz.func26,Tryz.ntmps26
    go_wp2_with fail
    refine Calls.mono (HC.out _) ?_
    rintro e w1 ⟨rfl,hb⟩
    obtain ⟨hb1,h1,hsz⟩ := one_of hb
    obtain ⟨c0,c1,c2,c3⟩ := cells_four h1
    have HB := Lib.hid hb1
    clear hb hb1
    go_wp2
    go_ret
    exact ⟨by rw [HR.out]; first | rfl | (simp only [decide_eq_true hs]; rfl),HB.out⟩
   ·have hs' : ¬ s ≤ 20 := by omega
    have HR : Hid (R = false) := by show _ = _; rw [HS.out,if_pos rfl,decide_eq_true hn,decide_eq_false hs']; rfl
    clear HS
    go_enter Tryz.func26,Tryz.ntmps26
    go_wp2_with fail
    refine Calls.mono (HC.out _) ?_
    rintro e w1 ⟨rfl,hb⟩
    obtain ⟨hb1,h1,hsz⟩ := one_of hb
    obtain ⟨c0,c1,c2,c3⟩ := cells_four h1
    have HB := Lib.hid hb1
    clear hb hb1
    go_wp2
    go_ret
    exact ⟨by rw [HR.out]; first | rfl | (simp only [show decide (s ≤ 20) = false from decide_eq_false (by omega)]; rfl),HB.out⟩
  ·have HR : Hid (R = false) := by show _ = _; rw [HS.out,if_pos rfl,decide_eq_false hn]; rfl
   clear HS
   go_enter Tryz.func26,Tryz.ntmps26
   go_wp2_with fail
   refine Calls.mono (HC.out _) ?_
   rintro e w1 ⟨rfl,hb⟩
   obtain ⟨hb1,h1,hsz⟩ := one_of hb
   obtain ⟨c0,c1,c2,c3⟩ := cells_four h1
   have HB := Lib.hid hb1
   clear hb hb1
   go_wp2
   go_ret
   exact ⟨by rw [HR.out]; rfl,HB.out⟩
 ·have hz : (C != 0) = true := bne_iff_ne.2 hc
  have HR : Hid (R = true) := by show _ = _; rw [HS.out,if_neg hc]
  clear HS hc
  go_enter Tryz.func26,Tryz.ntmps26
  go_wp2_with fail
  refine Calls.mono (HC.out _) ?_
  rintro e w1 ⟨rfl,hb⟩
  obtain ⟨hb1,h1,hsz⟩ := one_of hb
  have HB := Lib.hid hb1
  clear hb hb1
  go_wp2
  go_ret
  exact ⟨by rw [HR.out]; rfl,HB.out⟩
end Go.Proofs.YtccaiiigdfieoaaGreatDoor
namespace Go.Proofs.YtccaiiigdfieoaaGreatDoor
open Go.RowKit Go.By Gf Go.Maps
end Go.Proofs.YtccaiiigdfieoaaGreatDoor
namespace Go.Proofs.YtccaiiigdfieoaaGreatDoor
open Go.RowKit Go.By
end Go.Proofs.YtccaiiigdfieoaaGreatDoor
namespace Go.Proofs.YtccaiiigdfieoaaGreatDoor
open Go.RowKit Go.By
end Go.Proofs.YtccaiiigdfieoaaGreatDoor
namespace Go.By
open Go.RowKit
abbrev Par := Value × Int × List UInt8
section
variable {TP T1 : Nat} {w w' : World} {base n : Nat} {v : Value} {ts : List Par}
end
end Go.By
namespace Go.Proofs.YtccaiiigdfieoaaGreatDoor
open Go.RowKit Go.By
end Go.Proofs.YtccaiiigdfieoaaGreatDoor
namespace Go.Proofs.YtccaiiigdfieoaaGreatDoor
open Go.RowKit Go.By
def dropAt {α : Type} (ps : List α) (i : Nat) : List α := ps.take i ++ ps.drop (i + 1)
def putAtP {α : Type} (ps : List α) (k : Nat) (p : α) : List α := ps.take k ++ p :: ps.drop k
end Go.Proofs.YtccaiiigdfieoaaGreatDoor
namespace Go.Proofs.YtccaiiigdfieoaaGreatDoor
open Go.RowKit Go.By
end Go.Proofs.YtccaiiigdfieoaaGreatDoor
namespace Go.Proofs.YtccaiiigdfieoaaGreatDoor
open Go.RowKit Go.By
def cutP (p : List UInt8 × Int) (j : Nat) : List UInt8 × Int := if j < p.1.length then (p.1.take j,-1) else p
end Go.Proofs.YtccaiiigdfieoaaGreatDoor
namespace Go.Proofs.YtccaiiigdfieoaaGreatDoor
open Go.RowKit Go.By
def flip (xs : List UInt8) (at' : Nat) : List UInt8 := xs.set (at' / 8) ((xs.getD (at' / 8) 0) ^^^ UInt8.ofNat (2 ^ (at' % 8)))
def maskF (b j : Nat) (xs : List UInt8) : Nat → List UInt8 × Bool
 | 0 => (xs,false)
 | k + 1 => if b.testBit k = true ∧ (j + k) / 8 < xs.length then (flip (maskF b j xs k).1 (j + k),true) else maskF b j xs k
end Go.Proofs.YtccaiiigdfieoaaGreatDoor
namespace Go.Proofs.YtccaiiigdfieoaaGreatDoor
open Go.RowKit Go.By
def maskP (p : List UInt8 × Int) (b j : Nat) : List UInt8 × Int := ((maskF b j p.1 32).1,if (maskF b j p.1 32).2 then -1 else p.2)
end Go.Proofs.YtccaiiigdfieoaaGreatDoor
namespace Go.Proofs.YtccaiiigdfieoaaGreatDoor
open Go.RowKit Go.By
structure ActD where
 d : Int
 i : Int
 j : Int
 b : Nat
 bs : List UInt8
abbrev Pack := List UInt8 × Int
def stepS (ps : List Pack) (a : ActD) : List Pack :=
 if a.d < 0 ∨ 6 ≤ a.d ∨ a.j < 0 then ps
 else if a.d = 5 then ps ++ [(a.bs,-1)]
 else match ps[a.i.toNat]? with
  | none => ps
  | some p => if a.i < 0 then ps
   else if a.d = 0 then dropAt ps a.i.toNat
   else if a.d = 1 then ps ++ [p]
   else if a.d = 2 then putAtP (dropAt ps a.i.toNat) (min a.j.toNat (ps.length - 1)) p
   else if a.d = 3 then ps.set a.i.toNat (cutP p a.j.toNat)
   else ps.set a.i.toNat (maskP p a.b a.j.toNat)
end Go.Proofs.YtccaiiigdfieoaaGreatDoor
namespace Go.Proofs.YtccaiiigdfieoaaGreatDoor
open Go.RowKit Go.By Go.ChangeShapes Go.WideShapes Go.Deep
section
variable {H : Type} {enc : TypeId × Value → H} {P : Program} {w : World} {base : Nat} {held : Bool}
instance : Inhabited ActD := ⟨⟨0,0,0,0,[]⟩⟩
end
end Go.Proofs.YtccaiiigdfieoaaGreatDoor
namespace Go.Proofs.YtccaiiigdfieoaaGreatDoor
open Go.RowKit Go.By
end Go.Proofs.YtccaiiigdfieoaaGreatDoor
namespace Go.Proofs.YtccaiiigdfieoaaGreatDoor
open Go.RowKit Go.By
end Go.Proofs.YtccaiiigdfieoaaGreatDoor
namespace Go.Proofs.YtccaiiigdfieoaaGreatDoor
open Go.RowKit Go.By
end Go.Proofs.YtccaiiigdfieoaaGreatDoor
namespace Go.Proofs.YtccaiiigdfieoaaGreatDoor
open Go.RowKit Go.By
end Go.Proofs.YtccaiiigdfieoaaGreatDoor
namespace Go.Proofs.YtccaiiigdfieoaaGreatDoor
open Go.RowKit Go.By
end Go.Proofs.YtccaiiigdfieoaaGreatDoor
namespace Go.Proofs.YtccaiiigdfieoaaGreatDoor
open Go.RowKit Go.By Gf Go.Maps
section
variable {wI w0 w w' : World} {gs gt be base L t k D nx N st : Nat} {FX : List (List UInt8)} {v : Value} {K : List Rw}
end
end Go.Proofs.YtccaiiigdfieoaaGreatDoor
namespace Go.By
open Go.RowKit Go.Proofs.YtccaiiigdfieoaaGreatDoor
def clashRow (k t : Nat) : Rw := (List.replicate k 0,(List.replicate t (0 : UInt8)).set 0 1)
theorem clashRow_len (k t : Nat) : (clashRow k t).1.length = k ∧ (clashRow k t).2.length = t := by simp [clashRow]
def expR (k t : Nat) (K : List Rw) (st : Nat) : List Rw := if st = 2 then K ++ [clashRow k t] else K
theorem expR_not {k t st : Nat} {K : List Rw} (h : st ≠ 2) : expR k t K st = K := if_neg h
theorem expR_fit {k t st : Nat} {K : List Rw} (h : ∀ r,r ∈ K → Fit k t r) : ∀ r,r ∈ expR k t K st → Fit k t r := fun r hr => by
 unfold expR at hr
 split at hr
 ·rcases List.mem_append.1 hr with hr | hr
  ·exact h r hr
  ·rw [List.mem_singleton.1 hr]; exact clashRow_len k t
 ·exact h r hr
theorem expR_len {k t st : Nat} {K : List Rw} : (expR k t K st).length ≤ K.length + 1 := by
 unfold expR; split <;> simp
def expL (D : Nat) (R : List Rw) : List (List UInt8) := R.zipIdx.map fun p => pktB 0 D p.2 p.1.1 0 p.1.2
theorem expL_len (D : Nat) (R : List Rw) : (expL D R).length = R.length := by simp [expL]
theorem expL_snoc {D i : Nat} {R : List Rw} {x : Rw} (h : R[i]? = some x) : expL D (R.take (i + 1)) = expL D (R.take i) ++ [pktB 0 D i x.1 0 x.2] := by
 have hi := (List.getElem?_eq_some_iff.1 h).1
 unfold expL
 rw [List.take_add_one,h,List.zipIdx_append,List.map_append]
 simp only [Option.toList_some,List.zipIdx_cons,List.zipIdx_nil,List.map_cons,List.map_nil,List.length_take,Nat.zero_add]
 rw [Nat.min_eq_left (by omega)]
theorem expL_at {D i : Nat} {R : List Rw} {x : Rw} (h : R[i]? = some x) : (expL D R)[i]? = some (pktB 0 D i x.1 0 x.2) := by
 unfold expL
 rw [List.getElem?_map,List.getElem?_zipIdx,h]
 simp
theorem pktB_len0 (D i : Nat) (xs ys : List UInt8) : (pktB 0 D i xs 0 ys).length = 14 + xs.length + ys.length := by
 unfold pktB bodyP headB srcB
 rw [if_pos rfl]
 simp [put4_len]
 omega
def hexT (L : List (List UInt8)) : List UInt8 := L.flatMap fun x => hexL x ++ [10]
theorem hexT_snoc {L : List (List UInt8)} {i : Nat} {x : List UInt8} (h : L[i]? = some x) : hexT (L.take (i + 1)) = hexT (L.take i) ++ (hexL x ++ [10]) := by
 unfold hexT
 rw [List.take_add_one,h,List.flatMap_append]; simp
end Go.By
namespace Go.Proofs.YtccaiiigdfieoaaGreatDoor
open Go.RowKit Go.By
def wbRen : Go.Shelf.Ren := ⟨fun | 166 => 70 | 167 => 73 | 240 => 126 | 276 => 191 | n => n,fun | 0 => 0 | 3 => 3 | 4 => 4 | 5 => 5 | 9 => 9 | 20 => 20 | 37 => 22 | 70 => 133 | 72 => 135 | 75 => 137 | 164 => 267 | 80 => 70 | n => n,fun n => n⟩
theorem wbLays166 : Go.Proofs.Lays.n166 Tryz.prog wbRen :=
 {
  mixed := by kernel_rfl
  f166 := Tryz.func70.trans (congrArg some (by kernel_rfl))
  f240 := Tryz.func126.trans (congrArg some (by kernel_rfl))
  f276 := Tryz.func191.trans (congrArg some (by kernel_rfl))
  t0 := Tryz.underlying0
  a0 := Tryz.isAgg0
  z0 := Tryz.sizeOf0
  v0 := Tryz.zeroValue0
  t3 := Tryz.underlying3
  a3 := Tryz.isAgg3
  z3 := Tryz.sizeOf3
  v3 := Tryz.zeroValue3
  t4 := Tryz.underlying4
  a4 := Tryz.isAgg4
  z4 := Tryz.sizeOf4
  v4 := Tryz.zeroValue4
  t9 := Tryz.underlying9
  a9 := Tryz.isAgg9
  z9 := Tryz.sizeOf9
  v9 := Tryz.zeroValue9
  t20 := Tryz.underlying20
  a20 := Tryz.isAgg20
  z20 := Tryz.sizeOf20
  v20 := Tryz.zeroValue20
  t37 := Tryz.underlying22
  a37 := Tryz.isAgg22
  z37 := Tryz.sizeOf22
  v37 := Tryz.zeroValue22
  t70 := Tryz.underlying133
  a70 := Tryz.isAgg133
  z70 := Tryz.sizeOf133
  v70 := Tryz.zeroValue133
  t72 := Tryz.underlying135
  a72 := Tryz.isAgg135
  z72 := Tryz.sizeOf135
  v72 := Tryz.zeroValue135
  t75 := Tryz.underlying137
  a75 := Tryz.isAgg137
  z75 := Tryz.sizeOf137
  v75 := Tryz.zeroValue137
  t164 := Tryz.underlying267
  a164 := Tryz.isAgg267
  z164 := Tryz.sizeOf267
  v164 := Tryz.zeroValue267 }
theorem wbLays167 : Go.Proofs.Lays.n167 Tryz.prog wbRen :=
 {
  mixed := by kernel_rfl
  f167 := Tryz.func73.trans (congrArg some (by kernel_rfl))
  f240 := Tryz.func126.trans (congrArg some (by kernel_rfl))
  f276 := Tryz.func191.trans (congrArg some (by kernel_rfl))
  t0 := Tryz.underlying0
  a0 := Tryz.isAgg0
  z0 := Tryz.sizeOf0
  v0 := Tryz.zeroValue0
  t4 := Tryz.underlying4
  a4 := Tryz.isAgg4
  z4 := Tryz.sizeOf4
  v4 := Tryz.zeroValue4
  t5 := Tryz.underlying5
  a5 := Tryz.isAgg5
  z5 := Tryz.sizeOf5
  v5 := Tryz.zeroValue5
  t9 := Tryz.underlying9
  a9 := Tryz.isAgg9
  z9 := Tryz.sizeOf9
  v9 := Tryz.zeroValue9
  t20 := Tryz.underlying20
  a20 := Tryz.isAgg20
  z20 := Tryz.sizeOf20
  v20 := Tryz.zeroValue20
  t37 := Tryz.underlying22
  a37 := Tryz.isAgg22
  z37 := Tryz.sizeOf22
  v37 := Tryz.zeroValue22
  t70 := Tryz.underlying133
  a70 := Tryz.isAgg133
  z70 := Tryz.sizeOf133
  v70 := Tryz.zeroValue133
  t72 := Tryz.underlying135
  a72 := Tryz.isAgg135
  z72 := Tryz.sizeOf135
  v72 := Tryz.zeroValue135
  t75 := Tryz.underlying137
  a75 := Tryz.isAgg137
  z75 := Tryz.sizeOf137
  v75 := Tryz.zeroValue137
  t164 := Tryz.underlying267
  a164 := Tryz.isAgg267
  z164 := Tryz.sizeOf267
  v164 := Tryz.zeroValue267 }
theorem wbExtra : Builder.Extra Tryz.prog wbRen := {
 sizeBuilder := by kernel_rfl
 liesBuilder := by kernel_rfl
 t5 := Tryz.underlying5
 a5 := Tryz.isAgg5
 z5 := Tryz.sizeOf5
 v5 := Tryz.zeroValue5
 infoByte := by kernel_rfl
 cellsByte := by kernel_rfl
 sizeByte := by kernel_rfl
 neB5 := by decide }
theorem WriteS_b (B b : Nat) (t s : List UInt8) (w : World) (h : Lib.IsBuilder 135 5 B b (Lib.byteCells t) w) (hlen : t.length + s.length ≤ 100000000) (hBw : B ≤ w.heap.size) :
  Calls Tryz.prog 70 #[.pointer (some ⟨b,0,none⟩),.string (strB s)] w fun e w' => e = .returned (.tuple #[.int .i64 s.length,.nilIface]) ∧ Lib.BuilderAt 135 5 B b (.pointer (some ⟨b,0,none⟩)) (Lib.byteCells (t ++ s)) w' ∧ Below B w w' := by
 have := Any.Builder_WriteString (ρ := wbRen) wbLays166 wbExtra B b (Lib.byteCells t) (strB s) w h (by rw [Lib.byteCells_length,strB_size]; omega) hBw
 refine Calls.mono this ?_
 rintro e w' ⟨rfl,h1,h2⟩
 rw [strB_cells,bytes_append] at h1
 rw [strB_size]
 exact ⟨rfl,h1,h2⟩
theorem StringB_b (B b : Nat) (t : List UInt8) (w : World) (h : Lib.IsBuilder 135 5 B b (Lib.byteCells t) w) (hBw : B ≤ w.heap.size) :
  Calls Tryz.prog 74 #[.pointer (some ⟨b,0,none⟩)] w fun e w' => e = .returned (.string (strB t)) ∧ Below B w w' := Tryz.Builder_String_any B b t w h hBw
end Go.Proofs.YtccaiiigdfieoaaGreatDoor
namespace Go.Proofs.YtccaiiigdfieoaaGreatDoor
open Go.RowKit Go.By
def BldI (w : World) (b : Nat) (t : List UInt8) : Prop := Lib.IsBuilder 135 5 b b (Lib.byteCells t) w
theorem BldI.keep {w w' : World} {b : Nat} {t : List UInt8} (h : BldI w b t) (hb : Below w.heap.size w w') : BldI w' b t := Or.imp (fun h => BuilderAt.keep h hb) (fun h => BuilderAt.keep h hb) h
theorem BldI.lt {w : World} {b : Nat} {t : List UInt8} (h : BldI w b t) : b < w.heap.size := h.elim (fun h => h.lt) (fun h => h.lt)
theorem BldI.new {w : World} {b : Nat} (h : w.heap[b]? = some (.cells #[.pointer none,.slice none 0 0] 135 (0,0))) : BldI w b [] := Or.inl ⟨Nat.le_refl _,_,h,World.ownsRow_nil _ _ _ _,by simp [Value.ownBlock]⟩
theorem BldI.done {w : World} {b : Nat} {t : List UInt8} (h : BldI w b t) : Calls Tryz.prog 74 #[.pointer (some ⟨b,0,none⟩)] w fun e w' => e = .returned (.string (strB t)) ∧ Below b w w' := StringB_b b b t w h (Nat.le_of_lt h.lt)
def digits16 : List UInt8 := [48,49,50,51,52,53,54,55,56,57,97,98,99,100,101,102]
theorem digits_at : ∀ y,y < 16 → digits16[y]? = some (dgt y) := by decide
theorem digits_run {y : Nat} (hy : y < 16) (z : Int) (hz : z = (y : Int)) (w : World) : (Instr.index 9 (.string ⟨#[48,49,50,51,52,53,54,55,56,57,97,98,99,100,101,102]⟩) (.int .u8 z)).run Tryz.prog w = .ok (B8 (dgt y)) w :=
 txt_idx (l := digits16) _ Tryz.underlying9 (digits_at y hy) .u8 z hz w
theorem and15 (x : UInt8) : bits BinOp.and IntKind.u8 (x.toNat : Int) 15 = ((x.toNat % 16 : Nat) : Int) := by
 have h : ∀ n : Fin 256,bits BinOp.and IntKind.u8 (n.1 : Int) 15 = ((n.1 % 16 : Nat) : Int) := by decide +kernel
 exact h ⟨x.toNat,x.toNat_lt⟩
theorem hexL_step {l : List UInt8} {i : Nat} {x : UInt8} (h : l[i]? = some x) : hexL (l.take (i + 1)) = hexL (l.take i) ++ [dgt (x.toNat / 16)] ++ [dgt (x.toNat % 16)] := by
 unfold hexL
 rw [List.take_add_one,h,List.flatMap_append]; simp
theorem hexL_len2 (xs : List UInt8) : (hexL xs).length = 2 * xs.length := by
 unfold hexL
 induction xs with
 | nil => rfl
 | cons x l ih => rw [List.flatMap_cons,List.length_append,ih,List.length_cons]; simp; omega
end Go.Proofs.YtccaiiigdfieoaaGreatDoor
namespace Go.Proofs.YtccaiiigdfieoaaGreatDoor
open Go.RowKit Go.By
def BG (w : World) (B b : Nat) (v : Value) (t : List UInt8) : Prop :=
 w.heap[b]? = some (.cells #[.pointer (some ⟨b,0,none⟩),v] 135 (0,0)) ∧ w.ownsRow B 5 1 v t.length (t.map B8) ∧ v.ownBlock ≠ some b ∧ B ≤ w.heap.size
def BGk (w w' : World) (b : Nat) (v v' : Value) : Prop :=
 (∀ k,k < w.heap.size → k ≠ b → v.ownBlock ≠ some k → w'.heap[k]? = w.heap[k]?) ∧ w.heap.size ≤ w'.heap.size ∧ (v'.ownBlock = v.ownBlock ∨ ∀ g,v'.ownBlock = some g → w.heap.size ≤ g)
theorem CopyCheck_g (w : World) (b : Nat) (h : w.cell? ⟨b,0,none⟩ = some (.pointer (some ⟨b,0,none⟩))) :
  Calls Tryz.prog 126 #[.pointer (some ⟨b,0,none⟩)] w fun e w' => e = .returned (.tuple #[]) ∧ w = w' :=
 (Any.Builder_copyCheck_used (ρ := wbRen) { wbLays167 with } wbExtra.toX72 b w h).mono fun _ _ ⟨h1,h2⟩ => ⟨h1,h2.symm⟩
set_option maxRecDepth 100000 in
set_option maxHeartbeats 2000000 in
theorem WriteB_g (B b : Nat) (v : Value) (t : List UInt8) (x : UInt8) (w : World) (h : BG w B b v t) (hl : t.length + 1 ≤ 100000000) :
  Calls Tryz.prog 73 #[.pointer (some ⟨b,0,none⟩),B8 x] w fun e w' => e = .returned .nilIface ∧ ∃ v',BG w' B b v' (t ++ [x]) ∧ BGk w w' b v v' ∧ (B ≤ b → Below B w w') := by
 obtain ⟨i0,hi,hz0,hz1,hz2⟩ := info_parts info_u8
 obtain ⟨hbk,hown,hne,hBw⟩ := h
 obtain ⟨c0,c1⟩ := cells2 hbk
 have hlt := lt_of_block hbk
 have HC := Lib.hid (CopyCheck_g w b c0)
 have HBK := Lib.hid hbk
 have HOA : Hid (∀ o,(w.alloc o).ownsRow B 5 1 v t.length (t.map B8)) := fun o => hown.alloc o
 have HO := Lib.hid hown
 have HNE := Lib.hid hne
 clear hbk hown hne c0
 go_enter Tryz.func73,Tryz.ntmps73
 go_wp2_with fail
 refine Calls.mono HC.out ?_
 rintro e w1 ⟨rfl,rfl⟩
 go_wp2_with (at_builtin; refine wpList_append_where _ rfl _ _ 22 rfl B 5 i0 (.int .u8 0) 1 1 Tryz.underlying22 hi hz0 hz1 hz2 rfl (by decide) v t.length (t.map B8) rfl (HOA.out _) ⟨w.heap.size,0,none⟩ 1 1 [B8 x] rfl rfl ?c1 ?c2 ?c3 ?c4 ?c5 (by decide) ?_)
 case c1 =>
  intro j u hj
  match j,hj with
  | 0,hj => simp at hj; subst hj; rw [Addr.add_lit,cell_of_row _ _ _ _ _ _ (hnew (by simp))]; rfl
 case c2 => intro u hu; simp at hu; subst hu; rfl
 case c3 => unfold maxLen; omega
 case c4 => omega
 case c5 => simp; omega
 intro v' w2 hown' hgrow hwh
 have hb2 : w2.heap[b]? = some (.cells #[.pointer (some ⟨b,0,none⟩),v] 135 (0,0)) := by
  rw [hgrow.block b (by simp; omega) (fun e => HNE.out e.symm),Lib.alloc_old w _ b hlt]
  exact HBK.out
 obtain ⟨d0,d1⟩ := cells2 hb2
 have f1 : w2.frozen? ⟨b,1,none⟩ = false := frozen_of_row _ _ 1 _ _ hb2
 have HW := Lib.hid hwh
 have HG := Lib.hid hgrow
 have HN := Lib.hid hown'
 have HB2 := Lib.hid hb2
 obtain ⟨q,c,rfl⟩ := owns_shape hown'
 clear hown' hgrow hwh hb2
 go_wp2
 go_ret
 refine ⟨rfl,.slice q (t.length + 1) c,⟨?_,?_,?_,?_⟩,⟨?_,?_,?_⟩,fun hB => ?_⟩
 ·simp [World.setCell,Array.getElem?_modify,HB2.out]
 ·have hne := Lib.ownBlock_ne HN.out HB2.out (by decide)
  have := HN.out.kept (w' := w2.setCell ⟨b,1,none⟩ (.slice q (t.length + 1) c)) (row := some b) ⟨rfl,rfl,rfl,by simp [World.setCell],fun k _ hk => Below.heap_setCell _ _ _ _ (fun e => hk (by simp [e]))⟩ (Or.inr hne)
  simpa [List.map_append] using this
 ·exact Lib.ownBlock_ne HN.out HB2.out (by decide)
 ·have := HG.out.size; simp [World.setCell] at this ⊢; omega
 ·intro k hk hkb hkv
  rw [Below.heap_setCell _ _ _ _ (fun e => hkb e),HG.out.block k (by simp; omega) (fun e => hkv e.symm),Lib.alloc_old w _ k hk]
 ·have := HG.out.size; simp [World.setCell] at this ⊢; omega
 ·rcases HW.out with e | e
  ·exact .inl e
  ·refine .inr fun g hg => ?_
   rw [e] at hg
   cases hg
   simp
 ·exact (((Below.refl B w).alloc hBw _).grown HG.out (by simp; omega) (fun k hk => (HO.out.lt k hk).1)).setCell (p := ⟨b,1,none⟩) hB _
def MidW (w6 wr : World) (s5 : Nat) (v : Value) : Prop := (∀ k,s5 ≤ k → k < w6.heap.size → wr.heap[k]? = w6.heap[k]?) ∧ w6.heap.size ≤ wr.heap.size ∧ ∀ g,v.ownBlock = some g → g < s5 ∨ w6.heap.size ≤ g
theorem MidW.step {w6 wr w' : World} {s5 b : Nat} {v v' : Value} (h : MidW w6 wr s5 v) (hk : BGk wr w' b v v') (hb : b < s5) : MidW w6 w' s5 v' := by
 obtain ⟨h1,h2,h3⟩ := h
 obtain ⟨k1,k2,k3⟩ := hk
 refine ⟨fun k a c => ?_,by omega,fun g hg => ?_⟩
 ·rw [k1 k (by omega) (by omega) (fun e => by have := h3 k e; omega)]; exact h1 k a c
 ·rcases k3 with e | e
  ·exact h3 g (by rw [← e]; exact hg)
  ·have := e g hg; exact .inr (by omega)
theorem fresh_mid {T B n c : Nat} {w w' : World} {q : Option Addr} {xs : List UInt8} (h : Fresh T B w q n c xs) (hm : ∀ k,B ≤ k → k < w.heap.size → w'.heap[k]? = w.heap[k]?) : Fresh T B w' q n c xs := by
 have hd : ∀ a,q = some a → w'.heap[a.block]? = w.heap[a.block]? := fun a ha => by
  obtain ⟨cs,fr,e⟩ := h.ty a ha
  exact hm _ (h.new a ha) (lt_of_block e)
 refine ⟨⟨h.sl.len,h.sl.le,h.sl.max,h.sl.nil,fun i hi => ?_⟩,h.new,fun a ha => ?_⟩
 ·obtain ⟨b,o,e,hc⟩ := h.sl.rs i hi
  exact ⟨b,o,e,(World.cell?_of_block (a := ⟨b,o + i,none⟩) (show w'.heap[b]? = w.heap[b]? from hd ⟨b,o,none⟩ e)).trans hc⟩
 ·obtain ⟨cs,fr,e⟩ := h.ty a ha
  exact ⟨cs,fr,(hd a ha).trans e⟩
theorem hdrF_base {T2 T1 B n b o c : Nat} {w : World} {xss : List (List UInt8)} (h : HdrF T2 T1 B w (.slice (some ⟨b,o,none⟩) n c) n xss) : B ≤ b := by
 obtain ⟨vs,ow,_⟩ := h
 rcases ow.2 with ⟨e,_⟩ | ⟨g,cap,cur,e,hB,_⟩
 ·cases e
 ·cases e; exact hB
theorem cell_mid {B b o : Nat} {w w' : World} {u : Value} (h : w.cell? ⟨b,o,none⟩ = some u) (hB : B ≤ b) (hm : ∀ k,B ≤ k → k < w.heap.size → w'.heap[k]? = w.heap[k]?) : w'.cell? ⟨b,o,none⟩ = some u :=
 (World.cell?_of_block (a := ⟨b,o,none⟩) (show w'.heap[b]? = w.heap[b]? from hm b hB (lt_of_cell h))).trans h
theorem HdrF.mid {T2 T1 B n : Nat} {w w' : World} {v : Value} {xss : List (List UInt8)} (h : HdrF T2 T1 B w v n xss) (hs : w.heap.size ≤ w'.heap.size) (hm : ∀ k,B ≤ k → k < w.heap.size → w'.heap[k]? = w.heap[k]?) : HdrF T2 T1 B w' v n xss := by
 obtain ⟨vs,o,l,r⟩ := h
 refine ⟨vs,owns_same o hs fun g hg => hm g (o.lt g hg).1 (o.lt g hg).2,l,fun j u hj => ?_⟩
 obtain ⟨q,m,c,xs,e,hx,hf⟩ := r j u hj
 have hd : ∀ a,q = some a → w'.heap[a.block]? = w.heap[a.block]? := fun a ha => by
  obtain ⟨cs,fr,e⟩ := hf.ty a ha
  exact hm _ (hf.new a ha) (lt_of_block e)
 refine ⟨q,m,c,xs,e,hx,⟨hf.sl.len,hf.sl.le,hf.sl.max,hf.sl.nil,fun i hi => ?_⟩,hf.new,fun a ha => ?_⟩
 ·obtain ⟨b,o,e,hc⟩ := hf.sl.rs i hi
  exact ⟨b,o,e,(World.cell?_of_block (a := ⟨b,o + i,none⟩) (show w'.heap[b]? = w.heap[b]? from hd ⟨b,o,none⟩ e)).trans hc⟩
 ·obtain ⟨cs,fr,e⟩ := hf.ty a ha
  exact ⟨cs,fr,(hd a ha).trans e⟩
end Go.Proofs.YtccaiiigdfieoaaGreatDoor
namespace Go.By
open Go.RowKit Go.Proofs.YtccaiiigdfieoaaGreatDoor
theorem strB_app2 (a b : List UInt8) : strB a ++ strB b = strB (a ++ b) := by
 rw [strB_of (strB a ++ strB b)]
 congr 1
theorem hexL_take {xs : List UInt8} {i : Nat} {x : UInt8} (h : xs[i]? = some x) : hexL (xs.take (i + 1)) = hexL (xs.take i) ++ [dgt (x.toNat / 16),dgt (x.toNat % 16)] := by
 unfold hexL
 rw [List.take_add_one,h,List.flatMap_append]; rfl
theorem hexL_len (xs : List UInt8) : (hexL xs).length = 2 * xs.length := by
 unfold hexL
 induction xs with
 | nil => rfl
 | cons x l ih => rw [List.flatMap_cons,List.length_append,ih,List.length_cons]; simp; omega
end Go.By
namespace Go.Proofs.YtccaiiigdfieoaaGreatDoor
open Go.RowKit Go.By
theorem conv_sl {W : World} {q : Option Addr} {n c : Nat} {xs : List UInt8} (h : Sl B8 W q n c xs) (h0 : 0 < n) : (convert 22 9 (.slice q n c)).run Tryz.prog W = .ok (.string (strB xs)) W := by
 obtain ⟨b,o,rfl,-⟩ := h.has h0
 have h1 := run_convert_bytes_back W 22 9 5 ⟨b,o,none⟩ c xs Tryz.underlying22 Tryz.underlying5 Tryz.underlying9 (fun t ht => by
  obtain ⟨b',o',e,hc⟩ := h.rs t ht
  cases e
  rw [Addr.add_lit,hc])
 rw [h.len] at h1
 exact h1
set_option maxRecDepth 100000 in
set_option maxHeartbeats 2000000 in
theorem Hex24_any (q : Option Addr) (n c : Nat) (xs : List UInt8) (w : World) (h : Sl B8 w q n c xs) (hn : n ≤ 1000000) :
  Calls Tryz.prog 32 #[.slice q n c] w fun e w' => e = .returned (.string (strB (hexL xs))) ∧ Below w.heap.size w w' := by
 have H := Lib.hid h; clear h
 have HLN := Lib.hid H.out.len
 go_enter Tryz.func32,Tryz.ntmps32
 go_wp2
 go_loopw [3,4] (fun sv iv wr => ∃ (i : Nat) (A : List UInt8),i ≤ n ∧ iv = .int .i64 (i : Nat) ∧ sv = .string (strB A) ∧ Hid (A = hexL (xs.take i)) ∧ Hid (Below w.heap.size w wr)) (fun _ iv _ => n - (intOf iv).toNat)
 case atStart => exact ⟨0,[],Nat.zero_le _,rfl,rfl,rfl,Below.refl _ _⟩
 case round =>
  obtain ⟨i,A,hi,rfl,rfl,HA,HB⟩ := hrel
  by_cases hlt : i < n
  ·obtain ⟨b,o,x,rfl,hc,hx⟩ := (H.out.keep HB.out).at i hlt
   have hlt' : (i : Int) < (n : Int) := by omega
   have hAl : A.length ≤ 2000000 := by rw [HA.out,hexL_len,List.length_take]; omega
   have HX := Lib.hid (hexL_take hx.out)
   have hx2 := x.toNat_lt
   have HLT := Lib.hid hlt
   have hqu : IntKind.u8.wrap ((x.toNat : Int) / 16) = (x.toNat : Int) / 16 := by rw [IntKind.wrap_u8]; omega
   have hrm : ((x.toNat : Int)).tmod 16 = (x.toNat : Int) % 16 := Int.tmod_eq_emod_of_nonneg (by omega)
   clear hlt hx
   go_upto_region 5 with (fail)
   refine wp_region_shapes (fun ix => ([.val (.string (strB A)),.val (.slice (some ⟨b,o,none⟩) n c),.val (.int .i64 (i : Nat)),.val (.pointer (some ⟨b,o + i,none⟩)),.val (B8 x),.val (.int .u8 (x.toNat / 16 : Nat)),.val (B8 (dgt (x.toNat / 16))),.val (.slice (some ⟨b,o,none⟩) n c),.val (.int .i64 (i : Nat)),.val (.pointer (some ⟨b,o + i,none⟩)),.val (B8 x),.val (.int .u8 (x.toNat % 16 : Nat)),.val (B8 (dgt (x.toNat % 16))),.bytes ([dgt (x.toNat / 16),dgt (x.toNat % 16)]),.val (.string (strB [dgt (x.toNat / 16),dgt (x.toNat % 16)])),.val (.string ((strB A) ++ (strB [dgt (x.toNat / 16),dgt (x.toNat % 16)]))),.val (.string ((strB A) ++ (strB [dgt (x.toNat / 16),dgt (x.toNat % 16)])))][ix]?).getD (.any)) 28 rfl (by kernel_rfl) (by decide +kernel) (by decide +kernel) (by decide +kernel) ?_ ?_
   ·refine ⟨?_,?_,?_,?_,?_,?_,?_,?_,?_,?_,?_,?_,?_,?_,?_,?_,?_,trivial⟩
    ·intro a W hb0 hs hp hi; have hb := undrew hb0; clear hb0
     have t3 : sl a 3 = .string (strB A) := hi 3 (by decide)
     exact ite_y rfl (wp_val (sl a 3) rfl ⟨_,rfl,Below.refl _ _,t3⟩)
    ·intro a W hb0 hs hp hi; have hb := undrew hb0; clear hb0
     have t0 : sl a 0 = .slice (some ⟨b,o,none⟩) n c := hi 0 (by decide)
     exact ite_y rfl (wp_val (sl a 0) rfl ⟨_,rfl,Below.refl _ _,t0⟩)
    ·intro a W hb0 hs hp hi; have hb := undrew hb0; clear hb0
     have t4 : sl a 4 = .int .i64 (i : Nat) := hi 4 (by decide)
     exact ite_y rfl (wp_val (sl a 4) rfl ⟨_,rfl,Below.refl _ _,t4⟩)
    ·intro a W hb0 hs hp hi; have hb := undrew hb0; clear hb0
     have ti0 : sl a 12 = .slice (some ⟨b,o,none⟩) n c := hp 1 (by decide)
     have ti1 : sl a 13 = .int .i64 (i : Nat) := hp 2 (by decide)
     refine ite_y rfl (wp_val (.pointer (some ⟨b,o + i,none⟩)) ?_ ?_)
     ·simp only [execOp,eval_tmp,eval_const,ti0,ti1]; simp [go_sem,hlt']
     ·exact ⟨_,rfl,Below.refl _ _,rfl⟩
    ·intro a W hb0 hs hp hi; have hb := undrew hb0; clear hb0
     have tt : sl a 14 = .pointer (some ⟨b,o + i,none⟩) := hp 3 (by decide)
     have dd := (hb.cell (p := ⟨b,o + i,none⟩) (lt_of_cell hc)).trans hc
     refine ite_y rfl (wp_val (B8 x) ?_ ?_)
     ·simp only [execOp,eval_tmp,tt]; simp [go_sem,dd]
     ·exact ⟨_,rfl,Below.refl _ _,rfl⟩
    ·intro a W hb0 hs hp hi; have hb := undrew hb0; clear hb0
     have tt : sl a 15 = B8 x := hp 4 (by decide)
     refine ite_y rfl (wp_val (.int .u8 (x.toNat / 16 : Nat)) ?_ ?_)
     ·simp only [execOp,eval_tmp,eval_const,tt]; simp [go_sem,hqu,hrm]
     ·exact ⟨_,rfl,Below.refl _ _,rfl⟩
    ·intro a W hb0 hs hp hi; have hb := undrew hb0; clear hb0
     have t16 : sl a 16 = .int .u8 (x.toNat / 16 : Nat) := hp 5 (by decide)
     refine ite_y rfl (wp_enter 92 #[.int .u8 (x.toNat / 16 : Nat)] ?_ (digit_any (x.toNat / 16) (by omega) W) ?_)
     ·simp only [execOp,resolve,List.map_toArray,List.map,eval_tmp,eval_func,eval_const,t16]; simp [go_sem]
     ·rintro e W' ⟨rfl,rfl⟩; exact ⟨_,rfl,_,rfl,Below.refl _ _,rfl⟩
    ·intro a W hb0 hs hp hi; have hb := undrew hb0; clear hb0
     have t0 : sl a 0 = .slice (some ⟨b,o,none⟩) n c := hi 0 (by decide)
     exact ite_y rfl (wp_val (sl a 0) rfl ⟨_,rfl,Below.refl _ _,t0⟩)
    ·intro a W hb0 hs hp hi; have hb := undrew hb0; clear hb0
     have t4 : sl a 4 = .int .i64 (i : Nat) := hi 4 (by decide)
     exact ite_y rfl (wp_val (sl a 4) rfl ⟨_,rfl,Below.refl _ _,t4⟩)
    ·intro a W hb0 hs hp hi; have hb := undrew hb0; clear hb0
     have ti0 : sl a 18 = .slice (some ⟨b,o,none⟩) n c := hp 7 (by decide)
     have ti1 : sl a 19 = .int .i64 (i : Nat) := hp 8 (by decide)
     refine ite_y rfl (wp_val (.pointer (some ⟨b,o + i,none⟩)) ?_ ?_)
     ·simp only [execOp,eval_tmp,eval_const,ti0,ti1]; simp [go_sem,hlt']
     ·exact ⟨_,rfl,Below.refl _ _,rfl⟩
    ·intro a W hb0 hs hp hi; have hb := undrew hb0; clear hb0
     have tt : sl a 20 = .pointer (some ⟨b,o + i,none⟩) := hp 9 (by decide)
     have dd := (hb.cell (p := ⟨b,o + i,none⟩) (lt_of_cell hc)).trans hc
     refine ite_y rfl (wp_val (B8 x) ?_ ?_)
     ·simp only [execOp,eval_tmp,tt]; simp [go_sem,dd]
     ·exact ⟨_,rfl,Below.refl _ _,rfl⟩
    ·intro a W hb0 hs hp hi; have hb := undrew hb0; clear hb0
     have tt : sl a 21 = B8 x := hp 10 (by decide)
     refine ite_y rfl (wp_val (.int .u8 (x.toNat % 16 : Nat)) ?_ ?_)
     ·simp only [execOp,eval_tmp,eval_const,tt]; simp [go_sem,hqu,hrm]
     ·exact ⟨_,rfl,Below.refl _ _,rfl⟩
    ·intro a W hb0 hs hp hi; have hb := undrew hb0; clear hb0
     have t22 : sl a 22 = .int .u8 (x.toNat % 16 : Nat) := hp 11 (by decide)
     refine ite_y rfl (wp_enter 92 #[.int .u8 (x.toNat % 16 : Nat)] ?_ (digit_any (x.toNat % 16) (by omega) W) ?_)
     ·simp only [execOp,resolve,List.map_toArray,List.map,eval_tmp,eval_func,eval_const,t22]; simp [go_sem]
     ·rintro e W' ⟨rfl,rfl⟩; exact ⟨_,rfl,_,rfl,Below.refl _ _,rfl⟩
    ·intro a W hb0 hs hp hi; have hb := undrew hb0; clear hb0
     have t17 : sl a 17 = B8 (dgt (x.toNat / 16)) := hp 6 (by decide)
     have t23 : sl a 23 = B8 (dgt (x.toNat % 16)) := hp 12 (by decide)
     have v17 : a.tmps[17]?.getD undef = sl a 17 := by simp [sl]
     rw [t17] at v17
     have v23 : a.tmps[23]?.getD undef = sl a 23 := by simp [sl]
     rw [t23] at v23
     refine ite_y rfl (wp_val' (w' := W.alloc (.cells #[B8 (dgt (x.toNat / 16)),B8 (dgt (x.toNat % 16))] 5)) (.slice (some ⟨W.heap.size,0,none⟩) 2 2) ?_ ?_)
     ·simp only [execOp,eval_tmp,eval_const,t17,t23]; simp [go_sem,v17,v23]
     ·exact ⟨_,rfl,(al (Below.refl _ _) (Nat.le_refl _)),_,_,_,rfl,sl_block ([dgt (x.toNat / 16),dgt (x.toNat % 16)]) 2 (hnew rfl) rfl rfl (by simp [maxLen])⟩
    ·intro a W hb0 hs hp hi; have hb := undrew hb0; clear hb0
     have t24 : BytesIs [dgt (x.toNat / 16),dgt (x.toNat % 16)] (sl a 24) W := hp 13 (by decide)
     obtain ⟨y24a,y24b,y24c,t24,z24⟩ := t24
     refine ite_y rfl (wp_val (.string (strB [dgt (x.toNat / 16),dgt (x.toNat % 16)])) ?_ ?_)
     ·simp only [execOp,eval_tmp,t24]; rw [Sem.run_bind,conv_sl z24 (by rw [← z24.len]; simp)]; rfl
     ·exact ⟨_,rfl,Below.refl _ _,rfl⟩
    ·intro a W hb0 hs hp hi; have hb := undrew hb0; clear hb0
     have ti0 : sl a 11 = .string (strB A) := hp 0 (by decide)
     have ti1 : sl a 25 = .string (strB [dgt (x.toNat / 16),dgt (x.toNat % 16)]) := hp 14 (by decide)
     refine ite_y rfl (wp_val (.string ((strB A) ++ (strB [dgt (x.toNat / 16),dgt (x.toNat % 16)]))) ?_ ?_)
     ·simp only [execOp,eval_tmp,eval_const,ti0,ti1]; simp [go_sem,strB_size] <;> omega
     ·exact ⟨_,rfl,Below.refl _ _,rfl⟩
    ·intro a W hb0 hs hp hi; have hb := undrew hb0; clear hb0
     have t26 : sl a 26 = .string ((strB A) ++ (strB [dgt (x.toNat / 16),dgt (x.toNat % 16)])) := hp 15 (by decide)
     exact ite_y rfl (wp_val (sl a 26) rfl ⟨_,rfl,Below.refl _ _,t26⟩)
   intro a w5 hb hs hd hI ht
   have ha := act_is [11,12,13,14,15,16,17,18,19,20,21,22,23,24,25,26,3] hs hd ht (by decide)
   have t3 : sl a 3 = .string ((strB A) ++ (strB [dgt (x.toNat / 16),dgt (x.toNat % 16)])) := hI 16 (by decide)
   simp only [List.foldl,t3] at ha
   generalize sl a 11 = u11 at ha
   generalize sl a 12 = u12 at ha
   generalize sl a 13 = u13 at ha
   generalize sl a 14 = u14 at ha
   generalize sl a 15 = u15 at ha
   generalize sl a 16 = u16 at ha
   generalize sl a 17 = u17 at ha
   generalize sl a 18 = u18 at ha
   generalize sl a 19 = u19 at ha
   generalize sl a 20 = u20 at ha
   generalize sl a 21 = u21 at ha
   generalize sl a 22 = u22 at ha
   generalize sl a 23 = u23 at ha
   generalize sl a 24 = u24 at ha
   generalize sl a 25 = u25 at ha
   generalize sl a 26 = u26 at ha
   simp only [Act.put,List.setIfInBounds_toArray,List.set_cons_zero,List.set_cons_succ] at ha
   rw [ha]
   clear ha hI ht
   rw [strB_app2]
   have HA2 : Hid (A ++ [dgt (x.toNat / 16),dgt (x.toNat % 16)] = hexL (xs.take (i + 1))) := by show _ = _; rw [HX.out,HA.out]
   have HB2 := Lib.hid (bl HB.out hb HB.out.size)
   clear hb hc hqu hrm
   go_wp2
   go_roundw
   case rel => exact ⟨i + 1,_,by have := HLT.out; omega,by go_num,rfl,HA2.out,HB2.out⟩
   case measure => simp [intOf]; have := HLT.out; omega
  ·obtain rfl : i = n := by omega
   have e : A = hexL xs := by rw [HA.out,List.take_of_length_le (by rw [HLN.out]; exact Nat.le_refl _)]
   subst e
   clear hlt
   go_wp2
   go_ret
   exact ⟨rfl,HB.out⟩
end Go.Proofs.YtccaiiigdfieoaaGreatDoor
namespace Go.Proofs.YtccaiiigdfieoaaGreatDoor
open Go.RowKit Go.By
theorem hexT_len {L : List (List UInt8)} {m : Nat} (h : ∀ x ∈ L,x.length ≤ m) : (hexT L).length ≤ (2 * m + 1) * L.length := by
 induction L with
 | nil => simp [hexT]
 | cons x l ih =>
  have e : hexT (x :: l) = (hexL x ++ [10]) ++ hexT l := rfl
  have h1 := h x (by simp)
  have h2 := ih fun y hy => h y (by simp [hy])
  have h3 := hexL_len2 x
  have h4 : (2 * m + 1) * (l.length + 1) = (2 * m + 1) * l.length + (2 * m + 1) := Nat.mul_succ _ _
  have h5 : (x :: l).length = l.length + 1 := rfl
  have h6 : ([10] : List UInt8).length = 1 := rfl
  rw [e,List.length_append,List.length_append,h3,h5,h4,h6]
  omega
theorem digit_get {k : Nat} (hk : k < 16) (hs : k < (strB digits16).size) : (strB digits16)[k]'hs = dgt k := by
 have h3 : (strB digits16).data[k]? = some ((strB digits16)[k]'hs) := Array.getElem?_eq_getElem hs
 have h4 : (strB digits16).data[k]? = some (dgt k) := by rw [← Array.getElem?_toList,strB_data]; exact digits_at k hk
 rw [h3] at h4; exact Option.some.inj h4
theorem textS_pok {L t k D : Nat} (h : POK L t k D) : textS (L : Int) (t : Int) (k : Int) D = textW D L t k := by
 unfold textS
 rw [if_pos h.chk]
 simp
set_option maxRecDepth 1000000 in
set_option maxHeartbeats 8000000 in
theorem KText_ok (base gt be L t k D N : Nat) (M v : Value) (C : DataW Unit) (K : List Rw) (st : Nat) (R : List (List UInt8)) (w : World) (h : Tkr w base gt be L t k D N M v C K st) (hT : Tab10 w)
  (hEx : ∀ W,Below w.heap.size w W → Calls Tryz.prog 27 #[.pointer (some ⟨gt,0,none⟩)] W fun e w' => ∃ q c,e = .returned (.slice q R.length c) ∧ HdrF 22 5 W.heap.size w' (.slice q R.length c) R.length R ∧ Below W.heap.size W w')
  (hR : ∀ x ∈ R,x.length ≤ 100000) (hRl : R.length ≤ 100) :
  Calls Tryz.prog 18 #[.pointer (some ⟨gt,0,none⟩)] w fun e w' => e = .returned (.string (strB (textW D L t k ++ [10] ++ hexT R))) ∧ Below w.heap.size w w' := by
 have HGt : Hid (∀ W,Below w.heap.size w W → Calls Tryz.prog 71 #[.pointer (some ⟨gt,0,none⟩)] W fun e w' => e = .returned (GVal L t k D M) ∧ Below W.heap.size W w') := fun W hb => TGate_any base gt be L t k D N M v C K st W (h.keep hb)
 have HPt : Hid (∀ W,Below w.heap.size w W → Calls Tryz.prog 72 #[PVal L t k D] W fun e w' => e = .returned (.string (strB (textW D L t k))) ∧ Below W.heap.size W w') := fun W hb => by
  have := PText_any L t k D h.ok.d W h.ok.l (hT.keep hb)
  rwa [textS_pok h.ok] at this
 have HEx := Lib.hid hEx
 have HR := Lib.hid hR
 have htl : (textW D L t k).length ≤ 100 := textW_len (by have := h.ok.d; omega) (by have := h.ok.l; omega) (by have := h.ok.t2; omega) (by have := h.ok.k2; omega)
 have HHL : Hid (∀ i,(hexT (R.take i)).length ≤ 20000200) := fun i => by
  have h1 := hexT_len (L := R.take i) fun x hx => hR x (List.mem_of_mem_take hx)
  have h2 : (R.take i).length ≤ 100 := by rw [List.length_take]; omega
  have h3 : (2 * 100000 + 1) * (R.take i).length ≤ (2 * 100000 + 1) * 100 := Nat.mul_le_mul_left _ h2
  omega
 generalize textW D L t k = TX at *
 clear h hT hEx hR
 go_enter Tryz.func18,Tryz.ntmps18
 go_wp2_with fail
 have t1 : BldI (w.alloc (.cells #[.pointer none,.slice none 0 0] 135 (0,0))) w.heap.size [] := BldI.new (hnew rfl)
 have BW : Hid (Below w.heap.size w (w.alloc (.cells #[.pointer none,.slice none 0 0] 135 (0,0)))) := al (Below.refl _ _) (Nat.le_refl _)
 generalize w.alloc (.cells #[.pointer none,.slice none 0 0] 135 (0,0)) = w1 at *
 have T1 := Lib.hid t1
 clear t1
 refine Calls.mono (HGt.out w1 BW.out) ?_
 rintro e w2 ⟨rfl,hb⟩
 have HB2 := Lib.hid (bl BW.out hb BW.out.size)
 have T2 := Lib.hid (T1.out.keep hb)
 clear hb T1 BW HGt
 have hfg := field_gate L t k D M w2
 go_wp2_with (first | simp only [hfg] | fail)
 refine Calls.mono (HPt.out w2 HB2.out) ?_
 rintro e w3 ⟨rfl,hb⟩
 have HB3 := Lib.hid (bl HB2.out hb HB2.out.size)
 have T3 := T2.out.keep hb
 have hs3 := HB3.out.size
 have HS3 := Lib.hid (WriteS_b w.heap.size w.heap.size [] TX w3 T3 (by simpa using (by omega : TX.length ≤ 100000000)) hs3)
 have hTXs := strB_size TX
 clear hb T2 HB2 HPt T3 hfg
 generalize strB TX = TXS at *
 go_wp2_with fail
 refine Calls.mono HS3.out ?_
 rintro e w4 ⟨rfl,hbA,hb⟩
 obtain ⟨-,v4,hbk,hown,hne⟩ := hbA
 have HB4 := Lib.hid (HB3.out.trans hb)
 have HG4 : Hid (BG w4 w.heap.size w.heap.size v4 TX) := ⟨hbk,by rw [Lib.byteCells_length] at hown; exact hown,hne,by have := hb.size; omega⟩
 clear hb hbk hown hne HS3 HB3 hs3
 go_wp2_with fail
 refine Calls.mono (WriteB_g _ _ _ _ 10 w4 HG4.out (by omega)) ?_
 rintro e w5 ⟨rfl,v5,hg5,-,hb⟩
 have HB5 := Lib.hid (HB4.out.trans (hb (Nat.le_refl _)))
 have HG5 := Lib.hid hg5
 clear hg5 hb HG4 HB4
 go_wp2_with fail
 refine Calls.mono (HEx.out w5 HB5.out) ?_
 rintro e w6 ⟨q,c,rfl,hh,hb⟩
 have HB6 := Lib.hid (bl HB5.out hb HB5.out.size)
 have HH := Lib.hid hh
 have HM6 : Hid (MidW w6 w6 w5.heap.size v5) := ⟨fun _ _ _ => rfl,Nat.le_refl _,fun g hg => .inl (HG5.out.2.1.lt g hg).2⟩
 have HGB : Hid (w.heap.size < w5.heap.size) := lt_of_block HG5.out.1
 have HG6 : Hid (BG w6 w.heap.size w.heap.size v5 (TX ++ [10])) := ⟨(hb.block _ HGB.out).trans HG5.out.1,owns_keepv HG5.out.2.1 hb,HG5.out.2.2.1,by have := HB6.out.size; omega⟩
 have HL6 : Hid (BG w6 w.heap.size w.heap.size v5 (TX ++ [10] ++ hexT (R.take 0))) := by
  show BG _ _ _ _ _
  have : TX ++ [10] ++ hexT (R.take 0) = TX ++ [10] := by simp [hexT]
  rw [this]; exact HG6.out
 clear hh hb HG5 HB5 HG6 HEx
 go_wp2
 go_loopw [5,7,19,25] (fun _ _ iv _ wr => ∃ (i : Nat) (v : Value),i ≤ R.length ∧ iv = .int .i64 (i : Nat) ∧ Hid (BG wr w.heap.size w.heap.size v (TX ++ [10] ++ hexT (R.take i))) ∧ Hid (MidW w6 wr w5.heap.size v) ∧ Hid (Below w.heap.size w wr)) (fun _ _ iv _ _ => R.length - (intOf iv).toNat)
 case atStart => exact ⟨0,v5,Nat.zero_le _,rfl,HL6.out,HM6.out,HB6.out⟩
 case round =>
  obtain ⟨i,v,hi,rfl,HG,HM,HB⟩ := hrel
  clear HL6 HM6 HB6
  by_cases hlt : i < R.length
  ·obtain ⟨b,o,p,m,d,xs,rfl,hc,hx,hf⟩ := HH.out.at hlt
   have hc' := cell_mid hc (Nat.le_trans (hdrF_base HH.out) (Nat.le_refl _)) HM.out.1
   have HFr := Lib.hid hf
   have hlt' : (i : Int) < (R.length : Int) := by omega
   have HLT := Lib.hid hlt
   have hmb : m ≤ 100000 := by rw [← hf.sl.len]; exact HR.out _ (List.mem_of_getElem? hx.out)
   clear hlt hc hf
   have HXI := Lib.hid hx.out
   have HS := Lib.hid (hexT_snoc hx.out)
   have hA := HHL.out i
   obtain ⟨A,hAe⟩ : ∃ A,A = TX ++ [10] ++ hexT (R.take i) := ⟨_,rfl⟩
   have hAl : A.length ≤ 30000000 := by rw [hAe]; simp only [List.length_append,List.length_cons,List.length_nil]; omega
   rw [← hAe] at HG
   have HAE := Lib.hid hAe
   have HGz : Hid (BG wr w.heap.size w.heap.size v (A ++ hexL (xs.take 0))) := by
    show BG _ _ _ _ _
    have e : A ++ hexL (xs.take 0) = A := by simp [hexL]
    rw [e]; exact HG.out
   clear hAe hA hx HG
   go_wp2
   clear hc' hlt'
   go_loopw [7,25] (fun _ jv wr => ∃ (j : Nat) (v : Value),j ≤ m ∧ jv = .int .i64 (j : Nat) ∧ Hid (BG wr w.heap.size w.heap.size v (A ++ hexL (xs.take j))) ∧ Hid (MidW w6 wr w5.heap.size v) ∧ Hid (Below w.heap.size w wr)) (fun _ jv _ => m - (intOf jv).toNat)
   case atStart => exact ⟨0,v,Nat.zero_le _,rfl,HGz.out,HM.out,HB.out⟩
   case round =>
    clear HGz HM HB
    obtain ⟨j,v,hj,rfl,HG,HM,HB⟩ := hrel
    by_cases hlt : j < m
    ·obtain ⟨bb,oo,x,rfl,hc1,hx1⟩ := (fresh_mid HFr.out HM.out.1).sl.at j hlt
     have hlt' : (j : Int) < (m : Int) := by omega
     have HLT2 := Lib.hid hlt
     have HST := Lib.hid (hexL_step hx1.out)
     have hx8 := x.toNat_lt
     have hdA := digits_run (y := x.toNat / 16) (by omega) ((x.toNat : Int) / 16) (by omega)
     have hdB := digits_run (y := x.toNat % 16) (by omega) ((x.toNat % 16 : Nat) : Int) rfl
     have hand := and15 x
     have HLn : Hid ((A ++ hexL (xs.take j)).length ≤ 30300000) := by
      have h4 := hexL_len2 (xs.take j)
      have h5 : (xs.take j).length ≤ j := List.length_take_le _ _
      show _ ≤ _
      rw [List.length_append]; omega
     clear hlt hx1
     go_wp2_with (first | simp only [hdA] | fail)
     refine Calls.mono (WriteB_g _ _ _ _ _ wr HG.out (by have := HLn.out; omega)) ?_
     rintro e w7 ⟨rfl,v7,hg7,hk7,hb7⟩
     have HG7 := Lib.hid hg7
     have HM7 := Lib.hid (HM.out.step hk7 HGB.out)
     have HB7 := Lib.hid (HB.out.trans (hb7 (Nat.le_refl _)))
     clear hg7 hk7 hb7 HG HM HB hc1 hdA
     go_wp2_with (first | simp only [hand,hdB] | simp only [hdB] | fail)
     refine Calls.mono (WriteB_g _ _ _ _ _ w7 HG7.out (by have := HLn.out; have h1 : ([dgt (x.toNat / 16)] : List UInt8).length = 1 := rfl; rw [List.length_append]; omega)) ?_
     rintro e w8 ⟨rfl,v8,hg8,hk8,hb8⟩
     have ed : ∀ h,(ByteArray.mk #[48,49,50,51,52,53,54,55,56,57,97,98,99,100,101,102])[x.toNat % 16]'h = dgt (x.toNat % 16) := fun h => digit_get (by omega) h
     rw [ed] at hg8
     have HG8 : Hid (BG w8 w.heap.size w.heap.size v8 (A ++ hexL (xs.take (j + 1)))) := by show BG _ _ _ _ _; rw [HST.out,← List.append_assoc,← List.append_assoc]; exact hg8
     have HM8 := Lib.hid (HM7.out.step hk8 HGB.out)
     have HB8 := Lib.hid (HB7.out.trans (hb8 (Nat.le_refl _)))
     clear hg8 hk8 hb8 HG7 HM7 HB7 hdB hand
     go_wp2
     go_roundw
     case rel => exact ⟨j + 1,v8,HLT2.out,by go_num,HG8.out,HM8.out,HB8.out⟩
     case measure => simp [intOf]; have := HLT2.out; omega
    ·obtain rfl : j = m := by omega
     have e9 : xs.take j = xs := List.take_of_length_le (by rw [HFr.out.sl.len]; exact Nat.le_refl _)
     have HLn : Hid ((A ++ hexL xs).length ≤ 30300000) := by
      have h4 := hexL_len2 xs
      have h5 := HFr.out.sl.len
      show _ ≤ _
      rw [List.length_append]; omega
     rw [e9] at HG
     clear hlt e9
     go_wp2_with fail
     refine Calls.mono (WriteB_g _ _ _ _ 10 wr HG.out (by have := HLn.out; omega)) ?_
     rintro e w7 ⟨rfl,v7,hg7,hk7,hb7⟩
     have HG7 : Hid (BG w7 w.heap.size w.heap.size v7 (TX ++ [10] ++ hexT (R.take (i + 1)))) := by show BG _ _ _ _ _; rw [HS.out,← List.append_assoc,← List.append_assoc,← HAE.out]; exact hg7
     have HM7 := Lib.hid (HM.out.step hk7 HGB.out)
     have HB7 := Lib.hid (HB.out.trans (hb7 (Nat.le_refl _)))
     clear hg7 hk7 hb7 HG HM HB
     go_wp2
     go_roundw
     case rel => exact ⟨i + 1,v7,HLT.out,by go_num,HG7.out,HM7.out,HB7.out⟩
     case measure => simp [intOf]; have := HLT.out; omega
  ·obtain rfl : i = R.length := by omega
   have e9 : R.take R.length = R := List.take_length
   rw [e9] at HG
   have HD := Lib.hid (StringB_b w.heap.size w.heap.size (TX ++ [10] ++ hexT R) wr (.inr ⟨Nat.le_refl _,v,HG.out.1,by rw [Lib.byteCells_length]; exact HG.out.2.1,HG.out.2.2.1⟩) HG.out.2.2.2)
   clear hlt e9
   go_wp2_with fail
   refine Calls.mono HD.out ?_
   rintro e w7 ⟨rfl,hb⟩
   have HB7 := Lib.hid (HB.out.trans hb)
   clear hb
   go_wp2
   go_ret
   have e0 : TX ++ [10] ++ hexT R = TX ++ 10 :: hexT R := by simp
   exact ⟨by rw [e0]; rfl,HB7.out⟩
end Go.Proofs.YtccaiiigdfieoaaGreatDoor
namespace Go.Proofs.YtccaiiigdfieoaaGreatDoor
open Go.RowKit Go.By
set_option maxHeartbeats 1000000 in
theorem RShift5_any (z b : Nat) (hz : z < 18446744073709551616) (hb : b ≤ 64) (w : World) :
  Calls Tryz.prog 260 #[.int .u64 (z : Nat),.int .i64 (b : Nat)] w fun e w' => e = .returned (.int .u64 (mixX z b : Nat)) ∧ w = w' := by
 have HZ := Lib.hid hz
 clear hz
 go_enter Tryz.func260,Tryz.ntmps260
 go_wp2
 go_loop [5,6] (fun kv iv => ∃ j y : Nat,j ≤ b ∧ y < 18446744073709551616 ∧ iv = .int .i64 (j : Nat) ∧ kv = .int .u64 (y : Nat) ∧ Hid (y = z / 2 ^ j)) (fun _ i => b - (intOf i).toNat)
 case atStart => exact ⟨0,z,Nat.zero_le _,HZ.out,rfl,rfl,by show z = z / 2 ^ 0; simp⟩
 case round =>
  obtain ⟨j,y,hj,hy64,rfl,rfl,hy⟩ := hrel
  by_cases hlt : j < b
  ·have hlt' : (j : Int) < (b : Int) := by omega
   have HY : Hid (y / 2 = z / 2 ^ (j + 1)) := by show _ = _; rw [hy.out,Nat.div_div_eq_div_mul,Nat.pow_succ]
   clear hlt
   go_wp2
   go_round
   case rel => exact ⟨j + 1,y / 2,by omega,by omega,by go_num,by go_num,HY.out⟩
   case measure => simp [intOf]; omega
  ·obtain rfl : j = b := by omega
   have e1 : bits .xor .u64 (z : Int) (y : Int) = (mixX z j : Int) := by
    rw [bits_xor64 HZ.out hy64,hy.out]; rfl
   clear hlt hj hy
   go_wp2_with (simp only [e1])
   go_ret
   exact ⟨rfl,rfl⟩
set_option maxHeartbeats 1000000 in
theorem RNext5_any (s : Nat) (w : World) :
  Calls Tryz.prog 235 #[.int .u64 (s : Nat)] w fun e w' => e = .returned (.tuple #[.int .u64 (mixS s : Nat),.int .u64 (mixZ (mixS s) : Nat)]) ∧ w = w' := by
 have w1 : IntKind.u64.wrap ((s : Int) + 11400714819323198485) = (mixS s : Int) := by rw [IntKind.wrap_u64]; unfold mixS; omega
 have hl := mixS_lt s
 obtain ⟨S,hS⟩ : ∃ S,S = mixS s := ⟨_,rfl⟩
 unfold mixZ
 rw [← hS] at w1 hl ⊢
 have c1 := Lib.hid (fun w => RShift5_any S 30 hl (by decide) w)
 obtain ⟨Y,hY⟩ : ∃ Y,Y = mixX S 30 := ⟨_,rfl⟩
 rw [← hY] at c1 ⊢
 have m1 : IntKind.u64.wrap ((Y : Int) * 13787848793156543929) = ((Y * 13787848793156543929 % 18446744073709551616 : Nat) : Int) := by rw [IntKind.wrap_u64]; omega
 obtain ⟨Z,hZ⟩ : ∃ Z,Z = Y * 13787848793156543929 % 18446744073709551616 := ⟨_,rfl⟩
 have lz : Z < 18446744073709551616 := by rw [hZ]; exact Nat.mod_lt _ (by decide)
 rw [← hZ] at m1 ⊢
 have c2 := Lib.hid (fun w => RShift5_any Z 27 lz (by decide) w)
 obtain ⟨Y2,hY2⟩ : ∃ Y,Y = mixX Z 27 := ⟨_,rfl⟩
 rw [← hY2] at c2 ⊢
 have m2 : IntKind.u64.wrap ((Y2 : Int) * 10723151780598845931) = ((Y2 * 10723151780598845931 % 18446744073709551616 : Nat) : Int) := by rw [IntKind.wrap_u64]; omega
 obtain ⟨Z2,hZ2⟩ : ∃ Z,Z = Y2 * 10723151780598845931 % 18446744073709551616 := ⟨_,rfl⟩
 have lz2 : Z2 < 18446744073709551616 := by rw [hZ2]; exact Nat.mod_lt _ (by decide)
 rw [← hZ2] at m2 ⊢
 have c3 := Lib.hid (fun w => RShift5_any Z2 31 lz2 (by decide) w)
 obtain ⟨Y3,hY3⟩ : ∃ Y,Y = mixX Z2 31 := ⟨_,rfl⟩
 rw [← hY3] at c3 ⊢
 clear hS hY hZ hY2 hZ2 hY3 hl lz lz2
 go_enter Tryz.func235,Tryz.ntmps235
 go_wp2_with fail
 refine Calls.mono (c1.out _) ?_
 rintro e wa ⟨rfl,rfl⟩
 go_wp2_with fail
 refine Calls.mono (c2.out _) ?_
 rintro e wa ⟨rfl,rfl⟩
 go_wp2_with fail
 refine Calls.mono (c3.out _) ?_
 rintro e wa ⟨rfl,rfl⟩
 go_wp2
 go_ret2
 exact ⟨rfl,rfl⟩
def lnV : Value → Nat
 | .slice _ n _ => n
 | _ => 0
theorem mixRow_at {s n i : Nat} (h : i < n) : (mixRow s n)[i]? = some (mixAt s i) := by
 unfold mixRow
 rw [List.getElem?_map,List.getElem?_range h]; rfl
set_option maxRecDepth 100000 in
set_option maxHeartbeats 2000000 in
theorem RBytes5_any (s n : Nat) (hn : n ≤ 65536) (w : World) :
  Calls Tryz.prog 202 #[.int .u64 (s : Nat),.int .i64 (n : Nat)] w fun e w' => ∃ s' q c,e = .returned (.tuple #[.int .u64 s',.slice q n c]) ∧ w'.ownsRow w.heap.size 5 1 (.slice q n c) n ((mixRow s n).map B8) ∧ Below w.heap.size w w' := by
 obtain ⟨i0,hi,hz0,hz1,hz2⟩ := info_parts info_u8
 go_enter Tryz.func202,Tryz.ntmps202
 go_wp2
 go_loopw [0,6] (fun sv v wr => ∃ q : Nat,8 * q ≤ n + 7 ∧ sv = .int .u64 (mixIt s q : Nat) ∧ Hid (wr.ownsRow w.heap.size 5 1 v (min (8 * q) n) (((mixRow s n).take (min (8 * q) n)).map B8)) ∧ Hid (Below w.heap.size w wr)) (fun _ v _ => n - lnV v)
 case atStart => exact ⟨0,by omega,rfl,Lib.hid (by simpa using World.ownsRow_nil w w.heap.size 5 1),Below.refl _ _⟩
 case round =>
  obtain ⟨q,hq,rfl,HO,HB⟩ := hrel
  obtain ⟨p0,c0,rfl⟩ := owns_shape HO.out
  by_cases hlt : 8 * q < n
  ·rw [show min (8 * q) n = 8 * q by omega] at HO ⊢
   have HLT := Lib.hid hlt
   clear hlt
   have hlt' : ((8 * q : Nat) : Int) < (n : Int) := by have := HLT.out; omega
   have hnx := RNext5_any (mixIt s q) wr
   rw [show mixS (mixIt s q) = mixIt s (q + 1) from rfl] at hnx
   obtain ⟨X,hX⟩ : ∃ X,X = mixZ (mixIt s (q + 1)) := ⟨_,rfl⟩
   rw [← hX] at hnx
   have HX := Lib.hid hX
   have HN := Lib.hid hnx
   have hX64 : X < 18446744073709551616 := by rw [hX]; exact mixZ_lt _
   have HX64 := Lib.hid hX64
   clear hX hnx hX64
   go_wp2_with fail
   refine Calls.mono HN.out ?_
   rintro e wa ⟨rfl,rfl⟩
   clear HN
   obtain ⟨st,hst⟩ : ∃ st,st = mixIt s (q + 1) := ⟨_,rfl⟩
   rw [← hst]
   have HST := Lib.hid hst
   clear hst
   go_wp2
   go_loopw [6,8,9] (fun v xv jv wi => ∃ j x : Nat,j ≤ 8 ∧ x < 18446744073709551616 ∧ jv = .int .i64 (j : Nat) ∧ xv = .int .u64 (x : Nat) ∧ Hid (x = X / 256 ^ j) ∧ Hid (wi.ownsRow w.heap.size 5 1 v (min (8 * q + j) n) (((mixRow s n).take (min (8 * q + j) n)).map B8)) ∧ Hid (Below w.heap.size w wi)) (fun _ _ jv _ => 8 - (intOf jv).toNat)
   case atStart => exact ⟨0,X,by omega,HX64.out,rfl,rfl,by show X = X / 256 ^ 0; simp,by rw [Nat.add_zero,show min (8 * q) n = 8 * q by have := HLT.out; omega]; exact HO.out,HB.out⟩
   case round =>
    clear HO HB
    obtain ⟨j,x,hj,hx,rfl,rfl,HXJ,HO,HB⟩ := hrel
    obtain ⟨p1,c1,rfl⟩ := owns_shape HO.out
    by_cases hj8 : j < 8
    ·have hj8' : (j : Int) < 8 := by omega
     have HXN : Hid (x / 256 = X / 256 ^ (j + 1)) := by show _ = _; rw [HXJ.out,Nat.div_div_eq_div_mul,Nat.pow_succ]
     have HJ := Lib.hid hj8
     clear hj8
     by_cases hin : 8 * q + j < n
     ·rw [show min (8 * q + j) n = 8 * q + j by omega] at HO ⊢
      have hin' : ((8 * q + j : Nat) : Int) < (n : Int) := by omega
      have A1 : IntKind.u8.wrap ((x : Int) % 256) = ((mixAt s (8 * q + j)).toNat : Int) := by
       have e1 : (8 * q + j) / 8 = q := by have := HJ.out; omega
       have e2 : (8 * q + j) % 8 = j := by have := HJ.out; omega
       unfold mixAt
       rw [e1,e2,← HX.out,← HXJ.out,UInt8.toNat_ofNat',IntKind.wrap_u8]
       omega
      have HIN := Lib.hid hin
      obtain ⟨L,eL⟩ : ∃ L,L = ((mixRow s n).take (8 * q + j)).map B8 := ⟨_,rfl⟩
      rw [← eL] at HO
      have HEL := Lib.hid eL
      obtain ⟨b8,hb8⟩ : ∃ b8,b8 = mixAt s (8 * q + j) := ⟨_,rfl⟩
      rw [← hb8] at A1
      have HB8 := Lib.hid hb8
      obtain ⟨m,hm⟩ : ∃ m,m = 8 * q + j := ⟨_,rfl⟩
      rw [← hm] at HO hin'
      rw [← hm]
      have HM := Lib.hid hm
      have hm6 : m ≤ 65536 := by omega
      clear hin eL hb8 hm
      go_wp2_with (first
       | simp only [A1]
       | (at_builtin; refine wpList_append_rs _ rfl _ _ 22 rfl w.heap.size 5 i0 (.int .u8 0) 1 Tryz.underlying22 hi hz0 hz1 hz2 rfl _ m _ rfl (HO.out.alloc _) B8 _ _ _ [b8] (fun _ _ => rfl) rfl (sl_one rfl rfl) ?c1 ?c2 ?c3 ?_))
      case c1 => unfold maxLen; simp; omega
      case c2 => simp; omega
      case c3 => have := HB.out.size; simp; omega
      intro v' w' ho hg
      have HO' := Lib.hid ho; clear ho
      have HB' := Lib.hid ((HB.out.alloc HB.out.size _).grown hg (by have := HB.out.size; simp; omega) (fun j hj => (HO.out.lt j hj).1))
      clear hg
      go_wp2
      go_roundw
      case rel =>
       refine ⟨j + 1,x / 256,by have := HJ.out; omega,by omega,by go_num,by go_num,HXN.out,?_,HB'.out⟩
       have h1 := HIN.out
       rw [show min (8 * q + (j + 1)) n = (8 * q + j) + 1 by omega,List.take_add_one,mixRow_at h1,List.map_append,← HEL.out,← HM.out]
       have h2 := HO'.out
       rw [HB8.out,← HM.out] at h2
       exact h2
      case measure => simp [intOf]; have := HJ.out; omega
     ·rw [show min (8 * q + j) n = n by omega] at HO ⊢
      have HIN : Hid (min (8 * q + (j + 1)) n = n) := by show _ = _; omega
      clear hin
      go_wp2
      go_roundw
      case rel => exact ⟨j + 1,x / 256,by have := HJ.out; omega,by omega,by go_num,by go_num,HXN.out,by rw [HIN.out]; exact HO.out,HB.out⟩
      case measure => simp [intOf]; have := HJ.out; omega
    ·obtain rfl : j = 8 := by omega
     clear hj8 hj
     go_wp2
     go_roundw
     case rel => exact ⟨q + 1,by have := HLT.out; omega,by rw [HST.out],by rw [show 8 * (q + 1) = 8 * q + 8 by omega]; exact HO.out,HB.out⟩
     case measure => simp [lnV]; have := HLT.out; omega
  ·rw [show min (8 * q) n = n by omega] at HO ⊢
   have hge : ¬ (n : Int) < (n : Int) := by omega
   have HE : Hid ((mixRow s n).take n = mixRow s n) := by show _ = _; exact List.take_of_length_le (by rw [mixRow_len]; exact Nat.le_refl _)
   clear hlt hq
   go_wp2
   go_ret2
   have h1 := HO.out
   rw [HE.out] at h1
   exact ⟨_,p0,c0,rfl,h1,HB.out⟩
end Go.Proofs.YtccaiiigdfieoaaGreatDoor
namespace Go.By
open Go.RowKit
theorem wp_region_row {P : Program} {ops : Array Oper} {Q : Exit → Act → World → Prop} {id : Nat} {a0 : Act} {w0 : World} (sv : Nat → Value) (n m g T : Nat) (cs : Array Value) (hn : a0.tmps.size = n) (hm : P.follows .mixedOrders = true) (hback : backB ops = true) (hdist : distB ops = true) (hpair : pairB ops n m m = true)
  (z : ∃ old,w0.heap[g]? = some (.cells old T (0,0)) ∧ old.size = cs.size)
  (each : ∀ i o,i ≠ m → ops[i]? = some o → ∀ a w,TwoE w0 g g w → a.tmps.size = a0.tmps.size → (∀ k d,k ∈ preds o → k ≠ m → dstOf ops k = some d → sl a d = sv k) → (∀ t,initAt ops i t = true → sl a t = sl a0 t) → o.wp P a w (fun a' w' => a' = a.put o.dst (sv i) ∧ w' = w) Q)
  (st : ∀ o,ops[m]? = some o → ∀ a w,TwoE w0 g g w → a.tmps.size = a0.tmps.size → (∀ k d,k ∈ preds o → k ≠ m → dstOf ops k = some d → sl a d = sv k) → (∀ t,initAt ops m t = true → sl a t = sl a0 t) → ∀ old,w.heap[g]? = some (.cells old T (0,0)) → old.size = cs.size → o.wp P a w (fun a' w' => a' = a.put o.dst undef ∧ w' = w.setRow g cs) Q)
  (hs : m < ops.size)
  (fin : ∀ a w,TwoE w0 g g w → w.heap[g]? = some (.cells cs T (0,0)) → a.tmps.size = a0.tmps.size → a.defers = a0.defers → (∀ j d,j < ops.size → j ≠ m → dstOf ops j = some d → sl a d = sv j) → (∀ t,(ops.toList.all fun o => o.dst != some t) = true → sl a t = sl a0 t) → Q .normal a w) :
  (Code.region id ops true).wp P Q a0 w0 := by
 have hp : ∀ i o,ops[i]? = some o → o.guard = none ∧ (i ≠ m → ∃ d,o.dst = some d ∧ d < n) ∧ (i = m → o.dst = none) := fun i o ho => by
  have h0 := List.all_eq_true.1 hpair i (List.mem_range.2 (Array.getElem?_eq_some_iff.1 ho).1)
  rw [ho] at h0
  simp only [Bool.and_eq_true] at h0
  refine ⟨by cases hg : o.guard <;> simp [hg] at h0 ⊢,fun h1 => ?_,fun h => ?_⟩
  ·have h3 := h0.2
   rw [if_neg (by simp [h1])] at h3
   cases hd : o.dst with
   | none => rw [hd] at h3; cases h3
   | some d => rw [hd] at h3; exact ⟨d,rfl,of_decide_eq_true h3⟩
  ·have h3 := h0.2
   rw [if_pos (by simp [h])] at h3
   cases hd : o.dst <;> simp [hd] at h3 ⊢
 refine wp_region_each hm hback (fun _ w => TwoE w0 g g w ∧ ∃ old,w.heap[g]? = some (.cells old T (0,0)) ∧ old.size = cs.size)
  (fun i w w' => if i = m then w' = w.setRow g cs else w' = w)
  (fun j σ w => if j = m then w.heap[g]? = some (.cells cs T (0,0)) else ∀ d,dstOf ops j = some d → σ d = sv j) ?_ ?_ ?_ ?_ ?_
 ·exact ⟨⟨rfl,rfl,rfl,rfl,fun _ _ _ => rfl⟩,z⟩
 ·intro i w w' hE hR
  obtain ⟨hE,o1,h1,e1⟩ := hE
  by_cases hi1 : i = m
  ·rw [if_pos hi1] at hR
   subst hR
   exact ⟨hE.row1 _,cs,hrs h1,rfl⟩
  ·rw [if_neg hi1] at hR
   subst hR
   exact ⟨hE,o1,h1,e1⟩
 ·intro i j oi oj σ σ' w w' hij hoi hoj _ hI hR hσ _ _
  by_cases hj1 : j = m
  ·subst hj1
   rw [if_pos rfl] at hI ⊢
   rw [if_neg hij] at hR
   subst hR; exact hI
  ·rw [if_neg hj1] at hI ⊢
   intro d hd
   have hne : oi.dst ≠ some d := by
    intro e
    have hi' : i < ops.size := (Array.getElem?_eq_some_iff.1 hoi).1
    have hj' : j < ops.size := (Array.getElem?_eq_some_iff.1 hoj).1
    have := List.all_eq_true.1 (List.all_eq_true.1 hdist i (List.mem_range.2 hi')) j (List.mem_range.2 hj')
    rw [hoi,hoj] at this
    have hdj' : oj.dst = some d := by simpa [dstOf,hoj] using hd
    simp [e,hdj',hij] at this
   rw [hσ d hne]
   exact hI d hd
 ·have key : ∀ i o,ops[i]? = some o → StepOf P ops Q a0 w0.drew (fun _ w => TwoE w0 g g w ∧ ∃ old,w.heap[g]? = some (.cells old T (0,0)) ∧ old.size = cs.size)
    (fun i w w' => if i = m then w' = w.setRow g cs else w' = w)
    (fun j σ w => if j = m then w.heap[g]? = some (.cells cs T (0,0)) else ∀ d,dstOf ops j = some d → σ d = sv j) i o := by
   intro i o ho a w hE hsz hpr hin
   obtain ⟨hE,o1,h1,e1⟩ := hE
   obtain ⟨hg,hd,hd2⟩ := hp i o ho
   rw [if_pos (by simp [Region.wanted,hg])]
   have hpr' : ∀ k d,k ∈ preds o → k ≠ m → dstOf ops k = some d → sl a d = sv k := fun k d hk k1 hdk => by
    have := hpr k hk
    dsimp only at this
    rw [if_neg k1] at this
    exact this d hdk
   by_cases hi1 : i = m
   ·subst hi1
    refine Oper.wp_mono (fun a' w' hq => ?_) (st o ho a w hE hsz hpr' hin o1 h1 e1)
    obtain ⟨rfl,rfl⟩ := hq
    exact ⟨undef,rfl,by dsimp only; rw [if_pos rfl],by dsimp only; rw [if_pos rfl]; exact hrs h1⟩
   ·refine Oper.wp_mono (fun a' w' hq => ?_) (each i o hi1 ho a w hE hsz hpr' hin)
    obtain ⟨rfl,rfl⟩ := hq
    refine ⟨sv i,rfl,by dsimp only; rw [if_neg hi1],?_⟩
    dsimp only
    rw [if_neg hi1]
    intro d hdd
    obtain ⟨d',hd',hdn⟩ := hd hi1
    have : d' = d := by
     have : o.dst = some d := by simpa [dstOf,ho] using hdd
     rw [hd'] at this; exact Option.some.inj this
    subst this
    rw [hd']
    exact put_same _ _ _ (by rw [hsz,hn]; exact hdn)
  exact each_all key ops.toList 0 fun j o hj => by simpa using hj
 ·intro a w hE hs2 hd hI ht
  obtain ⟨hE,_⟩ := hE
  have i1 := hI m hs
  rw [if_pos rfl] at i1
  refine fin a w hE i1 hs2 hd (fun j d hj j1 hdj => ?_) ht
  have := hI j hj
  rw [if_neg j1] at this
  exact this d hdj
end Go.By
namespace Go.By
open Go.RowKit
def fourN (xs : List UInt8) (j : Nat) : Nat := (xs.drop (4 - j)).foldr (fun b a => 256 * a + b.toNat) 0
theorem fourN_succ {xs : List UInt8} (hl : xs.length = 4) {j : Nat} (hj : j < 4) {x : UInt8} (hx : xs[3 - j]? = some x) : fourN xs (j + 1) = 256 * fourN xs j + x.toNat := by
 obtain ⟨h1,h2⟩ := List.getElem?_eq_some_iff.1 hx
 unfold fourN
 rw [show 4 - (j + 1) = 3 - j by omega,List.drop_eq_getElem_cons h1,h2,show 3 - j + 1 = 4 - j by omega]
 rfl
theorem fourN_get4 {xs : List UInt8} (hl : xs.length = 4) : fourN xs 4 = get4 xs := by
 match xs,hl with
 | [a,b,c,d],_ =>
  show 256 * (256 * (256 * (256 * 0 + d.toNat) + c.toNat) + b.toNat) + a.toNat = a.toNat + 256 * b.toNat + 65536 * c.toNat + 16777216 * d.toNat
  omega
theorem fourN_lt {xs : List UInt8} (hl : xs.length = 4) : ∀ j,j ≤ 4 → fourN xs j < 256 ^ j
 | 0,_ => by
  unfold fourN
  rw [List.drop_eq_nil_of_le (by omega)]
  decide
 | j + 1,hj => by
  have h1 : 3 - j < xs.length := by omega
  have := fourN_succ hl (j := j) (by omega) (List.getElem?_eq_getElem h1)
  have ih := fourN_lt hl j (by omega)
  have hx := (xs[3 - j]).toNat_lt
  rw [this,Nat.pow_succ]
  omega
end Go.By
namespace Go.Proofs.YtccaiiigdfieoaaGreatDoor
open Go.RowKit Go.By
set_option maxHeartbeats 1000000 in
theorem RFour13_any (p : Option Addr) (n c : Nat) (xs : List UInt8) (w : World) (h : Sl B8 w p n c xs) (hl : xs.length = 4) :
  Calls Tryz.prog 201 #[.slice p n c] w fun e w' => e = .returned (.int .u32 (get4 xs : Nat)) ∧ w = w' := by
 have hn : n = 4 := by rw [← h.len]; exact hl
 subst hn
 have H := Lib.hid h; have HL := Lib.hid hl; clear h hl
 go_enter Tryz.func201,Tryz.ntmps201
 go_wp2
 go_loop [3,4] (fun nv iv => ∃ r v : Nat,r ≤ 4 ∧ iv = .int .i64 ((r : Int) - 1) ∧ nv = .int .u32 (v : Nat) ∧ Hid (v = fourN xs (4 - r))) (fun _ i => (intOf i + 1).toNat)
 case atStart => exact ⟨4,0,by omega,rfl,rfl,by show 0 = fourN xs 0; unfold fourN; rw [List.drop_eq_nil_of_le (by rw [HL.out]; omega)]; rfl⟩
 case round =>
  obtain ⟨r,v,hr,rfl,rfl,hv⟩ := hrel
  cases r with
  | zero =>
   have hv4 : v = get4 xs := by rw [hv.out,show 4 - 0 = 4 from rfl,fourN_get4 HL.out]
   subst hv4
   go_wp2
   go_ret
   exact ⟨rfl,rfl⟩
  | succ r =>
   rw [show (((r + 1 : Nat) : Int) - 1) = (r : Int) by omega]
   obtain ⟨b,o,x,rfl,hc,hx⟩ := H.out.at r (by omega)
   have hlt := fourN_lt HL.out (4 - (r + 1)) (by omega)
   have hle : 256 ^ (4 - (r + 1)) ≤ 16777216 := Nat.pow_le_pow_right (by decide) (show 4 - (r + 1) ≤ 3 by omega)
   have hv3 : v < 16777216 := by rw [hv.out]; omega
   have hxb := x.toNat_lt
   have HV : Hid (256 * v + x.toNat = fourN xs (4 - r)) := by
    show _ = _
    have := fourN_succ HL.out (j := 4 - (r + 1)) (by omega) (x := x) (by rw [show 3 - (4 - (r + 1)) = r by omega]; exact hx.out)
    rw [hv.out,← this]; congr 1; omega
   have A1 : IntKind.u32.wrap (256 * (v : Int)) = ((256 * v : Nat) : Int) := by rw [IntKind.wrap_u32]; omega
   have A2 : IntKind.u32.wrap (x.toNat : Int) = (x.toNat : Int) := by rw [IntKind.wrap_u32]; omega
   have A3 : IntKind.u32.wrap (((256 * v : Nat) : Int) + (x.toNat : Int)) = ((256 * v + x.toNat : Nat) : Int) := by rw [IntKind.wrap_u32]; omega
   have hr4 : r < 4 := by omega
   have hr4' : (r : Int) < 4 := by omega
   generalize 256 * v + x.toNat = v2 at *
   generalize 256 * v = v1 at *
   clear hlt hle hv hx hxb hr hv3
   go_wp2_with (first | simp only [A1] | simp only [A2] | simp only [A3])
   go_round
   case rel => exact ⟨r,v2,by omega,by simp,rfl,HV.out⟩
   case measure => simp [intOf] <;> omega
set_option maxHeartbeats 1000000 in
theorem REight15_any (p : Option Addr) (n c : Nat) (xs : List UInt8) (w : World) (h : Sl B8 w p n c xs) (hl : 8 ≤ n) :
  Calls Tryz.prog 145 #[.slice p n c] w fun e w' => e = .returned (.int .u64 (get8 (xs.take 8) : Nat)) ∧ w = w' := by
 have hb := h.bound
 have H := Lib.hid h; clear h
 go_enter Tryz.func145,Tryz.ntmps145
 go_wp2
 go_loop [3,4] (fun nv iv => ∃ i v : Nat,i ≤ 8 ∧ iv = .int .i64 (i : Nat) ∧ nv = .int .u64 (v : Nat) ∧ Hid (v = get8 (xs.take i))) (fun _ i => 8 - (intOf i).toNat)
 case atStart => exact ⟨0,0,by omega,rfl,rfl,rfl⟩
 case round =>
  obtain ⟨i,v,hi,rfl,rfl,hv⟩ := hrel
  by_cases hlt : i < 8
  ·obtain ⟨b,o,x,rfl,hc,hx⟩ := H.out.at i (by omega)
   have hvl : v < 256 ^ i := by rw [hv.out]; exact get8_lt xs i
   have hpl : 256 ^ i ≤ 72057594037927936 := Nat.pow_le_pow_right (by decide) (show i ≤ 7 by omega)
   have hv7 : v < 72057594037927936 := by omega
   have hxb := x.toNat_lt
   have HV : Hid (256 * v + x.toNat = get8 (xs.take (i + 1))) := by show _ = _; rw [get8_take hx.out,← hv.out]; omega
   have A1 : IntKind.u64.wrap (256 * (v : Int)) = ((256 * v : Nat) : Int) := by rw [IntKind.wrap_u64]; omega
   have A2 : IntKind.u64.wrap (x.toNat : Int) = (x.toNat : Int) := by rw [IntKind.wrap_u64]; omega
   have A3 : IntKind.u64.wrap (((256 * v : Nat) : Int) + (x.toNat : Int)) = ((256 * v + x.toNat : Nat) : Int) := by rw [IntKind.wrap_u64]; omega
   have hin : i < n := by omega
   have hin' : (i : Int) < (n : Int) := by omega
   have hlt' : (i : Int) < 8 := by omega
   generalize 256 * v + x.toNat = v2 at *
   generalize 256 * v = v1 at *
   clear hvl hpl hv hx hxb hv7
   go_wp2_with (first | simp only [A1] | simp only [A2] | simp only [A3])
   go_round
   case rel => exact ⟨i + 1,v2,by omega,by go_num,rfl,HV.out⟩
   case measure => simp [intOf]; omega
  ·obtain rfl : i = 8 := by omega
   have hv8 : v = get8 (xs.take 8) := hv.out
   subst hv8
   clear hlt hi hv
   go_wp2
   go_ret
   exact ⟨rfl,rfl⟩
theorem RWidth14_any (m : UInt8) (k : Nat) (hm : modeC m = 0) (h1 : 1 ≤ k) (h2 : k ≤ 4096) (w : World) :
  Calls Tryz.prog 144 #[B8 m,.int .i64 (k : Nat)] w fun e w' => e = .returned (.tuple #[.int .i64 (widS m k : Nat),.int .i64 0]) ∧ w = w' := by
 have h1' : ¬ (k : Int) < 1 := by omega
 have h2' : ¬ (4096 : Int) < (k : Int) := by omega
 have hm2 : m = 0 ∨ m = 1 := by
  unfold modeC at hm
  by_cases h : m = 0 ∨ m = 1
  ·exact h
  ·rw [if_neg h] at hm; cases hm
 clear h1 h2 hm
 rcases hm2 with rfl | rfl
 ·rw [show widS 0 k = k from if_pos rfl,show B8 0 = .int .u8 0 from rfl]
  go_enter Tryz.func144,Tryz.ntmps144
  go_wp2
  go_ret2
  exact ⟨rfl,rfl⟩
 ·rw [show widS 1 k = 8 from rfl,show B8 1 = .int .u8 1 from rfl]
  go_enter Tryz.func144,Tryz.ntmps144
  go_wp2
  go_ret2
  exact ⟨rfl,rfl⟩
set_option maxHeartbeats 1000000 in
theorem RLength15_ok (L t k D : Nat) (m : UInt8) (w : World) (hP : POK L t k D) (hm : modeC m = 0) :
  Calls Tryz.prog 141 #[PVal L t k D,B8 m] w fun e w' => e = .returned (.tuple #[.int .i64 (lenP m k t : Nat),.int .i64 0]) ∧ Below w.heap.size w w' := by
 have HK : Hid (∀ w,Calls Tryz.prog 90 #[PVal L t k D] w fun e w' => e = .returned (.int .i64 0) ∧ Below w.heap.size w w') := fun w => by
  have := RCheck_any (L : Int) (t : Int) (k : Int) (D : Int) w hP.l
  rw [hP.chk] at this; exact this
 have HW := Lib.hid (fun w => RWidth14_any m k hm hP.k1 hP.k2 w)
 have hk2 := hP.k2
 have ht2 := hP.t2
 have hw : widS m k ≤ 4096 := by unfold widS; split <;> (try split) <;> omega
 have e : (14 : Int) + (widS m k : Int) + (t : Int) = (lenP m k t : Int) := by unfold lenP; omega
 obtain ⟨V,hV⟩ : ∃ V,V = widS m k := ⟨_,rfl⟩
 rw [← hV] at HW hw e
 have HE := Lib.hid e
 clear hP hm hV e
 go_enter Tryz.func141,Tryz.ntmps141
 go_wp2_with fail
 refine Calls.mono (HK.out _) ?_
 rintro e w1 ⟨rfl,hb⟩
 obtain ⟨hb1,h1,hs⟩ := one_of hb
 have HB := Lib.hid hb1
 obtain ⟨c0,c1,c2,c3⟩ := cells_four h1
 clear hb hb1 h1
 go_wp2_with fail
 refine Calls.mono (HW.out _) ?_
 rintro e w2 ⟨rfl,rfl⟩
 go_wp2
 rw [HE.out]
 go_ret2
 exact ⟨rfl,HB.out⟩
theorem info_head13 : (Tryz.prog.info? 151).map (·.size) = some 3 := by kernel_rfl
def RHd13 (w : World) (b o n c : Nat) (m : UInt8) (O M : Nat) (e : Ending) (w' : World) : Prop :=
 e = .returned (.tuple #[HVal m O M,.slice (if c = 10 then some ⟨b,o,none⟩ else some ⟨b,o + 10,none⟩) (n - 10) (c - 10),.int .i64 0]) ∧ Below w.heap.size w w'
def RHd13z (w : World) (code : Int) (e : Ending) (w' : World) : Prop := e = .returned (.tuple #[HVal 0 0 0,.slice none 0 0,.int .i64 code]) ∧ Below w.heap.size w w'
set_option maxRecDepth 100000 in
set_option maxHeartbeats 2000000 in
theorem RHead13_short (p : Option Addr) (n c : Nat) (w : World) (hn : n < 10) :
  Calls Tryz.prog 140 #[.slice p n c] w (RHd13z w 6) := by
 have HN := Lib.hid hn
 go_enter Tryz.func140,Tryz.ntmps140
 go_wp2
 refine bodyPost_ret (res_ctt rfl _ _ _ 151 #[.int .u8 0,.int .u32 0,.int .u32 0] (0,0) _ (.slice none 0 0) (.int .i64 6) rfl ?_ rfl rfl Tryz.underlying151 rfl info_head13) rfl ?_
 ·exact hnew rfl
 ·exact ⟨rfl,al (Below.refl _ _) (Nat.le_refl _)⟩
set_option maxRecDepth 100000 in
set_option maxHeartbeats 2000000 in
theorem RHead13_version (b o n c : Nat) (w : World) (hn : 10 ≤ n) (x0 : UInt8) (k0 : w.cell? ⟨b,o,none⟩ = some (B8 x0)) (hx : x0 ≠ 1) (hm : n ≤ 9223372036854775807) :
  Calls Tryz.prog 140 #[.slice (some ⟨b,o,none⟩) n c] w (RHd13z w 7) := by
 have e1 : ((x0.toNat : Int) != 1) = true := bne_iff_ne.2 fun e => hx (UInt8.toNat_inj.1 (by show x0.toNat = 1; omega))
 have HN := Lib.hid hn
 have a0 : ∀ o',(w.alloc o').cell? ⟨b,o,none⟩ = some (B8 x0) := fun _ => calloc k0
 clear hx k0
 go_enter Tryz.func140,Tryz.ntmps140
 go_wp2
 refine bodyPost_ret (res_ctt rfl _ _ _ 151 #[.int .u8 0,.int .u32 0,.int .u32 0] (0,0) _ (.slice none 0 0) (.int .i64 7) rfl ?_ rfl rfl Tryz.underlying151 rfl info_head13) rfl ?_
 ·exact hnew rfl
 ·exact ⟨rfl,al (Below.refl _ _) (Nat.le_refl _)⟩
set_option maxRecDepth 100000 in
set_option maxHeartbeats 2000000 in
theorem RHead13_mode (b o n c : Nat) (w : World) (hn : 10 ≤ n) (x1 : UInt8) (k0 : w.cell? ⟨b,o,none⟩ = some (B8 1)) (k1 : w.cell? ⟨b,o + 1,none⟩ = some (B8 x1)) (hx : modeC x1 = 8) (hm : n ≤ 9223372036854775807) :
  Calls Tryz.prog 140 #[.slice (some ⟨b,o,none⟩) n c] w (RHd13z w 8) := by
 have e1 : (1 : Int) < (x1.toNat : Int) := by
  unfold modeC at hx
  by_cases h : x1 = 0 ∨ x1 = 1
  ·rw [if_pos h] at hx; cases hx
  ·have h0 : x1.toNat ≠ 0 := fun e => h (.inl (UInt8.toNat_inj.1 e))
   have h1 : x1.toNat ≠ 1 := fun e => h (.inr (UInt8.toNat_inj.1 e))
   omega
 have HN := Lib.hid hn
 have a0 : ∀ o',(w.alloc o').cell? ⟨b,o,none⟩ = some (B8 1) := fun _ => calloc k0
 have a1 : ∀ o',(w.alloc o').cell? ⟨b,o + 1,none⟩ = some (B8 x1) := fun _ => calloc k1
 clear hx k0 k1
 go_enter Tryz.func140,Tryz.ntmps140
 go_wp2
 refine bodyPost_ret (res_ctt rfl _ _ _ 151 #[.int .u8 0,.int .u32 0,.int .u32 0] (0,0) _ (.slice none 0 0) (.int .i64 8) rfl ?_ rfl rfl Tryz.underlying151 rfl info_head13) rfl ?_
 ·exact hnew rfl
 ·exact ⟨rfl,al (Below.refl _ _) (Nat.le_refl _)⟩
set_option maxRecDepth 100000 in
set_option maxHeartbeats 2000000 in
theorem RHead13_good (b o n c : Nat) (xs : List UInt8) (w : World) (h : Sl B8 w (some ⟨b,o,none⟩) n c xs) (hn : 10 ≤ n) (x1 : UInt8) (k0 : w.cell? ⟨b,o,none⟩ = some (B8 1)) (k1 : w.cell? ⟨b,o + 1,none⟩ = some (B8 x1)) (hx : modeC x1 = 0) :
  Calls Tryz.prog 140 #[.slice (some ⟨b,o,none⟩) n c] w (RHd13 w b o n c x1 (get4 ((xs.drop 2).take 4)) (get4 ((xs.drop 6).take 4))) := by
 have hl := h.len
 have HA : Hid (∀ W,Sl B8 W (some ⟨b,o + 2,none⟩) 4 (c - 2) ((xs.drop 2).take 4) → Calls Tryz.prog 201 #[.slice (some ⟨b,o + 2,none⟩) 4 (c - 2)] W fun e w' => e = .returned (.int .u32 (get4 ((xs.drop 2).take 4) : Nat)) ∧ W = w') := fun W h => RFour13_any _ _ _ _ W h (by rw [List.length_take,List.length_drop]; omega)
 have HC : Hid (∀ W,Sl B8 W (some ⟨b,o + 6,none⟩) 4 (c - 6) ((xs.drop 6).take 4) → Calls Tryz.prog 201 #[.slice (some ⟨b,o + 6,none⟩) 4 (c - 6)] W fun e w' => e = .returned (.int .u32 (get4 ((xs.drop 6).take 4) : Nat)) ∧ W = w') := fun W h => RFour13_any _ _ _ _ W h (by rw [List.length_take,List.length_drop]; omega)
 have H2 := Lib.hid (Sl.part (k := 2) (m := 4) h (by omega))
 have H6 := Lib.hid (Sl.part (k := 6) (m := 4) h (by omega))
 generalize get4 ((xs.drop 2).take 4) = A at *
 generalize get4 ((xs.drop 6).take 4) = B at *
 generalize (xs.drop 2).take 4 = ya at *
 generalize (xs.drop 6).take 4 = yb at *
 have e1 : ¬ (1 : Int) < (x1.toNat : Int) := by
  unfold modeC at hx
  by_cases h : x1 = 0 ∨ x1 = 1
  ·rcases h with rfl | rfl <;> decide
  ·rw [if_neg h] at hx; cases hx
 have hm := h.bound
 have hle := h.le
 have hmx := h.max
 unfold maxLen at hmx
 have a0 : ∀ o',(w.alloc o').cell? ⟨b,o,none⟩ = some (B8 1) := fun _ => calloc k0
 have a1 : ∀ o',(w.alloc o').cell? ⟨b,o + 1,none⟩ = some (B8 x1) := fun _ => calloc k1
 have ba : Below w.heap.size w (w.alloc (.cells #[.int .u8 0,.int .u32 0,.int .u32 0] 151)) := al (Below.refl _ _) (Nat.le_refl _)
 have K1 := Lib.hid k1
 have HBA := Lib.hid ba
 clear h k0 k1 hx ba hl
 have hn1 : (1 : Int) < (n : Int) := by omega
 have g1 : (6 : Int) ≤ (c : Int) := by omega
 have g2 : ¬ (c = 2) := by omega
 have g3 : (10 : Int) ≤ (c : Int) := by omega
 have g4 : ¬ (c = 6) := by omega
 have g5 : (10 : Int) ≤ (n : Int) := by omega
 go_enter Tryz.func140,Tryz.ntmps140
 go_wp2
 have HH : Hid ((w.alloc (.cells #[.int .u8 0,.int .u32 0,.int .u32 0] 151)).heap[w.heap.size]? = some (.cells #[.int .u8 0,.int .u32 0,.int .u32 0] 151 (0,0))) := hnew rfl
 obtain ⟨g,hg⟩ : ∃ g,g = w.heap.size := ⟨_,rfl⟩
 rw [← hg] at HH ⊢
 generalize w.alloc (.cells #[.int .u8 0,.int .u32 0,.int .u32 0] 151) = w1 at *
 have HGE : Hid (w.heap.size ≤ g) := by show _ ≤ _; omega
 clear a0 a1 hg
 refine wp_region_row (fun ix => ([.slice (some ⟨b,o,none⟩) n c,.pointer (some ⟨b,o + 1,none⟩),B8 x1,.slice (some ⟨b,o,none⟩) n c,.slice (some ⟨b,o + 2,none⟩) 4 (c - 2),.int .u32 (A : Nat),.slice (some ⟨b,o,none⟩) n c,.slice (some ⟨b,o + 6,none⟩) 4 (c - 6),.int .u32 (B : Nat),.agg #[B8 x1,.int .u32 (A : Nat),.int .u32 (B : Nat)],.slice (some ⟨b,o,none⟩) n c,.slice (if c = 10 then some ⟨b,o,none⟩ else some ⟨b,o + 10,none⟩) (n - 10) (c - 10),undef,.slice (if c = 10 then some ⟨b,o,none⟩ else some ⟨b,o + 10,none⟩) (n - 10) (c - 10),.int .i64 0][ix]?).getD undef) 31 12 g 151 #[B8 x1,.int .u32 (A : Nat),.int .u32 (B : Nat)] rfl (by kernel_rfl) (by decide +kernel) (by decide +kernel) (by decide +kernel) ⟨_,HH.out,rfl⟩ ?_ ?_ (by decide) ?_
 ·intro i oo h1 ho a W hE hs hp hi
  have hBW : Below w.heap.size w W := HBA.out.trans (hE.below HGE.out HGE.out); have kk1 := (hBW.cell (p := ⟨b,o + 1,none⟩) (lt_of_cell K1.out)).trans K1.out
  match i,h1,ho with
  | 0,_,ho =>
   simp at ho; subst ho
   have t0 : sl a 0 = .slice (some ⟨b,o,none⟩) n c := hi 0 (by decide)
   refine wp_val (.slice (some ⟨b,o,none⟩) n c) ?_ ⟨rfl,rfl⟩
   simp only [execOp,eval_tmp,t0]; rfl
  | 1,_,ho =>
   simp at ho; subst ho
   have t19 : sl a 19 = .slice (some ⟨b,o,none⟩) n c := hp 0 19 (by decide) (by decide) rfl
   have v19 : a.tmps[19]?.getD undef = sl a 19 := by simp [sl]
   rw [t19] at v19
   refine wp_val (.pointer (some ⟨b,o + 1,none⟩)) ?_ ⟨rfl,rfl⟩
   simp only [execOp,eval_tmp,eval_const,t19]; simp [go_sem,v19,hn1]
  | 2,_,ho =>
   simp at ho; subst ho
   have t20 : sl a 20 = .pointer (some ⟨b,o + 1,none⟩) := hp 1 20 (by decide) (by decide) rfl
   have v20 : a.tmps[20]?.getD undef = sl a 20 := by simp [sl]
   rw [t20] at v20
   refine wp_val (B8 x1) ?_ ⟨rfl,rfl⟩
   simp only [execOp,eval_tmp,eval_const,t20]; simp [go_sem,v20,kk1]
  | 3,_,ho =>
   simp at ho; subst ho
   have t0 : sl a 0 = .slice (some ⟨b,o,none⟩) n c := hi 0 (by decide)
   refine wp_val (.slice (some ⟨b,o,none⟩) n c) ?_ ⟨rfl,rfl⟩
   simp only [execOp,eval_tmp,t0]; rfl
  | 4,_,ho =>
   simp at ho; subst ho
   have t22 : sl a 22 = .slice (some ⟨b,o,none⟩) n c := hp 3 22 (by decide) (by decide) rfl
   have v22 : a.tmps[22]?.getD undef = sl a 22 := by simp [sl]
   rw [t22] at v22
   refine wp_val (.slice (some ⟨b,o + 2,none⟩) 4 (c - 2)) ?_ ⟨rfl,rfl⟩
   simp only [execOp,eval_tmp,eval_const,t22]; simp [go_sem,v22,g1,g2]
  | 5,_,ho =>
   simp at ho; subst ho
   have t23 : sl a 23 = .slice (some ⟨b,o + 2,none⟩) 4 (c - 2) := hp 4 23 (by decide) (by decide) rfl
   refine wp_enter 201 #[.slice (some ⟨b,o + 2,none⟩) 4 (c - 2)] ?_ (HA.out W (H2.out.keep hBW)) ?_
   ·simp only [execOp,resolve,List.map_toArray,List.map,eval_tmp,eval_func,eval_const,t23]; simp [go_sem]
   ·rintro e W' ⟨rfl,rfl⟩; exact ⟨_,rfl,rfl,rfl⟩
  | 6,_,ho =>
   simp at ho; subst ho
   have t0 : sl a 0 = .slice (some ⟨b,o,none⟩) n c := hi 0 (by decide)
   refine wp_val (.slice (some ⟨b,o,none⟩) n c) ?_ ⟨rfl,rfl⟩
   simp only [execOp,eval_tmp,t0]; rfl
  | 7,_,ho =>
   simp at ho; subst ho
   have t25 : sl a 25 = .slice (some ⟨b,o,none⟩) n c := hp 6 25 (by decide) (by decide) rfl
   have v25 : a.tmps[25]?.getD undef = sl a 25 := by simp [sl]
   rw [t25] at v25
   refine wp_val (.slice (some ⟨b,o + 6,none⟩) 4 (c - 6)) ?_ ⟨rfl,rfl⟩
   simp only [execOp,eval_tmp,eval_const,t25]; simp [go_sem,v25,g3,g4]
  | 8,_,ho =>
   simp at ho; subst ho
   have t26 : sl a 26 = .slice (some ⟨b,o + 6,none⟩) 4 (c - 6) := hp 7 26 (by decide) (by decide) rfl
   refine wp_enter 201 #[.slice (some ⟨b,o + 6,none⟩) 4 (c - 6)] ?_ (HC.out W (H6.out.keep hBW)) ?_
   ·simp only [execOp,resolve,List.map_toArray,List.map,eval_tmp,eval_func,eval_const,t26]; simp [go_sem]
   ·rintro e W' ⟨rfl,rfl⟩; exact ⟨_,rfl,rfl,rfl⟩
  | 9,_,ho =>
   simp at ho; subst ho
   have t21 : sl a 21 = B8 x1 := hp 2 21 (by decide) (by decide) rfl
   have t24 : sl a 24 = .int .u32 (A : Nat) := hp 5 24 (by decide) (by decide) rfl
   have t27 : sl a 27 = .int .u32 (B : Nat) := hp 8 27 (by decide) (by decide) rfl
   have v21 : a.tmps[21]?.getD undef = sl a 21 := by simp [sl]
   rw [t21] at v21
   have v24 : a.tmps[24]?.getD undef = sl a 24 := by simp [sl]
   rw [t24] at v24
   have v27 : a.tmps[27]?.getD undef = sl a 27 := by simp [sl]
   rw [t27] at v27
   refine wp_val (.agg #[B8 x1,.int .u32 (A : Nat),.int .u32 (B : Nat)]) ?_ ⟨rfl,rfl⟩
   simp only [execOp,eval_tmp,eval_const,t21,t24,t27]; simp [go_sem,v21,v24,v27,Tryz.underlying151]
  | 10,_,ho =>
   simp at ho; subst ho
   have t0 : sl a 0 = .slice (some ⟨b,o,none⟩) n c := hi 0 (by decide)
   refine wp_val (.slice (some ⟨b,o,none⟩) n c) ?_ ⟨rfl,rfl⟩
   simp only [execOp,eval_tmp,t0]; rfl
  | 11,_,ho =>
   simp at ho; subst ho
   have t29 : sl a 29 = .slice (some ⟨b,o,none⟩) n c := hp 10 29 (by decide) (by decide) rfl
   have v29 : a.tmps[29]?.getD undef = sl a 29 := by simp [sl]
   rw [t29] at v29
   refine wp_val (.slice (if c = 10 then some ⟨b,o,none⟩ else some ⟨b,o + 10,none⟩) (n - 10) (c - 10)) ?_ ⟨rfl,rfl⟩
   simp only [execOp,eval_tmp,eval_const,t29]; simp [go_sem,v29,g3,g5]
  | 12,h,_ => exact absurd rfl h
  | 13,_,ho =>
   simp at ho; subst ho
   have t30 : sl a 30 = .slice (if c = 10 then some ⟨b,o,none⟩ else some ⟨b,o + 10,none⟩) (n - 10) (c - 10) := hp 11 30 (by decide) (by decide) rfl
   refine wp_val (.slice (if c = 10 then some ⟨b,o,none⟩ else some ⟨b,o + 10,none⟩) (n - 10) (c - 10)) ?_ ⟨rfl,rfl⟩
   simp only [execOp,eval_tmp,t30]; rfl
  | 14,_,ho =>
   simp at ho; subst ho
   exact wp_val (.int .i64 0) rfl ⟨rfl,rfl⟩
  | j + 15,_,ho => simp at ho
 ·intro oo ho a W hE hs hp hi old hold hsz
  simp at ho; subst ho
  have t2 : sl a 2 = .pointer (some ⟨g,0,none⟩) := hi 2 (by decide)
  have t28 : sl a 28 = .agg #[B8 x1,.int .u32 (A : Nat),.int .u32 (B : Nat)] := hp 9 28 (by decide) (by decide) rfl
  refine wp_store_row 151 (.tmp 2) (.tmp 28) rfl g #[B8 x1,.int .u32 (A : Nat),.int .u32 (B : Nat)] (by rw [eval_tmp]; exact t2) (by rw [eval_tmp]; exact t28) _ _ hold info_head13 hsz (by simp [Value.oneCell']) ?_
  exact ⟨rfl,rfl⟩
 intro a w9 hE hG hs hd hI ht
 have ha := act_is [19,20,21,22,23,24,25,26,27,28,29,30,3,4] hs hd ht (by decide)
 have t3 : sl a 3 = .slice (if c = 10 then some ⟨b,o,none⟩ else some ⟨b,o + 10,none⟩) (n - 10) (c - 10) := hI 13 3 (by decide) (by decide) rfl
 have t4 : sl a 4 = .int .i64 0 := hI 14 4 (by decide) (by decide) rfl
 simp only [List.foldl,t3,t4] at ha
 generalize sl a 19 = u19 at ha
 generalize sl a 20 = u20 at ha
 generalize sl a 21 = u21 at ha
 generalize sl a 22 = u22 at ha
 generalize sl a 23 = u23 at ha
 generalize sl a 24 = u24 at ha
 generalize sl a 25 = u25 at ha
 generalize sl a 26 = u26 at ha
 generalize sl a 27 = u27 at ha
 generalize sl a 28 = u28 at ha
 generalize sl a 29 = u29 at ha
 generalize sl a 30 = u30 at ha
 simp only [Act.put,List.setIfInBounds_toArray,List.set_cons_zero,List.set_cons_succ] at ha
 rw [ha]
 clear ha hI ht hs hd t3 t4
 have HB6 := Lib.hid (HBA.out.trans (hE.below HGE.out HGE.out))
 clear HH HBA hE
 generalize hqr : (if c = 10 then (some ⟨b,o,none⟩ : Option Addr) else some ⟨b,o + 10,none⟩) = qr
 have HQR := Lib.hid hqr
 clear hqr
 go_wp2
 refine bodyPost_ret (res_ctt rfl _ _ _ 151 #[B8 x1,.int .u32 (A : Nat),.int .u32 (B : Nat)] (0,0) _ (.slice qr (n - 10) (c - 10)) (.int .i64 0) rfl hG rfl rfl Tryz.underlying151 rfl info_head13) rfl ?_
 exact ⟨by rw [← HQR.out],HB6.out⟩
theorem RHead13_any (p : Option Addr) (n c : Nat) (xs : List UInt8) (w : World) (h : Sl B8 w p n c xs) :
  Calls Tryz.prog 140 #[.slice p n c] w fun e w' => (headC xs = 0 ∧ ∃ b o,p = some ⟨b,o,none⟩ ∧ 10 ≤ n ∧ RHd13 w b o n c (xs.getD 1 0) (get4 ((xs.drop 2).take 4)) (get4 ((xs.drop 6).take 4)) e w') ∨ (headC xs ≠ 0 ∧ RHd13z w (headC xs) e w') := by
 have hl := h.len
 unfold headC
 by_cases h10 : n < 10
 ·rw [if_pos (by omega : xs.length < 10)]
  exact Calls.mono (RHead13_short p n c w h10) fun e w' h => .inr ⟨by decide,h⟩
 ·rw [if_neg (by omega : ¬ xs.length < 10)]
  obtain ⟨b,o,x0,rfl,k0,y0⟩ := h.at 0 (by omega)
  obtain ⟨_,_,x1,e1,k1,y1⟩ := h.at 1 (by omega)
  cases e1
  rw [Nat.add_zero] at k0
  rw [at_get y0.out,at_get y1.out]
  by_cases h0 : x0 = 1
  ·have e : (if x0 ≠ 1 then 7 else modeC x1) = modeC x1 := if_neg (by simp [h0])
   rw [e]
   subst h0
   rcases modeC_range x1 with h1 | h1
   ·rw [h1]
    exact Calls.mono (RHead13_good b o n c xs w h (by omega) x1 k0 k1 h1) fun e w' h => .inl ⟨rfl,b,o,rfl,by omega,h⟩
   ·rw [h1]
    exact Calls.mono (RHead13_mode b o n c w (by omega) x1 k0 k1 h1 h.bound) fun e w' h => .inr ⟨by decide,h⟩
  ·have e : (if x0 ≠ 1 then 7 else modeC x1) = 7 := if_pos h0
   rw [e]
   exact Calls.mono (RHead13_version b o n c w (by omega) x0 k0 h0 h.bound) fun e w' h => .inr ⟨by decide,h⟩
end Go.Proofs.YtccaiiigdfieoaaGreatDoor
