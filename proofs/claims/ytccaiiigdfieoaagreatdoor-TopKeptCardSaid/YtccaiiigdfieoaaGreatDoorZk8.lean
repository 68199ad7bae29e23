/- A plan of an object; ranks of combinations; rows of headers of new bytes while others turn. Chapter 19: the law's awake. A sender and a taker in memory,carried along. The contracts of the document's sum: Put,Sum (bit by bit). Plain law: a packet of which one stretch of four bytes has turned is not let in. What TakerHas,TripRuns,TripArrives carry: rows of bytes that grow; a sender that may refuse. Arguments that came in,as bytes and slices of bytes. Slices of structs of two slices of bytes,that came in. Sources that came in: a slice of structs of a byte,bytes and a number,opened. What the laws of the packets ask first: few bytes,small plans. Chapter 19: TakerHas,of an object that the plan fits. The contracts of slices.Delete and slices.Insert at parcels. The contract of slices.Insert at parcels: one more,where there is room. Lists of parcels that the call owns: each owns its bytes,no two share them. The contracts of the acts: drop,move,forge. The contract of the act move. The contract of the act double. The contract of the act cut. One cell of a parcel is written: its bytes,or where it came from. The contract of the act mask. What acts do to lists of packets; acts that came in,read from memory. Acts that came in: a slice of structs of five cells,and one by value,opened. The contract of play. The contracts of Apply and Whole. The contracts of Whole,of slices.Equal at ints,of Harms; of the law's Few; the chapter's example. The contract of the law's Few of layer 20; the chapter's example. The plain law of WayWhole: what came whole is what was sent; acts that harm nothing leave all whole; acts one by one are as all at once. Chapter 22: what a trip comes to (plain); what a sender and a taker carry along while other blocks turn. Chapter 24,plain: what a taker's rows are as packets,and as a text. Where equations first clash: plain law. A row of headers that read in an older world; vectors of rows. Where equations first clash. The reference's Vectors. The reference's Wide. The reference's Judge. Chapter 19,plain: the equations that the document keeps,and a taker's rows; how they lie in memory. Plain: a taker's rows,told as packets and heard again,are the same rows,and the status. Chapter 28,plain: a taker's rows break no rule. Chapter 28: slices.EqualFunc at rows: of the same rows. bytes.Equal: of the same bytes. Chapter 18: how often a gate was asked: Seen. Chapter 19: TakerNone. Chapter 19: a taker's clone. DERIVED: THE SHELF's CONTRACTS AT THIS DUMP,IN PLAIN WORDS (tools/lay-plain.mjs out of 'TryzIter.lean',which tools/lay-shelf.mjs wrote): THE SAME DECLARATIONS UNDER THE SAME NAMES: 'import','namespace','open','def','theorem' AND NOTHING ELSE: no command of the shelf's: FOR A HAND-IN. Each laying: the table of numbers ('.._ren') and one theorem,a field a fact of the dump's own or the kernel's comparison; each contract: ONE APPLICATION. A map from numbers to slices,made by the call; its keys in order. The keys of such a map,in order: maps.Keys,slices.Sorted. glue.Fill,where all that is known fits. The walk of glue.Fill,where all that is known fits. Chapter 19: what a taker knows: Some. Chapter 12: the reference's Fill,of numbers that are each known once. A row of one's own of which every cell,the spare ones too,is told: appends leave other slices' cells alone. Chapter 19: what TakerTakes leans on: Seen of any gate; equal lists of bools; the object of one that is done. The document's mixing: shifted,Next,Bytes (chapter 5). A region that draws its order,in which one whole row is stored: all else is told values (calls that change nothing among them). The document's heads as read (chapter 13); widths,lengths (chapters 14,15). The document's packets as read (chapters 14,15). Chapter 19: the document's Take. Chapter 19: TakerTakes,of a plan that may be. Chapter 28: audit.same,of two takers that know the same. Plain: commands of a script,their lines,and what lines say. No program in sight. Plain: the ways in which a text is gone through,sign by sign. No program in sight. Chapter 24,the reference: value,Unhex. The chapter's example (plan). The library: ParseUint of base 10,of 31 and of 32 bits,of texts of digits alone. The reference's word and Number. The library's SplitN at a blank; strconv.ParseUint; the plan's number. The plan's number. Plain: what a plan's text says. The plan's Parse. The walk of the law PlanBack. Chapter 24,plain: the text of a taker,read. Chapter 26: the forms of words; find. Chapter 26: the closure of find; slices.IndexFunc of forms; find. Chapter 26: readBytes. Chapter 24: keep.read. Chapter 24,plain: packets of which each one is heard,or the first that is not. Chapter 24: keep.Import. -/
import Derived.Test.YtccaiiigdfieoaaGreatDoorZk7
import Derived.OpenShut
import Derived.Lib.SmallJoins
import Derived.Deep.DeepCutAuto
import Derived.Deep.RegionLaw
import Derived.Lib.Overlaps
import Derived.Shelf.Spec.SlicesInsert
import Derived.Lib.AppendZeros
import Derived.Deep.AppendLies
import Derived.Deep.RegionWith
import Derived.BigQuiet
import Derived.Laws.BytesArg
import Derived.Shelf.SlIterI.Nil
import Derived.Shelf.SortM.Plain
import Derived.Shelf.SortM.SortNone
import Derived.Test.YtccaiiigdfieoaaGreatDoorProg
import Derived.Maps.Own
import Derived.Maps.Views
import Derived.StillTailTactics
import Derived.Laws.CopyOwn
import Derived.Deep.QuietTactic
import Derived.Lib.AtoiAllMem
import Derived.Lib.ConvBytes
import Derived.Lib.Walk
import Derived.Laws.Strings3
import Derived.Laws.Closers25
import Derived.Laws.Closers25b
import Derived.OwnWalk
import Derived.Lib.Split
import Derived.Lib.SplitLaws
import Derived.Outline
import Derived.Lib.Strings
namespace Go.Proofs.YtccaiiigdfieoaaGreatDoor
open Go.RowKit Go.By Gf Go.Maps
structure ObjP (n t k D:Nat):Prop where
 ok:POK n t k D
 fit:∀ i:Nat,i < k→i * t≤n
 le:n≤k * t
theorem of_obj {n:Nat} {s d:Int} (hf:fitS n s = 0) (hn:(n:Int)≤9223372036854775807) (d0:0≤d) (d1:d < 4294967296) :
  ∃ t k D:Nat,s = t∧d = D∧ObjP n t k D∧ofS n s d = .tuple #[PVal n t k D,.int .i64 0]:=by
 have hc:checkS (n:Int) s (needS n s) = 0:=by unfold checkS;rw [if_pos hf,if_pos rfl]
 obtain ⟨L,t,k,D,e1,e2,e3,e4,hP⟩:=pok_of hn hc d0 d1
 have e1':L = n:=by omega
 subst e1'
 subst e2
 subst e4
 refine ⟨t,k,D,rfl,rfl,⟨hP,?_,?_⟩,?_⟩
 ·intro i hi
  by_cases h0:(L:Int) = 0
  ·have:needS L t = 1:=by unfold needS;rw [if_pos h0]
   have:i = 0:=by omega
   subst this;omega
  ·have h5:=(needS_spec (l:=L) (s:=t) (by omega) (by have:=hP.t1;omega)).1
   rw [e3] at h5
   have h6:(i:Int) * t≤((k:Int) - 1) * t:=Int.mul_le_mul_of_nonneg_right (by omega) (by omega)
   have h7:((i * t:Nat):Int)≤(L:Int):=by rw [Int.natCast_mul];exact Int.le_of_lt (Int.lt_of_le_of_lt h6 h5)
   omega
 ·by_cases h0:(L:Int) = 0
  ·have:L = 0:=by omega
   subst this;omega
  ·have h5:=(needS_spec (l:=L) (s:=t) (by omega) (by have:=hP.t1;omega)).2
   rw [e3] at h5
   have h7:(L:Int)≤((k * t:Nat):Int):=by rw [Int.natCast_mul];exact h5
   omega
 ·unfold ofS;rw [if_pos hf,e3]
theorem of_none {n:Nat} {s d:Int} (hf:fitS n s≠0):ofS n s d = .tuple #[.agg #[.int .i64 0,.int .i64 0,.int .i64 0,.int .u32 0],.int .i64 (fitS n s)]:=by
 unfold ofS;rw [if_neg hf]
end Go.Proofs.YtccaiiigdfieoaaGreatDoor
namespace Go.By
open Go.RowKit Go.Maps Go.Proofs.YtccaiiigdfieoaaGreatDoor
theorem fresh_same {T:TypeId} {B:Nat} {w w':World} {q:Option Addr} {n c:Nat} {xs:List UInt8} (h:Fresh T B w q n c xs) (hp:∀ (b:Nat) (cs:Array Value) (fr:Nat × Nat),w.heap[b]? = some (.cells cs T fr)→w'.heap[b]? = w.heap[b]?):Fresh T B w' q n c xs:=by
 have hd:∀ a,q = some a→w'.heap[a.block]? = w.heap[a.block]?:=fun a ha=>by
  obtain ⟨cs,fr,e⟩:=h.ty a ha;exact hp _ cs fr e
 refine ⟨⟨h.sl.len,h.sl.le,h.sl.max,h.sl.nil,fun i hi=>?_⟩,h.new,fun a ha=>?_⟩
 ·obtain ⟨b,o,e,hc⟩:=h.sl.rs i hi
  exact ⟨b,o,e,(World.cell?_of_block (a:=⟨b,o + i,none⟩) (show w'.heap[b]? = w.heap[b]? from hd ⟨b,o,none⟩ e)).trans hc⟩
 ·obtain ⟨cs,fr,e⟩:=h.ty a ha
  exact ⟨cs,fr,(hd a ha).trans e⟩
theorem GChg.same {w w':World} {g T':Nat} {old:Array Value} {fr:Nat × Nat} (h:GChg w g w') (hg:w.heap[g]? = some (.cells old T' fr)) {T:TypeId} (hne:T'≠T):∀ (b:Nat) (cs:Array Value) (fr:Nat × Nat),w.heap[b]? = some (.cells cs T fr)→w'.heap[b]? = w.heap[b]?:=fun b cs fr hb =>
 (h.blk hg hb hne).trans hb.symm
theorem TChg.same {w w':World} {base gt be L t k D N:Nat} {M v:Value} {C:DataW Unit} {K:List Rw} {st:Nat} (h:TChg w w' gt be v) (hT:Tkr w base gt be L t k D N M v C K st) {T:TypeId} (h1:T≠118) (h2:T≠191) (h3:99≠T):∀ (b:Nat) (cs:Array Value) (fr:Nat × Nat),w.heap[b]? = some (.cells cs T fr)→w'.heap[b]? = w.heap[b]?:=fun b cs fr hb =>
 (h.blk hT hb h1 h2 h3).trans hb.symm
def HdrF (T2 T1:TypeId) (B:Nat) (w:World) (v:Value) (n:Nat) (xss:List (List UInt8)):Prop :=
 ∃ vs,w.ownsRow B T2 1 v n vs∧xss.length = n∧∀ (j:Nat) (u:Value),vs[j]? = some u→∃ q m c xs,u = .slice q m c∧xss[j]? = some xs∧Fresh T1 B w q m c xs
theorem HdrF.nil (T2 T1 B:Nat) (w:World):HdrF T2 T1 B w (.slice none 0 0) 0 []:=⟨[],World.ownsRow_nil _ _ _ _,rfl,fun j u h=>by simp at h⟩
theorem HdrF.shape {T2 T1 B n:Nat} {w:World} {v:Value} {xss:List (List UInt8)} (h:HdrF T2 T1 B w v n xss):∃ q c,v = .slice q n c:=by
 obtain ⟨vs,o,_⟩:=h;exact owns_shape o
theorem HdrF.len {T2 T1 B n:Nat} {w:World} {v:Value} {xss:List (List UInt8)} (h:HdrF T2 T1 B w v n xss):xss.length = n:=by
 obtain ⟨vs,o,l,_⟩:=h;exact l
theorem HdrF.keep {T2 T1 B n:Nat} {w w':World} {v:Value} {xss:List (List UInt8)} (h:HdrF T2 T1 B w v n xss) (hb:Below w.heap.size w w'):HdrF T2 T1 B w' v n xss:=by
 obtain ⟨vs,o,l,r⟩:=h
 refine ⟨vs,owns_keepv o hb,l,fun j u hj=>?_⟩
 obtain ⟨q,m,c,xs,e,hx,hf⟩:=r j u hj
 exact ⟨q,m,c,xs,e,hx,hf.keep hb⟩
theorem HdrF.same {T2 T1 B n:Nat} {w w':World} {v:Value} {xss:List (List UInt8)} (h:HdrF T2 T1 B w v n xss) (hs:w.heap.size≤w'.heap.size) (h2:∀ (b:Nat) (cs:Array Value) (fr:Nat × Nat),w.heap[b]? = some (.cells cs T2 fr)→w'.heap[b]? = w.heap[b]?) (h1:∀ (b:Nat) (cs:Array Value) (fr:Nat × Nat),w.heap[b]? = some (.cells cs T1 fr)→w'.heap[b]? = w.heap[b]?):HdrF T2 T1 B w' v n xss:=by
 obtain ⟨vs,o,l,r⟩:=h
 refine ⟨vs,owns_same o hs fun g hg=>?_,l,fun j u hj=>?_⟩
 ·rcases o.2 with ⟨e1,_⟩ | ⟨g',cap,cur,e1,_,hh,_⟩
  ·rw [e1] at hg;cases hg
  ·rw [e1] at hg;cases hg
   exact h2 _ _ _ hh
 ·obtain ⟨q,m,c,xs,e,hx,hf⟩:=r j u hj
  exact ⟨q,m,c,xs,e,hx,fresh_same hf h1⟩
theorem HdrF.sl2 {T2 T1 B n:Nat} {w:World} {q:Option Addr} {c:Nat} {xss:List (List UInt8)} (h:HdrF T2 T1 B w (.slice q n c) n xss):Sl2 w q n c xss:=by
 obtain ⟨vs,o,l,r⟩:=h
 have hd:Hdr T2 w B w (.slice q n c) n xss:=⟨vs,o,l,fun j u hj=>by
  obtain ⟨q,m,c,xs,e,hx,hf⟩:=r j u hj
  exact ⟨q,m,c,xs,e,hx,hf.sl⟩⟩
 exact hd.sl2 (Below.refl _ _)
theorem HdrF.push {T2 T1 B n:Nat} {w w':World} {v v':Value} {xss:List (List UInt8)} {vs:List Value} {q:Option Addr} {m c:Nat} {xs:List UInt8} (ho:w'.ownsRow B T2 1 v' (n + 1) (vs ++ [.slice q m c])) (hvl:vs.length = n) (hl:xss.length = n)
  (hr:∀ (j:Nat) (u:Value),vs[j]? = some u→∃ q m c xs,u = .slice q m c∧xss[j]? = some xs∧Fresh T1 B w q m c xs) (hx:Fresh T1 B w q m c xs) (hp:∀ (b:Nat) (cs:Array Value) (fr:Nat × Nat),w.heap[b]? = some (.cells cs T1 fr)→w'.heap[b]? = w.heap[b]?):HdrF T2 T1 B w' v' (n + 1) (xss ++ [xs]):=by
 refine ⟨_,ho,by simp [hl],fun j u hj=>?_⟩
 by_cases h:j < vs.length
 ·rw [List.getElem?_append_left h] at hj
  obtain ⟨q,m,c,ys,e,hy,hf⟩:=hr j _ hj
  exact ⟨q,m,c,ys,e,by rw [List.getElem?_append_left (by omega)];exact hy,fresh_same hf hp⟩
 ·rw [List.getElem?_append_right (by omega)] at hj
  by_cases h0:j - vs.length = 0
  ·rw [h0] at hj
   simp at hj
   refine ⟨q,m,c,xs,hj.symm,?_,fresh_same hx hp⟩
   rw [List.getElem?_append_right (by omega),show j - xss.length = 0 by omega];rfl
  ·rw [List.getElem?_eq_none (by simp;omega)] at hj;cases hj
end Go.By
namespace Go.Proofs.YtccaiiigdfieoaaGreatDoor
open Go.RowKit Go.By Go.Maps
end Go.Proofs.YtccaiiigdfieoaaGreatDoor
namespace Go.By
open Go.RowKit Go.Maps Go.Proofs.YtccaiiigdfieoaaGreatDoor
def OthS (T:TypeId):Prop:=T≠118∧T≠191∧99≠T∧174≠T
structure KeepS (w w':World):Prop where
 size:w.heap.size≤w'.heap.size
 same:∀ T,OthS T→∀ (b:Nat) (cs:Array Value) (fr:Nat × Nat),w.heap[b]? = some (.cells cs T fr)→w'.heap[b]? = w.heap[b]?
theorem KeepS.of {w w':World} (h:Below w.heap.size w w'):KeepS w w':=⟨h.size,fun _ _ b _ _ hb=>h.block b (lt_of_block hb)⟩
theorem KeepS.trans {w a b:World} (h:KeepS w a) (h2:KeepS a b):KeepS w b :=
 ⟨Nat.le_trans h.size h2.size,fun T hT i cs fr hi=>(h2.same T hT i cs fr ((h.same T hT i cs fr hi).trans hi)).trans (h.same T hT i cs fr hi)⟩
theorem KeepS.blk {w w':World} (h:KeepS w w') {T b:Nat} {cs:Array Value} {fr:Nat × Nat} (hT:OthS T) (hb:w.heap[b]? = some (.cells cs T fr)):w'.heap[b]? = some (.cells cs T fr):=(h.same T hT b cs fr hb).trans hb
theorem KeepS.fresh {w w':World} (h:KeepS w w') {T B n c:Nat} {q:Option Addr} {xs:List UInt8} (hT:OthS T) (hf:Fresh T B w q n c xs):Fresh T B w' q n c xs:=fresh_same hf (h.same T hT)
theorem KeepS.hdr {w w':World} (h:KeepS w w') {T2 T1 B n:Nat} {v:Value} {xss:List (List UInt8)} (h2:OthS T2) (h1:OthS T1) (hf:HdrF T2 T1 B w v n xss):HdrF T2 T1 B w' v n xss:=hf.same h.size (h.same T2 h2) (h.same T1 h1)
theorem KeepS.owns {w w':World} (h:KeepS w w') {b2 T e n:Nat} {v:Value} {ys:List Value} (hT:OthS T) (ho:w.ownsRow b2 T e v n ys):w'.ownsRow b2 T e v n ys :=
 owns_same ho h.size fun g hg=>by
  rcases ho.2 with ⟨e1,_⟩ | ⟨g',cap,cur,e1,_,hh,_⟩
  ·rw [e1] at hg;cases hg
  ·rw [e1] at hg;cases hg
   exact h.same T hT _ _ _ hh
theorem os_u8:OthS 5:=⟨by decide,by decide,by decide,by decide⟩
theorem os_rows:OthS 22:=⟨by decide,by decide,by decide,by decide⟩
theorem TChg.keepS {w w':World} {base gt be L t k D N:Nat} {M v:Value} {C:DataW Unit} {K:List Rw} {st:Nat} (h:TChg w w' gt be v) (hT:Tkr w base gt be L t k D N M v C K st):KeepS w w' :=
 ⟨h.size,fun T hO=>h.same hT hO.1 hO.2.1 hO.2.2.1⟩
theorem GChg.keepSS {w w':World} {g:Nat} {cs:Array Value} {fr:Nat × Nat} (h:GChg w g w') (hg:w.heap[g]? = some (.cells cs 174 fr)):KeepS w w' :=
 ⟨h.size,fun T hO=>h.same hg hO.2.2.2⟩
end Go.By
namespace Go.Proofs.YtccaiiigdfieoaaGreatDoor
open Go.RowKit Go.By Gf Go.Maps
section
variable {wI w0 w w':World} {gs gt be base L t k D nx N st:Nat} {FX:List (List UInt8)} {v:Value} {K:List Rw}
end
end Go.Proofs.YtccaiiigdfieoaaGreatDoor
namespace Go.By
end Go.By
namespace Go.Proofs.YtccaiiigdfieoaaGreatDoor
open Go.RowKit Go.By
end Go.Proofs.YtccaiiigdfieoaaGreatDoor
namespace Go.By
end Go.By
namespace Go.Proofs.YtccaiiigdfieoaaGreatDoor
open Go.RowKit Go.By
end Go.Proofs.YtccaiiigdfieoaaGreatDoor
namespace Go.By
open Go.RowKit Go.Maps Go.Proofs.YtccaiiigdfieoaaGreatDoor
theorem HdrF.lt {T2 T1 B n:Nat} {w:World} {v:Value} {xss:List (List UInt8)} (h:HdrF T2 T1 B w v n xss):∀ g,v.ownBlock = some g→g < w.heap.size:=by
 obtain ⟨vs,o,_⟩:=h
 exact fun g hg=>(o.lt g hg).2
theorem HdrF.at {T2 T1 B n:Nat} {w:World} {q:Option Addr} {c:Nat} {xss:List (List UInt8)} (h:HdrF T2 T1 B w (.slice q n c) n xss) {j:Nat} (hj:j < n):∃ b o p m d xs,q = some ⟨b,o,none⟩∧w.cell? ⟨b,o + j,none⟩ = some (.slice p m d)∧Hid (xss[j]? = some xs)∧Fresh T1 B w p m d xs:=by
 obtain ⟨b,o,p,m,d,xs,e,hc,_,hx⟩:=h.sl2.at j hj
 obtain ⟨vs,ow,l,r⟩:=h
 have hl:vs.length = n:=owns_len ow
 obtain ⟨p',m',d',xs',e1,hx',hf⟩:=r j vs[j] (List.getElem?_eq_getElem (by omega))
 have hx:=hx.out
 rw [hx'] at hx;cases hx
 refine ⟨b,o,p,m,d,xs,e,hc,hx',?_⟩
 have hc2:w.cell? ⟨b,o + j,none⟩ = some (.slice p' m' d'):=by
  rcases ow.2 with ⟨h2,_⟩ | ⟨g,cap,cur,hv,_⟩
  ·cases h2;cases e
  ·cases hv;cases e
   have h3:=ow.cellAt j (by omega)
   rw [Nat.zero_add,h3,List.getElem?_eq_getElem (by omega),e1]
 rw [hc2] at hc;cases hc
 exact hf
end Go.By
namespace Go.Proofs.YtccaiiigdfieoaaGreatDoor
open Go.RowKit Go.By Gf Go.Maps
def OwnsH (W:World) (B T:Nat) (v:Value) (n:Nat):Prop:=∃ ys,W.ownsRow B T 1 v n ys
theorem wpList_hdr {ops:Array Oper} {rest:List Oper} {o:Oper} {a:Act} {W:World} {Q:Exit→Act→World→Prop} (hgd:o.guard = none) (s x:Operand) (ho:o.op = .call { callee:=.builtin .append,args:=#[s,x],argTypes:=#[31,31] })
  (B n:Nat) (v:Value) (xss:List (List UInt8)) (hs:a.eval s = v) (hH:HdrF 22 5 B W v n xss) (hn:n≤1000000) (hB:B≤W.heap.size)
  (g:Nat) (hx:a.eval x = .slice (some ⟨g,0,none⟩) 1 1) (q:Option Addr) (m c:Nat) (fr:Nat × Nat) (xs:List UInt8) (hg:W.heap[g]? = some (.cells #[.slice q m c] 22 fr)) (hF:Fresh 5 B W q m c xs)
  (h:∀ v' W',HdrF 22 5 B W' v' (n + 1) (xss ++ [xs])→OwnsH W B 22 v n→W.grownBy W' v.ownBlock→(v'.ownBlock = v.ownBlock∨v'.ownBlock = some W.heap.size)→wpList Tryz.prog ops Q rest (a.put o.dst v') W'):wpList Tryz.prog ops Q (o :: rest) a W:=by
 obtain ⟨i0,hi0,hz0,hz1,hz2⟩:=info_parts info_bytesC
 obtain ⟨vs,ho1,hl,hr⟩:=hH
 refine wpList_append_where W hgd s x 31 ho B 22 i0 (.slice none 0 0) 1 24 Tryz.underlying31 hi0 hz0 hz1 hz2 rfl (by decide) v n vs hs ho1 ⟨g,0,none⟩ 1 1 [.slice q m c] hx rfl (news_one hg) ones_one (by unfold maxLen;omega) (by omega) hB (by decide) ?_
 intro v' W' h1 h2 h3
 refine h v' W' (HdrF.push (v:=v) h1 (by simpa using ho1.1) hl hr hF fun b cs fr hb=>?_) ⟨vs,ho1⟩ h2 h3
 rcases ho1.2 with ⟨e1,_⟩ | ⟨g',cap,cur,e1,_,hh,_⟩
 ·exact h2.block b (lt_of_block hb) (fun e=>by rw [e1] at e;cases e)
 ·refine h2.block b (lt_of_block hb) (fun e=>?_)
  rw [e1] at e;cases e
  rw [hh] at hb;injection hb with hb;injection hb with _ hb _;exact absurd hb (by decide)
def sentX (D nx:Nat) (k:Nat) (FX:List (List UInt8)) (m:UInt8) (j s:Nat) (xs:List UInt8):List UInt8:=if srcC m j k = 0 then pktB m D nx xs s (combS (vecS m xs s k) FX).1 else []
def nextX (nx k:Nat) (m:UInt8) (j:Nat):Nat:=if srcC m j k = 0 then nx + 1 else nx
section
variable {wI w0 w w':World} {gs gt be base L t k D nx N st:Nat} {FX:List (List UInt8)} {v:Value} {K:List Rw}
end
end Go.Proofs.YtccaiiigdfieoaaGreatDoor
namespace Go.By
open Go.RowKit
theorem byte_of_wf {a:Int} (h:(Lit.int .u8 a).wf = true):∃ x:UInt8,Value.int .u8 a = B8 x∧a = (x.toNat:Int):=by
 have hb:=bounds_u8 h
 have e:a = ((UInt8.ofNat a.toNat).toNat:Int):=by simp;omega
 exact ⟨UInt8.ofNat a.toNat,B8_congr e,e⟩
theorem sl_of_row {w:World} {a:Option Addr} {len cap:Nat} {zs:List Int}
  (h:(a = none∧len = 0∧cap = 0∧zs = [])∨∃ x,a = some x∧len≤cap∧cap≤maxLen∧zs.length = cap∧(∀ i,i < zs.length→w.cell? (x.add i) = some (.int .u8 (zs.getD i 0)))∧∀ n ∈ zs,(Lit.int .u8 n).wf = true) :
  ∃ xs,Sl B8 w a len cap xs:=by
 rcases h with ⟨rfl,rfl,rfl,_⟩ | ⟨x,rfl,hl,hm,hz,hc,hw⟩
 ·exact ⟨[],Sl.nil0 _ _⟩
 ·refine ⟨(zs.take len).map fun z=>UInt8.ofNat z.toNat,⟨by simp;omega,hl,hm,fun h=>by simp at h,?_⟩⟩
  intro i hi
  have hi':i < zs.length:=by simp at hi;omega
  obtain ⟨b,o,hx,hc'⟩:=ints_at hc (by omega)
  refine ⟨b,o,by rw [hx],?_⟩
  have hh:=hc i hi'
  rw [hx,Addr.add_lit] at hh
  rw [hh]
  have e:zs.getD i 0 = zs[i]:=by simp [hi']
  rw [e]
  have hb:=bounds_u8 (hw _ (List.getElem_mem hi'))
  simp
  omega
end Go.By
namespace Go.Proofs.YtccaiiigdfieoaaGreatDoor
open Go.RowKit Go.By Go.ChangeShapes Go.WideShapes Go.Deep
section
variable {H:Type} {enc:TypeId × Value→H} {P:Program} {w:World} {base:Nat} {held:Bool}
theorem open_bytes1 {t q:TypeId} {fuel:Nat} {c4:Value} {x:DataW H × List MemPlace} (h4:P.underlying t = some (.slice q)) (hq:P.underlying q = some (.int .u8)) (cq:P.cellsOf q = 1) (g4:DataW.trod enc P w base (fun _=>true) held fuel t [c4] = some x):∃ p m c bs,c4 = .slice p m c∧Sl B8 w p m c bs:=by
 rcases open_ints h4 hq cq g4 with ⟨hcs,_⟩ | ⟨x,l,c,zs,hcs,_,hl,hm,hz,_,hcell,hwz⟩
 ·simp at hcs
  exact ⟨none,0,0,[],hcs,Sl.nil0 _ _⟩
 ·simp at hcs
  obtain ⟨xs,hx⟩:=sl_of_row (.inr ⟨_,rfl,hl,hm,by simpa using hz,hcell,hwz⟩)
  exact ⟨_,_,_,xs,hcs,hx⟩
end
end Go.Proofs.YtccaiiigdfieoaaGreatDoor
namespace Go.By
open Go.RowKit
structure SrcD where
 m:UInt8
 xs:List UInt8
 s:Nat
structure SlS (w:World) (p:Option Addr) (n c:Nat) (by_:List SrcD):Prop where
 len:by_.length = n
 max:c≤maxLen
 le:n≤c
 rs:∀ k a,by_[k]? = some a→∃ b o q j c',p = some ⟨b,o,none⟩∧w.cell? ⟨b,o + k * 3,none⟩ = some (B8 a.m)∧w.cell? ⟨b,o + k * 3 + 1,none⟩ = some (.slice q j c')∧w.cell? ⟨b,o + k * 3 + 2,none⟩ = some (.int .u64 (a.s:Nat))∧Sl B8 w q j c' a.xs∧a.s < 18446744073709551616
theorem SlS.keep {w w':World} {p:Option Addr} {n c:Nat} {l:List SrcD} (h:SlS w p n c l) (hb:Below w.heap.size w w'):SlS w' p n c l :=
 ⟨h.len,h.max,h.le,fun k a hk=>by
  obtain ⟨b,o,q,j,c',hp,h0,h1,h2,h3,h4⟩:=h.rs k a hk
  have hlt:=lt_of_cell h0
  exact ⟨b,o,q,j,c',hp,(hb.cell (p:=⟨b,o + k * 3,none⟩) hlt).trans h0,(hb.cell (p:=⟨b,o + k * 3 + 1,none⟩) hlt).trans h1,(hb.cell (p:=⟨b,o + k * 3 + 2,none⟩) hlt).trans h2,h3.keep hb,h4⟩⟩
theorem SlS.bound {w:World} {p:Option Addr} {n c:Nat} {l:List SrcD} (h:SlS w p n c l):n≤9223372036854775807:=by have:=h.le;have:=h.max;unfold maxLen at this;omega
theorem SlS.at {w:World} {p:Option Addr} {n c:Nat} {l:List SrcD} (h:SlS w p n c l) {i:Nat} (hi:i < n):∃ b o q j c' a,p = some ⟨b,o,none⟩∧Hid (l[i]? = some a)∧w.cell? ⟨b,o + i * 3,none⟩ = some (B8 a.m)∧w.cell? ⟨b,o + i * 3 + 1,none⟩ = some (.slice q j c')∧w.cell? ⟨b,o + i * 3 + 2,none⟩ = some (.int .u64 (a.s:Nat))∧Sl B8 w q j c' a.xs∧a.s < 18446744073709551616:=by
 have e:l[i]? = some (l[i]'(by rw [h.len];exact hi)):=List.getElem?_eq_getElem _
 obtain ⟨b,o,q,j,c',hp,r⟩:=h.rs i _ e
 exact ⟨b,o,q,j,c',_,hp,e,r⟩
end Go.By
namespace Go.Proofs.YtccaiiigdfieoaaGreatDoor
open Go.RowKit Go.By Go.ChangeShapes Go.WideShapes Go.Deep
section
variable {H:Type} {enc:TypeId × Value→H} {P:Program} {w:World} {base:Nat} {held:Bool}
theorem trod_struct3 {t:TypeId} {f0 f1 f2:Field} {fuel:Nat} {cs:List Value} {x:DataW H × List MemPlace} {spare:Nat→Bool} (ht:P.underlying t = some (.struct #[f0,f1,f2])) (h:DataW.trod enc P w base spare held fuel t cs = some x) :
  ∃ y0 y1 y2 n,cs.length = P.cellsOf t∧DataW.trod enc P w base spare held n f0.type ((cs.drop f0.offset).take (P.cellsOf f0.type)) = some y0 ∧
   DataW.trod enc P w base spare held n f1.type ((cs.drop f1.offset).take (P.cellsOf f1.type)) = some y1∧DataW.trod enc P w base spare held n f2.type ((cs.drop f2.offset).take (P.cellsOf f2.type)) = some y2:=by
 obtain ⟨xs,n,_,rfl,hl,hlen,hf⟩:=DataW.trod_struct ht h
 match xs,hlen with
 | [y0,y1,y2],_=>exact ⟨y0,y1,y2,n,hl,by simpa using hf 0 f0 rfl,by simpa using hf 1 f1 rfl,by simpa using hf 2 f2 rfl⟩
theorem list3 {α:Type} {cs:List α} (h:cs.length = 3):∃ c0 c1 c2,cs = [c0,c1,c2]:=by
 match cs,h with
 | [c0,c1,c2],_=>exact ⟨c0,c1,c2,rfl⟩
theorem open_src {t q:TypeId} {f0 f1 f2:Field} {fuel:Nat} {cs:List Value} {x:DataW H × List MemPlace} (ht:P.underlying t = some (.struct #[f0,f1,f2])) (hone:oneCellFields P #[f0,f1,f2] = true) (hC:P.cellsOf t = 3)
  (h0:P.underlying f0.type = some (.int .u8)) (h1:P.underlying f1.type = some (.slice q)) (h2:P.underlying f2.type = some (.int .u64)) (hq:P.underlying q = some (.int .u8)) (cq:P.cellsOf q = 1)
  (h:DataW.trod enc P w base (fun _=>true) held fuel t cs = some x) :
  ∃ (a:SrcD) (p:Option Addr) (m c:Nat),cs = [B8 a.m,.slice p m c,.int .u64 (a.s:Nat)]∧Sl B8 w p m c a.xs∧a.s < 18446744073709551616:=by
 obtain ⟨y0,y1,y2,n,hl,g0,g1,g2⟩:=trod_struct3 ht h
 obtain ⟨c0,c1,c2,rfl⟩:=list3 (hl.trans hC)
 obtain ⟨o0,k0⟩:=hone_of hone 0 f0 rfl
 obtain ⟨o1,k1⟩:=hone_of hone 1 f1 rfl
 obtain ⟨o2,k2⟩:=hone_of hone 2 f2 rfl
 rw [o0,k0] at g0;rw [o1,k1] at g1;rw [o2,k2] at g2
 obtain ⟨d,e0,-,w0⟩:=DataW.trod_int h0 g0
 obtain ⟨p,m,c,bs,e1,hs⟩:=open_bytes1 h1 hq cq g1
 obtain ⟨s,e2,-,w2⟩:=DataW.trod_int h2 g2
 have b0:0≤d∧d≤255:=by
  simp [Lit.wf,IntKind.min,IntKind.max,IntKind.signed,IntKind.bits] at w0
  omega
 have b2:0≤s∧s≤18446744073709551615:=by
  simp [Lit.wf,IntKind.min,IntKind.max,IntKind.signed,IntKind.bits] at w2
  omega
 obtain ⟨sn,rfl⟩:=Int.eq_ofNat_of_zero_le b2.1
 obtain ⟨xd,hxd,-⟩:=byte_of_wf w0
 simp at e0 e2
 subst e0;subst e1;subst e2
 exact ⟨⟨xd,bs,sn⟩,p,m,c,by show [_,_,_] = [B8 xd,_,_];rw [hxd],hs,by show sn < 18446744073709551616;have:=b2.2;omega⟩
theorem open_srcs {t e q:TypeId} {f0 f1 f2:Field} {fuel:Nat} {cs:List Value} {x:DataW H × List MemPlace} (ht:P.underlying t = some (.slice e)) (he:P.underlying e = some (.struct #[f0,f1,f2])) (hone:oneCellFields P #[f0,f1,f2] = true) (hC:P.cellsOf e = 3)
  (h0:P.underlying f0.type = some (.int .u8)) (h1:P.underlying f1.type = some (.slice q)) (h2:P.underlying f2.type = some (.int .u64)) (hq:P.underlying q = some (.int .u8)) (cq:P.cellsOf q = 1)
  (h:DataW.trod enc P w base (fun _=>true) held fuel t cs = some x):∃ p n c l,cs = [.slice p n c]∧SlS w p n c l:=by
 rcases open_slice ht h with ⟨hcs,_⟩ | ⟨a,len,cap,m,n,D,Pl,rfl,hb,hl,hm,hmm,rfl,hx⟩
 ·exact ⟨none,0,0,[],hcs,⟨rfl,by simp [maxLen],Nat.le_refl _,fun k a hk=>by simp at hk⟩⟩
 simp only [if_true] at hmm
 have hmm':=hmm.symm
 subst hmm'
 have hsp:0 < len→a.spot = none:=fun h=>by
  obtain ⟨cs',hc,htr⟩:=hx 0 (by omega)
  obtain ⟨y,p,m',c',rfl,-⟩:=open_src he hone hC h0 h1 h2 hq cq htr
  obtain ⟨_,_,hcell⟩:=World.cells?_some hc
  have z0:=hcell 0 (by omega)
  simpa [Addr.add] using World.cell?_spot (z0.trans rfl)
 have each:∀ k,k < len→∃ y:SrcD,∃ b o q j c',a = ⟨b,o,none⟩∧w.cell? ⟨b,o + k * 3,none⟩ = some (B8 y.m)∧w.cell? ⟨b,o + k * 3 + 1,none⟩ = some (.slice q j c')∧w.cell? ⟨b,o + k * 3 + 2,none⟩ = some (.int .u64 (y.s:Nat))∧Sl B8 w q j c' y.xs∧y.s < 18446744073709551616:=by
  intro k hk
  obtain ⟨cs',hc,htr⟩:=hx k (by omega)
  obtain ⟨y,p,m',c',rfl,hs,hb1⟩:=open_src he hone hC h0 h1 h2 hq cq htr
  obtain ⟨_,_,hcell⟩:=World.cells?_some hc
  rw [hC] at hcell
  obtain ⟨b,o,spot⟩:=a
  have z0:=hcell 0 (by omega)
  have hspot:spot = none:=hsp (by omega)
  subst hspot
  have z1:=hcell 1 (by omega);have z2:=hcell 2 (by omega)
  simp only [add_plain] at z0 z1 z2
  exact ⟨y,b,o,p,m',c',rfl,z0,z1,z2,hs,hb1⟩
 obtain ⟨f,hf⟩:∃ f:Nat→SrcD,∀ k,k < len→∃ b o q j c',a = ⟨b,o,none⟩∧w.cell? ⟨b,o + k * 3,none⟩ = some (B8 (f k).m)∧w.cell? ⟨b,o + k * 3 + 1,none⟩ = some (.slice q j c')∧w.cell? ⟨b,o + k * 3 + 2,none⟩ = some (.int .u64 ((f k).s:Nat))∧Sl B8 w q j c' (f k).xs∧(f k).s < 18446744073709551616 :=
  ⟨fun k=>if hk:k < len then Classical.choose (each k hk) else ⟨0,[],0⟩,fun k hk=>by simp only [dif_pos hk];exact Classical.choose_spec (each k hk)⟩
 refine ⟨some a,len,cap,(List.range len).map f,rfl,⟨by simp,hm,hl,fun k y hk=>?_⟩⟩
 rw [List.getElem?_map] at hk
 cases hr:(List.range len)[k]? with
 | none=>rw [hr] at hk;simp at hk
 | some k' =>
  rw [hr] at hk
  obtain ⟨hk1,hk2⟩:=List.getElem?_eq_some_iff.1 hr
  simp at hk1 hk2 hk
  subst hk2;subst hk
  obtain ⟨b,o,q,j,c',e,r⟩:=hf k hk1
  exact ⟨b,o,q,j,c',by rw [e],r⟩
end
end Go.Proofs.YtccaiiigdfieoaaGreatDoor
namespace Go.Proofs.YtccaiiigdfieoaaGreatDoor
open Go.RowKit Go.By
def small19 (l s n:Int):Bool:=if checkS l s n = 0 then decide (n≤12) && decide (s≤20) else true
set_option maxRecDepth 100000 in
set_option maxHeartbeats 1000000 in
theorem Small19_any (l s n d:Int) (w:World) (hl2:l≤9223372036854775807) :
  Calls Tryz.prog 26 #[.agg #[.int .i64 l,.int .i64 s,.int .i64 n,.int .u32 d]] w fun e w'=>e = .returned (.bool (small19 l s n))∧Below w.heap.size w w':=by
 have HC:=Lib.hid (fun w=>Check_any l s n d w hl2)
 have HS:Hid (small19 l s n = if checkS l s n = 0 then decide (n≤12) && decide (s≤20) else true):=rfl
 generalize small19 l s n = R at *
 generalize checkS l s n = C at *
 by_cases hc:C = 0
 ·subst hc
  by_cases hn:n≤12
  ·by_cases hs:s≤20
   ·have HR:Hid (R = true):=by show _ = _;rw [HS.out,if_pos rfl,decide_eq_true hn,decide_eq_true hs];rfl
    clear HS
    go_enter Tryz.func26,Tryz.ntmps26
    go_wp2_with fail
    refine Calls.mono (HC.out _) ?_
    rintro e w1 ⟨rfl,hb⟩
    obtain ⟨hb1,h1,hsz⟩:=one_of hb
    obtain ⟨c0,c1,c2,c3⟩:=cells_four h1
    have HB:=Lib.hid hb1
    clear hb hb1
    go_wp2
    go_ret
    exact ⟨by rw [HR.out];first | rfl | (simp only [decide_eq_true hs];rfl),HB.out⟩
   ·have hs':¬ s≤20:=by omega
    have HR:Hid (R = false):=by show _ = _;rw [HS.out,if_pos rfl,decide_eq_true hn,decide_eq_false hs'];rfl
    clear HS
    go_enter Tryz.func26,Tryz.ntmps26
    go_wp2_with fail
    refine Calls.mono (HC.out _) ?_
    rintro e w1 ⟨rfl,hb⟩
    obtain ⟨hb1,h1,hsz⟩:=one_of hb
    obtain ⟨c0,c1,c2,c3⟩:=cells_four h1
    have HB:=Lib.hid hb1
    clear hb hb1
    go_wp2
    go_ret
    exact ⟨by rw [HR.out];first | rfl | (simp only [show decide (s≤20) = false from decide_eq_false (by omega)];rfl),HB.out⟩
  ·have HR:Hid (R = false):=by show _ = _;rw [HS.out,if_pos rfl,decide_eq_false hn];rfl
   clear HS
   go_enter Tryz.func26,Tryz.ntmps26
   go_wp2_with fail
   refine Calls.mono (HC.out _) ?_
   rintro e w1 ⟨rfl,hb⟩
   obtain ⟨hb1,h1,hsz⟩:=one_of hb
   obtain ⟨c0,c1,c2,c3⟩:=cells_four h1
   have HB:=Lib.hid hb1
   clear hb hb1
   go_wp2
   go_ret
   exact ⟨by rw [HR.out];rfl,HB.out⟩
 ·have hz:(C != 0) = true:=bne_iff_ne.2 hc
  have HR:Hid (R = true):=by show _ = _;rw [HS.out,if_neg hc]
  clear HS hc
  go_enter Tryz.func26,Tryz.ntmps26
  go_wp2_with fail
  refine Calls.mono (HC.out _) ?_
  rintro e w1 ⟨rfl,hb⟩
  obtain ⟨hb1,h1,hsz⟩:=one_of hb
  have HB:=Lib.hid hb1
  clear hb hb1
  go_wp2
  go_ret
  exact ⟨by rw [HR.out];rfl,HB.out⟩
end Go.Proofs.YtccaiiigdfieoaaGreatDoor
namespace Go.Proofs.YtccaiiigdfieoaaGreatDoor
open Go.RowKit Go.By Gf Go.Maps
theorem read_roomT {L t k D:Nat} {xs:List UInt8} (hP:POK L t k D) (h:readC k t D xs = 0):xs.length≤140737488355328:=by
 unfold readC at h
 split at h
 ·rename_i hh;exact absurd h hh
 ·split at h
  ·cases h
  ·rename_i hl
   have hl:xs.length = lenP (xs.getD 1 0) k t:=by
    rcases Nat.lt_trichotomy xs.length (lenP (xs.getD 1 0) k t) with g | g | g
    ·exact absurd (Nat.ne_of_lt g) hl
    ·exact g
    ·exact absurd (Nat.ne_of_gt g) hl
   rw [hl]
   unfold lenP widS
   have:=hP.k2;have:=hP.t2
   split
   ·omega
   ·split <;> omega
end Go.Proofs.YtccaiiigdfieoaaGreatDoor
namespace Go.Proofs.YtccaiiigdfieoaaGreatDoor
open Go.RowKit Go.By
end Go.Proofs.YtccaiiigdfieoaaGreatDoor
namespace Go.Proofs.YtccaiiigdfieoaaGreatDoor
open Go.RowKit Go.By
end Go.Proofs.YtccaiiigdfieoaaGreatDoor
namespace Go.By
open Go.RowKit
def Bt (T1:Nat) (w:World) (base:Nat) (v:Value) (xs:List UInt8):Prop:=∃ q m c,v = .slice q m c∧w.ownsRow base T1 1 (.slice q m c) m (xs.map B8)
abbrev Par:=Value × Int × List UInt8
def parOf (t:Par):Value × Int:=(t.1,t.2.1)
def blks (ts:List Par):List Nat:=ts.filterMap fun t=>t.1.ownBlock
structure Pl (TP T1:Nat) (w:World) (base:Nat) (v:Value) (n:Nat) (ts:List Par):Prop where
 len:ts.length = n
 own:w.ownsRow base TP 2 v n (pcs (ts.map parOf))
 row:∀ t,t ∈ ts→Bt T1 w base t.1 t.2.2
 dis:(blks ts).Nodup
section
variable {TP T1:Nat} {w w':World} {base n:Nat} {v:Value} {ts:List Par}
theorem Bt.keep {xs:List UInt8} (h:Bt T1 w base v xs) (hb:Below w.heap.size w w'):Bt T1 w' base v xs:=by
 obtain ⟨q,m,c,rfl,h⟩:=h;exact ⟨q,m,c,rfl,owns_keep h hb⟩
theorem Bt.one {xs:List UInt8} (h:Bt T1 w base v xs):v.oneCell' = true:=by obtain ⟨q,m,c,rfl,h⟩:=h;rfl
theorem Bt.lt {xs:List UInt8} (h:Bt T1 w base v xs):∀ b,v.ownBlock = some b→base≤b∧b < w.heap.size:=by
 obtain ⟨q,m,c,rfl,h⟩:=h;exact h.lt
theorem Bt.grown {xs:List UInt8} {u:Value} {L:List Value} {m:Nat} (h:Bt T1 w base v xs) (hT:T1≠TP) (ho:w.ownsRow base TP 2 u m L) (hg:w.grownBy w' u.ownBlock):Bt T1 w' base v xs:=by
 obtain ⟨q,m,c,rfl,h⟩:=h;exact ⟨q,m,c,rfl,owns_kept h hg (owns_ne h ho hT)⟩
theorem Pl.keep (h:Pl TP T1 w base v n ts) (hb:Below w.heap.size w w'):Pl TP T1 w' base v n ts :=
 ⟨h.len,owns_keepv h.own hb,fun t ht=>(h.row t ht).keep hb,h.dis⟩
theorem blks_append (a b:List Par):blks (a ++ b) = blks a ++ blks b:=by simp [blks]
theorem blks_sub {a b:List Par} (h:a.Sublist b):(blks a).Sublist (blks b):=h.filterMap _
theorem Pl.blt (h:Pl TP T1 w base v n ts):∀ b,b ∈ blks ts→base≤b∧b < w.heap.size:=by
 intro b hb
 obtain ⟨t,ht,e⟩:=List.mem_filterMap.1 hb
 exact (h.row t ht).lt b e
theorem Pl.push {w1 w2:World} {u x:Value} {k:Int} {xs:List UInt8} (h:Pl TP T1 w1 base v n ts) (hT:T1≠TP) (hx:Bt T1 w2 w1.heap.size x xs) (hbase:base≤w1.heap.size) (hb:Below w1.heap.size w1 w2) (ho:w'.ownsRow base TP 2 u (n + 1) (pcs (ts.map parOf) ++ [x,.int .i64 k])) (hg:w2.grownBy w' v.ownBlock) :
  Pl TP T1 w' base u (n + 1) (ts ++ [(x,k,xs)]):=by
 have h2:=h.keep hb
 have hx2:Bt T1 w2 base x xs:=by obtain ⟨q,m,c,rfl,h⟩:=hx;exact ⟨q,m,c,rfl,owns_mono h hbase⟩
 refine ⟨by simp [h.len],?_,fun t ht=>?_,?_⟩
 ·rw [List.map_append,pcs_append];exact ho
 ·rcases List.mem_append.1 ht with ht | ht
  ·exact (h2.row t ht).grown hT h2.own hg
  ·simp at ht;subst ht;exact hx2.grown hT h2.own hg
 ·rw [blks_append,List.nodup_append]
  refine ⟨h.dis,?_,?_⟩
  ·cases hb:x.ownBlock <;> simp [blks,hb]
  ·intro a ha b hb' e
   subst e
   obtain ⟨t,ht,e⟩:=List.mem_filterMap.1 hb'
   simp at ht;subst ht
   have:=(hx.lt a e).1
   have:=(h.blt a ha).2
   omega
theorem Pl.swap {w1 w2:World} {x:Value} {k:Int} {xs:List UInt8} {i:Nat} (h:Pl TP T1 w1 base v n ts) (hi:i < n) (hT:T1≠TP) (hx:Bt T1 w2 w1.heap.size x xs) (hbase:base≤w1.heap.size) (hb:Below w1.heap.size w1 w2) (ho:w'.ownsRow base TP 2 v n (pcs ((ts.map parOf).set i (x,k)))) (hg:w2.grownBy w' v.ownBlock) :
  Pl TP T1 w' base v n (ts.set i (x,k,xs)):=by
 have h2:=h.keep hb
 have hx2:Bt T1 w2 base x xs:=by obtain ⟨q,m,c,rfl,h⟩:=hx;exact ⟨q,m,c,rfl,owns_mono h hbase⟩
 have hil:i < ts.length:=by rw [h.len];exact hi
 refine ⟨by simp [h.len],?_,fun t ht=>?_,?_⟩
 ·rw [List.map_set];exact ho
 ·rcases List.mem_or_eq_of_mem_set ht with ht | rfl
  ·exact (h2.row t ht).grown hT h2.own hg
  ·exact hx2.grown hT h2.own hg
 ·have hd:=h.dis
  rw [← List.take_append_drop i ts,List.drop_eq_getElem_cons hil,blks_append] at hd
  rw [List.set_eq_take_append_cons_drop,if_pos hil,blks_append]
  have e1:blks (ts[i] :: ts.drop (i + 1)) = blks [ts[i]] ++ blks (ts.drop (i + 1)):=blks_append [ts[i]] _
  have e2:blks ((x,k,xs) :: ts.drop (i + 1)) = blks [(x,k,xs)] ++ blks (ts.drop (i + 1)):=blks_append [(x,k,xs)] _
  rw [e1] at hd
  rw [e2]
  have hnew:∀ a,a ∈ blks [(x,k,xs)]→∀ b,b ∈ blks ts→a≠b:=by
   intro a ha b hb' e
   subst e
   obtain ⟨t,ht,e⟩:=List.mem_filterMap.1 ha
   simp at ht;subst ht
   have:=(hx.lt a e).1
   have:=(h.blt a hb').2
   omega
  have hone:(blks [(x,k,xs)]).Nodup:=by cases hb:x.ownBlock <;> simp [blks,hb]
  simp only [List.nodup_append] at hd ⊢
  obtain ⟨d1,⟨d2,d3,d4⟩,d5⟩:=hd
  have s1:∀ a,a ∈ blks (ts.take i)→a ∈ blks ts:=fun a ha=>(blks_sub (List.take_sublist i ts)).subset ha
  have s2:∀ a,a ∈ blks (ts.drop (i + 1))→a ∈ blks ts:=fun a ha=>(blks_sub (List.drop_sublist (i + 1) ts)).subset ha
  refine ⟨d1,⟨hone,d3,fun a ha b hb'=>hnew a ha b (s2 b hb')⟩,fun a ha b hb'=>?_⟩
  rcases List.mem_append.1 hb' with hb' | hb'
  ·exact fun e=>hnew b hb' a (s1 a ha) e.symm
  ·exact d5 a ha b (List.mem_append_right _ hb')
end
end Go.By
namespace Go.Proofs.YtccaiiigdfieoaaGreatDoor
open Go.RowKit Go.By
end Go.Proofs.YtccaiiigdfieoaaGreatDoor
namespace Go.Proofs.YtccaiiigdfieoaaGreatDoor
open Go.RowKit Go.By
def dropAt {α:Type} (ps:List α) (i:Nat):List α:=ps.take i ++ ps.drop (i + 1)
def putAtP {α:Type} (ps:List α) (k:Nat) (p:α):List α:=ps.take k ++ p :: ps.drop k
end Go.Proofs.YtccaiiigdfieoaaGreatDoor
namespace Go.Proofs.YtccaiiigdfieoaaGreatDoor
open Go.RowKit Go.By
end Go.Proofs.YtccaiiigdfieoaaGreatDoor
namespace Go.Proofs.YtccaiiigdfieoaaGreatDoor
open Go.RowKit Go.By
def cutP (p:List UInt8 × Int) (j:Nat):List UInt8 × Int:=if j < p.1.length then (p.1.take j,-1) else p
end Go.Proofs.YtccaiiigdfieoaaGreatDoor
namespace Go.Proofs.YtccaiiigdfieoaaGreatDoor
open Go.RowKit Go.By
def flip (xs:List UInt8) (at':Nat):List UInt8:=xs.set (at' / 8) ((xs.getD (at' / 8) 0) ^^^ UInt8.ofNat (2 ^ (at' % 8)))
def maskF (b j:Nat) (xs:List UInt8):Nat→List UInt8 × Bool
 | 0=>(xs,false)
 | k + 1=>if b.testBit k = true∧(j + k) / 8 < xs.length then (flip (maskF b j xs k).1 (j + k),true) else maskF b j xs k
end Go.Proofs.YtccaiiigdfieoaaGreatDoor
namespace Go.Proofs.YtccaiiigdfieoaaGreatDoor
open Go.RowKit Go.By
def maskP (p:List UInt8 × Int) (b j:Nat):List UInt8 × Int:=((maskF b j p.1 32).1,if (maskF b j p.1 32).2 then -1 else p.2)
end Go.Proofs.YtccaiiigdfieoaaGreatDoor
namespace Go.Proofs.YtccaiiigdfieoaaGreatDoor
open Go.RowKit Go.By
structure ActD where
 d:Int
 i:Int
 j:Int
 b:Nat
 bs:List UInt8
abbrev Pack:=List UInt8 × Int
def stepS (ps:List Pack) (a:ActD):List Pack :=
 if a.d < 0∨6≤a.d∨a.j < 0 then ps
 else if a.d = 5 then ps ++ [(a.bs,-1)]
 else match ps[a.i.toNat]? with
  | none=>ps
  | some p=>if a.i < 0 then ps
   else if a.d = 0 then dropAt ps a.i.toNat
   else if a.d = 1 then ps ++ [p]
   else if a.d = 2 then putAtP (dropAt ps a.i.toNat) (min a.j.toNat (ps.length - 1)) p
   else if a.d = 3 then ps.set a.i.toNat (cutP p a.j.toNat)
   else ps.set a.i.toNat (maskP p a.b a.j.toNat)
end Go.Proofs.YtccaiiigdfieoaaGreatDoor
namespace Go.Proofs.YtccaiiigdfieoaaGreatDoor
open Go.RowKit Go.By Go.ChangeShapes Go.WideShapes Go.Deep
section
variable {H:Type} {enc:TypeId × Value→H} {P:Program} {w:World} {base:Nat} {held:Bool}
instance:Inhabited ActD:=⟨⟨0,0,0,0,[]⟩⟩
end
end Go.Proofs.YtccaiiigdfieoaaGreatDoor
namespace Go.Proofs.YtccaiiigdfieoaaGreatDoor
open Go.RowKit Go.By
end Go.Proofs.YtccaiiigdfieoaaGreatDoor
namespace Go.Proofs.YtccaiiigdfieoaaGreatDoor
open Go.RowKit Go.By
end Go.Proofs.YtccaiiigdfieoaaGreatDoor
namespace Go.Proofs.YtccaiiigdfieoaaGreatDoor
open Go.RowKit Go.By
end Go.Proofs.YtccaiiigdfieoaaGreatDoor
namespace Go.Proofs.YtccaiiigdfieoaaGreatDoor
open Go.RowKit Go.By
end Go.Proofs.YtccaiiigdfieoaaGreatDoor
namespace Go.Proofs.YtccaiiigdfieoaaGreatDoor
open Go.RowKit Go.By
end Go.Proofs.YtccaiiigdfieoaaGreatDoor
namespace Go.Proofs.YtccaiiigdfieoaaGreatDoor
open Go.RowKit Go.By Gf Go.Maps
def tkF (k t D:Nat) (s:List Rw × Nat) (x:List UInt8):List Rw × Nat:=(takeK k t D s.1 s.2 x,takeS k t D s.1 s.2 x)
def tkR (k t D:Nat) (came:List (List UInt8)):List Rw × Nat:=came.foldl (tkF k t D) ([],0)
theorem tkR_snoc {k t D:Nat} {came:List (List UInt8)} {i:Nat} {x:List UInt8} (h:came[i]? = some x):tkR k t D (came.take (i + 1)) = tkF k t D (tkR k t D (came.take i)) x:=by
 obtain ⟨hi,e⟩:=List.getElem?_eq_some_iff.1 h
 unfold tkR
 rw [foldl_take_succ _ _ _ _ hi,e]
def sendF (D k:Nat) (FX:List (List UInt8)) (acc:List (List UInt8)) (a:SrcD):List (List UInt8):=if srcC a.m a.xs.length k = 0 then acc ++ [pktB a.m D acc.length a.xs a.s (combS (vecS a.m a.xs a.s k) FX).1] else acc
def sendsS (D k:Nat) (FX:List (List UInt8)) (l:List SrcD):List (List UInt8):=l.foldl (sendF D k FX) []
theorem sends_snoc {D k:Nat} {FX:List (List UInt8)} {l:List SrcD} {i:Nat} {a:SrcD} (h:l[i]? = some a):sendsS D k FX (l.take (i + 1)) = sendF D k FX (sendsS D k FX (l.take i)) a:=by
 obtain ⟨hi,e⟩:=List.getElem?_eq_some_iff.1 h
 unfold sendsS
 rw [foldl_take_succ _ _ _ _ hi,e]
theorem sendF_len {D k:Nat} {FX acc:List (List UInt8)} {a:SrcD}:acc.length≤(sendF D k FX acc a).length∧(sendF D k FX acc a).length≤acc.length + 1:=by
 unfold sendF
 split <;> simp
theorem sends_len (D k:Nat) (FX:List (List UInt8)) (l:List SrcD):(sendsS D k FX l).length≤l.length:=by
 unfold sendsS
 have:∀ (l:List SrcD) (acc:List (List UInt8)),(l.foldl (sendF D k FX) acc).length≤acc.length + l.length:=by
  intro l
  induction l with
  | nil=>exact fun acc=>Nat.le_refl _
  | cons a l ih=>exact fun acc=>Nat.le_trans (ih _) (by have:=(sendF_len (D:=D) (k:=k) (FX:=FX) (acc:=acc) (a:=a)).2;simp;omega)
 simpa using this l []
theorem Own2.hdrF {T2 T1 B base n:Nat} {w:World} {v:Value} {xss:List (List UInt8)} (h:Own2 T2 T1 w base v n xss) (hB:B≤base):HdrF T2 T1 B w v n xss:=by
 obtain ⟨vs,o,l,r⟩:=h
 refine ⟨vs,owns_mono o hB,l,fun j u hj=>?_⟩
 obtain ⟨xs,q,c,hx,e,ho⟩:=r j u hj
 exact ⟨q,_,c,xs,e,hx,(Fresh.of_owns ho).mono hB⟩
section
variable {wI w0 w w':World} {gs gt be base L t k D nx N st:Nat} {FX:List (List UInt8)} {v:Value} {K:List Rw}
end
theorem GChg.one {w:World} {g i:Nat} (v:Value):GChg w g (w.setCell ⟨g,i,none⟩ v):=(GChg.of g (Below.refl _ _)).set v
end Go.Proofs.YtccaiiigdfieoaaGreatDoor
namespace Go.By
open Go.RowKit Go.Proofs.YtccaiiigdfieoaaGreatDoor
def clashRow (k t:Nat):Rw:=(List.replicate k 0,(List.replicate t (0:UInt8)).set 0 1)
theorem clashRow_len (k t:Nat):(clashRow k t).1.length = k∧(clashRow k t).2.length = t:=by simp [clashRow]
def expR (k t:Nat) (K:List Rw) (st:Nat):List Rw:=if st = 2 then K ++ [clashRow k t] else K
theorem expR_two (k t:Nat) (K:List Rw):expR k t K 2 = K ++ [clashRow k t]:=rfl
theorem expR_not {k t st:Nat} {K:List Rw} (h:st≠2):expR k t K st = K:=if_neg h
theorem expR_fit {k t st:Nat} {K:List Rw} (h:∀ r,r ∈ K→Fit k t r):∀ r,r ∈ expR k t K st→Fit k t r:=fun r hr=>by
 unfold expR at hr
 split at hr
 ·rcases List.mem_append.1 hr with hr | hr
  ·exact h r hr
  ·rw [List.mem_singleton.1 hr];exact clashRow_len k t
 ·exact h r hr
theorem expR_len {k t st:Nat} {K:List Rw}:(expR k t K st).length≤K.length + 1:=by
 unfold expR;split <;> simp
def expL (D:Nat) (R:List Rw):List (List UInt8):=R.zipIdx.map fun p=>pktB 0 D p.2 p.1.1 0 p.1.2
theorem expL_len (D:Nat) (R:List Rw):(expL D R).length = R.length:=by simp [expL]
theorem expL_snoc {D i:Nat} {R:List Rw} {x:Rw} (h:R[i]? = some x):expL D (R.take (i + 1)) = expL D (R.take i) ++ [pktB 0 D i x.1 0 x.2]:=by
 have hi:=(List.getElem?_eq_some_iff.1 h).1
 unfold expL
 rw [List.take_add_one,h,List.zipIdx_append,List.map_append]
 simp only [Option.toList_some,List.zipIdx_cons,List.zipIdx_nil,List.map_cons,List.map_nil,List.length_take,Nat.zero_add]
 rw [Nat.min_eq_left (by omega)]
theorem expL_at {D i:Nat} {R:List Rw} {x:Rw} (h:R[i]? = some x):(expL D R)[i]? = some (pktB 0 D i x.1 0 x.2):=by
 unfold expL
 rw [List.getElem?_map,List.getElem?_zipIdx,h]
 simp
theorem pktB_len0 (D i:Nat) (xs ys:List UInt8):(pktB 0 D i xs 0 ys).length = 14 + xs.length + ys.length:=by
 unfold pktB bodyP headB srcB
 rw [if_pos rfl]
 simp [put4_len]
 omega
def hexT (L:List (List UInt8)):List UInt8:=L.flatMap fun x=>hexL x ++ [10]
theorem hexT_snoc {L:List (List UInt8)} {i:Nat} {x:List UInt8} (h:L[i]? = some x):hexT (L.take (i + 1)) = hexT (L.take i) ++ (hexL x ++ [10]):=by
 unfold hexT
 rw [List.take_add_one,h,List.flatMap_append];simp
def keepT (L t k D:Nat) (K:List Rw) (st:Nat):List UInt8:=textW D L t k ++ [10] ++ hexT (expL D (expR k t K st))
end Go.By
namespace Go.Proofs.YtccaiiigdfieoaaGreatDoor
open Gf Go.By
theorem zeroS_all {xs:List UInt8}:zeroS xs = true↔∀ x,x ∈ xs→x = 0:=by unfold zeroS;simp
end Go.Proofs.YtccaiiigdfieoaaGreatDoor
namespace Go.By
open Go.RowKit
end Go.By
namespace Go.Proofs.YtccaiiigdfieoaaGreatDoor
open Go.RowKit Go.By
end Go.Proofs.YtccaiiigdfieoaaGreatDoor
namespace Go.Proofs.YtccaiiigdfieoaaGreatDoor
open Go.RowKit Go.By
end Go.Proofs.YtccaiiigdfieoaaGreatDoor
namespace Go.Proofs.YtccaiiigdfieoaaGreatDoor
open Go.RowKit Go.By
end Go.Proofs.YtccaiiigdfieoaaGreatDoor
namespace Go.Proofs.YtccaiiigdfieoaaGreatDoor
open Go.RowKit Go.By
end Go.Proofs.YtccaiiigdfieoaaGreatDoor
namespace Go.By
open Go.RowKit
theorem RwS.take {w:World} {p:Option Addr} {n c j:Nat} {K:List (List UInt8 × List UInt8)} (h:RwS w p n c K) (hj:j≤n):RwS w p j c (K.take j) :=
 ⟨by rw [List.length_take,h.len];omega,Nat.le_trans hj h.le,h.max,fun e=>⟨by have:=h.nil e;omega,(h.nil e).2⟩,fun i k hi=>by
  rw [List.getElem?_take] at hi
  split at hi
  ·exact h.row i k hi
  ·cases hi⟩
end Go.By
namespace Go.Proofs.YtccaiiigdfieoaaGreatDoor
open Go.RowKit Go.By
end Go.Proofs.YtccaiiigdfieoaaGreatDoor
namespace Go.By
open Go.RowKit Go.Proofs.YtccaiiigdfieoaaGreatDoor Gf Go.Maps
section
variable {wI w w':World} {q:Option Addr} {n c:Nat} {X:List Rw}
end
end Go.By
namespace Go.By
open Go.RowKit Go.Proofs.YtccaiiigdfieoaaGreatDoor Gf
theorem red_front {n t i:Nat} {K:List Rw} (h:Red n t K):Red n t (K.take i) :=
 ⟨⟨fun a ha=>h.kept.rows a (List.mem_of_mem_take ha),h.kept.sorted.sublist (List.take_sublist _ _)⟩,h.red.sublist (List.take_sublist _ _)⟩
theorem rest_zero {n t:Nat}:∀ {K:List Rw} {x:Rw},(∀ k,k ∈ K→Fit n t k∧Led k)→Fit n t x→(∀ k,k ∈ K→vR x (leadN k) = 0)→restF K x = x
 | [],x,_,_,_=>rfl
 | k :: K,x,h,hx,h0=>by
  obtain ⟨hf,hl⟩:=h k (by simp)
  have e:lessF x (atS x.1 (leadS k.1)) k = x:=by
   have h1:atS x.1 (leadS k.1) = 0:=by rw [hl.at.1,vR_at hx (hl.at.lt hf)];exact h0 k (by simp)
   unfold lessF
   rw [axpy_zero_of h1 (by rw [hf.1,hx.1]),axpy_zero_of h1 (by rw [hf.2,hx.2])]
  show restF K (lessF x (atS x.1 (leadS k.1)) k) = x
  rw [e]
  exact rest_zero (fun k hk=>h k (by simp [hk])) hx (fun k hk=>h0 k (by simp [hk]))
theorem put_back {n t i:Nat} {K:List Rw} {x:Rw} (h:Red n t K) (hx:K[i]? = some x):putK (K.take i) x = K.take (i + 1)∧codeF (K.take i) x = 0:=by
 obtain ⟨hf,hl⟩:=h.kept.rows x (List.mem_of_getElem? hx)
 have hi:=(List.getElem?_eq_some_iff.1 hx).1
 have e:restF (K.take i) x = x:=rest_zero (fun k hk=>h.kept.rows k (List.mem_of_mem_take hk)) hf (fun k hk=>by
  obtain ⟨j,hj,rfl⟩:=List.getElem_of_mem hk
  have hji:j < i:=by simp at hj;omega
  rw [List.getElem_take,h.delta hx (List.getElem?_eq_getElem (show j < K.length by omega)),if_neg (by omega)])
 have hn:¬ leadS (restF (K.take i) x).1 < 0:=by rw [e,hl.at.1];omega
 refine ⟨?_,by unfold codeF;rw [if_neg hn]⟩
 unfold putK
 rw [if_neg hn]
 obtain ⟨g1,g2,g3,g4,_⟩:=putF_red (red_front h (i:=i)) hf hn
 have et:K.take (i + 1) = K.take i ++ [x]:=by rw [List.take_add_one,hx];rfl
 refine Red.unique g1 (red_front h) (fun k hk=>?_) (fun k hk=>?_)
 ·refine Sp.trans (fun a ha=>?_) (g2 k hk)
  rw [et,List.map_append]
  rcases List.mem_cons.1 ha with rfl | ha
  ·exact Sp.mem (by simp)
  ·exact Sp.mem (List.mem_append_left _ ha)
 ·rw [et] at hk
  rcases List.mem_append.1 hk with hk | hk
  ·exact g3 k hk
  ·rw [List.mem_singleton.1 hk];exact g4
theorem leadS_zeros (k:Nat):leadS (List.replicate k (0:UInt8)) < 0:=by
 by_cases h:leadS (List.replicate k (0:UInt8)) < 0
 ·exact h
 ·exfalso
  obtain ⟨l,c,hc,_,hL,hF,hv⟩:=norm_row (n:=k) (t:=0) (y:=(List.replicate k (0:UInt8),[])) ⟨by simp,rfl⟩ h
  have h1:=vf_lead hL hF
  rw [hv] at h1
  have h2:vf (cat (List.replicate k (0:UInt8),[])) l = 0:=vf_zero (fun x hx=>by
   unfold cat at hx;simp at hx;exact hx.2) l
  simp only [h2,gmul_zero] at h1
  exact absurd h1 (by decide)
theorem put_clash {k t:Nat} {K:List Rw} (h:Red k t K) (ht:1≤t):codeF K (clashRow k t) = 2∧putK K (clashRow k t) = K:=by
 have hf:Fit k t (clashRow k t):=clashRow_len k t
 have e:restF K (clashRow k t) = clashRow k t:=rest_zero h.kept.rows hf (fun r hr=>by
  obtain ⟨hf2,hl2⟩:=h.kept.rows r hr
  have hlt:=hl2.at.lt hf2
  show vf (cat (clashRow k t)) (leadN r) = 0
  unfold cat clashRow
  rw [vf_app_left (by simpa using hlt)]
  exact vf_zero (fun x hx=>(List.mem_replicate.1 hx).2) _)
 have hl:leadS (restF K (clashRow k t)).1 < 0:=by rw [e];exact leadS_zeros k
 have hz:¬ zeroS (restF K (clashRow k t)).2 = true:=by
  rw [e]
  intro hz
  have:=zeroS_all.1 hz 1 (by
   unfold clashRow
   rw [List.mem_iff_getElem?]
   exact ⟨0,by rw [List.getElem?_set_self (by simp;omega)]⟩)
  exact absurd this (by decide)
 unfold codeF putK
 rw [if_pos hl,if_pos hl,if_neg hz]
 exact ⟨rfl,rfl⟩
def StF (k:Nat) (K:List Rw) (st:Nat):Prop:=st≤2∧(st = 1↔K.length = k)
theorem StF.nil {k:Nat} (hk:1≤k):StF k [] 0:=⟨by omega,⟨fun h=>by omega,fun h=>by simp at h;omega⟩⟩
theorem StF.take {k t D st:Nat} {K:List Rw} (h:StF k K st) (xs:List UInt8):StF k (takeK k t D K st xs) (takeS k t D K st xs):=by
 unfold takeK takeS
 by_cases hc:readC k t D xs = 0∧st = 0
 ·rw [if_pos hc,if_pos hc]
  unfold nextS
  by_cases h2:codeF K (eqX k t xs) = 2
  ·rw [if_pos h2]
   have hk:putK K (eqX k t xs) = K:=by
    unfold codeF at h2
    unfold putK
    by_cases hl:leadS (restF K (eqX k t xs)).1 < 0
    ·rw [if_pos hl]
    ·rw [if_neg hl] at h2;cases h2
   rw [hk]
   exact ⟨by omega,⟨fun e=>by omega,fun e=>by have:=h.2.2 e;omega⟩⟩
  ·rw [if_neg h2]
   by_cases hl:(putK K (eqX k t xs)).length = k
   ·rw [if_pos hl];exact ⟨by omega,⟨fun _=>hl,fun _=>rfl⟩⟩
   ·rw [if_neg hl];exact ⟨by omega,⟨fun e=>by omega,fun e=>absurd e hl⟩⟩
 ·rw [if_neg hc,if_neg hc];exact h
theorem expL_read {k t D n:Nat} {x:Rw} (hf:Fit k t x) (hD:D < 4294967296) (hn:n < 4294967296):readC k t D (pktB 0 D n x.1 0 x.2) = 0∧eqX k t (pktB 0 D n x.1 0 x.2) = x:=by
 obtain ⟨h1,h2,_,h4,h5,h6⟩:=read_write (m:=0) (D:=D) (n:=n) (s:=0) (k:=k) (t:=t) (xs:=x.1) (ys:=x.2) rfl (fun _=>hf.1) hf.2 hD hn
 refine ⟨h1,?_⟩
 unfold eqX
 rw [h2,h4,h5,h6]
 have e:vecS 0 (rdX 0 (srcB 0 x.1 0)) (rdS 0 (srcB 0 x.1 0)) k = x.1:=by
  unfold vecS rdX srcB
  rw [if_pos rfl,if_pos rfl,if_pos rfl]
 rw [e]
theorem expL_ok {k t D:Nat} {R:List Rw} (hR:∀ r,r ∈ R→Fit k t r) (hD:D < 4294967296) (hl:R.length≤1000000) {i:Nat} {x:List UInt8} (h:(expL D R)[i]? = some x):readC k t D x = 0:=by
 have hi:i < R.length:=by have:=(List.getElem?_eq_some_iff.1 h).1;rw [expL_len] at this;exact this
 have h1:R[i]? = some R[i]:=List.getElem?_eq_getElem hi
 rw [expL_at h1] at h
 injection h with h
 rw [← h]
 exact (expL_read (hR _ (List.mem_of_getElem? h1)) hD (by omega)).1
theorem hear_rows {k t D:Nat} {K R:List Rw} (h:Red k t K) (hk:1≤k) (hD:D < 4294967296) (hl:R.length≤1000000) (hR:R.take K.length = K):∀ i,i≤K.length→tkR k t D ((expL D R).take i) = (K.take i,if i = k then 1 else 0)
 | 0,_=>by rw [if_neg (by omega)];rfl
 | i + 1,hi=>by
  have hx:K[i]? = some K[i]:=List.getElem?_eq_getElem (by omega)
  have hx2:R[i]? = some K[i]:=by
   have e1:(R.take K.length)[i]? = R[i]?:=by rw [List.getElem?_take,if_pos (by omega)]
   rw [← e1,hR];exact hx
  have hKk:K.length≤k:=Red.le h
  have hRl:i < R.length:=(List.getElem?_eq_some_iff.1 hx2).1
  rw [tkR_snoc (expL_at hx2),hear_rows h hk hD hl hR i (by omega),if_neg (by omega)]
  obtain ⟨r1,r2⟩:=expL_read (n:=i) (h.kept.rows _ (List.mem_of_getElem? hx)).1 hD (by omega)
  obtain ⟨p1,p2⟩:=put_back h hx
  unfold tkF takeK takeS
  simp only [r1,r2,and_self,if_true]
  unfold nextS
  rw [p1,p2,if_neg (by decide),List.length_take,Nat.min_eq_left (by omega)]
theorem hear_again {k t D st:Nat} {K:List Rw} (h:Red k t K) (hs:StF k K st) (hk:1≤k) (ht:1≤t) (hD:D < 4294967296) (hl:K.length≤100000):tkR k t D (expL D (expR k t K st)) = (K,st):=by
 have hf:∀ r,r ∈ K→Fit k t r:=fun r hr=>(h.kept.rows r hr).1
 by_cases h2:st = 2
 ·subst h2
  rw [expR_two]
  have hn:K.length≠k:=fun e=>by have:=hs.2.2 e;omega
  have h1:=hear_rows (R:=K ++ [clashRow k t]) h hk hD (by simp;omega) (by simp) K.length (Nat.le_refl _)
  rw [if_neg hn,List.take_length] at h1
  have hx:(K ++ [clashRow k t])[K.length]? = some (clashRow k t):=by simp
  have h3:=tkR_snoc (k:=k) (t:=t) (D:=D) (expL_at (D:=D) hx)
  rw [h1] at h3
  have hlen:(expL D (K ++ [clashRow k t])).length = K.length + 1:=by rw [expL_len];simp
  rw [List.take_of_length_le (by omega)] at h3
  rw [h3]
  obtain ⟨r1,r2⟩:=expL_read (D:=D) (n:=K.length) (clashRow_len k t) hD (by omega)
  obtain ⟨p1,p2⟩:=put_clash h ht
  unfold tkF takeK takeS
  simp only [r1,r2,and_self,if_true]
  unfold nextS
  rw [p1,p2,if_pos rfl]
 ·rw [expR_not h2]
  have h1:=hear_rows (R:=K) h hk hD (by omega) (by simp) K.length (Nat.le_refl _)
  rw [List.take_length,List.take_of_length_le (by rw [expL_len];exact Nat.le_refl _)] at h1
  rw [h1]
  by_cases he:K.length = k
  ·rw [if_pos he,hs.2.2 he]
  ·rw [if_neg he]
   have:st≠1:=fun e=>he (hs.2.1 e)
   have:st = 0:=by have:=hs.1;omega
   rw [this]
end Go.By
namespace Go.By
open Go.RowKit Go.Proofs.YtccaiiigdfieoaaGreatDoor Gf
end Go.By
namespace Go.Proofs.YtccaiiigdfieoaaGreatDoor
open Go.RowKit Go.By
end Go.Proofs.YtccaiiigdfieoaaGreatDoor
namespace Go.Proofs.YtccaiiigdfieoaaGreatDoor
open Go.RowKit Go.By
end Go.Proofs.YtccaiiigdfieoaaGreatDoor
namespace Go.By
open Go.RowKit Go.Maps
end Go.By
namespace Go.Proofs.YtccaiiigdfieoaaGreatDoor
open Go.RowKit Go.By Go.Maps
end Go.Proofs.YtccaiiigdfieoaaGreatDoor
namespace Go.Proofs.YtccaiiigdfieoaaGreatDoor
open Go.RowKit Go.By Go.Maps
end Go.Proofs.YtccaiiigdfieoaaGreatDoor
namespace Go.Proofs.YtccaiiigdfieoaaGreatDoor
open Go.RowKit Go.By Go.Maps
end Go.Proofs.YtccaiiigdfieoaaGreatDoor
namespace Go.Proofs
open Go.Shelf
end Go.Proofs
namespace Go.By
open Go.RowKit Go.Maps Go.ChangeMaps
end Go.By
namespace Go.Proofs.YtccaiiigdfieoaaGreatDoor
open Go.RowKit Go.By Go.Maps Go.Sort Go.Shelf
end Go.Proofs.YtccaiiigdfieoaaGreatDoor
namespace Go.Proofs.YtccaiiigdfieoaaGreatDoor
open Go.RowKit Go.By Go.Maps Go.Sort Go.Shelf
end Go.Proofs.YtccaiiigdfieoaaGreatDoor
namespace Go.By
open Go.RowKit
def objF (s:Nat) (P:Nat→List UInt8) (A:Nat→Bool) (a:Nat):UInt8:=if A (a / s) then (P (a / s)).getD (a % s) 0 else 0
def objL (l s:Nat) (P:Nat→List UInt8) (A:Nat→Bool):List UInt8:=(List.range l).map (objF s P A)
theorem objL_at (l s:Nat) (P:Nat→List UInt8) (A:Nat→Bool) (a:Nat):(objL l s P A)[a]? = if a < l then some (objF s P A a) else none:=by
 unfold objL
 rw [List.getElem?_map]
 by_cases h:a < l
 ·rw [if_pos h,List.getElem?_range h];rfl
 ·rw [if_neg h,List.getElem?_eq_none (by simpa using h)];rfl
end Go.By
namespace Go.Proofs.YtccaiiigdfieoaaGreatDoor
open Go.RowKit Go.By
end Go.Proofs.YtccaiiigdfieoaaGreatDoor
namespace Go.Proofs.YtccaiiigdfieoaaGreatDoor
open Go.RowKit Go.By Go.Maps
def knS (k:Nat) (K:List Rw) (i:Nat):Bool:=(knownS k K i).2
def knP (k:Nat) (K:List Rw) (i:Nat):List UInt8:=(knownS k K i).1
end Go.Proofs.YtccaiiigdfieoaaGreatDoor
namespace Go.Proofs.YtccaiiigdfieoaaGreatDoor
open Go.RowKit Go.By Go.Maps
end Go.Proofs.YtccaiiigdfieoaaGreatDoor
namespace Go.By
open Go.RowKit
end Go.By
namespace Go.By
open Go.RowKit Go.Maps Go.Proofs.YtccaiiigdfieoaaGreatDoor
theorem flat_at {t:Nat}:∀ {xss:List (List UInt8)} (a:Nat),(∀ x,x ∈ xss→x.length = t)→1≤t→a < xss.length * t→xss.flatten[a]? = some ((xss.getD (a / t) []).getD (a % t) 0)
 | [],a,_,_,h=>by simp at h
 | x :: l,a,hx,ht,h=>by
  have hl:=hx x (by simp)
  rw [List.flatten_cons]
  by_cases ha:a < t
  ·rw [List.getElem?_append_left (by omega),Nat.div_eq_of_lt ha,Nat.mod_eq_of_lt ha,List.getD_cons_zero,List.getD_eq_getElem?_getD,List.getElem?_eq_getElem (by omega)];rfl
  ·rw [List.getElem?_append_right (by omega),hl]
   have h1:(a - t) < l.length * t:=by rw [List.length_cons,Nat.succ_mul] at h;omega
   rw [flat_at (a - t) (fun y hy=>hx y (by simp [hy])) ht h1]
   have e1:a / t = (a - t) / t + 1:=by rw [Nat.div_eq a t,if_pos ⟨by omega,by omega⟩]
   have e2:a % t = (a - t) % t:=by rw [Nat.mod_eq a t,if_pos ⟨by omega,by omega⟩]
   rw [e1,e2,List.getD_cons_succ]
theorem done_obj {L t k:Nat} {K:List Rw} (hc:checkS (L:Int) (t:Int) (k:Int) = 0) (hR:Red k t K) (hl:K.length = k) (hk:k≤65536) (ht:1≤t) (hlm:L≤k * t):joinS (L:Int) (t:Int) (k:Int) (K.map (fun x:Rw=>x.2)) = (objL L t (knP k K) (knS k K),0):=by
 have hall:(K.map (fun x:Rw=>x.2)).all (fun y=>decide (y.length = (t:Int).toNat)) = true:=by
  rw [List.all_eq_true]
  intro y hy
  obtain ⟨r,hr,rfl⟩:=List.mem_map.1 hy
  have:=(hR.kept.rows r hr).1.2
  simpa using this
 unfold joinS wholeS
 rw [if_pos hc,if_pos (by simp [hl]),if_pos hall]
 refine Prod.ext ?_ rfl
 show ((K.map (fun x:Rw=>x.2)).flatten.take ((L:Int)).toNat) = objL L t (knP k K) (knS k K)
 refine List.ext_getElem? fun a=>?_
 rw [objL_at,List.getElem?_take,Int.toNat_natCast]
 by_cases ha:a < L
 ·rw [if_pos ha,if_pos ha,flat_at a (fun x hx=>by obtain ⟨r,hr,rfl⟩:=List.mem_map.1 hx;exact (hR.kept.rows r hr).1.2) ht (by rw [List.length_map,hl];omega)]
  have hd:a / t < K.length:=by rw [hl];exact (Nat.div_lt_iff_lt_mul (by omega)).2 (Nat.lt_of_lt_of_le ha hlm)
  have hkn:=known_full hR hl hk (List.getElem?_eq_getElem hd)
  unfold objF knS knP
  rw [hkn,if_pos rfl,List.getD_eq_getElem?_getD (l:=K.map _),List.getElem?_map,List.getElem?_eq_getElem hd]
  rfl
 ·rw [if_neg ha,if_neg ha]
end Go.By
namespace Go.Proofs.YtccaiiigdfieoaaGreatDoor
open Go.RowKit Go.By Go.Maps
end Go.Proofs.YtccaiiigdfieoaaGreatDoor
namespace Go.Proofs.YtccaiiigdfieoaaGreatDoor
open Go.RowKit Go.By
end Go.Proofs.YtccaiiigdfieoaaGreatDoor
namespace Go.By
open Go.RowKit
end Go.By
namespace Go.By
open Go.RowKit
end Go.By
namespace Go.Proofs.YtccaiiigdfieoaaGreatDoor
open Go.RowKit Go.By
end Go.Proofs.YtccaiiigdfieoaaGreatDoor
namespace Go.By
open Go.RowKit
end Go.By
namespace Go.Proofs.YtccaiiigdfieoaaGreatDoor
open Go.RowKit Go.By
end Go.Proofs.YtccaiiigdfieoaaGreatDoor
namespace Go.By
open Go.RowKit Go.Proofs.YtccaiiigdfieoaaGreatDoor
end Go.By
namespace Go.Proofs.YtccaiiigdfieoaaGreatDoor
open Go.RowKit Go.By Gf Go.Maps
end Go.Proofs.YtccaiiigdfieoaaGreatDoor
namespace Go.By
open Go.RowKit Go.Maps Go.Proofs.YtccaiiigdfieoaaGreatDoor
theorem pok_fit {L t k D:Nat} (hP:POK L t k D):(∀ i:Nat,i < k→i * t≤L)∧L≤k * t:=by
 have hk:=(checkS_okC hP.chk).2.2.2.1
 have ht:=hP.t1
 unfold needS at hk
 by_cases h0:L = 0
 ·subst h0
  rw [if_pos (by simp)] at hk
  have:k = 1:=by omega
  subst this
  exact ⟨fun i hi => by have : i = 0 := by omega
                        subst this;simp,by omega⟩
 ·rw [if_neg (by omega)] at hk
  have e:((L:Int) - 1) / (t:Int) = (((L - 1) / t:Nat):Int):=by
   rw [show ((L:Int) - 1) = ((L - 1:Nat):Int) by omega];simp
  rw [e] at hk
  have hk':k = (L - 1) / t + 1:=by omega
  have hd:=Nat.div_add_mod (L - 1) t
  have hm:=Nat.mod_lt (L - 1) (show 0 < t by omega)
  have hc:t * ((L - 1) / t) = (L - 1) / t * t:=Nat.mul_comm _ _
  rw [hk']
  refine ⟨fun i hi=>?_,by rw [Nat.succ_mul];omega⟩
  have:i * t≤(L - 1) / t * t:=Nat.mul_le_mul_right t (by omega)
  omega
end Go.By
namespace Go.Proofs.YtccaiiigdfieoaaGreatDoor
open Go.RowKit Go.By Go.Maps
theorem TObject19 {L t k D N base gt be:Nat} {M v:Value} {C:DataW Unit} {K:List Rw} {w:World} (h:Tkr w base gt be L t k D N M v C K 1) (hK:K.length = k) :
  Calls Tryz.prog 19 #[.pointer (some ⟨gt,0,none⟩)] w (RetL w (objL L t (knP k K) (knS k K)) 0):=by
 have h0:=TObject_done base gt be L t k D N M v C K w h hK
 rw [done_obj h.ok.chk h.red hK (by have:=h.ok.k2;omega) h.ok.t1 (pok_fit h.ok).2] at h0
 exact h0
theorem Same_eq (p1 p2:Option Addr) (n1 n2 c1 c2:Nat) (xs:List UInt8) (w:World) (h1:Sl B8 w p1 n1 c1 xs) (h2:Sl B8 w p2 n2 c2 xs):Calls Tryz.prog 23 #[.slice p1 n1 c1,.slice p2 n2 c2] w fun e w'=>e = .returned (.bool true)∧Below w.heap.size w w':=by
 have:=Same_any p1 p2 n1 n2 c1 c2 xs xs w h1 h2
 rwa [decide_eq_true rfl] at this
end Go.Proofs.YtccaiiigdfieoaaGreatDoor
namespace Go.By
open Go.RowKit Go.Proofs.YtccaiiigdfieoaaGreatDoor
def objX (L t k:Nat) (K:List Rw) (st:Nat):List UInt8:=if st = 1 then objL L t (knP k K) (knS k K) else []
end Go.By
namespace Go.Proofs.YtccaiiigdfieoaaGreatDoor
open Go.RowKit Go.By Go.Maps
theorem TObj_any {base gt be L t k D N st:Nat} {M v:Value} {C:DataW Unit} {K:List Rw} {w:World} (h:Tkr w base gt be L t k D N M v C K st) (hs:StF k K st) :
  Calls Tryz.prog 19 #[.pointer (some ⟨gt,0,none⟩)] w (RetL w (objX L t k K st) (objC st)):=by
 by_cases h1:st = 1
 ·subst h1
  exact TObject19 h (hs.2.1 rfl)
 ·have h2:st = 0∨st = 2:=by have:=hs.1;omega
  refine (TObject_none base gt be L t k D N M v C K st w h h2).mono ?_
  rintro e w' ⟨rfl,rfl⟩
  refine ⟨none,0,0,rfl,?_,Below.refl _ _⟩
  unfold objX
  rw [if_neg h1]
  exact Sl.nil0 _ _
end Go.Proofs.YtccaiiigdfieoaaGreatDoor
namespace Go.Proofs.YtccaiiigdfieoaaGreatDoor
open Go.By Go.Lib
theorem decDigits_decV:∀ (n:Nat) {w:List UInt8},w.length≤n→numG w = true→decDigits (decV 0 w) = w
 | 0,w,hn,h=>by
  have:w = []:=List.length_eq_zero_iff.1 (by omega)
  subst this;cases h
 | n + 1,w,hn,h=>by
  have hne:w≠[]:=fun e=>by subst e;cases h
  obtain ⟨v,d,rfl⟩:∃ v d,w = v ++ [d]:=⟨_,_,(List.dropLast_concat_getLast hne).symm⟩
  have hd:=numG_dig h
  have hdd:=isDig_le (hd d (by simp))
  rw [decV_append,decV_cons,decV_nil]
  by_cases hv:v = []
  ·subst hv
   rw [decV_nil,decDigits_small (by omega)]
   show [_] = [d]
   congr 1
   apply UInt8.toNat_inj.1
   rw [UInt8.toNat_ofNat',Nat.mod_eq_of_lt (by omega)];omega
  ·obtain ⟨x,l,rfl⟩:∃ x l,v = x :: l:=by
    cases v with
    | nil=>exact absurd rfl hv
    | cons x l=>exact ⟨x,l,rfl⟩
   have hx0:x≠48:=fun e=>by
    subst e
    unfold numG at h
    simp at h
   have hx:=isDig_le (hd x (by simp))
   have hx1:49≤x.toNat:=by
    rcases Nat.lt_or_ge 48 x.toNat with g | g
    ·exact g
    ·exact absurd (UInt8.toNat_inj.1 (show x.toNat = (48:UInt8).toNat by show x.toNat = 48;omega)) hx0
   have hg:numG (x :: l) = true:=by
    unfold numG
    have ha:(x :: l).all isDig = true:=List.all_eq_true.2 fun b hb=>hd b (List.mem_append_left _ hb)
    rw [ha]
    have:¬ ((x :: l).head? = some 48):=by simp [hx0]
    simp [hx0]
   have h1:1≤decV 0 (x :: l):=by
    rw [decV_cons]
    exact Nat.le_trans (by omega) (decV_le l _)
   have hlen:(x :: l).length≤n:=by simp at hn ⊢;omega
   rw [decDigits_big (by omega),show (10 * decV 0 (x :: l) + (d.toNat - 48)) / 10 = decV 0 (x :: l) by omega,show (10 * decV 0 (x :: l) + (d.toNat - 48)) % 10 = d.toNat - 48 by omega,decDigits_decV n hlen hg]
   congr 1
   congr 1
   apply UInt8.toNat_inj.1
   rw [UInt8.toNat_ofNat',Nat.mod_eq_of_lt (by omega)];omega
theorem numB_some {M x:Nat} {w:List UInt8} (h:numB M w = some x):numG w = true∧x = decV 0 w∧x≤M∧decDigits x = w:=by
 unfold numB at h
 split at h
 ·rename_i hc
  injection h with h
  subst h
  exact ⟨hc.1,rfl,hc.2,decDigits_decV _ (Nat.le_refl _) hc.1⟩
 ·cases h
theorem hexL_plain (l:List UInt8):∀ b ∈ hexL l,b≠32∧b≠10:=fun b hb=>by
 unfold hexL at hb
 obtain ⟨x,_,hb⟩:=List.mem_flatMap.1 hb
 have hx:=x.toNat_lt
 have key:∀ y,y < 16→dgt y≠32∧dgt y≠10:=by decide
 simp at hb
 rcases hb with rfl | rfl
 ·exact key _ (by omega)
 ·exact key _ (by omega)
theorem dec_plain (u:Nat):∀ b ∈ decDigits u,b≠32∧b≠10:=fun b hb=>by
 have:=isDig_le ((decDigits_facts u u (Nat.le_refl _)).2.1 b hb)
 exact ⟨fun e=>by subst e;exact absurd this.1 (by decide),fun e=>by subst e;exact absurd this.1 (by decide)⟩
end Go.Proofs.YtccaiiigdfieoaaGreatDoor
namespace Go.Proofs.YtccaiiigdfieoaaGreatDoor
open Go.By Go.Lib
def splA (c:UInt8) (s:List UInt8):List (List UInt8):=spl c s.length s
theorem spl_more {c:UInt8} {k:Nat} {s:List UInt8} (h:s.length≤k):spl c k s = splA c s:=by
 rw [spl_min,Nat.min_eq_right h];rfl
theorem splA_free {c:UInt8} {s:List UInt8} (h:∀ b ∈ s,b≠c):splA c s = [s]:=by
 have:=cutW_all h
 exact spl_none (by rw [this])
theorem splA_cut {c:UInt8} {a:List UInt8} (h:∀ b ∈ a,b≠c) (r:List UInt8):splA c (a ++ c :: r) = a :: splA c r:=by
 have e:=cutW_app h r
 unfold splA
 rw [List.length_append,List.length_cons,show a.length + (r.length + 1) = (a.length + r.length) + 1 by omega,spl_some (r:=r) (by rw [e]),e,spl_more (by omega)];rfl
theorem splA_ne (c:UInt8) (s:List UInt8):splA c s≠[]:=fun e=>by
 have:=(spl_len c s.length s).1
 rw [show spl c s.length s = [] from e] at this
 simp at this
end Go.Proofs.YtccaiiigdfieoaaGreatDoor
namespace Go.By
open Go.RowKit
theorem one_cellI {w:World} {v:Value} {T g:Nat} (hg:g = w.heap.size):∀ (j:Nat) (u:Value),[v][j]? = some u→(w.alloc (.cells #[v] T)).cell? ((⟨g,0,none⟩:Addr).add j) = some u:=by
 intro j u hj
 rw [Addr.add_lit,Nat.zero_add,cell_of_row _ _ j _ _ _ (hnew hg)]
 match j with
 | 0=>simpa using hj
 | j + 1=>simp at hj
end Go.By
namespace Go.Proofs.YtccaiiigdfieoaaGreatDoor
open Go.RowKit Go.By
def OptB (w:World) (r:Option (List UInt8)) (e:Ending) (w':World):Prop:=∃ q n c,e = .returned (.tuple #[.slice q n c,.bool r.isSome])∧Fresh 5 w.heap.size w' q n c (r.getD [])∧Below w.heap.size w w'
theorem OptB.no {w w':World} {r:Option (List UInt8)} (h:r = none) (hb:Below w.heap.size w w'):OptB w r (.returned (.tuple #[.slice none 0 0,.bool false])) w':=by subst h;exact ⟨none,0,0,rfl,Fresh.none _ _ _,hb⟩
theorem OptB.yes {w w':World} {r:Option (List UInt8)} {xs:List UInt8} {q:Option Addr} {n c:Nat} (h:r = some xs) (ho:w'.ownsRow w.heap.size 5 1 (.slice q n c) n (xs.map B8)) (hb:Below w.heap.size w w'):OptB w r (.returned (.tuple #[.slice q n c,.bool true])) w':=by subst h;exact ⟨q,n,c,rfl,Fresh.of_owns ho,hb⟩
def unhexO (s:List UInt8):Option (List UInt8):=if s = [] then none else unhexP s
end Go.Proofs.YtccaiiigdfieoaaGreatDoor
namespace Go.Proofs.YtccaiiigdfieoaaGreatDoor
open Go.RowKit Go.By
end Go.Proofs.YtccaiiigdfieoaaGreatDoor
namespace Go.By
open Go.RowKit
theorem decV_take {l:List UInt8} {k:Nat} {c:UInt8} (h:l[k]? = some c):decV 0 (l.take (k + 1)) = 10 * decV 0 (l.take k) + (c.toNat - 48):=by
 rw [List.take_add_one,h,decV_append];rfl
theorem decV_take_le (l:List UInt8) (k:Nat):decV 0 (l.take k)≤decV 0 l:=by
 conv=>rhs;rw [← List.take_append_drop k l,decV_append]
 exact decV_le _ _
def puR (T:TypeId) (M:Nat) (l:List UInt8):Value:=if decV 0 l≤M then .tuple #[.int .u64 (decV 0 l:Nat),.nilIface] else .tuple #[.int .u64 (M:Nat),.iface T (.int .i64 1)]
end Go.By
namespace Go.Proofs.YtccaiiigdfieoaaGreatDoor
open Go.RowKit Go.By
set_option maxHeartbeats 8000000 in
set_option maxRecDepth 100000 in
theorem ParseUint_in32 (l:List UInt8) (hne:l≠[]) (hl:l.length≤1000000) (hx:∀ c ∈ l,isDig c = true) (w:World) :
  Calls Tryz.prog 227 #[.string (strB l),.int .i64 10,.int .i64 32] w fun e w'=>e = .returned (puR 317 4294967295 l)∧Below w.heap.size w w':=by
 have hemp:(strB l).toList.isEmpty = false:=by
  rw [← decide_eq_emptyBytes]
  exact decide_eq_false (fun h=>hne (by have:=congrArg (fun s:ByteArray=>s.data.toList) h;simpa [strB_data] using this))
 have hcv:=Lib.run_convert_string_bytes (P:=Tryz.prog) w 9 22 5 (strB l) (u:=.string) Tryz.underlying9 Tryz.underlying22 Tryz.underlying5
 have hB:∀ j,j < (strB l).size→(Lib.bytesWorld w 5 (strB l)).cell? ⟨w.heap.size,j,none⟩ = some (.int .u8 ((strB l).data.toList.getD j 0).toNat):=fun j hj=>Lib.bytesWorld_cell w 5 (strB l) j hj
 have HW:Hid (Below w.heap.size w (Lib.bytesWorld w 5 (strB l))):=⟨rfl,rfl,rfl,by rw [Lib.bytesWorld_size];omega,fun j hj=>Lib.bytesWorld_at_old w 5 (strB l) j hj⟩
 obtain ⟨W1,hW1⟩:∃ W1,W1 = Lib.bytesWorld w 5 (strB l):=⟨_,rfl⟩
 rw [← hW1] at hcv hB HW
 clear hW1
 rw [strB_data,strB_size] at hB
 obtain ⟨n,hn⟩:∃ n,l.length = n:=⟨_,rfl⟩
 have hsz:(strB l).size = n:=by rw [strB_size,hn]
 rw [hn] at hB hl
 have HN:=Lib.hid hn
 have HX:=Lib.hid hx
 obtain ⟨S,hS⟩:∃ S,S = strB l:=⟨_,rfl⟩
 rw [← hS] at hemp hcv hsz ⊢
 clear hS hn hx hne
 have hmv:IntKind.u64.wrap (IntKind.u64.wrap 4294967296 - 1) = 4294967295:=by
  rw [IntKind.wrap_u64,IntKind.wrap_u64]
  decide
 go_enter Tryz.func227,Tryz.ntmps227
 go_wp2
 go_loop [12,13,101] (fun vu vn vi=>∃ (k:Nat) (a:Int),vu = .bool false∧vn = .int .u64 a∧vi = .int .i64 k∧k≤n∧0≤a∧a≤4294967295∧Hid (a = (decV 0 (l.take k):Nat)))
  (fun _ _ vi=>n - (intOf vi).toNat)
 case atStart=>exact ⟨0,0,rfl,rfl,rfl,by omega,by omega,by omega,by show (0:Int) = ((decV 0 (l.take 0):Nat):Int);rw [List.take_zero];rfl⟩
 case round =>
  obtain ⟨k,a,rfl,rfl,rfl,hk,a0,a1,hh⟩:=hrel
  by_cases hkn:k < n
  ·have hc:=hB k hkn
   obtain ⟨c,hcl⟩:∃ c,l[k]? = some c:=⟨l[k]'(by have:=HN.out;omega),List.getElem?_eq_getElem _⟩
   rw [List.getD_eq_getElem?_getD,hcl] at hc
   simp only [Option.getD_some] at hc
   obtain ⟨d0,d1⟩:=isDig_le (HX.out c (List.mem_of_getElem? hcl))
   have icut:a < 1844674407370955162:=by omega
   have hstep:Hid (decV 0 (l.take (k + 1)) = 10 * decV 0 (l.take k) + (c.toNat - 48)):=decV_take hcl
   have hle:Hid (decV 0 (l.take (k + 1))≤decV 0 l):=decV_take_le l (k + 1)
   have hc256:c.toNat < 256:=c.toNat_lt
   have iov:a * 10 + ((c.toNat:Int) - 48) < 18446744073709551616:=by omega
   have ilo:a * 10≤a * 10 + ((c.toNat:Int) - 48):=by omega
   clear hB hcl
   by_cases hM:a * 10 + ((c.toNat:Int) - 48)≤4294967295
   ·go_wp2
    refine ⟨⟨k + 1,a * 10 + ((c.toNat:Int) - 48),rfl,rfl,by go_num,by omega,by omega,by omega,by have h1:=hstep.out;have h2:=hh.out;show _ = _;omega⟩,by simp [intOf];omega⟩
   ·have hM':4294967295 < a * 10 + ((c.toNat:Int) - 48):=by omega
    have HE:Hid (puR 317 4294967295 l = .tuple #[.int .u64 (4294967295:Nat),.iface 317 (.int .i64 1)]):=by
     show _ = _
     unfold puR
     rw [if_neg (by have h1:=hstep.out;have h2:=hh.out;have h3:=hle.out;omega)]
    clear hM hstep hh hle
    go_wp2
    go_ret2
    exact ⟨by rw [HE.out];rfl,HW.out⟩
  ·obtain rfl:k = n:=by omega
   have HE:Hid (puR 317 4294967295 l = .tuple #[.int .u64 a,.nilIface]):=by
    have:=hh.out
    rw [List.take_of_length_le (by have:=HN.out;omega)] at this
    show _ = _
    unfold puR
    rw [if_pos (by omega),← this]
   clear hB hh hkn
   go_wp2
   go_ret2
   exact ⟨by rw [HE.out];rfl,HW.out⟩
set_option maxHeartbeats 8000000 in
set_option maxRecDepth 100000 in
theorem ParseUint_in31 (l:List UInt8) (hne:l≠[]) (hl:l.length≤1000000) (hx:∀ c ∈ l,isDig c = true) (w:World) :
  Calls Tryz.prog 227 #[.string (strB l),.int .i64 10,.int .i64 31] w fun e w'=>e = .returned (puR 317 2147483647 l)∧Below w.heap.size w w':=by
 have hemp:(strB l).toList.isEmpty = false:=by
  rw [← decide_eq_emptyBytes]
  exact decide_eq_false (fun h=>hne (by have:=congrArg (fun s:ByteArray=>s.data.toList) h;simpa [strB_data] using this))
 have hcv:=Lib.run_convert_string_bytes (P:=Tryz.prog) w 9 22 5 (strB l) (u:=.string) Tryz.underlying9 Tryz.underlying22 Tryz.underlying5
 have hB:∀ j,j < (strB l).size→(Lib.bytesWorld w 5 (strB l)).cell? ⟨w.heap.size,j,none⟩ = some (.int .u8 ((strB l).data.toList.getD j 0).toNat):=fun j hj=>Lib.bytesWorld_cell w 5 (strB l) j hj
 have HW:Hid (Below w.heap.size w (Lib.bytesWorld w 5 (strB l))):=⟨rfl,rfl,rfl,by rw [Lib.bytesWorld_size];omega,fun j hj=>Lib.bytesWorld_at_old w 5 (strB l) j hj⟩
 obtain ⟨W1,hW1⟩:∃ W1,W1 = Lib.bytesWorld w 5 (strB l):=⟨_,rfl⟩
 rw [← hW1] at hcv hB HW
 clear hW1
 rw [strB_data,strB_size] at hB
 obtain ⟨n,hn⟩:∃ n,l.length = n:=⟨_,rfl⟩
 have hsz:(strB l).size = n:=by rw [strB_size,hn]
 rw [hn] at hB hl
 have HN:=Lib.hid hn
 have HX:=Lib.hid hx
 obtain ⟨S,hS⟩:∃ S,S = strB l:=⟨_,rfl⟩
 rw [← hS] at hemp hcv hsz ⊢
 clear hS hn hx hne
 have hmv:IntKind.u64.wrap (IntKind.u64.wrap 2147483648 - 1) = 2147483647:=by
  rw [IntKind.wrap_u64,IntKind.wrap_u64]
  decide
 go_enter Tryz.func227,Tryz.ntmps227
 go_wp2
 go_loop [12,13,101] (fun vu vn vi=>∃ (k:Nat) (a:Int),vu = .bool false∧vn = .int .u64 a∧vi = .int .i64 k∧k≤n∧0≤a∧a≤2147483647∧Hid (a = (decV 0 (l.take k):Nat)))
  (fun _ _ vi=>n - (intOf vi).toNat)
 case atStart=>exact ⟨0,0,rfl,rfl,rfl,by omega,by omega,by omega,by show (0:Int) = ((decV 0 (l.take 0):Nat):Int);rw [List.take_zero];rfl⟩
 case round =>
  obtain ⟨k,a,rfl,rfl,rfl,hk,a0,a1,hh⟩:=hrel
  by_cases hkn:k < n
  ·have hc:=hB k hkn
   obtain ⟨c,hcl⟩:∃ c,l[k]? = some c:=⟨l[k]'(by have:=HN.out;omega),List.getElem?_eq_getElem _⟩
   rw [List.getD_eq_getElem?_getD,hcl] at hc
   simp only [Option.getD_some] at hc
   obtain ⟨d0,d1⟩:=isDig_le (HX.out c (List.mem_of_getElem? hcl))
   have icut:a < 1844674407370955162:=by omega
   have hstep:Hid (decV 0 (l.take (k + 1)) = 10 * decV 0 (l.take k) + (c.toNat - 48)):=decV_take hcl
   have hle:Hid (decV 0 (l.take (k + 1))≤decV 0 l):=decV_take_le l (k + 1)
   have hc256:c.toNat < 256:=c.toNat_lt
   have iov:a * 10 + ((c.toNat:Int) - 48) < 18446744073709551616:=by omega
   have ilo:a * 10≤a * 10 + ((c.toNat:Int) - 48):=by omega
   clear hB hcl
   by_cases hM:a * 10 + ((c.toNat:Int) - 48)≤2147483647
   ·go_wp2
    refine ⟨⟨k + 1,a * 10 + ((c.toNat:Int) - 48),rfl,rfl,by go_num,by omega,by omega,by omega,by have h1:=hstep.out;have h2:=hh.out;show _ = _;omega⟩,by simp [intOf];omega⟩
   ·have hM':2147483647 < a * 10 + ((c.toNat:Int) - 48):=by omega
    have HE:Hid (puR 317 2147483647 l = .tuple #[.int .u64 (2147483647:Nat),.iface 317 (.int .i64 1)]):=by
     show _ = _
     unfold puR
     rw [if_neg (by have h1:=hstep.out;have h2:=hh.out;have h3:=hle.out;omega)]
    clear hM hstep hh hle
    go_wp2
    go_ret2
    exact ⟨by rw [HE.out];rfl,HW.out⟩
  ·obtain rfl:k = n:=by omega
   have HE:Hid (puR 317 2147483647 l = .tuple #[.int .u64 a,.nilIface]):=by
    have:=hh.out
    rw [List.take_of_length_le (by have:=HN.out;omega)] at this
    show _ = _
    unfold puR
    rw [if_pos (by omega),← this]
   clear hB hh hkn
   go_wp2
   go_ret2
   exact ⟨by rw [HE.out];rfl,HW.out⟩
end Go.Proofs.YtccaiiigdfieoaaGreatDoor
namespace Go.By
open Go.RowKit
theorem not_dig {l:List UInt8} {k:Nat} {c:UInt8} (h:l[k]? = some c) (hc:isDig c = false):numG l = false:=by
 have:l.all isDig = false:=by
  rw [List.all_eq_false]
  exact ⟨c,List.mem_of_getElem? h,by rw [hc];decide⟩
 unfold numG;rw [this];simp
theorem all_dig {l:List UInt8} {n:Nat} (hn:l.length = n) (h:∀ (j:Nat) (d:UInt8),j < n→l[j]? = some d→isDig d = true):l.all isDig = true:=List.all_eq_true.2 (fun b hb=>by
 obtain ⟨j,hj,e⟩:=List.getElem_of_mem hb
 exact h j b (by omega) (by rw [List.getElem?_eq_getElem hj,e]))
theorem numB_none {M:Nat} {l:List UInt8} (h:numG l = false):numB M l = none:=by unfold numB;rw [if_neg (by rw [h];simp)]
def NumRes (K:IntKind) (M:Nat) (l:List UInt8) (v:Value):Prop:=∃ x:Nat,v = .tuple #[.int K (x:Int),.bool (numB M l).isSome]∧∀ y,numB M l = some y→x = y
theorem NumRes.no {K:IntKind} {M:Nat} {l:List UInt8} (h:numB M l = none) (x:Nat):NumRes K M l (.tuple #[.int K (x:Int),.bool false]):=⟨x,by rw [h];rfl,fun y hy=>by rw [h] at hy;cases hy⟩
theorem NumRes.yes {K:IntKind} {M:Nat} {l:List UInt8} {x:Nat} (h:numB M l = some x):NumRes K M l (.tuple #[.int K (x:Int),.bool true]):=⟨x,by rw [h];rfl,fun y hy=>by rw [h] at hy;exact Option.some.inj hy⟩
theorem head_cases {l:List UInt8} {c:UInt8} (h:l[0]? = some c):(c = 48∧1 < l.length∧numG l = false)∨((c≠48∨l.length≤1)∧numG l = l.all isDig):=by
 have hne:l≠[]:=fun e=>by subst e;cases h
 have hh:l.head? = some c:=by rw [← h];cases l <;> rfl
 unfold numG
 rw [hh,decide_eq_true hne]
 by_cases h1:c = 48
 ·by_cases h2:1 < l.length
  ·exact .inl ⟨h1,h2,by rw [h1];simp [h2]⟩
  ·exact .inr ⟨.inr (by omega),by simp [h2]⟩
 ·exact .inr ⟨.inl h1,by simp [h1]⟩
end Go.By
namespace Go.Proofs.YtccaiiigdfieoaaGreatDoor
open Go.RowKit Go.By
end Go.Proofs.YtccaiiigdfieoaaGreatDoor
namespace Go.By
open Go.RowKit
def StrRow (w:World) (b:Nat) (L:List (List UInt8)):Prop:=∀ (i:Nat) (x:List UInt8),L[i]? = some x→w.cell? ⟨b,i,none⟩ = some (.string (strB x))
theorem StrRow.keep {w w':World} {b:Nat} {L:List (List UInt8)} (h:StrRow w b L) (hb:Below w.heap.size w w'):StrRow w' b L:=fun i x hx=>(hb.cell (p:=⟨b,i,none⟩) (lt_of_cell (h i x hx))).trans (h i x hx)
theorem cellsOf_at {done:List ByteArray} {N i:Nat} {x:ByteArray} (h:done[i]? = some x):(Lib.cellsOf done N)[i]? = some (.string x):=by
 have hi:=(List.getElem?_eq_some_iff.1 h).1
 unfold Lib.cellsOf
 rw [List.getElem?_toArray,List.getElem?_append_left (by simpa using hi),List.getElem?_map,h];rfl
theorem splitB_spl (l:List UInt8) (k:Nat):Lib.splitB ⟨#[32]⟩ 0 k (strB l) = (spl 32 k l).map strB:=by
 have h:=Lib.splitB_data ⟨#[32]⟩ 0 k (strB l)
 rw [strB_data] at h
 have h2:Lib.splitK [32] 0 k l = spl 32 k l:=splitK_spl 32 k l
 have h3:((⟨#[32]⟩:ByteArray).data.toList) = [32]:=rfl
 rw [h3,h2] at h
 have h4:=congrArg (List.map strB) h
 rw [List.map_map] at h4
 rw [← h4]
 conv=>lhs;rw [← List.map_id (Lib.splitB ⟨#[32]⟩ 0 k (strB l))]
 apply List.map_congr_left
 intro x _
 exact strB_of x
end Go.By
namespace Go.Proofs.YtccaiiigdfieoaaGreatDoor
open Go.RowKit Go.By
def MaxI (w:World):Prop:=∃ m,w.cell? ⟨1,0,none⟩ = some (.int .i64 m)
theorem MaxI.keep {w w':World} (h:MaxI w) (hb:Below w.heap.size w w'):MaxI w':=by
 obtain ⟨m,hm⟩:=h
 exact ⟨m,(hb.cell (p:=⟨1,0,none⟩) (lt_of_cell hm)).trans hm⟩
def ErrI (w:World):Prop:=∃ ev,w.cell? ⟨6,0,none⟩ = some ev∧(ev = .nilIface∨∃ te pe,ev = .iface te pe)
theorem ErrI.keep {w w':World} (h:ErrI w) (hb:Below w.heap.size w w'):ErrI w':=by
 obtain ⟨m,hm,h2⟩:=h
 exact ⟨m,(hb.cell (p:=⟨6,0,none⟩) (lt_of_cell hm)).trans hm,h2⟩
theorem SplitN_any (l:List UInt8) (w:World) (hl:l.length≤1000000) (hM:MaxI w) :
  Calls Tryz.prog 124 #[.string (strB l),.string ⟨#[32]⟩,.int .i64 6] w fun e w'=>∃ b c,e = .returned (.slice (some ⟨b,0,none⟩) (spl 32 5 l).length c)∧(spl 32 5 l).length≤c∧StrRow w' b (spl 32 5 l)∧Below w.heap.size w w':=by
 obtain ⟨m,hm⟩:=hM
 refine (Tryz.strings_SplitN (strB l) ⟨#[32]⟩ 6 m w (by rw [strB_size];omega) hm (by decide) (by decide) (by decide)).mono ?_
 rintro e w' ⟨rfl,rfl⟩
 have hk:min 6 ((strB l).size + 1) - 1 = min 5 l.length:=by rw [strB_size];omega
 have hs:Lib.splitB ⟨#[32]⟩ 0 (min 6 ((strB l).size + 1) - 1) (strB l) = (spl 32 5 l).map strB:=by
  rw [hk,splitB_spl,← spl_min]
 have hle:(spl 32 5 l).length≤min 6 ((strB l).size + 1):=by
  rw [spl_min]
  have:=(spl_len 32 (min 5 l.length) l).2
  rw [strB_size];omega
 rw [hs]
 refine ⟨_,_,by rw [List.length_map],hle,fun i x hx=>?_,al (Below.refl _ _) (Nat.le_refl _)⟩
 rw [cell_of_row _ _ _ _ _ _ (hnew rfl)]
 exact cellsOf_at (by rw [List.getElem?_map,hx];rfl)
def PuRes (M:Nat) (l:List UInt8) (v:Value):Prop:=(decV 0 l≤M∧v = .tuple #[.int .u64 (decV 0 l:Nat),.nilIface])∨(¬ decV 0 l≤M∧∃ t p,v = .tuple #[.int .u64 (M:Nat),.iface t p])
set_option maxHeartbeats 1000000 in
theorem ParseUint_of (l:List UInt8) (bs:Int) (M:Nat) (w:World) (hl:l.length≤1000000) (hE:ErrI w)
  (hin:Calls Tryz.prog 227 #[.string (strB l),.int .i64 10,.int .i64 bs] w fun e w'=>e = .returned (puR 317 M l)∧Below w.heap.size w w') :
  Calls Tryz.prog 190 #[.string (strB l),.int .i64 10,.int .i64 bs] w fun e w'=>∃ v,e = .returned v∧PuRes M l v∧Below w.heap.size w w':=by
 have HF:=Lib.hid hin
 have HL:Hid ((strB l).size≤281474976710656):=by show _≤_;rw [strB_size];omega
 have HE:=Lib.hid hE
 clear hin hE hl
 obtain ⟨S,hS⟩:∃ S,S = strB l:=⟨_,rfl⟩
 rw [← hS] at HF HL ⊢
 clear hS
 by_cases h:decV 0 l≤M
 ·have HR:Hid (PuRes M l (.tuple #[.int .u64 (decV 0 l:Nat),.nilIface])):=.inl ⟨h,rfl⟩
  have e:puR 317 M l = .tuple #[.int .u64 (decV 0 l:Nat),.nilIface]:=if_pos h
  rw [e] at HF
  clear e h
  go_enter Tryz.func190,Tryz.ntmps190
  go_wp2_with fail
  refine Calls.mono HF.out ?_
  rintro e w' ⟨rfl,hb⟩
  have HB:=Lib.hid hb;clear hb
  go_wp2
  go_ret2
  exact ⟨_,rfl,HR.out,HB.out⟩
 ·have HR:Hid (∀ t p,PuRes M l (.tuple #[.int .u64 (M:Nat),.iface t p])):=fun t p=>.inr ⟨h,t,p,rfl⟩
  have e:puR 317 M l = .tuple #[.int .u64 (M:Nat),.iface 317 (.int .i64 1)]:=if_neg h
  rw [e] at HF
  clear e h
  go_enter Tryz.func190,Tryz.ntmps190
  go_wp2_with fail
  refine Calls.mono HF.out ?_
  rintro e w' ⟨rfl,hb⟩
  obtain ⟨ev,hv,hev⟩:=HE.out.keep hb
  have HB:=Lib.hid hb;clear hb
  have HV:=Lib.hid hv;have HEV:=Lib.hid hev;clear hv hev
  go_wp2_with fail
  refine Calls.mono (Tryz.strconv_toError_range _ S 10 bs ev w' HL.out HV.out HEV.out) ?_
  rintro e w2 ⟨N,rfl,h1,h2,h3⟩
  have HB2:Hid (Below w.heap.size w w2):=bl HB.out h3 HB.out.size
  clear h1 h2 h3
  go_wp2
  go_ret2
  exact ⟨_,rfl,HR.out _ _,HB2.out⟩
end Go.Proofs.YtccaiiigdfieoaaGreatDoor
namespace Go.Proofs.YtccaiiigdfieoaaGreatDoor
open Go.RowKit Go.By
theorem ParseUint_bits (l:List UInt8) (bs:Int) (M:Nat) (hb:(bs = 32∧M = 4294967295)∨(bs = 31∧M = 2147483647)) (hne:l≠[]) (hl:l.length≤1000000) (hx:∀ c ∈ l,isDig c = true) (w:World) (hE:ErrI w) :
  Calls Tryz.prog 190 #[.string (strB l),.int .i64 10,.int .i64 bs] w fun e w'=>∃ v,e = .returned v∧PuRes M l v∧Below w.heap.size w w':=by
 rcases hb with ⟨rfl,rfl⟩ | ⟨rfl,rfl⟩
 ·exact ParseUint_of l 32 4294967295 w hl hE (ParseUint_in32 l hne hl hx w)
 ·exact ParseUint_of l 31 2147483647 w hl hE (ParseUint_in31 l hne hl hx w)
set_option maxRecDepth 100000 in
set_option maxHeartbeats 4000000 in
theorem number_any (l:List UInt8) (bs:Int) (M:Nat) (hb:(bs = 32∧M = 4294967295)∨(bs = 31∧M = 2147483647)) (w:World) (hl:l.length≤1000000) (hE:ErrI w) :
  Calls Tryz.prog 125 #[.string (strB l),.int .i64 bs] w fun e w'=>∃ v,e = .returned v∧NumRes .u64 M l v∧Below w.heap.size w w':=by
 obtain ⟨n,hn⟩:∃ n,n = l.length:=⟨_,rfl⟩
 have hsz:(strB l).size = n:=by rw [strB_size,hn]
 by_cases hne:l = []
 ·subst hne
  have hemp:(strB []).toList.isEmpty = true:=by rw [txt_emp];rfl
  have H0:Hid (numB M [] = none):=rfl
  obtain ⟨S,hS⟩:∃ S,S = strB []:=⟨_,rfl⟩
  rw [← hS] at hsz hemp ⊢
  clear hS hb hE
  go_enter Tryz.func125,Tryz.ntmps125
  go_wp2
  go_ret2
  exact ⟨_,rfl,NumRes.no H0.out 0,Below.refl _ _⟩
 have hemp:(strB l).toList.isEmpty = false:=by rw [txt_emp];simpa using hne
 have hixk:Hid (∀ (k:Nat) (d:UInt8),l[k]? = some d→∀ w,(Instr.index 9 (.string (strB l)) (.int .i64 (k:Int))).run Tryz.prog w = .ok (B8 d) w):=fun k d hd w=>txt_idx _ Tryz.underlying9 hd _ _ rfl w
 have hn0:0 < n:=by rw [hn];exact List.length_pos_iff.2 hne
 obtain ⟨c0,hc0⟩:∃ c,l[0]? = some c:=⟨l[0]'(by omega),List.getElem?_eq_getElem _⟩
 have hix0:∀ w,(Instr.index 9 (.string (strB l)) (.int .i64 0)).run Tryz.prog w = .ok (B8 c0) w:=hixk.out 0 c0 hc0
 have HN:=Lib.hid hn
 have hcs:=head_cases hc0
 have HPU:Hid (numG l = true→Calls Tryz.prog 190 #[.string (strB l),.int .i64 10,.int .i64 bs] w fun e w'=>∃ v,e = .returned v∧PuRes M l v∧Below w.heap.size w w'):=fun hg=>ParseUint_bits l bs M hb hne hl (numG_dig hg) w hE
 obtain ⟨S,hS⟩:∃ S,S = strB l:=⟨_,rfl⟩
 rw [← hS] at hsz hixk hemp hix0 HPU ⊢
 rw [← hn] at hl hcs
 clear hS hn hc0 hne hb hE
 rcases hcs with ⟨e1,e2,e3⟩ | ⟨e2,e3⟩
 ·have h8:B8 c0 = .int .u8 48:=by rw [e1];rfl
  rw [h8] at hix0
  have H0:Hid (numB M l = none):=numB_none e3
  have h1n:(1:Int) < (n:Int):=by omega
  clear e1 e2 e3 h8
  go_enter Tryz.func125,Tryz.ntmps125
  go_wp2_with (simp only [hix0])
  go_ret2
  exact ⟨_,rfl,NumRes.no H0.out 0,Below.refl _ _⟩
 ·have HG:=Lib.hid e3
  have hhx:(∃ v:Int,(∀ w,(Instr.index 9 (.string S) (.int .i64 0)).run Tryz.prog w = .ok (.int .u8 v) w)∧(v == 48) = false)∨((∀ w,(Instr.index 9 (.string S) (.int .i64 0)).run Tryz.prog w = .ok (.int .u8 48) w)∧¬ (1:Int) < (n:Int)):=by
   by_cases hc:c0 = 48
   ·rcases e2 with h | h
    ·exact absurd hc h
    ·refine .inr ⟨?_,by omega⟩
     have h8:B8 c0 = .int .u8 48:=by rw [hc];rfl
     rw [h8] at hix0;exact hix0
   ·exact .inl ⟨_,hix0,by rw [beq_eq_false_iff_ne];intro e;exact hc (UInt8.toNat_inj.1 (by show c0.toNat = 48;omega))⟩
  clear e2 e3 hix0
  rcases hhx with ⟨v0,hix0,hv0⟩ | ⟨hix0,hv0⟩
  all_goals
   go_enter Tryz.func125,Tryz.ntmps125
   go_wp2_with (simp only [hix0])
   clear hix0 hv0
   go_loop [23] (fun i=>∃ (k:Nat),k≤n∧i = .int .i64 k∧Hid (∀ (j:Nat) (d:UInt8),j < k→l[j]? = some d→isDig d = true)) (fun i=>n - (intOf i).toNat)
   case atStart=>exact ⟨0,Nat.zero_le _,rfl,fun j d hj=>by omega⟩
   case round =>
    obtain ⟨k,hk,rfl,hr⟩:=hrel
    by_cases hlt:k < n
    ·obtain ⟨d,hd⟩:∃ d,l[k]? = some d:=⟨l[k]'(by have:=HN.out;omega),List.getElem?_eq_getElem _⟩
     have hix:=hixk.out k d hd
     have HD:=Lib.hid hd
     have hlt':(k:Int) < (n:Int):=by omega
     have hd256:d.toNat < 256:=d.toNat_lt
     clear hd hlt
     by_cases hlo:d.toNat < 48
     ·have H0:Hid (numB M l = none):=numB_none (not_dig HD.out (by unfold isDig;simp;omega))
      have hlo':(d.toNat:Int) < 48:=by omega
      clear hr HD hlo
      go_wp2_with (simp only [hix])
      go_ret2
      exact ⟨_,rfl,NumRes.no H0.out 0,Below.refl _ _⟩
     ·by_cases hhi:57 < d.toNat
      ·have H0:Hid (numB M l = none):=numB_none (not_dig HD.out (by unfold isDig;simp;omega))
       have hlo':¬ (d.toNat:Int) < 48:=by omega
       have hhi':(57:Int) < (d.toNat:Int):=by omega
       clear hr HD hlo hhi
       go_wp2_with (simp only [hix])
       go_ret2
       exact ⟨_,rfl,NumRes.no H0.out 0,Below.refl _ _⟩
      ·have hlo':¬ (d.toNat:Int) < 48:=by omega
       have hhi':¬ (57:Int) < (d.toNat:Int):=by omega
       have HQ:Hid (isDig d = true):=by show _ = _;unfold isDig;simp;omega
       clear hlo hhi
       go_wp2_with (simp only [hix])
       go_round
       case rel=>exact ⟨k + 1,by omega,by go_num,fun j d' hj hd'=>by
        rcases Nat.lt_or_ge j k with h | h
        ·exact hr.out j d' h hd'
        ·obtain rfl:j = k:=by omega
         have:=HD.out
         rw [hd'] at this;cases this;exact HQ.out⟩
       case measure=>simp [intOf];omega
    ·obtain rfl:k = n:=by omega
     have HD:Hid (numG l = true):=HG.out.trans (all_dig HN.out.symm hr.out)
     clear hr hlt
     go_wp2_with fail
     refine Calls.mono (HPU.out HD.out) ?_
     rintro e w' ⟨v,rfl,hv,hb⟩
     have HB:=Lib.hid hb;clear hb
     rcases hv with ⟨h1,rfl⟩ | ⟨h1,t,p,rfl⟩
     ·have H1:Hid (numB M l = some (decV 0 l)):=by
       show _ = _
       unfold numB;rw [if_pos ⟨HD.out,h1⟩]
      clear h1
      generalize decV 0 l = x at *
      go_wp2
      go_quiet (fail)
      go_wp2
      go_ret2
      exact ⟨_,rfl,NumRes.yes H1.out,bdn HB.out⟩
     ·have H1:Hid (numB M l = none):=by
       show _ = _
       unfold numB;rw [if_neg (fun h=>h1 h.2)]
      clear h1
      go_wp2
      go_quiet (fail)
      go_wp2
      go_ret2
      exact ⟨_,rfl,NumRes.no H1.out M,bdn HB.out⟩
end Go.Proofs.YtccaiiigdfieoaaGreatDoor
namespace Go.By
open Go.Lib
def objW:List UInt8:=[111,98,106,101,99,116]
def numsO:List (List UInt8)→List Nat→Option (List Nat)
 | [],[]=>some []
 | a :: zs,M :: Ms=>(numB M a).bind fun x=>(numsO zs Ms).map (x :: ·)
 | _,_=>none
def bndN (k:Nat):Nat:=if k = 0 then 4294967295 else 2147483647
def bndS:List Nat:=[4294967295,2147483647,2147483647,2147483647]
def parseO (l:List UInt8):Option (List Nat):=match spl 32 5 l with
 | o :: ws=>if o = objW then numsO ws bndS else none
 | []=>none
theorem numsO_len:∀ {ws:List (List UInt8)} {Ms xs:List Nat},numsO ws Ms = some xs→ws.length = Ms.length∧xs.length = Ms.length
 | [],[],xs,h=>by cases h;exact ⟨rfl,rfl⟩
 | a :: zs,M :: Ms,xs,h=>by
  unfold numsO at h
  obtain ⟨x,hx,h2⟩:=Option.bind_eq_some_iff.1 h
  obtain ⟨ys,hy,rfl⟩:=Option.map_eq_some_iff.1 h2
  have:=numsO_len hy
  exact ⟨by simp [this.1],by simp [this.2]⟩
 | [],_ :: _,_,h=>by cases h
 | _ :: _,[],_,h=>by cases h
theorem numsO_app:∀ {W:List (List UInt8)} {A X:List Nat} (V:List (List UInt8)) (B:List Nat),numsO W A = some X→numsO (W ++ V) (A ++ B) = (numsO V B).map (X ++ ·)
 | [],[],X,V,B,h=>by cases h;simp
 | a :: zs,M :: Ms,X,V,B,h=>by
  unfold numsO at h
  obtain ⟨x,hx,h2⟩:=Option.bind_eq_some_iff.1 h
  obtain ⟨ys,hy,rfl⟩:=Option.map_eq_some_iff.1 h2
  show (numB M a).bind (fun x=>(numsO (zs ++ V) (Ms ++ B)).map (x :: ·)) = _
  rw [hx,numsO_app V B hy]
  show Option.map _ (Option.map _ _) = _
  rw [Option.map_map];rfl
 | [],_ :: _,_,_,_,h=>by cases h
 | _ :: _,[],_,_,_,h=>by cases h
theorem bnd_take {k:Nat} (h:k < 4):bndS = bndS.take k ++ bndN k :: bndS.drop (k + 1):=by
 have:k = 0∨k = 1∨k = 2∨k = 3:=by omega
 rcases this with rfl | rfl | rfl | rfl <;> rfl
theorem bnd_take1 {k:Nat} (h:k < 4):bndS.take (k + 1) = bndS.take k ++ [bndN k]:=by
 have:k = 0∨k = 1∨k = 2∨k = 3:=by omega
 rcases this with rfl | rfl | rfl | rfl <;> rfl
def SoFar (l:List UInt8) (k:Nat) (X:List Nat) (V:List (List UInt8)):Prop:=k≤4∧X.length = k∧∃ W,spl 32 5 l = objW :: (W ++ V)∧W.length = k∧numsO W (bndS.take k) = some X
theorem SoFar.zero {l:List UInt8} {V:List (List UInt8)} (h:spl 32 5 l = objW :: V):SoFar l 0 [] V:=⟨by omega,rfl,[],h,rfl,rfl⟩
theorem SoFar.next {l:List UInt8} {k:Nat} {X:List Nat} {V:List (List UInt8)} {a:List UInt8} {x:Nat} (h:SoFar l k X (a :: V)) (hk:k < 4) (hx:numB (bndN k) a = some x):SoFar l (k + 1) (X ++ [x]) V:=by
 obtain ⟨_,h1,W,h2,h3,h4⟩:=h
 refine ⟨hk,by simp [h1],W ++ [a],by rw [h2];simp,by simp [h3],?_⟩
 rw [bnd_take1 hk,numsO_app [a] [bndN k] h4]
 show ((numB (bndN k) a).bind fun y=>(numsO [] []).map (y :: ·)).map (X ++ ·) = _
 rw [hx];rfl
theorem SoFar.bad {l:List UInt8} {k:Nat} {X:List Nat} {V:List (List UInt8)} {a:List UInt8} (h:SoFar l k X (a :: V)) (hk:k < 4) (hx:numB (bndN k) a = none):parseO l = none:=by
 obtain ⟨_,h1,W,h2,h3,h4⟩:=h
 unfold parseO
 rw [h2]
 show (if objW = objW then numsO (W ++ a :: V) bndS else none) = none
 rw [if_pos rfl,bnd_take hk,numsO_app (a :: V) _ h4]
 show ((numB (bndN k) a).bind _).map _ = _
 rw [hx];rfl
theorem SoFar.short {l:List UInt8} {k:Nat} {X:List Nat} {V:List (List UInt8)} (h:SoFar l k X V) (hl:k + V.length≠4):parseO l = none:=by
 obtain ⟨_,h1,W,h2,h3,h4⟩:=h
 unfold parseO
 rw [h2]
 show (if objW = objW then numsO (W ++ V) bndS else none) = none
 rw [if_pos rfl]
 cases e:numsO (W ++ V) bndS with
 | none=>rfl
 | some ys =>
  have:=(numsO_len e).1
  rw [List.length_append,h3] at this
  exact absurd this hl
theorem SoFar.done {l:List UInt8} {X:List Nat} (h:SoFar l 4 X []):parseO l = some X:=by
 obtain ⟨_,h1,W,h2,h3,h4⟩:=h
 unfold parseO
 rw [h2]
 show (if objW = objW then numsO (W ++ []) bndS else none) = _
 rw [if_pos rfl,List.append_nil];exact h4
theorem SoFar.four {l:List UInt8} {X:List Nat} {V:List (List UInt8)} (h:SoFar l 4 X V):∃ d L S N,X = [d,L,S,N]∧d≤4294967295∧L≤2147483647∧S≤2147483647∧N≤2147483647:=by
 obtain ⟨_,h1,W,h2,h3,h4⟩:=h
 match W,h3 with
 | [a,b,c,e],_ =>
  have hb:∀ {M:Nat} {w:List UInt8} {x:Nat},numB M w = some x→x≤M:=fun {M w x} h=>by
   unfold numB at h
   split at h
   ·rename_i hh;cases h;exact hh.2
   ·cases h
  have h5:numsO [a,b,c,e] [4294967295,2147483647,2147483647,2147483647] = some X:=h4
  simp only [numsO,Option.bind_eq_some_iff,Option.map_eq_some_iff] at h5
  obtain ⟨x0,e0,y1,⟨x1,e1,y2,⟨x2,e2,y3,⟨x3,e3,y4,h6,rfl⟩,rfl⟩,rfl⟩,rfl⟩:=h5
  cases h6
  exact ⟨x0,x1,x2,x3,rfl,hb e0,hb e1,hb e2,hb e3⟩
theorem parse_obj {l:List UInt8} {o:List UInt8} {V:List (List UInt8)} (h:spl 32 5 l = o :: V) (ho:o≠objW):parseO l = none:=by
 unfold parseO;rw [h]
 show (if o = objW then numsO V bndS else none) = none
 rw [if_neg ho]
def restS (m:Bool) (k:Nat) (r:List UInt8):List (List UInt8):=if m then spl 32 k r else []
theorem spl_cut (k:Nat) (l:List UInt8):spl 32 (k + 1) l = (cutW 32 l).1 :: restS (cutW 32 l).2.isSome k ((cutW 32 l).2.getD []):=by
 cases h:(cutW 32 l).2 with
 | none=>rw [spl_none h,(cutW_none h).1];rfl
 | some r=>rw [spl_some h];rfl
theorem cut_len {l:List UInt8}:((cutW 32 l).2.getD []).length≤l.length∧(cutW 32 l).1.length≤l.length:=by
 cases h:(cutW 32 l).2 with
 | none=>exact ⟨by simp,by rw [(cutW_none h).1];omega⟩
 | some r =>
  obtain ⟨i,_,e2,e3,e4⟩:=cutW_some h
  exact ⟨by have:=cutW_len h;simp;omega,by rw [← e2,List.length_take];omega⟩
theorem spl_short:∀ (k:Nat) (l x:List UInt8),x ∈ spl 32 k l→x.length≤l.length
 | 0,l,x,h=>by rw [List.mem_singleton.1 h];omega
 | k + 1,l,x,h=>by
  rw [spl_cut] at h
  rcases List.mem_cons.1 h with h | h
  ·rw [h];exact cut_len.2
  ·unfold restS at h
   split at h
   ·exact Nat.le_trans (spl_short k _ x h) cut_len.1
   ·cases h
end Go.By
namespace Go.By
open Go.RowKit
def padS4 (X:List Nat):Array Value:=(X.map (fun x:Nat=>Value.int .u64 (x:Int)) ++ List.replicate (4 - X.length) (Value.int .u64 0)).toArray
theorem padS4_set {X:List Nat} {k x:Nat} (h:X.length = k) (hk:k < 4):(padS4 X).setIfInBounds k (.int .u64 (x:Int)) = padS4 (X ++ [x]):=by
 subst h
 unfold padS4
 rw [List.setIfInBounds_toArray]
 congr 1
 have e:4 - X.length = (4 - (X ++ [x]).length) + 1:=by simp;omega
 rw [e,List.replicate_succ,List.map_append,List.append_assoc]
 have hl:X.length = (X.map (fun x:Nat=>Value.int .u64 (x:Int))).length:=by simp
 conv=>lhs;rw [hl]
 rw [List.set_append_right _ _ (Nat.le_refl _),Nat.sub_self];rfl
theorem padS4_at {X:List Nat} {k:Nat} (h:X.length = k) (hk:k < 4):(padS4 X)[k]? = some (.int .u64 0):=by
 subst h
 unfold padS4
 rw [List.getElem?_toArray,List.getElem?_append_right (by simp),List.length_map,Nat.sub_self,List.getElem?_replicate,if_pos (by omega)]
def bsN (k:Nat):Int:=if k = 0 then 32 else 31
theorem bs_bnd (k:Nat):(bsN k = 32∧bndN k = 4294967295)∨(bsN k = 31∧bndN k = 2147483647):=by
 by_cases h:k = 0
 ·left;exact ⟨if_pos h,if_pos h⟩
 ·right;exact ⟨if_neg h,if_neg h⟩
end Go.By
namespace Go.Proofs.YtccaiiigdfieoaaGreatDoor
open Go.RowKit Go.By
def parseV (l:List UInt8):Value:=match parseO l with
 | some [d,L,S,N]=>if checkS L S N = 0 then .tuple #[.agg #[.int .i64 L,.int .i64 S,.int .i64 N,.int .u32 d],.int .i64 0] else .tuple #[.agg #[.int .i64 0,.int .i64 0,.int .i64 0,.int .u32 0],.int .i64 (checkS L S N)]
 | _=>.tuple #[.agg #[.int .i64 0,.int .i64 0,.int .i64 0,.int .u32 0],.int .i64 14]
theorem parseV_none {l:List UInt8} (h:parseO l = none):parseV l = .tuple #[.agg #[.int .i64 0,.int .i64 0,.int .i64 0,.int .u32 0],.int .i64 14]:=by unfold parseV;rw [h]
theorem parseV_bad {l:List UInt8} {d L S N:Nat} (h:parseO l = some [d,L,S,N]) (hc:checkS L S N≠0):parseV l = .tuple #[.agg #[.int .i64 0,.int .i64 0,.int .i64 0,.int .u32 0],.int .i64 (checkS L S N)]:=by unfold parseV;rw [h];exact if_neg hc
theorem parseV_good {l:List UInt8} {d L S N:Nat} (h:parseO l = some [d,L,S,N]) (hc:checkS L S N = 0):parseV l = .tuple #[.agg #[.int .i64 L,.int .i64 S,.int .i64 N,.int .u32 d],.int .i64 0]:=by unfold parseV;rw [h];exact if_pos hc
set_option maxRecDepth 100000 in
set_option maxHeartbeats 8000000 in
theorem PParse_any (l:List UInt8) (w:World) (hl:l.length≤1000000) (hM:MaxI w) (hE:ErrI w) :
  Calls Tryz.prog 69 #[.string (strB l)] w fun e w'=>e = .returned (parseV l)∧Below w.heap.size w w':=by
 have hi:=info_plan
 have HBA:Hid (∀ (W:World) o,Below W.heap.size W (W.alloc o)):=fun W o=>al (Below.refl _ _) (Nat.le_refl _)
 have hix:Hid (∀ k:Nat,k < 4→∀ w,(Instr.index 205 (.agg #[.int .i64 32,.int .i64 31,.int .i64 31,.int .i64 31]) (.int .i64 (k:Int))).run Tryz.prog w = .ok (.int .i64 (bsN k)) w):=fun k hk w=>by
  have:k = 0∨k = 1∨k = 2∨k = 3:=by omega
  rcases this with rfl | rfl | rfl | rfl <;> simp [Instr.index,run_underlying Tryz.underlying205,asIntOf,go_sem,bsN]
 have HSP:Hid (∀ W,MaxI W→Calls Tryz.prog 124 #[.string (strB l),.string ⟨#[32]⟩,.int .i64 6] W fun e w'=>∃ b c,e = .returned (.slice (some ⟨b,0,none⟩) (spl 32 5 l).length c)∧(spl 32 5 l).length≤c∧StrRow w' b (spl 32 5 l)∧Below W.heap.size W w'):=fun W h=>SplitN_any l W hl h
 have HSH:Hid (∀ x ∈ spl 32 5 l,x.length≤1000000):=fun x hx=>Nat.le_trans (spl_short 5 l x hx) hl
 have HM:=Lib.hid hM;have HE:=Lib.hid hE
 have HXB:Hid (∀ o,(w.alloc o).heap[w.heap.size]? = some o):=fun o=>hnew rfl
 obtain ⟨S0,hS0⟩:∃ S0,S0 = strB l:=⟨_,rfl⟩
 rw [← hS0] at HSP ⊢
 clear hS0 hl hM hE
 go_enter Tryz.func69,Tryz.ntmps69
 go_wp2_with fail
 refine Calls.mono (HSP.out _ (HM.out.keep (HBA.out _ _))) ?_
 rintro e w1 ⟨b,c,rfl,hc,hs,hb⟩
 have XB:Hid (PC4 w.heap.size 27 0 0 0 0 w1):=PC4.keep (HXB.out _) hb
 have B1:Hid (Below w.heap.size w w1):=bl (HBA.out _ _) hb (by simp)
 have E1:=Lib.hid (HE.out.keep B1.out)
 have SR:=Lib.hid hs
 obtain ⟨b2,hb2⟩:∃ b2,b2 = w.heap.size:=⟨_,rfl⟩
 have HB2:=Lib.hid hb2
 rw [← hb2] at XB ⊢
 clear hs hb HSP hb2 HXB
 have hn1:=(spl_len 32 5 l).1
 obtain ⟨o,ws,hw⟩:∃ o ws,spl 32 5 l = o :: ws:=by
  cases h:spl 32 5 l with
  | nil=>rw [h] at hn1;simp at hn1
  | cons o ws=>exact ⟨o,ws,rfl⟩
 have HW:=Lib.hid hw
 rw [hw] at SR HSH hc hn1 ⊢
 rw [List.length_cons] at hc hn1 ⊢
 have hfin0:∀ W,PC4 b2 27 0 0 0 0 W→PC4 b2 27 0 0 0 0 ((((W.setCell ⟨b2,0,none⟩ (.int .i64 0)).setCell ⟨b2,1,none⟩ (.int .i64 0)).setCell ⟨b2,2,none⟩ (.int .i64 0)).setCell ⟨b2,3,none⟩ (.int .u32 0)):=fun W h=>hss (hss (hss (hss h)))
 have hset:∀ W x y z u,Below w.heap.size w W→Below w.heap.size w ((((W.setCell ⟨b2,0,none⟩ x).setCell ⟨b2,1,none⟩ y).setCell ⟨b2,2,none⟩ z).setCell ⟨b2,3,none⟩ u):=fun W x y z u h=>by
  have e:w.heap.size≤b2:=Nat.le_of_eq HB2.out.symm
  exact (((h.setCell e _).setCell e _).setCell e _).setCell e _
 have HF0:=Lib.hid hfin0;have HST:=Lib.hid hset
 clear hfin0 hset hw
 have hne0:(ws.length + 1 = 5)∨((((ws.length + 1:Nat):Int) != 5) = true∧parseO l = none):=by
  by_cases h:ws.length + 1 = 5
  ·exact .inl h
  ·refine .inr ⟨by simp;omega,?_⟩
   by_cases ho:o = objW
   ·subst ho;exact SoFar.short (SoFar.zero HW.out) (by omega)
   ·exact parse_obj HW.out ho
 obtain ⟨n,hn⟩:∃ n,n = ws.length + 1:=⟨_,rfl⟩
 rw [← hn] at hne0 hc hn1 ⊢
 have HN:=Lib.hid hn
 clear hn
 rcases hne0 with h5 | ⟨hne,hp⟩
 ·subst h5
  obtain ⟨c0,c1,c2,c3⟩:=XB.out.cells
  have f0:=XB.out.froz 0
  have f1:=XB.out.froz 1
  have f2:=XB.out.froz 2
  have f3:=XB.out.froz 3
  by_cases ho:o = objW
  ·have d0:w1.cell? ⟨b,0,none⟩ = some (.string ⟨#[111,98,106,101,99,116]⟩):=by
    have:=SR.out 0 o rfl
    rw [ho] at this;exact this
   have SF0:Hid (SoFar l 0 [] ws):=SoFar.zero (by rw [HW.out,ho])
   clear ho hn1 c0 c1 c2 c3 f0 f1 f2 f3
   go_wp2
   go_loopw [27] (fun i wr=>∃ (k:Nat) (X:List Nat),i = .int .i64 k∧k≤4∧Hid (SoFar l k X (ws.drop k))∧Hid (wr.heap[w1.heap.size + 1]? = some (.cells (padS4 X) 206 (0,0)))∧Hid (PC4 b2 27 0 0 0 0 wr)∧Hid (StrRow wr b (o :: ws))∧Hid (Below w.heap.size w wr)) (fun i _=>4 - (intOf i).toNat)
   case atStart =>
    have q1:Below w1.heap.size w1 ((w1.alloc (.cells #[.int .i64 32,.int .i64 31,.int .i64 31,.int .i64 31] 205)).alloc (.cells (padS4 []) 206)):=al (HBA.out _ _) (by simp)
    exact ⟨0,[],rfl,by omega,SF0.out,hnew (by simp),XB.out.keep q1,SR.out.keep q1,bl B1.out q1 B1.out.size⟩
   case round =>
    obtain ⟨k,X,rfl,hk,hS,hX,hP,hR,hBw⟩:=hrel
    by_cases hlt:k < 4
    ·obtain ⟨x,hx⟩:∃ x,ws[k]? = some x:=⟨ws[k]'(by have:=HN.out;omega),List.getElem?_eq_getElem _⟩
     have hw1:wr.cell? ⟨b,k + 1,none⟩ = some (.string (strB x)):=hR.out (k + 1) x (by simpa using hx)
     have hk5:(k:Int) + 1 < 5:=by omega
     have hix0:=hix.out k hlt
     have hdr:ws.drop k = x :: ws.drop (k + 1):=by
      obtain ⟨hh,e⟩:=List.getElem?_eq_some_iff.1 hx
      rw [List.drop_eq_getElem_cons hh,e]
     have HNU:Hid (∀ W,ErrI W→Calls Tryz.prog 125 #[.string (strB x),.int .i64 (bsN k)] W fun e w'=>∃ v,e = .returned v∧NumRes .u64 (bndN k) x v∧Below W.heap.size W w'):=fun W h=>number_any x (bsN k) (bndN k) (bs_bnd k) W (HSH.out x (by right;exact List.mem_of_getElem? hx)) h
     have S1:=hS.out
     rw [hdr] at S1
     have HS1:=Lib.hid S1
     have HLT:=Lib.hid hlt
     obtain ⟨sx,hsx⟩:∃ sx,sx = strB x:=⟨_,rfl⟩
     obtain ⟨bs,hbs⟩:∃ bs,bs = bsN k:=⟨_,rfl⟩
     rw [← hsx] at hw1 HNU
     rw [← hbs] at hix0 HNU
     have hlt':(k:Int) < 4:=by omega
     clear hx hdr S1 hS hsx hbs hlt
     go_wp2_with (first | simp only [hix0] | fail)
     refine Calls.mono (HNU.out _ (HE.out.keep hBw.out)) ?_
     rintro e w3 ⟨v,rfl,⟨y,rfl,hy⟩,hb⟩
     have P3:=Lib.hid (hP.out.keep hb)
     have R3:=Lib.hid (hR.out.keep hb)
     have X3:Hid (w3.heap[w1.heap.size + 1]? = some (.cells (padS4 X) 206 (0,0))):=(hb.block _ (lt_blkq hX.out)).trans hX.out
     have B3:Hid (Below w.heap.size w w3):=bl hBw.out hb hBw.out.size
     clear hb hP hR hX hBw hw1 hk5 hix0 HNU
     cases hnb:numB (bndN k) x with
     | none =>
      have HP0:Hid (parseV l = .tuple #[.agg #[.int .i64 0,.int .i64 0,.int .i64 0,.int .u32 0],.int .i64 14]):=parseV_none (HS1.out.bad HLT.out hnb)
      obtain ⟨c0,c1,c2,c3⟩:=P3.out.cells
      have f0:=P3.out.froz 0
      have f1:=P3.out.froz 1
      have f2:=P3.out.froz 2
      have f3:=P3.out.froz 3
      clear hy hnb
      go_wp2
      refine bodyPost_ret (results_ct rfl _ _ _ 27 #[.int .i64 0,.int .i64 0,.int .i64 0,.int .u32 0] (0,0) _ (.int .i64 14) rfl (HF0.out _ P3.out) rfl Tryz.underlying27 rfl hi) rfl ⟨by rw [HP0.out],HST.out _ _ _ _ _ B3.out⟩
     | some y0 =>
      obtain rfl:y = y0:=hy y0 hnb
      have HS4:Hid (SoFar l (k + 1) (X ++ [y]) (ws.drop (k + 1))):=HS1.out.next HLT.out hnb
      have hXl:X.length = k:=HS1.out.2.1
      have g0:w3.cell? ⟨w1.heap.size + 1,k,none⟩ = some (.int .u64 0):=by
       rw [cell_of_row _ _ _ _ _ _ X3.out];exact padS4_at hXl HLT.out
      have g1:w3.frozen? ⟨w1.heap.size + 1,k,none⟩ = false:=frozen_of_row _ _ k _ _ X3.out
      have X4:Hid ((w3.setCell ⟨w1.heap.size + 1,k,none⟩ (.int .u64 (y:Int))).heap[w1.heap.size + 1]? = some (.cells (padS4 (X ++ [y])) 206 (0,0))):=by
       have:=hss (i:=k) (v:=.int .u64 (y:Int)) X3.out
       rw [padS4_set hXl HLT.out] at this;exact this
      have hwb:Hid (b2 < w1.heap.size + 1):=Nat.lt_succ_of_lt XB.out.lt
      have hsb:Hid (∀ i x,(o :: ws)[i]? = some x→b < w1.heap.size):=fun i x hx=>lt_of_cell (SR.out i x hx)
      have Y:Hid (PC4 b2 27 0 0 0 0 (w3.setCell ⟨w1.heap.size + 1,k,none⟩ (.int .u64 (y:Int)))∧StrRow (w3.setCell ⟨w1.heap.size + 1,k,none⟩ (.int .u64 (y:Int))) b (o :: ws)∧Below w.heap.size w (w3.setCell ⟨w1.heap.size + 1,k,none⟩ (.int .u64 (y:Int)))):=by
       refine ⟨hsc P3.out (by have:=hwb.out;show b2≠w1.heap.size + 1;omega),fun i x hx=>?_,B3.out.setCell (by have:=B1.out.size;show w.heap.size≤w1.heap.size + 1;omega) _⟩
       rw [World.cell?_setCell_other _ _ _ _ (by intro e;have e2:=congrArg Addr.block e;have:=hsb.out i x hx;simp at e2;omega)]
       exact R3.out i x hx
      clear hy hnb hXl
      go_wp2
      go_roundw
      case rel=>exact ⟨k + 1,X ++ [y],by go_num,by omega,HS4.out,X4.out,Y.out.1,Y.out.2.1,Y.out.2.2⟩
      case measure=>simp [intOf];omega
    ·have hk4:k = 4:=by omega
     subst hk4
     have hdr:ws.drop 4 = []:=List.drop_of_length_le (by have:=HN.out;omega)
     obtain ⟨d,L,S,N,rfl,hd,hL,hSS,hN⟩:=hS.out.four
     have HPO:Hid (parseO l = some [d,L,S,N]):=by
      have:=hS.out
      rw [hdr] at this
      exact this.done
     clear hdr hS
     have g0:wr.cell? ⟨w1.heap.size + 1,0,none⟩ = some (.int .u64 (d:Int)):=by rw [cell_of_row _ _ _ _ _ _ hX.out];rfl
     have g1:wr.cell? ⟨w1.heap.size + 1,1,none⟩ = some (.int .u64 (L:Int)):=by rw [cell_of_row _ _ _ _ _ _ hX.out];rfl
     have g2:wr.cell? ⟨w1.heap.size + 1,2,none⟩ = some (.int .u64 (S:Int)):=by rw [cell_of_row _ _ _ _ _ _ hX.out];rfl
     have g3:wr.cell? ⟨w1.heap.size + 1,3,none⟩ = some (.int .u64 (N:Int)):=by rw [cell_of_row _ _ _ _ _ _ hX.out];rfl
     have HC:Hid (∀ W,Calls Tryz.prog 79 #[.agg #[.int .i64 L,.int .i64 S,.int .i64 N,.int .u32 d]] W fun e w'=>e = .returned (.int .i64 (checkS L S N))∧Below W.heap.size W w'):=fun W=>Check_any L S N d W (by omega)
     clear hlt
     go_wp2_with fail
     refine use_wq (fun W=>PC4 wr.heap.size 27 L S N d W∧PC4 b2 27 0 0 0 0 W∧Below w.heap.size w W) ⟨hnew rfl,hal hP.out,al hBw.out hBw.out.size⟩ ?_
     rintro W2 ⟨z1,z2,z3⟩
     refine Calls.mono (HC.out _) ?_
     rintro e w3 ⟨rfl,hb⟩
     have P1:=Lib.hid (z1.keep hb)
     have P2:=Lib.hid (z2.keep hb)
     have B3:Hid (Below w.heap.size w w3):=bl z3 hb z3.size
     obtain ⟨bw,hbw⟩:∃ bw,bw = wr.heap.size:=⟨_,rfl⟩
     rw [← hbw] at P1 ⊢
     clear z1 z2 z3 hb g0 g1 g2 g3 hX hP hR hBw hbw
     obtain ⟨c0,c1,c2,c3⟩:=P2.out.cells
     have f0:=P2.out.froz 0
     have f1:=P2.out.froz 1
     have f2:=P2.out.froz 2
     have f3:=P2.out.froz 3
     by_cases hz:checkS L S N = 0
     ·have HP0:=Lib.hid (parseV_good HPO.out hz)
      obtain ⟨d0,d1,d2,d3⟩:=P1.out.cells
      have HQ:Hid (PC4 b2 27 L S N d ((((w3.setCell ⟨b2,0,none⟩ (.int .i64 L)).setCell ⟨b2,1,none⟩ (.int .i64 S)).setCell ⟨b2,2,none⟩ (.int .i64 N)).setCell ⟨b2,3,none⟩ (.int .u32 d))):=hss (hss (hss (hss P2.out)))
      rw [hz]
      clear hz
      go_wp2
      refine bodyPost_ret (results_ct rfl _ _ _ 27 #[.int .i64 L,.int .i64 S,.int .i64 N,.int .u32 d] (0,0) _ (.int .i64 0) rfl HQ.out rfl Tryz.underlying27 rfl hi) rfl ⟨by rw [HP0.out],HST.out _ _ _ _ _ B3.out⟩
     ·have HP0:=Lib.hid (parseV_bad HPO.out hz)
      have hzb:(checkS L S N != 0) = true:=by simpa using hz
      clear hz
      generalize checkS L S N = f at *
      go_wp2
      refine bodyPost_ret (results_ct rfl _ _ _ 27 #[.int .i64 0,.int .i64 0,.int .i64 0,.int .u32 0] (0,0) _ (.int .i64 f) rfl (HF0.out _ P2.out) rfl Tryz.underlying27 rfl hi) rfl ⟨by rw [HP0.out],HST.out _ _ _ _ _ B3.out⟩
  ·have HP0:Hid (parseV l = .tuple #[.agg #[.int .i64 0,.int .i64 0,.int .i64 0,.int .u32 0],.int .i64 14]):=parseV_none (parse_obj HW.out ho)
   have d0:w1.cell? ⟨b,0,none⟩ = some (.string (strB o)):=SR.out 0 o rfl
   have hne:((strB o).toList == [111,98,106,101,99,116]) = false:=by
    rw [ByteArray.toList_eq,strB_data]
    exact beq_eq_false_iff_ne.2 ho
   generalize strB o = so at *
   clear ho hn1
   go_wp2
   refine bodyPost_ret (results_ct rfl _ _ _ 27 #[.int .i64 0,.int .i64 0,.int .i64 0,.int .u32 0] (0,0) _ (.int .i64 14) rfl (HF0.out _ XB.out) rfl Tryz.underlying27 rfl hi) rfl ⟨by rw [HP0.out],HST.out _ _ _ _ _ B1.out⟩
 ·have HP0:Hid (parseV l = .tuple #[.agg #[.int .i64 0,.int .i64 0,.int .i64 0,.int .u32 0],.int .i64 14]):=parseV_none hp
  obtain ⟨c0,c1,c2,c3⟩:=XB.out.cells
  have f0:=XB.out.froz 0
  have f1:=XB.out.froz 1
  have f2:=XB.out.froz 2
  have f3:=XB.out.froz 3
  clear hp hn1
  go_wp2
  refine bodyPost_ret (results_ct rfl _ _ _ 27 #[.int .i64 0,.int .i64 0,.int .i64 0,.int .u32 0] (0,0) _ (.int .i64 14) rfl (HF0.out _ XB.out) rfl Tryz.underlying27 rfl hi) rfl ⟨by rw [HP0.out],HST.out _ _ _ _ _ B1.out⟩
end Go.Proofs.YtccaiiigdfieoaaGreatDoor
namespace Go.By
open Go.RowKit
theorem objW_no:∀ b ∈ objW,b≠(32:UInt8):=by decide
theorem parse_text {d l s n:Nat} (hd:d≤4294967295) (hl:l≤2147483647) (hs:s≤2147483647) (hn:n≤2147483647):parseO (textW d l s n) = some [d,l,s,n]:=by
 have e:spl 32 5 (textW d l s n) = [objW,Lib.decDigits d,Lib.decDigits l,Lib.decDigits s,Lib.decDigits n]:=by
  rw [textW_eq]
  show spl 32 5 (objW ++ 32 :: (Lib.decDigits d ++ 32 :: (Lib.decDigits l ++ 32 :: (Lib.decDigits s ++ 32 :: Lib.decDigits n)))) = _
  rw [spl_cut,cutW_app objW_no]
  show objW :: spl 32 4 (Lib.decDigits d ++ 32 :: (Lib.decDigits l ++ 32 :: (Lib.decDigits s ++ 32 :: Lib.decDigits n))) = _
  rw [spl_cut,cutW_app (dec_no_blank d)]
  show objW :: Lib.decDigits d :: spl 32 3 (Lib.decDigits l ++ 32 :: (Lib.decDigits s ++ 32 :: Lib.decDigits n)) = _
  rw [spl_cut,cutW_app (dec_no_blank l)]
  show objW :: Lib.decDigits d :: Lib.decDigits l :: spl 32 2 (Lib.decDigits s ++ 32 :: Lib.decDigits n) = _
  rw [spl_cut,cutW_app (dec_no_blank s)]
  show objW :: Lib.decDigits d :: Lib.decDigits l :: Lib.decDigits s :: spl 32 1 (Lib.decDigits n) = _
  rw [spl_cut,cutW_all (dec_no_blank n)]
  rfl
 unfold parseO
 rw [e]
 show (if objW = objW then numsO [Lib.decDigits d,Lib.decDigits l,Lib.decDigits s,Lib.decDigits n] [4294967295,2147483647,2147483647,2147483647] else none) = _
 rw [if_pos rfl]
 simp [numsO,numB_dec hd,numB_dec hl,numB_dec hs,numB_dec hn]
end Go.By
namespace Go.Proofs.YtccaiiigdfieoaaGreatDoor
open Go.RowKit Go.By
end Go.Proofs.YtccaiiigdfieoaaGreatDoor
namespace Go.Proofs.YtccaiiigdfieoaaGreatDoor
open Go.By Go.Lib Go.RowKit
def linesP (s:List UInt8):Option (List (List UInt8)):=if s.getLast? = some 10 then some (splA 10 s.dropLast) else none
theorem list_lastP (l:List UInt8):l = []∨∃ l0 z,l = l0 ++ [z]:=by
 by_cases h:l = []
 ·exact .inl h
 ·exact .inr ⟨l.dropLast,l.getLast h,(List.dropLast_concat_getLast h).symm⟩
theorem linesP_ten (l0:List UInt8):linesP (l0 ++ [10]) = some (splA 10 l0):=by
 unfold linesP
 rw [List.getLast?_concat,List.dropLast_concat,if_pos rfl]
theorem linesP_one {a:List UInt8} (ha:∀ b ∈ a,b≠(10:UInt8)):linesP (a ++ [10]) = some [a]:=by
 unfold linesP
 rw [List.getLast?_concat,List.dropLast_concat,if_pos rfl,splA_free ha]
theorem linesP_cons {a s:List UInt8} (ha:∀ b ∈ a,b≠(10:UInt8)) (hs:s≠[]):linesP (a ++ 10 :: s) = (linesP s).map (a :: ·):=by
 obtain ⟨s0,z,rfl⟩:∃ s0 z,s = s0 ++ [z]:=⟨s.dropLast,s.getLast hs,(List.dropLast_concat_getLast hs).symm⟩
 have e:a ++ 10 :: (s0 ++ [z]) = (a ++ 10 :: s0) ++ [z]:=by simp
 rw [e]
 unfold linesP
 rw [List.getLast?_concat,List.getLast?_concat,List.dropLast_concat,List.dropLast_concat]
 by_cases h:some z = some 10
 ·rw [if_pos h,if_pos h,splA_cut ha];rfl
 ·rw [if_neg h,if_neg h];rfl
theorem linesP_W:∀ {L:List (List UInt8)} {a:List UInt8},(∀ b ∈ a,b≠(10:UInt8))→(∀ x ∈ L,∀ b ∈ x,b≠(10:UInt8))→linesP (a ++ [10] ++ L.flatMap (fun x=>x ++ [10])) = some (a :: L)
 | [],a,ha,_=>by simpa using linesP_one ha
 | x :: L,a,ha,hL=>by
  have ih:=linesP_W (L:=L) (a:=x) (hL x (by simp)) (fun y hy=>hL y (by simp [hy]))
  have e:a ++ [10] ++ (x :: L).flatMap (fun x=>x ++ [10]) = a ++ 10 :: (x ++ [10] ++ L.flatMap (fun x=>x ++ [10])):=by simp
  rw [e,linesP_cons ha (by simp),ih];rfl
def pktsP:List (List UInt8)→Option (List (List UInt8))
 | []=>some []
 | a :: l=>(unhexO a).bind fun x=>(pktsP l).map (x :: ·)
theorem hexL_some {x:List UInt8} (h:x≠[]):hexL x≠[]:=fun e=>by
 cases x with
 | nil=>exact h rfl
 | cons a l=>rw [hexL_cons] at e;cases e
theorem unhexO_hexL {x:List UInt8} (h:x≠[]):unhexO (hexL x) = some x:=by
 unfold unhexO
 rw [if_neg (hexL_some h),unhexP_hexL]
theorem pktsP_hex:∀ {L:List (List UInt8)},(∀ x ∈ L,x≠[])→pktsP (L.map hexL) = some L
 | [],_=>rfl
 | x :: L,h=>by
  show (unhexO (hexL x)).bind _ = _
  rw [unhexO_hexL (h x (by simp)),pktsP_hex (fun y hy=>h y (by simp [hy]))];rfl
theorem textW_plain (d l s n:Nat):∀ b ∈ textW d l s n,b≠(10:UInt8):=fun b hb=>by
 rw [textW_eq] at hb
 have hd:∀ u,b ∈ decDigits u→b≠(10:UInt8):=fun u h=>(dec_plain u b h).2
 simp only [List.mem_append,List.mem_cons,List.not_mem_nil,or_false] at hb
 rcases hb with (rfl | rfl | rfl | rfl | rfl | rfl) | rfl | hb | rfl | hb | rfl | hb | rfl | hb
 all_goals first | decide | exact hd _ hb
theorem expL_ne {D:Nat} {R:List Rw}:∀ x ∈ expL D R,x≠[]:=fun x hx e=>by
 obtain ⟨i,hi⟩:=List.mem_iff_getElem?.1 hx
 have hl:i < R.length:=by have:=(List.getElem?_eq_some_iff.1 hi).1;rwa [expL_len] at this
 rw [expL_at (List.getElem?_eq_getElem hl)] at hi
 have h2:=congrArg List.length (Option.some.inj hi)
 rw [pktB_len0,e] at h2
 simp at h2
theorem keep_lines (L t k D:Nat) (K:List Rw) (st:Nat):linesP (keepT L t k D K st) = some (textW D L t k :: (expL D (expR k t K st)).map hexL):=by
 unfold keepT hexT
 have:=linesP_W (L:=(expL D (expR k t K st)).map hexL) (a:=textW D L t k) (textW_plain _ _ _ _) (fun x hx b hb=>by
  obtain ⟨y,_,rfl⟩:=List.mem_map.1 hx
  exact (hexL_plain y b hb).2)
 rw [List.flatMap_map] at this
 exact this
theorem keep_pkts {D:Nat} {R:List Rw}:pktsP ((expL D R).map hexL) = some (expL D R):=pktsP_hex expL_ne
theorem keep_plan {L t k D:Nat} (h:POK L t k D):parseV (textW D L t k) = .tuple #[PVal L t k D,.int .i64 0]:=by
 have hs:=checkS_zero h.chk
 have h2:=h.d
 exact parseV_good (parse_text (by omega) (by omega) (by omega) (by omega)) h.chk
end Go.Proofs.YtccaiiigdfieoaaGreatDoor
namespace Go.Proofs.YtccaiiigdfieoaaGreatDoor
open Go.RowKit Go.By
end Go.Proofs.YtccaiiigdfieoaaGreatDoor
namespace Go.By
open Go.RowKit
end Go.By
namespace Go.Proofs.YtccaiiigdfieoaaGreatDoor
open Go.RowKit Go.By
end Go.Proofs.YtccaiiigdfieoaaGreatDoor
namespace Go.Proofs.YtccaiiigdfieoaaGreatDoor
open Go.RowKit Go.By
def digitsC:ByteArray:=⟨#[48,49,50,51,52,53,54,55,56,57,97,98,99,100,101,102]⟩
def idxD (c:UInt8):Int:=if valD c < 16 then (valD c:Int) else -1
theorem idxD_eq (c:UInt8):Lib.indexByte digitsC.data.toList c = idxD c:=by
 have h:∀ n:Fin 256,Lib.indexByte digitsC.data.toList (UInt8.ofNat n) = idxD (UInt8.ofNat n):=by decide +kernel
 have:=h ⟨c.toNat,c.toNat_lt⟩
 simpa using this
theorem IndexD_any (c:UInt8) (w:World):Calls Tryz.prog 123 #[.string ⟨#[48,49,50,51,52,53,54,55,56,57,97,98,99,100,101,102]⟩,B8 c] w fun e w'=>e = .returned (.int .i64 (idxD c))∧w' = w:=by
 have:=Tryz.strings_IndexByte digitsC (c.toNat:Int) w
 rw [show ((c.toNat:Int)).toNat.toUInt8 = c by simp,idxD_eq] at this
 exact this
theorem hex_or {x y:Nat} (hx:x < 16) (hy:y < 16):bits BinOp.or IntKind.i64 ((x:Int) * 16) (y:Int) % 256 = ((16 * x + y:Nat):Int):=by
 have h:∀ a b:Fin 16,bits BinOp.or IntKind.i64 ((a.1:Int) * 16) (b.1:Int) % 256 = ((16 * a.1 + b.1:Nat):Int):=by decide +kernel
 exact h ⟨x,hx⟩ ⟨y,hy⟩
end Go.Proofs.YtccaiiigdfieoaaGreatDoor
namespace Go.Proofs.YtccaiiigdfieoaaGreatDoor
open Go.RowKit Go.By
set_option maxRecDepth 100000 in
set_option maxHeartbeats 2000000 in
theorem keepRead_any (l:List UInt8) (w:World) (hl:l.length≤1000000) :
  Calls Tryz.prog 68 #[.string (strB l)] w (OptB w (unhexO l)):=by
 obtain ⟨i0,hi,hz0,hz1,hz2⟩:=info_parts info_u8
 obtain ⟨n,hn⟩:∃ n,n = l.length:=⟨_,rfl⟩
 have hsz:(strB l).size = n:=by rw [strB_size,hn]
 have hemp:=txt_emp l
 have hixk:Hid (∀ (k:Nat) (d:UInt8),l[k]? = some d→∀ w,(Instr.index 9 (.string (strB l)) (.int .i64 (k:Int))).run Tryz.prog w = .ok (B8 d) w):=fun k d hd w=>txt_idx _ Tryz.underlying9 hd _ _ rfl w
 obtain ⟨S,hS⟩:∃ S,S = strB l:=⟨_,rfl⟩
 rw [← hS] at hsz hixk hemp ⊢
 clear hS
 have hl':n≤1000000:=by omega
 have HV:Hid (∀ c w,Calls Tryz.prog 123 #[.string ⟨#[48,49,50,51,52,53,54,55,56,57,97,98,99,100,101,102]⟩,B8 c] w fun e w'=>e = .returned (.int .i64 (idxD c))∧w' = w):=fun c w=>IndexD_any c w
 have htm:((n:Int)).tmod 2 = ((n % 2:Nat):Int):=by rw [Int.tmod_eq_emod_of_nonneg (by omega)];omega
 by_cases h0:l = []
 ·rw [decide_eq_true h0] at hemp
  have H0:Hid (unhexO l = none):=by show _ = _;unfold unhexO;rw [if_pos h0]
  clear h0 hn hixk hl htm
  go_enter Tryz.func68,Tryz.ntmps68
  go_wp2
  go_ret2
  exact OptB.no H0.out (Below.refl _ _)
 ·rw [decide_eq_false h0] at hemp
  have HU:Hid (unhexO l = unhexP l):=by show _ = _;unfold unhexO;rw [if_neg h0]
  by_cases h1:n % 2 = 1
  ·have H0:Hid (unhexO l = none):=HU.out.trans (unhexP_odd _ (Nat.le_refl _) (by omega))
   rw [h1] at htm
   clear h0 hn hixk hl h1 HU
   go_enter Tryz.func68,Tryz.ntmps68
   go_wp2
   go_ret2
   exact OptB.no H0.out (Below.refl _ _)
  ·have h2:n % 2 = 0:=by omega
   rw [h2] at htm
   have HN:=Lib.hid hn
   have H2:=Lib.hid h2
   clear h0 hn hl h1 h2
   go_enter Tryz.func68,Tryz.ntmps68
   go_wp2
   clear htm
   go_loopw [4,5,6,7] (fun ov iv _ _ wr=>∃ (i m:Nat) (q:Option Addr) (c:Nat) (O:List UInt8),i≤n∧iv = .int .i64 i∧ov = .slice q m c∧m≤i∧Hid (i % 2 = 0)∧Hid (UnhexAt l i O)∧Hid (wr.ownsRow w.heap.size 5 1 (.slice q m c) m (O.map B8))∧Hid (Below w.heap.size w wr)) (fun _ iv _ _ _=>n - (intOf iv).toNat)
   case atStart=>exact ⟨0,0,none,0,[],by omega,rfl,rfl,by omega,rfl,UnhexAt.zero _,World.ownsRow_nil _ _ _ _,Below.refl _ _⟩
   case round =>
    obtain ⟨i,m,q,c,O,hi0,rfl,rfl,hm,HE,HAt,HO,HB⟩:=hrel
    by_cases hlt:i < n
    ·have hi1:i + 1 < n:=by have:=HE.out;have:=H2.out;omega
     obtain ⟨a,ha⟩:∃ a,l[i]? = some a:=⟨_,List.getElem?_eq_getElem (by have:=HN.out;omega)⟩
     obtain ⟨b,hb⟩:∃ b,l[i + 1]? = some b:=⟨_,List.getElem?_eq_getElem (by have:=HN.out;omega)⟩
     have hixa:=hixk.out i a ha
     have hixb:=hixk.out (i + 1) b hb
     have e1:((i + 1:Nat):Int) = (i:Int) + 1:=by omega
     rw [e1] at hixb
     have hw1:IntKind.i64.wrap ((i:Int) + 1) = (i:Int) + 1:=by rw [IntKind.wrap_i64];omega
     have HLT:=Lib.hid hlt
     have HI1:=Lib.hid hi1
     have hlti:(i:Int) < (n:Int):=by omega
     have hlti1:(i:Int) + 1 < (n:Int):=by omega
     have HA:=Lib.hid ha
     have HBb:=Lib.hid hb
     clear ha hb hlt hi1 e1
     go_upto_region 9 with (fail)
     go_quiet ((go_at_call 123;exact Calls.quiet_of_same (HV.out _ _)))
     have BD:Hid (Below wr.heap.size wr (wr.drewN nq)):=below_drewN wr nq
     generalize wr.drewN nq = w1 at *
     have HB1:=Lib.hid (bl HB.out BD.out HB.out.size)
     have HO1:=Lib.hid (owns_keep HO.out BD.out)
     clear hixa hixb hw1 hlti hlti1 HB HO BD
     by_cases hv:valD a < 16∧valD b < 16
     ·obtain ⟨hva,hvb⟩:=hv
      have HAt2:=Lib.hid (HAt.out.next HA.out HBb.out hva hvb)
      obtain ⟨d,hd⟩:∃ d,d = UInt8.ofNat (16 * valD a + valD b):=⟨_,rfl⟩
      rw [← hd] at HAt2
      rw [show idxD a = (valD a:Int) from if_pos hva,show idxD b = (valD b:Int) from if_pos hvb]
      have hor:bits BinOp.or IntKind.i64 ((valD a:Int) * 16) (valD b:Int) % 256 = (d.toNat:Int):=by rw [hex_or hva hvb,hd,UInt8.toNat_ofNat',Nat.mod_eq_of_lt (by omega)]
      have ga:¬ (valD a:Int) < 0:=by omega
      have gb:¬ (valD b:Int) < 0:=by omega
      have hOA:Hid (∀ o,(w1.alloc o).ownsRow w.heap.size 5 1 (.slice q m c) m (O.map B8)):=fun o=>owns_keep HO1.out (al (Below.refl _ _) (Nat.le_refl _))
      have hszw:=HB1.out.size
      clear hd HAt
      go_wp2_with (at_builtin;refine wpList_append_own _ rfl _ _ 22 rfl w.heap.size 5 i0 (.int .u8 0) 1 1 Tryz.underlying22 hi hz0 hz1 hz2 rfl (by omega) _ m (O.map B8) rfl (hOA.out _) ⟨w1.heap.size,0,none⟩ 1 1 [B8 d] rfl rfl (one_cellI rfl) ?c2 ?c3 ?c4 ?c5 ?_)
      case c2=>first | rfl | (intro y hy;simp at hy;subst hy;rfl)
      case c3=>unfold maxLen;omega
      case c4=>omega
      case c5=>first | omega | (simp;omega)
      intro v' w' ho' hg' _
      obtain ⟨q',c',rfl⟩:=owns_shape ho'
      have FIN:Hid (w'.ownsRow w.heap.size 5 1 (.slice q' (m + 1) c') (m + 1) ((O ++ [d]).map B8)∧Below w.heap.size w w'):=by
       refine ⟨?_,?_⟩
       ·rw [List.map_append];exact ho'
       ·exact (al HB1.out hszw).grown hg' (by simp;omega) (fun rr hrr=>(HO1.out.lt rr hrr).1)
      clear ho' hg' HO1 HB1 hOA hor ga gb
      go_wp2
      go_roundw
      case rel=>exact ⟨i + 2,m + 1,q',c',O ++ [d],by have:=HI1.out;omega,by go_num,rfl,by omega,by have:=HE.out;show _ = _;omega,HAt2.out,FIN.out.1,FIN.out.2⟩
      case measure=>simp [intOf];have:=HI1.out;omega
     ·have HR:Hid (unhexO l = none):=HU.out.trans (HAt.out.bad HA.out HBb.out hv)
      have HG:(idxD a < 0)∨(¬ idxD a < 0∧idxD b < 0):=by
       unfold idxD
       by_cases g:valD a < 16
       ·right;rw [if_pos g,if_neg (fun g2=>hv ⟨g,g2⟩)];omega
       ·left;rw [if_neg g];omega
      clear hv HAt HO1
      rcases HG with ga | ⟨ga,gb⟩
      ·go_wp2
       go_ret2
       exact OptB.no HR.out HB1.out
      ·go_wp2
       go_ret2
       exact OptB.no HR.out HB1.out
    ·obtain rfl:i = n:=by omega
     have HR:Hid (unhexO l = some O):=HU.out.trans (HAt.out.done (by have:=HN.out;omega))
     clear hlt HAt
     go_wp2
     go_ret2
     exact OptB.yes HR.out HO.out HB.out
end Go.Proofs.YtccaiiigdfieoaaGreatDoor
namespace Go.Proofs.YtccaiiigdfieoaaGreatDoor
open Go.By Go.RowKit
def impC (k t D:Nat):List (List UInt8)→Int
 | []=>0
 | x :: l=>if readC k t D x = 0 then impC k t D l else readC k t D x
theorem impC_all {k t D:Nat}:∀ {xss:List (List UInt8)},(∀ (j:Nat) x,xss[j]? = some x→readC k t D x = 0)→impC k t D xss = 0
 | [],_=>rfl
 | x :: l,h=>by
  show (if readC k t D x = 0 then impC k t D l else readC k t D x) = 0
  rw [if_pos (h 0 x rfl)]
  exact impC_all fun j y hy=>h (j + 1) y (by simpa using hy)
theorem impC_at {k t D:Nat}:∀ {xss:List (List UInt8)} {i:Nat} {x:List UInt8},(∀ j y,j < i→xss[j]? = some y→readC k t D y = 0)→xss[i]? = some x→readC k t D x≠0→impC k t D xss = readC k t D x
 | [],i,x,_,hx,_=>by simp at hx
 | y :: l,0,x,_,hx,hn=>by
  obtain rfl:y = x:=by simpa using hx
  show (if readC k t D y = 0 then impC k t D l else readC k t D y) = _
  rw [if_neg hn]
 | y :: l,i + 1,x,h,hx,hn=>by
  show (if readC k t D y = 0 then impC k t D l else readC k t D y) = _
  rw [if_pos (h 0 y (by omega) rfl)]
  exact impC_at (i:=i) (fun j z hj hz=>h (j + 1) z (by omega) (by simpa using hz)) (by simpa using hx) hn
theorem impC_exp {k t D:Nat} {R:List Rw} (hR:∀ r,r ∈ R→Fit k t r) (hD:D < 4294967296) (hl:R.length≤1000000):impC k t D (expL D R) = 0 :=
 impC_all fun _ _ h=>expL_ok hR hD hl h
theorem tkR_zero (k t D:Nat) (xss:List (List UInt8)):tkR k t D (xss.take 0) = ([],0):=by simp [tkR]
theorem tkR_whole {k t D n:Nat} {xss:List (List UInt8)} (h:xss.length = n):tkR k t D (xss.take n) = tkR k t D xss:=by rw [List.take_of_length_le (by omega)]
end Go.Proofs.YtccaiiigdfieoaaGreatDoor
namespace Go.Proofs.YtccaiiigdfieoaaGreatDoor
open Go.RowKit Go.By Go.Maps
def ImpR (w:World) (L t k D n:Nat) (xss:List (List UInt8)) (e:Ending) (w':World):Prop :=
 (impC k t D xss = 0∧∃ base gt be M v C,e = .returned (.tuple #[.pointer (some ⟨gt,0,none⟩),.int .i64 0])∧w.heap.size≤base∧Tkr w' base gt be L t k D n M v C (tkR k t D xss).1 (tkR k t D xss).2∧Below w.heap.size w w')∨(impC k t D xss≠0∧e = .returned (.tuple #[.pointer none,.int .i64 (impC k t D xss)])∧Below w.heap.size w w')
set_option maxRecDepth 1000000 in
set_option maxHeartbeats 4000000 in
theorem KImport_any (L t k D:Nat) (p:Option Addr) (n c:Nat) (xss:List (List UInt8)) (w:World) (hP:POK L t k D) (hT:HalfT w) (h:Sl2 w p n c xss) (hn:n≤100000) (hl:∀ x ∈ xss,x.length≤1000000) :
  Calls Tryz.prog 53 #[PVal L t k D,.slice p n c] w (ImpR w L t k D n xss):=by
 have HT:=Lib.hid hT
 have HNew:=Lib.hid (fun w=>TNew_ok L t k D w hP)
 have H1:=Lib.hid h
 have HL:=Lib.hid hl
 have HLN:Hid (xss.length = n):=h.len
 clear hT hP h hl
 go_enter Tryz.func53,Tryz.ntmps53
 go_wp2_with fail
 refine Calls.mono (HNew.out _) ?_
 rintro e w2 ⟨gt,be,v0,rfl,hr,hb⟩
 obtain ⟨hb1,-,-⟩:=one_of hb
 have HB2:=Lib.hid hb1
 have HBase:Hid (w.heap.size≤(w.alloc (.cells #[.int .i64 (L:Nat),.int .i64 (t:Nat),.int .i64 (k:Nat),.int .u32 (D:Nat)] 27 (0,0))).heap.size):=by show _≤_;simp
 obtain ⟨base,hbase⟩:∃ base,base = (w.alloc (.cells #[.int .i64 (L:Nat),.int .i64 (t:Nat),.int .i64 (k:Nat),.int .u32 (D:Nat)] 27 (0,0))).heap.size:=⟨_,rfl⟩
 rw [← hbase] at hr HBase
 have HR2:=Lib.hid hr
 clear hb hb1 hr hbase HNew
 go_wp2
 go_loopw [21] (fun iv wr=>∃ (i:Nat) (M v:Value) (C:DataW Unit),i≤n∧iv = .int .i64 (i:Nat)∧Hid (∀ (j:Nat) (y:List UInt8),j < i→xss[j]? = some y→readC k t D y = 0)∧Hid (Tkr wr base gt be L t k D i M v C (tkR k t D (xss.take i)).1 (tkR k t D (xss.take i)).2)∧Hid (Below w.heap.size w wr)) (fun iv _=>n - (intOf iv).toNat)
 case atStart=>exact ⟨0,_,_,_,Nat.zero_le _,rfl,fun j y hj=>by omega,by rw [tkR_zero];exact HR2.out,HB2.out⟩
 case round =>
  obtain ⟨i,M,v,C,hi,rfl,HZ,HR,HB⟩:=hrel
  clear HR2 HB2
  by_cases hlt:i < n
  ·obtain ⟨bb,oo,qx,mx,cx,xs,rfl,hcd,hsd,hxd⟩:=(H1.out.keep HB.out).at i hlt
   have hmb:Room mx:=by have h1:=hsd.len;have h2:=HL.out xs (List.mem_of_getElem? hxd.out);unfold Room;omega
   have hlt':(i:Int) < (n:Int):=by omega
   have HLT:=Lib.hid hlt
   have HX:=hxd
   have HTk:=Lib.hid (TTake_any base gt be L t k D i M v C _ _ qx mx cx xs wr HR.out (HT.out.keep HB.out) (by omega) hsd hmb)
   have HSn:=Lib.hid (tkR_snoc (k:=k) (t:=t) (D:=D) hxd.out)
   clear hsd hxd hlt hmb
   by_cases hc:readC k t D xs = 0
   ·have hz:(readC k t D xs != 0) = false:=by rw [hc];rfl
    have HZ2:Hid (∀ (j:Nat) (y:List UInt8),j < i + 1→xss[j]? = some y→readC k t D y = 0):=fun j y hj hy=>by
     rcases Nat.lt_or_ge j i with g | g
     ·exact HZ.out j y g hy
     ·obtain rfl:j = i:=by omega
      have:=HX.out;rw [hy] at this;cases this;exact hc
    generalize readC k t D xs = code at *
    clear hc HZ HX
    go_wp2_with fail
    refine Calls.mono HTk.out ?_
    rintro e w3 ⟨rfl,M3,v3,hk3,hch,-⟩
    have HB3:=Lib.hid (HB.out.trans (hch.below HR.out HBase.out HB.out.size))
    have HR3:Hid (Tkr w3 base gt be L t k D (i + 1) M3 v3 (bump C code) (tkR k t D (xss.take (i + 1))).1 (tkR k t D (xss.take (i + 1))).2):=by
     show Tkr _ _ _ _ _ _ _ _ _ _ _ _ _ _
     rw [HSn.out];exact hk3
    clear hk3 hch HTk HSn HR HB
    go_wp2
    go_roundw
    case rel=>exact ⟨i + 1,M3,v3,_,HLT.out,by go_num,HZ2.out,HR3.out,HB3.out⟩
    case measure=>simp [intOf];have:=HLT.out;omega
   ·have hz:(readC k t D xs != 0) = true:=bne_iff_ne.2 hc
    have HI:Hid (impC k t D xss = readC k t D xs):=impC_at HZ.out HX.out hc
    have HC:=Lib.hid hc
    generalize readC k t D xs = code at *
    clear hc HZ HX HSn
    go_wp2_with fail
    refine Calls.mono HTk.out ?_
    rintro e w3 ⟨rfl,M3,v3,hk3,hch,-⟩
    have HB3:=Lib.hid (HB.out.trans (hch.below HR.out HBase.out HB.out.size))
    clear hk3 hch HTk HR HB
    go_wp2
    go_ret2
    exact .inr ⟨by rw [HI.out];exact HC.out,by rw [HI.out];rfl,HB3.out⟩
  ·obtain rfl:i = n:=by omega
   have HI:Hid (impC k t D xss = 0):=impC_all fun j y hy=>HZ.out j y (by have:=(List.getElem?_eq_some_iff.1 hy).1;have:=HLN.out;omega) hy
   have HRF:Hid (Tkr wr base gt be L t k D i M v C (tkR k t D xss).1 (tkR k t D xss).2):=by have:=HR.out;rwa [tkR_whole HLN.out] at this
   clear hlt HZ HR
   go_wp2
   go_ret2
   exact .inl ⟨HI.out,base,gt,be,M,v,C,rfl,HBase.out,HRF.out,HB.out⟩
end Go.Proofs.YtccaiiigdfieoaaGreatDoor
