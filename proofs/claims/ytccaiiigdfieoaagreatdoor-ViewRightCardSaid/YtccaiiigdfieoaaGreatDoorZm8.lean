/- DERIVED: THE SHELF's CONTRACTS AT THIS DUMP,IN PLAIN WORDS (tools/lay-plain.mjs out of 'TryzIter.lean',which tools/lay-shelf.mjs wrote): THE SAME DECLARATIONS UNDER THE SAME NAMES: 'import','namespace','open','def','theorem' AND NOTHING ELSE: no command of the shelf's: FOR A HAND-IN. Each laying: the table of numbers ('.._ren') and one theorem,a field a fact of the dump's own or the kernel's comparison; each contract: ONE APPLICATION. A map from numbers to slices,made by the call; its keys in order. The keys of such a map,in order: maps.Keys,slices.Sorted. glue.Fill,where all that is known fits. The walk of glue.Fill,where all that is known fits. Chapter 19: what a taker knows: Some. Where equations first clash: plain law. Chapter 25,plain: which symbols rows tell alone. slices.ContainsFunc of rows. Chapter 28: the rules of rows: rising,alone,Rows. Chapter 25: which symbols rows tell alone (view.known). Chapter 25: a builder's first byte,with its whole frame; view.Map. Chapter 25: view.Map,view.Of,and the reference's Map. Chapter 25: the gaps: as a list,and in memory. Chapter 12: the reference's Fill,of numbers that are each known once. Chapter 25: the gaps,in memory. Chapter 25: view.Of. The library: FormatUint of base 10; Itoa; Join. The plan's Room,Pad,Text; the reference's Text. -/
import Derived.Test.YtccaiiigdfieoaaGreatDoorZm7
import Derived.Shelf.SlIterI.Nil
import Derived.Shelf.SortM.Plain
import Derived.Shelf.SortM.SortNone
import Derived.Test.YtccaiiigdfieoaaGreatDoorProg
import Derived.Maps.Own
import Derived.Maps.Views
import Derived.StillTailTactics
import Derived.Laws.CopyOwn
import Derived.Deep.DeepCutAuto
import Derived.Deep.QuietTactic
import Derived.BigQuiet
import Derived.Lib.ItoaMem
import Derived.Lib.Join
import Derived.BigCall
import Derived.BigGuard
import Derived.Lib.ItoaLen
namespace Go.Proofs
open Go.Shelf
def Tryz.keysI_ren:Go.Shelf.Ren:=⟨fun | 7=>168 | 10=>215 | n=>n,fun | 23=>178 | 26=>3 | 3=>22 | 28=>244 | 0=>0 | 27=>243 | 33=>199 | 4=>4 | n=>n,fun | n=>n⟩
theorem Tryz.keysI:Go.Proofs.SlLaysZI.n7 Tryz.prog Tryz.keysI_ren:={
 mixed:=by kernel_rfl
 f7:=⟨Tryz.f168.name,by decide,Tryz.func168.trans (congrArg some (by kernel_rfl))⟩
 f10:=⟨Tryz.f215.name,by decide,Tryz.func215.trans (congrArg some (by kernel_rfl))⟩
 t0:=Tryz.underlying0
 a0:=Tryz.isAgg0
 z0:=Tryz.sizeOf0
 v0:=Tryz.zeroValue0
 t4:=Tryz.underlying4
 a4:=Tryz.isAgg4
 z4:=Tryz.sizeOf4
 v4:=Tryz.zeroValue4
 t23:=Tryz.underlying178
 a23:=Tryz.isAgg178
 z23:=Tryz.sizeOf178
 v23:=Tryz.zeroValue178
 t26:=Tryz.underlying3
 a26:=Tryz.isAgg3
 z26:=Tryz.sizeOf3
 v26:=Tryz.zeroValue3
 t27:=Tryz.underlying243
 a27:=Tryz.isAgg243
 z27:=Tryz.sizeOf243
 v27:=Tryz.zeroValue243
 t28:=Tryz.underlying244
 a28:=Tryz.isAgg244
 z28:=Tryz.sizeOf244
 v28:=Tryz.zeroValue244
 t33:=Tryz.underlying199
 a33:=Tryz.isAgg199
 z33:=Tryz.sizeOf199
 v33:=Tryz.zeroValue199 }
def Tryz.sortedI_ren:Go.Shelf.Ren:=⟨fun | 6=>167 | 8=>213 | 9=>214 | 11=>238 | 13=>240 | 12=>239 | 23=>270 | 24=>256 | 14=>261 | 15=>262 | 16=>263 | 17=>264 | 18=>265 | 19=>266 | 20=>267 | 21=>268 | 22=>269 | 25=>276 | 26=>277 | 27=>278 | 28=>279 | 29=>280 | 30=>281 | 31=>282 | n=>n,fun | 26=>3 | 28=>244 | 24=>103 | 0=>0 | 3=>3 | 37=>142 | 48=>23 | 50=>81 | 4=>4 | 40=>328 | 39=>327 | 45=>184 | 5=>5 | 9=>9 | 51=>345 | 55=>348 | 57=>355 | 58=>157 | 33=>199 | n=>n,fun | n=>n⟩
theorem Tryz.sortedI:Go.Proofs.SlLaysZI.n6 Tryz.prog Tryz.sortedI_ren:={
 mixed:=by kernel_rfl
 f6:=⟨Tryz.f167.name,by decide,Tryz.func167.trans (congrArg some (by kernel_rfl))⟩
 f8:=⟨Tryz.f213.name,by decide,Tryz.func213.trans (congrArg some (by kernel_rfl))⟩
 f11:=⟨Tryz.f238.name,by decide,Tryz.func238.trans (congrArg some (by kernel_rfl))⟩
 t0:=Tryz.underlying0
 a0:=Tryz.isAgg0
 z0:=Tryz.sizeOf0
 v0:=Tryz.zeroValue0
 t24:=Tryz.underlying103
 a24:=Tryz.isAgg103
 z24:=Tryz.sizeOf103
 v24:=Tryz.zeroValue103
 t26:=Tryz.underlying3
 a26:=Tryz.isAgg3
 z26:=Tryz.sizeOf3
 v26:=Tryz.zeroValue3
 t28:=Tryz.underlying244
 a28:=Tryz.isAgg244
 z28:=Tryz.sizeOf244
 v28:=Tryz.zeroValue244
 i26:=by kernel_rfl }
def Tryz.sortI_ren:Go.Shelf.Ren:=⟨fun | 5=>214 | 8=>240 | 7=>239 | 19=>270 | 20=>256 | 10=>261 | 11=>262 | 12=>263 | 13=>264 | 14=>265 | 15=>266 | 16=>267 | 17=>268 | 18=>269 | 30=>276 | 31=>277 | 32=>278 | 33=>279 | 34=>280 | 35=>281 | 40=>282 | n=>n,fun | 23=>103 | 25=>3 | 3=>3 | 32=>142 | 22=>103 | 0=>0 | 44=>23 | 46=>81 | 4=>4 | 36=>328 | 35=>327 | 41=>184 | 5=>5 | 9=>9 | 53=>345 | 57=>348 | 63=>355 | 64=>157 | n=>n,fun | n=>n⟩
theorem Tryz.sortI:Go.Proofs.SlLaysM.n5 Tryz.prog Tryz.sortI_ren:={
 mixed:=by kernel_rfl
 f5:=⟨Tryz.f214.name,by decide,Tryz.func214.trans (congrArg some (by kernel_rfl))⟩
 f7:=⟨Tryz.f239.name,by decide,Tryz.func239.trans (congrArg some (by kernel_rfl))⟩
 f8:=Tryz.func240.trans (congrArg some (by kernel_rfl))
 f10:=⟨Tryz.f261.name,by decide,Tryz.func261.trans (congrArg some (by kernel_rfl))⟩
 f11:=⟨Tryz.f262.name,by decide,Tryz.func262.trans (congrArg some (by kernel_rfl))⟩
 f12:=⟨Tryz.f263.name,by decide,Tryz.func263.trans (congrArg some (by kernel_rfl))⟩
 f13:=⟨Tryz.f264.name,by decide,Tryz.func264.trans (congrArg some (by kernel_rfl))⟩
 f14:=⟨Tryz.f265.name,by decide,Tryz.func265.trans (congrArg some (by kernel_rfl))⟩
 f15:=⟨Tryz.f266.name,by decide,Tryz.func266.trans (congrArg some (by kernel_rfl))⟩
 f16:=⟨Tryz.f267.name,by decide,Tryz.func267.trans (congrArg some (by kernel_rfl))⟩
 f17:=⟨Tryz.f268.name,by decide,Tryz.func268.trans (congrArg some (by kernel_rfl))⟩
 f18:=⟨Tryz.f269.name,by decide,Tryz.func269.trans (congrArg some (by kernel_rfl))⟩
 f19:=Tryz.func270.trans (congrArg some (by kernel_rfl))
 f20:=Tryz.func256.trans (congrArg some (by kernel_rfl))
 f30:=⟨Tryz.f276.name,by decide,Tryz.func276.trans (congrArg some (by kernel_rfl))⟩
 f31:=Tryz.func277.trans (congrArg some (by kernel_rfl))
 f32:=Tryz.func278.trans (congrArg some (by kernel_rfl))
 f33:=⟨Tryz.f279.name,by decide,Tryz.func279.trans (congrArg some (by kernel_rfl))⟩
 f34:=⟨Tryz.f280.name,by decide,Tryz.func280.trans (congrArg some (by kernel_rfl))⟩
 f35:=⟨Tryz.f281.name,by decide,Tryz.func281.trans (congrArg some (by kernel_rfl))⟩
 f40:=⟨Tryz.f282.name,by decide,Tryz.func282.trans (congrArg some (by kernel_rfl))⟩
 t0:=Tryz.underlying0
 a0:=Tryz.isAgg0
 z0:=Tryz.sizeOf0
 v0:=Tryz.zeroValue0
 t3:=Tryz.underlying3
 a3:=Tryz.isAgg3
 z3:=Tryz.sizeOf3
 v3:=Tryz.zeroValue3
 t4:=Tryz.underlying4
 a4:=Tryz.isAgg4
 z4:=Tryz.sizeOf4
 v4:=Tryz.zeroValue4
 t5:=Tryz.underlying5
 a5:=Tryz.isAgg5
 z5:=Tryz.sizeOf5
 v5:=Tryz.zeroValue5
 t9:=Tryz.underlying9
 a9:=Tryz.isAgg9
 z9:=Tryz.sizeOf9
 v9:=Tryz.zeroValue9
 t22:=Tryz.underlying103
 a22:=Tryz.isAgg103
 z22:=Tryz.sizeOf103
 v22:=Tryz.zeroValue103
 t23:=Tryz.underlying103
 a23:=Tryz.isAgg103
 z23:=Tryz.sizeOf103
 v23:=Tryz.zeroValue103
 t25:=Tryz.underlying3
 a25:=Tryz.isAgg3
 z25:=Tryz.sizeOf3
 v25:=Tryz.zeroValue3
 t32:=Tryz.underlying142
 a32:=Tryz.isAgg142
 z32:=Tryz.sizeOf142
 v32:=Tryz.zeroValue142
 t35:=Tryz.underlying327
 a35:=Tryz.isAgg327
 z35:=Tryz.sizeOf327
 v35:=Tryz.zeroValue327
 t36:=Tryz.underlying328
 a36:=Tryz.isAgg328
 z36:=Tryz.sizeOf328
 v36:=Tryz.zeroValue328
 t41:=Tryz.underlying184
 a41:=Tryz.isAgg184
 z41:=Tryz.sizeOf184
 v41:=Tryz.zeroValue184
 t44:=Tryz.underlying23
 a44:=Tryz.isAgg23
 z44:=Tryz.sizeOf23
 v44:=Tryz.zeroValue23
 t46:=Tryz.underlying81
 a46:=Tryz.isAgg81
 z46:=Tryz.sizeOf81
 v46:=Tryz.zeroValue81
 t53:=Tryz.underlying345
 a53:=Tryz.isAgg345
 z53:=Tryz.sizeOf345
 v53:=Tryz.zeroValue345
 t57:=Tryz.underlying348
 a57:=Tryz.isAgg348
 z57:=Tryz.sizeOf348
 v57:=Tryz.zeroValue348
 t63:=Tryz.underlying355
 a63:=Tryz.isAgg355
 z63:=Tryz.sizeOf355
 v63:=Tryz.zeroValue355
 t64:=Tryz.underlying157
 a64:=Tryz.isAgg157
 z64:=Tryz.sizeOf157
 v64:=Tryz.zeroValue157 }
end Go.Proofs
namespace Go.By
open Go.RowKit Go.Maps Go.ChangeMaps
def slR:Value→Option (DataW Unit × List MemPlace)
 | .slice (some ⟨b,o,none⟩) n c=>some (.agg [.lit (.int .i64 b),.lit (.int .i64 o),.lit (.int .i64 n),.lit (.int .i64 c)],[])
 | .slice none 0 0=>some (.nil,[])
 | _=>none
theorem slR_inj {u v:Value} {y z:DataW Unit × List MemPlace} (h:slR u = some y) (h2:slR v = some z) (e:y.1 = z.1):u = v:=by
 unfold slR at h h2
 split at h <;> split at h2 <;> cases h <;> cases h2 <;> simp_all <;> omega
structure OKm (m:Nat) (S:Nat→Bool) (f:Nat→DataW Unit) (es:List (Lit × DataW Unit)):Prop where
 all:∀ p,p ∈ es→∃ i:Nat,i < m∧S i = true∧p = (.int .i64 (i:Int),f i)
 has:∀ i:Nat,i < m→S i = true→∃ p,p ∈ es∧p.1 = .int .i64 (i:Int)
theorem same_i64 {a b:Int}:(Lit.int .i64 a).sameKey (.int .i64 b) = decide (a = b):=by
 simp [Lit.sameKey]
theorem OKm.look {m i:Nat} {S:Nat→Bool} {f:Nat→DataW Unit} {es:List (Lit × DataW Unit)} (h:OKm m S f es) (hi:i < m) (z:DataW Unit):(DataW.map es).atKey (.int .i64 (i:Int)) z = if S i = true then f i else z:=by
 unfold DataW.atKey
 cases hf:es.find? (fun p=>p.1.sameKey (.int .i64 (i:Int))) with
 | none =>
  simp only [hf]
  rw [List.find?_eq_none] at hf
  by_cases hS:S i = true
  ·obtain ⟨p,hp,e⟩:=h.has i hi hS
   have:=hf p hp
   rw [e,same_i64] at this
   simp at this
  ·rw [if_neg hS]
 | some p =>
  simp only [hf]
  have hp:=List.mem_of_find?_eq_some hf
  have hs:=List.find?_some hf
  obtain ⟨j,hj,hS,rfl⟩:=h.all p hp
  rw [same_i64,decide_eq_true_eq] at hs
  obtain rfl:j = i:=by omega
  rw [if_pos hS]
theorem OKm.put {m k:Nat} {S:Nat→Bool} {f:Nat→DataW Unit} {es:List (Lit × DataW Unit)} (h:OKm m S f es) (hk:k < m):OKm m (fun i=>S i || decide (i = k)) f (putKey (.int .i64 (k:Int)) (f k) es):=by
 refine ⟨fun p hp=>?_,fun i hi hS=>?_⟩
 ·rcases mem_insert_iff.1 hp with rfl | hp
  ·exact ⟨k,hk,by simp,rfl⟩
  ·obtain ⟨i,hi,hS,rfl⟩:=h.all p (List.mem_filter.1 hp).1
   exact ⟨i,hi,by simp [hS],rfl⟩
 ·by_cases e:i = k
  ·subst e;exact ⟨_,mem_insert_iff.2 (.inl rfl),rfl⟩
  ·have hS2:S i = true:=by simpa [e] using hS
   obtain ⟨p,hp,ep⟩:=h.has i hi hS2
   refine ⟨p,mem_insert_iff.2 (.inr (List.mem_filter.2 ⟨hp,?_⟩)),ep⟩
   unfold notKey
   rw [ep,same_i64]
   have:¬ ((i:Int) = (k:Int)):=by omega
   simp [this]
theorem OKm.nil {m:Nat} {f:Nat→DataW Unit}:OKm m (fun _=>false) f []:=⟨fun p hp=>(by cases hp),fun i _ h=>(by cases h)⟩
theorem OKm.keys {m:Nat} {S:Nat→Bool} {f:Nat→DataW Unit} {es:List (Lit × DataW Unit)} (h:OKm m S f es) (x:Int):x ∈ intKeys (.map es)↔∃ i:Nat,i < m∧S i = true∧x = (i:Int):=by
 show x ∈ es.map (fun p=>intOf p.1)↔_
 rw [List.mem_map]
 constructor
 ·rintro ⟨p,hp,rfl⟩
  obtain ⟨i,hi,hS,rfl⟩:=h.all p hp
  exact ⟨i,hi,hS,rfl⟩
 ·rintro ⟨i,hi,hS,rfl⟩
  obtain ⟨p,hp,e⟩:=h.has i hi hS
  exact ⟨p,hp,by rw [e];rfl⟩
end Go.By
namespace Go.Proofs.YtccaiiigdfieoaaGreatDoor
open Go.RowKit Go.By Go.Maps Go.Sort Go.Shelf
def MapC (bm cnt m:Nat) (S:Nat→Bool) (vs:List Value) (W:World):Prop:=∃ es,W.ownsMap Tryz.prog 3 slR bm cnt (.map es)∧OKm m S (fun i=>((slR (vs.getD i undef)).getD (.nil,[])).1) es
theorem keyedC:Keyed Tryz.prog 3:=int_keyed Tryz.underlying3
theorem keyC (i:Nat) (hi:i≤9223372036854775807):keyOf Tryz.prog 3 (.int .i64 (i:Int)) = some (.int .i64 (i:Int)):=keyOf_int_mk Tryz.underlying3 (by simp [Lit.wf,IntKind.min,IntKind.max,IntKind.signed,IntKind.bits];omega)
theorem MapC.keep {bm cnt m:Nat} {S:Nat→Bool} {vs:List Value} {W W':World} (h:MapC bm cnt m S vs W) (hb:Below W.heap.size W W'):MapC bm cnt m S vs W':=by
 obtain ⟨es,ho,hk⟩:=h
 refine ⟨es,?_,hk⟩
 have hlt:=ho.lt
 obtain ⟨e,clock,h1,F,hs,hD⟩:=ho
 exact ⟨e,clock,(hb.block _ hlt).trans h1,F,hs,hD⟩
theorem MapC.lt {bm cnt m:Nat} {S:Nat→Bool} {vs:List Value} {W:World} (h:MapC bm cnt m S vs W):bm < W.heap.size:=by
 obtain ⟨es,ho,_⟩:=h;exact ho.lt
theorem MapC.grown {bm cnt m:Nat} {S:Nat→Bool} {vs:List Value} {W W':World} {row:Option Nat} (h:MapC bm cnt m S vs W) (hg:W.grownBy W' row) (hne:some bm≠row):MapC bm cnt m S vs W':=by
 obtain ⟨es,ho,hk⟩:=h
 exact ⟨es,ho.kept hg hne,hk⟩
theorem MapC.set {bm cnt m b i:Nat} {v:Value} {S:Nat→Bool} {vs:List Value} {W:World} (h:MapC bm cnt m S vs W) (hne:bm≠b):MapC bm cnt m S vs (W.setCell ⟨b,i,none⟩ v):=by
 obtain ⟨es,ho,hk⟩:=h
 obtain ⟨e,clock,h1,F,hs,hD⟩:=ho
 exact ⟨es,⟨e,clock,hsc h1 hne,F,hs,hD⟩,hk⟩
theorem MapC.made {m:Nat} {vs:List Value} {W:World}:MapC W.heap.size 0 m (fun _=>false) vs (W.alloc (.map #[] 0)):=⟨[],World.ownsMap_made _ _ _ _,OKm.nil⟩
theorem zeroB (W:World):(zeroValue 22).run Tryz.prog W = .ok (.slice none 0 0) W:=by simp [Tryz.underlying22]
theorem MapC.look {bm cnt m i:Nat} {S:Nat→Bool} {vs:List Value} {W:World} (h:MapC bm cnt m S vs W) (hi:i < m) (hi2:i≤9223372036854775807) (hv:S i = true→∃ y,slR (vs.getD i undef) = some y) (c:Bool) :
  (Instr.lookup 178 (.map (some bm)) (.int .i64 (i:Int)) c).run Tryz.prog W = .ok (if S i = true then (if c then .tuple #[vs.getD i undef,.bool true] else vs.getD i undef) else (if c then .tuple #[.slice none 0 0,.bool false] else .slice none 0 0)) W:=by
 obtain ⟨es,⟨e,clock,h1,F,hs,hD⟩,hk⟩:=h
 have hl:=hk.look hi
 rw [hD] at hl
 rcases Maps.fit_look c keyedC Tryz.underlying178 (zeroB W) h1 F (keyC i hi2) with ⟨hrun,_,hat⟩ | ⟨e0,y,_,_,hrun,hR,hat,_⟩
 ·have hS:¬ S i = true:=fun hS=>by
   have a1:=hl .nil
   have a2:=hl (.lit (.bool true))
   rw [if_pos hS,hat] at a1 a2
   rw [← a1] at a2;cases a2
  rw [hrun,if_neg hS]
 ·have hS:S i = true:=by
   by_cases hS:S i = true
   ·exact hS
   ·have a1:=hl .nil
    have a2:=hl (.lit (.bool true))
    rw [if_neg hS,hat] at a1 a2
    rw [a1] at a2;cases a2
  have a1:=hl .nil
  rw [if_pos hS,hat] at a1
  obtain ⟨z,hz⟩:=hv hS
  have ev:e0.val = vs.getD i undef:=slR_inj hR hz (by rw [a1,hz];rfl)
  rw [hrun,if_pos hS,ev]
theorem MapC.congr {bm cnt m:Nat} {S:Nat→Bool} {vs vs':List Value} {W:World} (h:MapC bm cnt m S vs W) (he:∀ i,i < m→S i = true→vs.getD i undef = vs'.getD i undef):MapC bm cnt m S vs' W:=by
 obtain ⟨es,ho,hk⟩:=h
 refine ⟨es,ho,⟨fun p hp=>?_,hk.has⟩⟩
 obtain ⟨i,hi,hS,e⟩:=hk.all p hp
 exact ⟨i,hi,hS,by rw [e];show (_,((slR (vs.getD i undef)).getD (.nil,[])).1) = (_,((slR (vs'.getD i undef)).getD (.nil,[])).1);rw [he i hi hS]⟩
theorem MapC.put {bm cnt m k:Nat} {S:Nat→Bool} {vs:List Value} {W:World} (h:MapC bm cnt m S vs W) (hk:k < m) (hk2:k≤9223372036854775807) (hc:cnt < maxLen) {y:DataW Unit × List MemPlace} (hv:slR (vs.getD k undef) = some y) :
  ∃ W',(Instr.mapUpdate 178 (.map (some bm)) (.int .i64 (k:Int)) (vs.getD k undef)).run Tryz.prog W = .ok () W'∧MapC bm (cnt + 1) m (fun i=>S i || decide (i = k)) vs W'∧W.grownBy W' (some bm):=by
 obtain ⟨es,ho,hO⟩:=h
 obtain ⟨W',h1,h2,h3⟩:=ho.update (d:=y.1) (ps:=y.2) keyedC Tryz.underlying178 hc (keyC k hk2) hv
 refine ⟨W',h1,⟨_,?_,hO.put hk⟩,h3⟩
 rw [DataW.put_eq] at h2
 rw [hv]
 exact h2
end Go.Proofs.YtccaiiigdfieoaaGreatDoor
namespace Go.Proofs.YtccaiiigdfieoaaGreatDoor
open Go.RowKit Go.By Go.Maps Go.Sort Go.Shelf
theorem sortsC (m:Nat):AnyZI.SortsIn Tryz.prog Tryz.sortedI_ren Fence.wide m :=
 ⟨fun blk off cap ss W hH hblk hsz => callsIn_wide.2 (AnyM.slices_Sort_int Tryz.sortI blk off cap ss W hH hblk hsz),
  fun p cap W=>callsIn_wide.2 (AnyM.slices_Sort_int_none Tryz.sortI p cap W)⟩
theorem KeysC_any (bm:Nat) (W:World):Calls Tryz.prog 168 #[.map (some bm)] W fun e w'=>e = .returned (.func (.func 215) #[] #[.pointer (some ⟨W.heap.size,0,none⟩)])∧w' = W.alloc (.cells #[.map (some bm)] 178) :=
 (callsIn_wide (n:=5)).1 (AnyZI.keys_in Tryz.keysI Fence.wide 5 trivial rfl (some bm) W)
theorem SortedC_any (bm cnt m B:Nat) (S:Nat→Bool) (vs:List Value) (W:World) (h:MapC bm cnt m S vs W) (hB:W.heap[B]? = some (.cells #[.map (some bm)] 178 (0,0))) (hc:cnt≤100000) :
  Calls Tryz.prog 167 #[.func (.func 215) #[] #[.pointer (some ⟨B,0,none⟩)]] W fun e w'=>∃ (q:Option Addr) (n c:Nat) (ks:List Nat),e = .returned (.slice q n c)∧Sl encZ w' q n c (ks.map fun k:Nat=>(k:Int))∧(∀ k,k ∈ ks↔(k < m∧S k = true))∧Below W.heap.size W w':=by
 obtain ⟨es,ho,hO⟩:=h
 have hsz:Maps.size (.map es:DataW Unit)≤cnt:=by
  obtain ⟨e,clock,h1,F,hs,hD⟩:=ho
  have e1:es = (e.toList.map (Go.WideElems.rg Tryz.prog 3 slR)).foldr DataW.insert []:=by injection hD
  show es.length≤cnt
  rw [e1,length_sorted];simpa using hs
 have hseq:SeqGives Fence.wide 2 Tryz.prog 215 #[.pointer (some ⟨B,0,none⟩)] encZ (fun ss=>ss.Perm (intKeys (.map es:DataW Unit))) (Maps.size (.map es:DataW Unit)) W :=
  AnyZI.keys_gives (ρ:=Tryz.keysI_ren) { Tryz.keysI with } Fence.wide _ trivial rfl (by omega) B bm cnt (.map es) W (blk_ltC hB) (cell_of_row _ _ 0 _ _ _ hB) ho
 have cS:=AnyZI.sorted_in Tryz.sortedI Fence.wide 5 trivial trivial trivial trivial rfl (by omega) (sortsC _) (enters_of Tryz.func214 (by kernel_rfl) rfl) 215 #[.pointer (some ⟨B,0,none⟩)] trivial (enters_of Tryz.func215 (by kernel_rfl) rfl) _ _ (by unfold maxLen;omega) (by omega) _ hseq
 change CallsIn _ _ Tryz.prog 167 _ _ _ at cS
 refine ((callsIn_wide (n:=5)).1 cS).mono ?_
 rintro e w' ⟨v,ss,rfl,hp,hrow,-,hb⟩
 have hmem:∀ x,x ∈ ss.mergeSort (fun x y=>decide (x≤y))↔∃ i:Nat,i < m∧S i = true∧x = (i:Int):=fun x=>by
  rw [(List.mergeSort_perm _ _).mem_iff,hp.mem_iff];exact hO.keys x
 have hnn:∀ x,x ∈ ss.mergeSort (fun x y=>decide (x≤y))→∃ i:Nat,x = (i:Int):=fun x hx=>by
  obtain ⟨i,_,_,e⟩:=(hmem x).1 hx;exact ⟨i,e⟩
 have hback:((ss.mergeSort (fun x y=>decide (x≤y))).map Int.toNat).map (fun k:Nat=>(k:Int)) = ss.mergeSort (fun x y=>decide (x≤y)):=by
  rw [List.map_map]
  conv=>rhs;rw [← List.map_id (ss.mergeSort (fun x y=>decide (x≤y)))]
  apply List.map_congr_left
  intro x hx
  obtain ⟨i,rfl⟩:=hnn x hx
  rfl
 obtain ⟨q,c,rfl⟩:=owns_shape hrow
 refine ⟨q,ss.length,c,(ss.mergeSort (fun x y=>decide (x≤y))).map Int.toNat,rfl,?_,fun k=>?_,hb⟩
 ·rw [hback];exact Sl.of_owns hrow
 ·rw [List.mem_map]
  constructor
  ·rintro ⟨x,hx,rfl⟩
   obtain ⟨i,h1,h2,rfl⟩:=(hmem x).1 hx
   exact ⟨h1,h2⟩
  ·rintro ⟨h1,h2⟩
   exact ⟨(k:Int),(hmem _).2 ⟨k,h1,h2,rfl⟩,rfl⟩
end Go.Proofs.YtccaiiigdfieoaaGreatDoor
namespace Go.By
open Go.RowKit
def objF (s:Nat) (P:Nat→List UInt8) (A:Nat→Bool) (a:Nat):UInt8:=if A (a / s) then (P (a / s)).getD (a % s) 0 else 0
def objL (l s:Nat) (P:Nat→List UInt8) (A:Nat→Bool):List UInt8:=(List.range l).map (objF s P A)
def toldT (l:Nat) (T:Nat→Bool):List Bool:=(List.range l).map T
theorem objL_at (l s:Nat) (P:Nat→List UInt8) (A:Nat→Bool) (a:Nat):(objL l s P A)[a]? = if a < l then some (objF s P A a) else none:=by
 unfold objL
 rw [List.getElem?_map]
 by_cases h:a < l
 ·rw [if_pos h,List.getElem?_range h];rfl
 ·rw [if_neg h,List.getElem?_eq_none (by simpa using h)];rfl
theorem toldT_at (l:Nat) (T:Nat→Bool) (a:Nat):(toldT l T)[a]? = if a < l then some (T a) else none:=by
 unfold toldT
 rw [List.getElem?_map]
 by_cases h:a < l
 ·rw [if_pos h,List.getElem?_range h];rfl
 ·rw [if_neg h,List.getElem?_eq_none (by simpa using h)];rfl
theorem objL_len (l s:Nat) (P:Nat→List UInt8) (A:Nat→Bool):(objL l s P A).length = l:=by simp [objL]
theorem toldT_len (l:Nat) (T:Nat→Bool):(toldT l T).length = l:=by simp [toldT]
theorem toldT_congr {l:Nat} {T U:Nat→Bool} (h:∀ a,a < l→T a = U a):toldT l T = toldT l U:=by
 unfold toldT
 exact List.map_congr_left (fun a ha=>h a (List.mem_range.1 ha))
theorem objL_congr {l s:Nat} {P:Nat→List UInt8} {A B:Nat→Bool} (h:∀ a,a < l→A (a / s) = B (a / s)):objL l s P A = objL l s P B:=by
 unfold objL
 exact List.map_congr_left (fun a ha=>by unfold objF;rw [h a (List.mem_range.1 ha)])
theorem objL_zero (l s:Nat) (P:Nat→List UInt8):(objL l s P (fun _=>false)).map B8 = List.replicate l (B8 0):=by
 unfold objL
 rw [List.map_map,show (B8 ∘ objF s P fun _=>false) = (fun _=>B8 0) from rfl,List.map_const',List.length_range]
theorem toldT_zero (l:Nat):(toldT l (fun _=>false)).map Value.bool = List.replicate l (Value.bool false):=by
 unfold toldT
 rw [List.map_map,show (Value.bool ∘ fun (_:Nat)=>false) = (fun _=>Value.bool false) from rfl,List.map_const',List.length_range]
theorem toldT_set {l i:Nat} {T:Nat→Bool}:(toldT l T).set i true = toldT l (fun a=>T a || decide (a = i)):=by
 apply List.ext_getElem?
 intro a
 rw [List.getElem?_set,toldT_at,toldT_at,toldT_len]
 by_cases h:i = a
 ·subst h;simp
 ·have h2:¬ a = i:=fun e=>h e.symm
  simp [h,h2]
theorem div_eqC {a s k:Nat} (hs:1≤s) (h1:k * s≤a) (h2:a < k * s + s):a / s = k∧a % s = a - k * s:=by
 have e:a = (a - k * s) + k * s:=by omega
 have hl:a - k * s < s:=by omega
 constructor
 ·conv=>lhs;rw [e]
  rw [Nat.add_mul_div_right _ _ (by omega),Nat.div_eq_of_lt hl];omega
 ·conv=>lhs;rw [e]
  rw [Nat.add_mul_mod_self_right,Nat.mod_eq_of_lt hl]
theorem div_neC {a s k:Nat} (hs:1≤s) (h:¬ (k * s≤a∧a < k * s + s)):a / s≠k:=fun e=>by
 have h1:=Nat.div_add_mod a s
 have h2:=Nat.mod_lt a (show 0 < s by omega)
 rw [e,Nat.mul_comm] at h1
 omega
theorem objL_splice {l s k:Nat} {P:Nat→List UInt8} {A:Nat→Bool} (hs:1≤s) (hk:k * s≤l) (hP:(P k).length = s) :
  (objL l s P A).take (k * s) ++ ((P k).take (l - k * s) ++ (objL l s P A).drop (k * s + ((P k).take (l - k * s)).length)) = objL l s P (fun i=>A i || decide (i = k)):=by
 have hz:((P k).take (l - k * s)).length = min (l - k * s) s:=by rw [List.length_take,hP]
 have ht:((objL l s P A).take (k * s)).length = k * s:=by rw [List.length_take,objL_len];omega
 apply List.ext_getElem?
 intro a
 rw [objL_at]
 by_cases h1:a < k * s
 ·rw [List.getElem?_append_left (by omega),List.getElem?_take,if_pos h1,objL_at]
  have hne:=div_neC (k:=k) (a:=a) hs (by omega)
  unfold objF
  simp [hne]
 ·rw [List.getElem?_append_right (by omega),ht]
  by_cases h2:a - k * s < ((P k).take (l - k * s)).length
  ·rw [List.getElem?_append_left h2,List.getElem?_take]
   have h3:a < l:=by omega
   obtain ⟨e1,e2⟩:=div_eqC (a:=a) (k:=k) hs (by omega) (by omega)
   rw [if_pos (by omega),if_pos h3]
   unfold objF
   rw [e1,e2]
   simp only [decide_true,Bool.or_true,if_true]
   rw [List.getD_eq_getElem?_getD,List.getElem?_eq_getElem (by omega)];rfl
  ·rw [List.getElem?_append_right (by omega),List.getElem?_drop,objL_at]
   have e:k * s + ((P k).take (l - k * s)).length + (a - k * s - ((P k).take (l - k * s)).length) = a:=by omega
   rw [e]
   by_cases h3:a < l
   ·have hne:=div_neC (k:=k) (a:=a) hs (by omega)
    rw [if_pos h3,if_pos h3]
    unfold objF
    simp [hne]
   ·rw [if_neg h3,if_neg h3]
theorem wp_copy_rowC {P:Program} {w:World} {o:Oper} {a:Act} {K:Act→World→Prop} {Q:Exit→Act→World→Prop} (d s:Operand) (dT sT:TypeId)
  (ho:o.op = .call { callee:=.builtin .copy,args:=#[d,s],argTypes:=#[dT,sT] }) (elem:TypeId) (hu:P.underlying dT = some (.slice elem)) (hsz:(P.info? elem).map (·.size) = some 1)
  (g off dLen dCap:Nat) (ad:Addr) (sLen sCap:Nat) (hd:a.eval d = .slice (some ⟨g,off,none⟩) dLen dCap) (hs:a.eval s = .slice (some ad) sLen sCap)
  (cur:Array Value) (t:TypeId) (hg:w.heap[g]? = some (.cells cur t (0,0))) (cs:List Value) (hn:cs.length = Nat.min sLen dLen)
  (hsrc:∀ j v,cs[j]? = some v→w.cell? (ad.add j) = some v) (hfit:off + cs.length≤cur.size) (h1:∀ v ∈ cs,v.oneCell' = true)
  (h:K (a.put o.dst (goInt cs.length)) (w.setRow g (cur.toList.take off ++ (cs ++ cur.toList.drop (off + cs.length))).toArray)):o.wp P a w K Q:=by
 have hrun:=run_copy_row (P:=P) w dT sT o.type elem g off dLen dCap ad sLen sCap cur t cs hu hsz hg hn hsrc hfit h1
 unfold Oper.wp
 simp [execOp,ho,resolve,invoke,builtin,hd,hs,hrun,Result.andThen]
 exact h
theorem wp_copy_atC {P:Program} (w:World) {o:Oper} {a:Act} {K:Act→World→Prop} {Q:Exit→Act→World→Prop} (d s:Operand) (dT sT:TypeId)
  (ho:o.op = .call { callee:=.builtin .copy,args:=#[d,s],argTypes:=#[dT,sT] }) (elem:TypeId) (hu:P.underlying dT = some (.slice elem)) (hsz:(P.info? elem).map (·.size) = some 1)
  (g off n c:Nat) (dp:Option Addr) (ad:Addr) (m k:Nat) (hd:a.eval d = .slice dp n c) (hdp:n = 0∨dp = some ⟨g,off,none⟩) (hs:a.eval s = .slice (some ad) m k) (bs src:List UInt8) (T:TypeId) (hg:w.heap[g]? = some (.cells (bs.map B8).toArray T (0,0))) (hl:bs.length = off + n) (hS:Sl B8 w (some ad) m k src) (hm:1≤m)
  (h:∀ w',w'.heap[g]? = some (.cells ((bs.take off ++ (src.take n ++ bs.drop (off + (src.take n).length))).map B8).toArray T (0,0))→w.grownBy w' (some g)→K (a.put o.dst (goInt (src.take n).length)) w'):o.wp P a w K Q:=by
 have hml:=hS.len
 by_cases h0:n = 0
 ·subst h0
  have hrun:=run_copy_none (P:=P) w dT sT o.type elem dp (some ad) 0 c m k hu hsz (by simp)
  have:=h w (by simpa using hg) (World.grownBy.refl _ _)
  unfold Oper.wp
  simp [execOp,ho,resolve,invoke,builtin,hd,hs,hrun,Result.andThen]
  have h2:K (a.put o.dst (goInt 0)) w:=by simpa using this
  exact h2
 ·have e:dp = some ⟨g,off,none⟩:=by
   rcases hdp with h1 | h1
   ·exact absurd h1 h0
   ·exact h1
  subst e
  obtain ⟨b,o',e,-⟩:=hS.rs 0 (by omega)
  cases e
  have key:=wp_copy_rowC (K:=K) (Q:=Q) d s dT sT ho elem hu hsz g off n c ⟨b,o',none⟩ m k hd hs _ T hg ((src.take n).map B8) (by rw [List.length_map,List.length_take,hml,Nat.min_comm]) (fun j v hj=>by
   rw [List.getElem?_map,List.getElem?_take] at hj
   have hjl:j < n∧j < src.length:=by
    split at hj
    ·rename_i hjn
     refine ⟨hjn,?_⟩
     rcases Nat.lt_or_ge j src.length with g | g
     ·exact g
     ·rw [List.getElem?_eq_none g] at hj;cases hj
    ·cases hj
   obtain ⟨b2,o2,e,hc⟩:=hS.rs j hjl.2
   cases e
   rw [if_pos hjl.1,List.getElem?_eq_getElem hjl.2] at hj
   rw [Addr.add_lit,hc];exact hj) (by rw [List.length_map,List.length_take];simp;omega) (fun v hv=>by
   obtain ⟨y,_,rfl⟩:=List.mem_map.1 hv
   rfl)
  refine key ?_
  rw [List.length_map]
  refine h _ ?_ (grownBy_setRowC w g _)
  rw [hrs hg]
  congr 2
  simp
theorem told_start {l f:Nat} {T:Nat→Bool}:toldT l T = toldT l (fun x=>T x || decide (f≤x∧x < f + 0)):=toldT_congr (fun a _=>by
 have:¬ (f≤a∧a < f + 0):=by omega
 rw [decide_eq_false this,Bool.or_false])
theorem told_step {l f a0:Nat} {T:Nat→Bool}:(((toldT l (fun x=>T x || decide (f≤x∧x < f + a0))).map Value.bool).toArray).setIfInBounds (f + a0) (.bool true) = ((toldT l (fun x=>T x || decide (f≤x∧x < f + (a0 + 1)))).map Value.bool).toArray:=by
 rw [List.setIfInBounds_toArray,← List.map_set,toldT_set]
 congr 2
 refine toldT_congr (fun a _=>?_)
 rw [Bool.or_assoc]
 congr 1
 rw [← Bool.decide_or]
 exact decide_eq_decide.2 (by omega)
theorem told_end {l s f k z:Nat} {T:Nat→Bool} (hs:1≤s) (hf:f = k * s) (hz:z = min (l - f) s):toldT l (fun x=>T (x / s) || decide (f≤x∧x < f + z)) = toldT l (fun x=>(T (x / s) || decide (x / s = k))):=toldT_congr (fun a ha=>by
 congr 1
 by_cases h:k * s≤a∧a < k * s + s
 ·have e:=(div_eqC hs h.1 h.2).1
  rw [decide_eq_true e,decide_eq_true (by omega)]
 ·have e:=div_neC hs h
  rw [decide_eq_false e,decide_eq_false (by omega)])
theorem told_cell {l i:Nat} {T:Nat→Bool} (h:i < l):(((toldT l T).map Value.bool).toArray)[i]? = some (.bool (T i)):=by
 rw [List.getElem?_toArray,List.getElem?_map,toldT_at,if_pos h];rfl
theorem take_has {ks:List Nat} {j k:Nat} (h:ks[j]? = some k) (i:Nat):(ks.take (j + 1)).contains i = ((ks.take j).contains i || decide (i = k)):=by
 rw [List.take_add_one,h]
 simp [List.contains_eq_any_beq,Bool.beq_eq_decide_eq]
def CpC (T:TypeId) (gO:Nat) (bs:List UInt8) (W0 W:World):Prop:=W.heap[gO]? = some (.cells (bs.map B8).toArray T (0,0))∧W0.grownBy W (some gO)
def shC (gO l f s bm k z:Nat) (dp:Option Addr) (ad:Addr) (ck:Nat) (Ok:World→Prop):Nat→Value→World→Prop
 | 0,v,_=>v = .slice (some ⟨gO,0,none⟩) l l
 | 1,v,_=>v = .int .i64 (f:Int)
 | 2,v,_=>v = .slice dp (l - f) (l - f)
 | 3,v,_=>v = .map (some bm)
 | 4,v,_=>v = .int .i64 (k:Int)
 | 5,v,_=>v = .slice (some ad) s ck
 | 6,v,W=>v = .int .i64 (z:Int)∧Ok W
 | 7,v,_=>v = .int .i64 0
 | _ + 8,_,_=>True
end Go.By
namespace Go.Proofs.YtccaiiigdfieoaaGreatDoor
open Go.RowKit Go.By
theorem wrap_smallC {f:Nat} (h:f≤1000000):wrap64 (f:Int) = (f:Int):=by unfold wrap64;omega
set_option maxRecDepth 100000 in
theorem slice_atC (g l f:Nat) (hk:f≤l) (W:World):(Instr.sliceAt 22 (.slice (some ⟨g,0,none⟩) l l) (some (.int .i64 (f:Int))) none none).run Tryz.prog W = .ok (.slice (if l = f then some ⟨g,0,none⟩ else some ⟨g,f,none⟩) (l - f) (l - f)) W:=by
 have hel:Tryz.prog.underlying 22 = some (.slice (Tryz.prog.elem 22)):=by simp [Program.elem,Tryz.underlying22]
 rw [run_sliceAt_slice (h:=hel),run_slice_l (ht:=hel) (h0:=by omega) (h1:=by omega)]
 clear hel
 by_cases h:l = f
 ·rw [if_pos h];subst h;go_simp
 ·rw [if_neg h]
  have h2:(l:Nat)≠f:=h
  go_simp
theorem info_boolC:(Tryz.prog.info? 4).map (fun i=>(i.zero,i.size,i.bytes)) = some (some (.bool false),1,1):=by kernel_rfl
def VsS (m s:Nat) (S:Nat→Bool) (P:Nat→List UInt8) (vs:List Value) (W:World):Prop:=∀ i,i < m→S i = true→∃ ad c,vs.getD i undef = .slice (some ad) s c∧Sl B8 W (some ad) s c (P i)
theorem VsS.keep {m s:Nat} {S:Nat→Bool} {P:Nat→List UInt8} {vs:List Value} {W W':World} (h:VsS m s S P vs W) (hb:Below W.heap.size W W'):VsS m s S P vs W':=fun i hi hS=>by
 obtain ⟨ad,c,e,hs⟩:=h i hi hS
 exact ⟨ad,c,e,hs.keep hb⟩
theorem VsS.reads {m s:Nat} {S:Nat→Bool} {P:Nat→List UInt8} {vs:List Value} {W:World} (h:VsS m s S P vs W) (hs:1≤s):∀ j,j < m→S j = true→∃ y,slR (vs.getD j undef) = some y:=fun j hj hS=>by
 obtain ⟨ad,c,e,hsl⟩:=h j hj hS
 obtain ⟨b,o,e2,-⟩:=hsl.rs 0 (by have:=hsl.len;omega)
 cases e2
 rw [e];exact ⟨_,rfl⟩
set_option maxRecDepth 100000 in
set_option maxHeartbeats 8000000 in
theorem Fill_anyS (d:Int) (l s m bm cnt:Nat) (S:Nat→Bool) (P:Nat→List UInt8) (vs:List Value) (w:World) (hl2:l≤1000000) (hk:checkS l s m = 0) (hfit:∀ i:Nat,i < m→i * s≤l) (hlm:l≤m * s) (hc:cnt≤100000) (hM:MapC bm cnt m S vs w) (hV:VsS m s S P vs w) :
  Calls Tryz.prog 100 #[.agg #[.int .i64 (l:Int),.int .i64 (s:Int),.int .i64 (m:Int),.int .u32 d],.map (some bm)] w fun e w'=>∃ gO gT,e = .returned (.tuple #[.slice (some ⟨gO,0,none⟩) l l,.slice (some ⟨gT,0,none⟩) l l,.int .i64 0])∧w.heap.size≤gO∧w.heap.size≤gT∧w'.heap[gO]? = some (.cells ((objL l s P S).map B8).toArray 5 (0,0))∧w'.heap[gT]? = some (.cells ((toldT l (fun a=>S (a / s))).map Value.bool).toArray 4 (0,0))∧Below w.heap.size w w':=by
 obtain ⟨i0,hi0,hz0,hz1,hz2⟩:=info_parts info_u8
 obtain ⟨t0,ht0,htz,ht1,ht2⟩:=info_parts info_boolC
 obtain ⟨-,hs1,hs2,-,hm4⟩:=checkS_okC hk
 have HC:=Lib.hid (fun w=>Check_any l s m d w (by omega))
 rw [hk] at HC
 have hm5:m≤4096:=by omega
 have hs3:1≤s:=by omega
 have hs4:s≤65535:=by omega
 have HM:=Lib.hid hM;have HV:=Lib.hid hV;have HFT:=Lib.hid hfit;have HLM:=Lib.hid hlm
 have HVR:=Lib.hid (hV.reads hs3)
 have HM1:Hid (l≤maxLen):=by show l≤maxLen;unfold maxLen;omega
 have HM2:Hid (1 * l≤281474976710656):=by show 1 * l≤_;omega
 have HX:Hid (∀ o,(w.alloc o).heap[w.heap.size]? = some o):=fun o=>hnew rfl
 have HBA:Hid (∀ (W:World) o,Below W.heap.size W (W.alloc o)):=fun W o=>al (Below.refl _ _) (Nat.le_refl _)
 clear hk hfit hs1 hs2 hm4 hM hV hlm
 go_enter Tryz.func100,Tryz.ntmps100
 go_wp2_with fail
 refine Calls.mono (HC.out _) ?_
 rintro e w1 ⟨rfl,hb⟩
 have X1:Hid (w1.heap[w.heap.size]? = some (.cells #[.int .i64 (l:Int),.int .i64 (s:Int),.int .i64 (m:Int),.int .u32 d] 27 (0,0))):=(hb.block _ (lt_of_blk (HX.out _))).trans (HX.out _)
 have B1:Hid (Below w.heap.size w w1):=bl (HBA.out _ _) hb (by simp)
 obtain ⟨b0,hb0⟩:∃ b0,b0 = w.heap.size:=⟨_,rfl⟩
 have HB0:=Lib.hid hb0
 rw [← hb0] at X1 ⊢
 clear hb HX hb0
 go_wp2_with fail
 refine Calls.mono (KeysC_any bm _) ?_
 rintro e w' ⟨rfl,rfl⟩
 go_wp2_with fail
 refine Calls.mono (SortedC_any bm cnt m _ S vs _ (HM.out.keep (bl B1.out (HBA.out _ _) B1.out.size)) (hnew rfl) hc) ?_
 rintro e w2 ⟨q,n,c,ks,rfl,hks,hmem,hb⟩
 have B2:Hid (Below w.heap.size w w2):=bl (bl B1.out (HBA.out _ _) B1.out.size) hb (by have:=B1.out.size;simp;omega)
 have X2:Hid (w2.heap[b0]? = some (.cells #[.int .i64 (l:Int),.int .i64 (s:Int),.int .i64 (m:Int),.int .u32 d] 27 (0,0))):=by
  have h1:=hal (o:=.cells #[.map (some bm)] 178) X1.out
  exact (hb.block _ (lt_of_blk h1)).trans h1
 have hnb:=hks.bound
 have HKS:=Lib.hid hks;have HME:=Lib.hid hmem
 have HKN:Hid (ks.length = n):=by have:=hks.len;rw [List.length_map] at this;exact this
 clear hb hks hmem X1 B1
 obtain ⟨p0,p1,p2,p3⟩:=cells4 X2.out
 have HLK:Hid (∀ k,k < m→S k = true→∃ ad c,(∀ W,Below w.heap.size w W→(Instr.lookup 178 (.map (some bm)) (.int .i64 (k:Int)) false).run Tryz.prog W = .ok (.slice (some ad) s c) W)∧Sl B8 w (some ad) s c (P k)):=fun k hk hS=>by
  obtain ⟨ad,c,e,hsl⟩:=HV.out k hk hS
  refine ⟨ad,c,fun W hW=>?_,hsl⟩
  have hr:=(HM.out.keep hW).look hk (by omega) (HVR.out k hk) false
  rw [if_pos hS,if_neg (by decide),e] at hr
  exact hr
 go_wp2
 go_loop [27] (fun i=>∃ j:Nat,j≤n∧i = .int .i64 (j:Int)) (fun i=>n - (intOf i).toNat)
 case atStart=>exact ⟨0,Nat.zero_le _,rfl⟩
 case round =>
  obtain ⟨j,hj,rfl⟩:=hrel
  by_cases hlt:j < n
  ·obtain ⟨b,o,x,rfl,hcell,hx⟩:=HKS.out.at j hlt
   obtain ⟨k,hk⟩:∃ k,ks[j]? = some k:=⟨ks[j]'(by have:=HKN.out;omega),List.getElem?_eq_getElem _⟩
   have hxk:x = (k:Int):=by
    have:=hx.out
    rw [List.getElem?_map,hk] at this
    exact (Option.some.inj this).symm
   subst hxk
   have hcell':w2.cell? ⟨b,o + j,none⟩ = some (.int .i64 (k:Int)):=hcell
   obtain ⟨hkm,hkS⟩:=(HME.out k).1 (List.mem_of_getElem? hk)
   obtain ⟨ad,ck,hrun,-⟩:=HLK.out k hkm hkS
   have hlk:=hrun w2 B2.out
   have hkm':¬ (m:Int)≤(k:Int):=by omega
   have hlt':(j:Int) < (n:Int):=by omega
   clear hcell hrun hkS hk hx hlt hkm
   go_wp2_with (first | simp only [hlk] | fail)
   go_round
   case rel=>exact ⟨j + 1,by omega,by go_num⟩
   case measure=>simp [intOf];omega
  ·have hge:¬ (j:Int) < (n:Int):=by omega
   clear hlt
   go_wp2_with (at_make;refine wpList_make_full _ rfl _ _ 22 rfl w2.heap.size 5 i0 (.int .u8 0) 1 Tryz.underlying22 hi0 hz0 hz1 .i64 .i64 _ _ l rfl rfl rfl rfl (by rw [hz2];exact HM2.out) HM1.out (Nat.le_refl _) ?_)
   intro w3 ho hg
   have O3:Hid (w3.heap[w2.heap.size]? = some (.cells ((objL l s P (fun _=>false)).map B8).toArray 5 (0,0))):=by
    have e:(madeCells #[Value.int .u8 0] l).toList = List.replicate l (B8 0):=toList_madeCells_one _ _
    rw [e] at ho
    have e2:=objL_zero l s P
    show _ = _
    rw [e2];exact heap_of_ownsC ho
   have B3:Hid (Below w2.heap.size w2 w3):=(Below.refl _ _).grown hg (Nat.le_refl _) (by simp)
   have X3:Hid (w3.heap[b0]? = some (.cells #[.int .i64 (l:Int),.int .i64 (s:Int),.int .i64 (m:Int),.int .u32 d] 27 (0,0))):=(B3.out.block _ (lt_of_blk X2.out)).trans X2.out
   have hgO:w2.heap.size < w3.heap.size:=lt_of_blk O3.out
   clear ho hg p0 p1 p2 p3
   obtain ⟨p0,p1,p2,p3⟩:=cells4 X3.out
   go_wp2_with (at_make;refine wpList_make_full _ rfl _ _ 67 rfl w3.heap.size 4 t0 (.bool false) 1 Tryz.underlying67 ht0 htz ht1 .i64 .i64 _ _ l rfl rfl rfl rfl (by rw [ht2];exact HM2.out) HM1.out (Nat.le_refl _) ?_)
   intro w4 ho hg
   have T4:Hid (w4.heap[w3.heap.size]? = some (.cells ((toldT l (fun _=>false)).map Value.bool).toArray 4 (0,0))):=by
    have e:(madeCells #[Value.bool false] l).toList = List.replicate l (Value.bool false):=toList_madeCells_one _ _
    rw [e] at ho
    have e2:=toldT_zero l
    show _ = _
    rw [e2];exact heap_of_ownsC ho
   have O4:Hid (w4.heap[w2.heap.size]? = some (.cells ((objL l s P (fun _=>false)).map B8).toArray 5 (0,0))):=(hg.block _ (lt_of_blk O3.out) (by simp)).trans O3.out
   have B4:Hid (Below w2.heap.size w2 w4):=B3.out.grown hg B3.out.size (by simp)
   have hwo:Hid (w.heap.size≤w2.heap.size):=B2.out.size
   clear ho hg p0 p1 p2 p3 X3 O3 B3
   obtain ⟨gO,hgOe⟩:∃ gO,gO = w2.heap.size:=⟨_,rfl⟩
   obtain ⟨gT,hgTe⟩:∃ gT,gT = w3.heap.size:=⟨_,rfl⟩
   rw [← hgOe] at hgO O4 hwo ⊢
   rw [← hgTe] at hgO T4 ⊢
   have HGO:=Lib.hid hgOe
   have HB5:Hid (∀ W,Below w2.heap.size w2 W→Below w.heap.size w W):=fun W h=>bl B2.out h B2.out.size
   have HX5:Hid (∀ W,Below w2.heap.size w2 W→W.heap[b0]? = some (.cells #[.int .i64 (l:Int),.int .i64 (s:Int),.int .i64 (m:Int),.int .u32 d] 27 (0,0))):=fun W h=>(h.block _ (lt_of_blk X2.out)).trans X2.out
   clear hgOe hgTe X2 B2
   go_wp2
   go_loopw [55] (fun i wr=>∃ j:Nat,j≤j∧j≤ks.length∧i = .int .i64 (j:Int)∧Hid (wr.heap[gO]? = some (.cells ((objL l s P (fun i=>(ks.take j).contains i)).map B8).toArray 5 (0,0)))∧Hid (wr.heap[gT]? = some (.cells ((toldT l (fun a=>(ks.take j).contains (a / s))).map Value.bool).toArray 4 (0,0)))∧Hid (Below w2.heap.size w2 wr)) (fun i _=>ks.length - (intOf i).toNat)
   case atStart=>exact ⟨0,Nat.le_refl _,Nat.zero_le _,rfl,O4.out,T4.out,B4.out⟩
   case round =>
    obtain ⟨j',-,hj',rfl,hO,hT,hB⟩:=hrel
    by_cases hlt:j' < ks.length
    ·obtain ⟨b,o,x,rfl,hcell,hx⟩:=(HKS.out.keep hB.out).at j' (by have:=HKN.out;omega)
     obtain ⟨k,hk⟩:∃ k,ks[j']? = some k:=⟨ks[j'],List.getElem?_eq_getElem _⟩
     have hxk:x = (k:Int):=by
      have:=hx.out
      rw [List.getElem?_map,hk] at this
      exact (Option.some.inj this).symm
     subst hxk
     have hcell':wr.cell? ⟨b,o + j',none⟩ = some (.int .i64 (k:Int)):=hcell
     obtain ⟨hkm,hkS⟩:=(HME.out k).1 (List.mem_of_getElem? hk)
     obtain ⟨ad,ck,hrun,hsl⟩:=HLK.out k hkm hkS
     have HSL:=Lib.hid (hsl.keep (HB5.out _ hB.out))
     have HK:=Lib.hid hk
     obtain ⟨p0,p1,p2,p3⟩:=cells4 (HX5.out _ hB.out)
     have hfk:=HFT.out k hkm
     obtain ⟨f,hf⟩:∃ f,f = k * s:=⟨_,rfl⟩
     have hfi:(k:Int) * (s:Int) = (f:Int):=by rw [hf];simp
     have hfl:f≤l:=by omega
     have hfl':(f:Int)≤(l:Int):=by omega
     have hlt':(j':Int) < (n:Int):=by have:=HKN.out;omega
     have HF:=Lib.hid hf
     have HRUN:=Lib.hid hrun
     have HW3:=Lib.hid (wrap_smallC (show f≤1000000 from Nat.le_trans hfl hl2))
     clear hcell hrun hkS hk hx hlt hsl hf hfk hkm
     go_wp2_with fail
     obtain ⟨dp,hdp⟩:∃ dp:Option Addr,dp = if l = f then some ⟨gO,0,none⟩ else some ⟨gO,f,none⟩:=⟨_,rfl⟩
     have hsl2:=slice_atC gO l f hfl
     rw [← hdp] at hsl2
     have hdp2:l - f = 0∨dp = some ⟨gO,f,none⟩:=by
      by_cases h:l = f
      ·exact .inl (by rw [h,Nat.sub_self])
      ·exact .inr (by rw [hdp,if_neg h])
     obtain ⟨z,hz⟩:∃ z,z = ((P k).take (l - f)).length:=⟨_,rfl⟩
     have hBd:Below w2.heap.size w2 wr.drew:=⟨hB.out.os,hB.out.tape,hB.out.output,hB.out.size,hB.out.block⟩
     have HSP:=Lib.hid (objL_splice (A:=fun i=>(ks.take j').contains i) (P:=P) hs3 (show k * s≤l by rw [← HF.out];exact hfl) HSL.out.len)
     rw [← HF.out] at HSP
     obtain ⟨OB,hOB⟩:∃ OB,OB = objL l s P (fun i=>(ks.take j').contains i || decide (i = k)):=⟨_,rfl⟩
     have HOB:=Lib.hid hOB
     rw [← hOB] at HSP
     have hGO:=HGO.out
     have hwo2:=HB5
     clear hOB hdp
     refine wp_region_dones (fun dn W=>if dn 6 = true then CpC 5 gO OB wr W else W = wr.drew) (fun i W W'=>if i = 6 then CpC 5 gO OB wr W' else W' = W) (shC gO l f s bm k z dp ad ck (CpC 5 gO OB wr)) 82 rfl (by kernel_rfl) (by decide) (by decide) (by decide) rfl ?er ?kp ?each ?fin
     case er =>
      intro dn i w5 w6 hdn hE hR
      by_cases h6:i = 6
      ·subst h6;simpa using hR
      ·simp only [h6,if_false] at hR
       subst hR
       simp only [h6,if_false]
       exact hE
     case kp =>
      intro i j v w5 w6 hij hp hs hR
      match j,hij,hs with
      | 0,_,hs=>exact hs
      | 1,_,hs=>exact hs
      | 2,_,hs=>exact hs
      | 3,_,hs=>exact hs
      | 4,_,hs=>exact hs
      | 5,_,hs=>exact hs
      | 6,hij,hs =>
       simp only [hij,if_false] at hR
       subst hR;exact hs
      | 7,_,hs=>exact hs
      | j + 8,_,_=>exact trivial
     case each =>
      refine ⟨?_,?_,?_,?_,?_,?_,?_,?_,trivial⟩
      ·intro a W dn hdn hE hs hp hi
       exact ite_y rfl (wp_val (sl a 11) rfl ⟨_,rfl,by simp,hi 11 (by decide)⟩)
      ·intro a W dn hdn hE hs hp hi
       exact ite_y rfl (wp_val (sl a 15) rfl ⟨_,rfl,by simp,hi 15 (by decide)⟩)
      ·intro a W dn hdn hE hs hp hi
       have u0:sl a 63 = .slice (some ⟨gO,0,none⟩) l l:=hp 0 (by decide)
       have u1:sl a 64 = .int .i64 (f:Int):=hp 1 (by decide)
       refine ite_y rfl (wp_val (.slice dp (l - f) (l - f)) ?_ ⟨_,rfl,by simp,rfl⟩)
       simp only [execOp,Option.map,eval_tmp,u0,u1,Sem.run_bind]
       rw [hsl2];rfl
      ·intro a W dn hdn hE hs hp hi
       exact ite_y rfl (wp_val (sl a 1) rfl ⟨_,rfl,by simp,hi 1 (by decide)⟩)
      ·intro a W dn hdn hE hs hp hi
       exact ite_y rfl (wp_val (sl a 14) rfl ⟨_,rfl,by simp,hi 14 (by decide)⟩)
      ·intro a W dn hdn hE hs hp hi
       have u3:sl a 66 = .map (some bm):=hp 3 (by decide)
       have u4:sl a 67 = .int .i64 (k:Int):=hp 4 (by decide)
       have hBW:Below w2.heap.size w2 W:=by
        by_cases h6:dn 6 = true
        ·rw [if_pos h6] at hE
         exact hB.out.grown hE.2 hB.out.size (fun r hr=>by cases hr;omega)
        ·rw [if_neg h6] at hE
         subst hE;exact hBd
       have hl3:=HRUN.out W (HB5.out _ hBW)
       refine ite_y rfl (wp_val (.slice (some ad) s ck) ?_ ⟨_,rfl,by simp,rfl⟩)
       simp only [execOp,eval_tmp,u3,u4,Sem.run_bind]
       rw [hl3];rfl
      ·intro a W dn hdn hE hs hp hi
       have u2:sl a 65 = .slice dp (l - f) (l - f):=hp 2 (by decide)
       have u5:sl a 68 = .slice (some ad) s ck:=hp 5 (by decide)
       rw [if_neg (by rw [hdn];decide)] at hE
       subst hE
       refine ite_y rfl (wp_copy_atC _ (.tmp 65) (.tmp 68) 22 22 rfl 5 Tryz.underlying22 (by kernel_rfl) gO f (l - f) (l - f) dp ad s ck u2 hdp2 u5 (objL l s P (fun i=>(ks.take j').contains i)) (P k) 5 hO.out (by rw [objL_len,Nat.add_sub_cancel' hfl]) ⟨HSL.out.len,HSL.out.le,HSL.out.max,HSL.out.nil,HSL.out.rs⟩ hs3 ?_)
       intro w' hh hg
       rw [HSP.out] at hh
       have hok:CpC 5 gO OB wr w':=⟨hh,⟨hg.os,hg.tape,hg.output,hg.size,hg.block⟩⟩
       refine ⟨_,rfl,by simp;exact hok,?_,hok⟩
       rw [hz];rfl
      ·intro a W dn hdn hE hs hp hi
       exact ite_y rfl (wp_val (.int .i64 0) rfl ⟨_,rfl,by simp,rfl⟩)
     case fin =>
      intro a W dn hE hs hd hI ht
      have ha:=act_is [63,64,65,66,67,68,69,70] hs hd ht (by decide)
      obtain ⟨u6,hok⟩:sl a 69 = .int .i64 (z:Int)∧CpC 5 gO OB wr W:=hI 6 (by decide)
      have u7:sl a 70 = .int .i64 0:=hI 7 (by decide)
      simp only [List.foldl,u6,u7] at ha
      generalize sl a 63 = v63 at ha
      generalize sl a 64 = v64 at ha
      generalize sl a 65 = v65 at ha
      generalize sl a 66 = v66 at ha
      generalize sl a 67 = v67 at ha
      generalize sl a 68 = v68 at ha
      simp only [Act.put,List.setIfInBounds_toArray,List.set_cons_zero,List.set_cons_succ] at ha
      rw [ha]
      have hB5:Hid (Below w2.heap.size w2 W):=hB.out.grown hok.2 hB.out.size (fun r hr=>by cases hr;exact Nat.le_of_eq hGO.symm)
      have hT5:Hid (W.heap[gT]? = some (.cells ((toldT l (fun a=>(ks.take j').contains (a / s))).map Value.bool).toArray 4 (0,0))):=(hok.2.block _ (lt_of_blk hT.out) (by intro e;cases e;exact Nat.lt_irrefl _ hgO)).trans hT.out
      have hO5:=Lib.hid hok.1
      have hzl:z≤l - f:=by rw [hz,List.length_take];exact Nat.min_le_left _ _
      have hzm:Hid (z = min (l - f) s):=by show _ = _;rw [hz,List.length_take,HSL.out.len]
      clear ha hI ht hE hs hd hok hz hO hT hB hBd hdp2 hsl2 u6 u7 hcell' p0 p1 p2 p3 HSP HSL HRUN hwo2
      go_wp2
      go_loopw [70] (fun i wz=>∃ a0:Nat,a0≤z∧i = .int .i64 (a0:Int)∧Hid (wz.heap[gT]? = some (.cells ((toldT l (fun x=>(ks.take j').contains (x / s) || decide (f≤x∧x < f + a0))).map Value.bool).toArray 4 (0,0)))∧Hid (wz.heap[gO]? = some (.cells (OB.map B8).toArray 5 (0,0)))∧Hid (Below w2.heap.size w2 wz)) (fun i _=>z - (intOf i).toNat)
      case atStart=>exact ⟨0,Nat.zero_le _,rfl,by have:=hT5.out;rw [told_start (f:=f)] at this;exact this,hO5.out,hB5.out⟩
      case round =>
       obtain ⟨a0,ha0,rfl,hT6,hO6,hB6⟩:=hrel
       by_cases hlz:a0 < z
       ·have hia:f + a0 < l:=by omega
        have hlz':(a0:Int) < (z:Int):=by omega
        have hil:(f:Int) + (a0:Int) < (l:Int):=by omega
        have hi0:(0:Int)≤(f:Int) + (a0:Int):=by omega
        have hfa:((f:Int) + (a0:Int)).toNat = f + a0:=by omega
        obtain ⟨bv,g0⟩:∃ bv,wr.cell? ⟨gT,f + a0,none⟩ = some (.bool bv):=⟨_,by rw [cell_of_row _ _ _ _ _ _ hT6.out];exact told_cell hia⟩
        have g1:wr.frozen? ⟨gT,f + a0,none⟩ = false:=frozen_of_row _ _ _ _ _ hT6.out
        have T7:Hid ((wr.setCell ⟨gT,f + a0,none⟩ (.bool true)).heap[gT]? = some (.cells ((toldT l (fun x=>(ks.take j').contains (x / s) || decide (f≤x∧x < f + (a0 + 1)))).map Value.bool).toArray 4 (0,0))):=by
         have:=hss (i:=f + a0) (v:=.bool true) hT6.out
         rw [told_step] at this;exact this
        have O7:Hid ((wr.setCell ⟨gT,f + a0,none⟩ (.bool true)).heap[gO]? = some (.cells (OB.map B8).toArray 5 (0,0))):=hsc hO6.out (Nat.ne_of_lt hgO)
        have B7:Hid (Below w2.heap.size w2 (wr.setCell ⟨gT,f + a0,none⟩ (.bool true))):=hB6.out.setCell (by rw [← hGO];exact Nat.le_of_lt hgO) _
        clear hT6 hO6 hB6 hlz
        go_wp2
        go_roundw
        case rel=>exact ⟨a0 + 1,by omega,by go_num,T7.out,O7.out,B7.out⟩
        case measure=>simp [intOf];omega
       ·obtain rfl:a0 = z:=by omega
        have O8:Hid (wr.heap[gO]? = some (.cells ((objL l s P (fun i=>(ks.take (j' + 1)).contains i)).map B8).toArray 5 (0,0))):=by
         have e:(fun i=>(ks.take (j' + 1)).contains i) = fun i=>(ks.take j').contains i || decide (i = k):=funext (take_has HK.out)
         show _ = _
         rw [e,← HOB.out];exact hO6.out
        have T8:Hid (wr.heap[gT]? = some (.cells ((toldT l (fun a=>(ks.take (j' + 1)).contains (a / s))).map Value.bool).toArray 4 (0,0))):=by
         have h:=hT6.out
         rw [told_end (T:=fun i=>(ks.take j').contains i) hs3 HF.out hzm.out] at h
         have e:(fun a=>(ks.take (j' + 1)).contains (a / s)) = fun a=>((ks.take j').contains (a / s) || decide (a / s = k)):=funext (fun a=>take_has HK.out (a / s))
         show _ = _
         rw [e];exact h
        have hjl:j' + 1≤ks.length:=(List.getElem?_eq_some_iff.1 HK.out).1
        clear hT6 hO6 hlz
        go_wp2
        go_roundw
        case rel=>exact ⟨j' + 1,Nat.le_refl _,hjl,by go_num,O8.out,T8.out,hB6.out⟩
        case measure=>simp [intOf];omega
    ·have hjk:j' = ks.length:=by omega
     have hge2:¬ (j':Int) < (n:Int):=by have:=HKN.out;omega
     have hS:∀ a,a < l→(ks.take j').contains (a / s) = S (a / s):=fun a ha=>by
      rw [hjk,List.take_length]
      have hd:a / s < m:=(Nat.div_lt_iff_lt_mul (by omega)).2 (Nat.lt_of_lt_of_le ha HLM.out)
      cases hs:S (a / s) with
      | true=>exact List.contains_iff_mem.2 ((HME.out _).2 ⟨hd,hs⟩)
      | false =>
       cases hcn:ks.contains (a / s) with
       | false=>rfl
       | true =>
        have:=((HME.out _).1 (List.contains_iff_mem.1 hcn)).2
        rw [hs] at this;cases this
     have O9:Hid (wr.heap[gO]? = some (.cells ((objL l s P S).map B8).toArray 5 (0,0))):=by
      have h:=hO.out
      rw [objL_congr (B:=S) hS] at h;exact h
     have T9:Hid (wr.heap[gT]? = some (.cells ((toldT l (fun a=>S (a / s))).map Value.bool).toArray 4 (0,0))):=by
      have h:=hT.out
      rw [toldT_congr hS] at h;exact h
     have hgT2:w.heap.size≤gT:=Nat.le_trans hwo.out (Nat.le_of_lt hgO)
     have hB9:=HB5.out _ hB.out
     have HB9:=Lib.hid hB9
     clear hS hO hT hlt hB9
     go_wp2
     go_ret3
     exact ⟨gO,gT,rfl,hwo.out,hgT2,O9.out,T9.out,HB9.out⟩
end Go.Proofs.YtccaiiigdfieoaaGreatDoor
namespace Go.Proofs.YtccaiiigdfieoaaGreatDoor
open Go.RowKit Go.By Go.Maps
theorem Sl.grownM {α:Type} {enc:α→Value} {w w':World} {bm n c:Nat} {q:Option Addr} {xs:List α} {es:Array MapEntry} {ck:Nat} (h:Sl enc w q n c xs) (hg:w.grownBy w' (some bm)) (hm:w.heap[bm]? = some (.map es ck)):Sl enc w' q n c xs :=
 ⟨h.len,h.le,h.max,h.nil,fun i hi=>by
  obtain ⟨b,o,e,hc⟩:=h.rs i hi
  refine ⟨b,o,e,?_⟩
  rw [World.cell?_of_block (w:=w) (hg.block b (lt_of_cell hc) (by intro e1;cases e1;unfold World.cell? at hc;simp only [hm] at hc;cases hc))]
  exact hc⟩
def knS (k:Nat) (K:List Rw) (i:Nat):Bool:=(knownS k K i).2
def knP (k:Nat) (K:List Rw) (i:Nat):List UInt8:=(knownS k K i).1
theorem knP_len {k t:Nat} {K:List Rw} (hf:∀ r,r ∈ K→r.2.length = t) {i:Nat} (h:knS k K i = true):(knP k K i).length = t:=by
 unfold knS at h;unfold knP
 unfold knownS at h ⊢
 split at h
 ·cases h
 ·rename_i hu
  rw [if_neg hu]
  split at h
  ·rename_i r hr
   exact hf r (List.mem_of_find?_eq_some hr)
  ·cases h
def knB (k:Nat) (K:List Rw) (j i:Nat):Bool:=decide (i < j) && knS k K i
theorem knB_zero (k:Nat) (K:List Rw):knB k K 0 = fun _=>false:=by funext i;simp [knB]
theorem knB_yes {k:Nat} {K:List Rw} {j:Nat} (h:knS k K j = true):knB k K (j + 1) = fun i=>knB k K j i || decide (i = j):=by
 funext i
 unfold knB
 by_cases h1:i < j
 ·simp [h1,show i < j + 1 by omega,show i≠j by omega]
 ·by_cases h2:i = j
  ·subst h2;simp [h]
  ·simp [h1,h2,show ¬ i < j + 1 by omega]
theorem knB_no {k:Nat} {K:List Rw} {j:Nat} (h:knS k K j = false):knB k K (j + 1) = knB k K j:=by
 funext i
 unfold knB
 by_cases h1:i < j
 ·simp [h1,show i < j + 1 by omega]
 ·by_cases h2:i = j
  ·subst h2;simp [h]
  ·simp [h1,show ¬ i < j + 1 by omega]
structure SomeL (k t:Nat) (K:List Rw) (bm j:Nat) (vs:List Value) (W:World):Prop where
 map:MapC bm j k (knB k K j) vs W
 vals:VsS k t (knB k K j) (knP k K) vs W
 len:vs.length = j
theorem getD_snoc_lt {vs:List Value} {v:Value} {i:Nat} (h:i < vs.length):(vs ++ [v]).getD i undef = vs.getD i undef:=by
 rw [List.getD_eq_getElem?_getD,List.getD_eq_getElem?_getD,List.getElem?_append_left h]
theorem getD_snoc_eq {vs:List Value} {v:Value}:(vs ++ [v]).getD vs.length undef = v:=by
 rw [List.getD_eq_getElem?_getD];simp
set_option maxRecDepth 100000 in
set_option maxHeartbeats 2000000 in
theorem TSome_any (base gt be L t k D N:Nat) (M v:Value) (C:DataW Unit) (K:List Rw) (st:Nat) (w:World) (h:Tkr w base gt be L t k D N M v C K st) (hL:L≤1000000) (hfit:∀ i:Nat,i < k→i * t≤L) (hlm:L≤k * t) :
  Calls Tryz.prog 48 #[.pointer (some ⟨gt,0,none⟩)] w fun e w'=>∃ gO gT,e = .returned (.tuple #[.slice (some ⟨gO,0,none⟩) L L,.slice (some ⟨gT,0,none⟩) L L])∧w.heap.size≤gO∧w.heap.size≤gT∧w'.heap[gO]? = some (.cells ((objL L t (knP k K) (knS k K)).map B8).toArray 5 (0,0))∧w'.heap[gT]? = some (.cells ((toldT L (fun a=>knS k K (a / t))).map Value.bool).toArray 4 (0,0))∧Below w.heap.size w w':=by
 have H:=Lib.hid h
 have hl:=Red.le h.red
 have hk2:=h.ok.k2
 have ht1:=h.ok.t1
 have ht2:=h.ok.t2
 have hR:=h.red
 have HRL:Hid (∀ r,r ∈ K→r.2.length = t):=fun r hr=>(hR.kept.rows r hr).1.2
 have HKN:Hid (∀ (i:Nat) W,Below w.heap.size w W→Calls Tryz.prog 99 #[.pointer (some ⟨be,0,none⟩),.int .i64 (i:Nat)] W (RetK2 W (knownS k K i))):=fun i W hW=>Known_any base be k t K.length v K i W (h.elm.keep hW) (fun r hr=>by rw [HRL.out r hr];omega)
 have HFI:Hid (∀ bm cnt S vs W,cnt≤100000→MapC bm cnt k S vs W→VsS k t S (knP k K) vs W→Calls Tryz.prog 100 #[PVal L t k D,.map (some bm)] W fun e w'=>∃ gO gT,e = .returned (.tuple #[.slice (some ⟨gO,0,none⟩) L L,.slice (some ⟨gT,0,none⟩) L L,.int .i64 0])∧W.heap.size≤gO∧W.heap.size≤gT∧w'.heap[gO]? = some (.cells ((objL L t (knP k K) S).map B8).toArray 5 (0,0))∧w'.heap[gT]? = some (.cells ((toldT L (fun a=>S (a / t))).map Value.bool).toArray 4 (0,0))∧Below W.heap.size W w'):=fun bm cnt S vs W hc h1 h2=>Fill_anyS D L t k bm cnt S (knP k K) vs W hL h.ok.chk hfit hlm hc h1 h2
 have HLM:Hid (∀ a,a < L→a / t < k):=fun a ha=>(Nat.div_lt_iff_lt_mul (by omega)).2 (Nat.lt_of_lt_of_le ha hlm)
 have HT1:=Lib.hid ht1
 clear h hl hL hfit hlm hR ht1 ht2
 go_enter Tryz.func48,Tryz.ntmps48
 obtain ⟨c0,c1,c2,c3,c4,c5,c6⟩:=cells_seven H.out.box
 have HK2:=Lib.hid hk2
 have hmm:=run_makeMap (P:=Tryz.prog) 178 w
 have a2:∀ o',(w.alloc o').cell? ⟨gt,2,none⟩ = _:=fun _=>calloc c2
 go_wp2_with (simp only [hmm])
 clear hmm a2
 obtain ⟨bm,hbm⟩:∃ bm,bm = w.heap.size:=⟨_,rfl⟩
 have HS0:Hid (SomeL k t K bm 0 [] (w.alloc (.map #[] 0))):=by
  refine ⟨?_,fun i hi hS=>?_,rfl⟩
  ·rw [hbm,knB_zero];exact MapC.made
  ·rw [knB_zero] at hS;cases hS
 have HBM:Hid (w.heap.size≤bm):=Nat.le_of_eq hbm.symm
 rw [← hbm]
 clear hbm
 go_loopw [20] (fun i wr=>∃ (j:Nat) (vs:List Value),j≤k∧i = .int .i64 (j:Nat)∧Hid (SomeL k t K bm j vs wr)∧Hid (Below w.heap.size w wr)) (fun i _=>k - (intOf i).toNat)
 case atStart=>exact ⟨0,[],Nat.zero_le _,rfl,HS0.out,al (Below.refl _ _) (Nat.le_refl _)⟩
 case round =>
  obtain ⟨j,vs,hj,rfl,HS,HB⟩:=hrel
  clear c0 c1 c2 c3 c4 c5 c6 HS0
  obtain ⟨c0,c1,c2,c3,c4,c5,c6⟩:=cells_seven ((HB.out.block _ (lt_of_block H.out.box)).trans H.out.box)
  by_cases hlt:j < k
  ·have hlt':(j:Int) < (k:Int):=by omega
   have HLT:=Lib.hid hlt
   clear hlt
   go_wp2_with fail
   refine Calls.mono (HKN.out j _ HB.out) ?_
   rintro e w3 ⟨q,m,c,rfl,hs,hb⟩
   have HB3:=Lib.hid (bl HB.out hb HB.out.size)
   have hm3:=HS.out.map.keep hb
   have hv3:=HS.out.vals.keep hb
   have hl3:=HS.out.len
   have HKS:Hid (Sl B8 w3 q m c (knP k K j)):=hs
   have HJ:Hid (j < maxLen):=by have:=HLT.out;have:=HK2.out;show j < maxLen;unfold maxLen;omega
   have hmc:MapC bm j k (knB k K j) (vs ++ [.slice q m c]) w3:=hm3.congr (fun i hi hS=>by
    have:i < j:=by unfold knB at hS;simp at hS;exact hS.1
    exact (getD_snoc_lt (by omega)).symm)
   obtain ⟨es,ho,hO⟩:=hmc
   have HO:=Lib.hid ho
   have HOO:=Lib.hid hO
   have HV3:=Lib.hid hv3
   have HL3:=Lib.hid hl3
   clear hs hb hm3 hv3 hl3 ho hO HS HB c0 c1 c2 c3 c4 c5 c6
   by_cases hk:knS k K j = true
   ·have hk':(knownS k K j).2 = true:=hk
    have HKY:=Lib.hid hk
    have hn:m = t:=by rw [← HKS.out.len];exact knP_len HRL.out hk
    subst hn
    obtain ⟨gq,oq,rfl,-⟩:=HKS.out.has HT1.out
    have hsr:slR (.slice (some ⟨gq,oq,none⟩) m c) = some (.agg [.lit (.int .i64 gq),.lit (.int .i64 oq),.lit (.int .i64 m),.lit (.int .i64 c)],[]):=rfl
    have hky:=keyC j (by have:=HLT.out;have:=HK2.out;omega)
    clear hk
    rw [hk']
    clear hk'
    go_wp2_with (at_mapUpdate;refine wpList_mapUpdate_own _ rfl _ _ _ 178 rfl 3 22 keyedC Tryz.underlying178 slR bm j (.map es) rfl HO.out HJ.out _ _ (.int .i64 (j:Nat)) rfl rfl hky _ [] hsr ?_)
    intro w5 hown5 hg5
    have HM5:Hid (SomeL k m K bm (j + 1) (vs ++ [.slice (some ⟨gq,oq,none⟩) m c]) w5):=by
     have eL:(vs ++ [Value.slice (some ⟨gq,oq,none⟩) m c]).getD j undef = .slice (some ⟨gq,oq,none⟩) m c:=by have:=getD_snoc_eq (vs:=vs) (v:=.slice (some ⟨gq,oq,none⟩) m c);rwa [HL3.out] at this
     obtain ⟨eM,ckM,hmb,-⟩:=HO.out
     refine ⟨?_,?_,by simp [HL3.out]⟩
     ·rw [DataW.put_eq] at hown5
      rw [knB_yes HKY.out]
      refine ⟨_,hown5,?_⟩
      have h2:=HOO.out.put HLT.out
      rw [eL] at h2
      exact h2
     ·intro i hi hS
      by_cases hij:i = j
      ·subst hij
       rw [eL]
       exact ⟨_,c,rfl,Sl.grownM HKS.out hg5 hmb⟩
      ·have hS2:knB k K j i = true:=by rw [knB_yes HKY.out] at hS;simpa [hij] using hS
       have hlt2:i < j:=by unfold knB at hS2;simp at hS2;exact hS2.1
       obtain ⟨ad,c',e',hsl⟩:=HV3.out i hi hS2
       rw [getD_snoc_lt (by have:=HL3.out;omega)]
       exact ⟨ad,c',e',Sl.grownM hsl hg5 hmb⟩
    have HB5:Hid (Below w.heap.size w w5):=HB3.out.grown hg5 HB3.out.size (fun r hr=>by cases hr;exact HBM.out)
    clear hown5 hg5
    go_wp2
    go_roundw
    case rel=>exact ⟨j + 1,_,by have:=HLT.out;omega,by go_num,HM5.out,HB5.out⟩
    case measure=>simp [intOf];have:=HLT.out;omega
   ·have hk':(knownS k K j).2 = false:=by cases h:(knownS k K j).2 with
     | false=>rfl
     | true=>exact absurd h hk
    have HM5:Hid (SomeL k t K bm (j + 1) (vs ++ [.slice q m c]) w3):=by
     have hk2:knS k K j = false:=hk'
     refine ⟨?_,?_,by simp [HL3.out]⟩
     ·rw [knB_no hk2];exact ⟨es,HO.out.mono (by omega),HOO.out⟩
     ·rw [knB_no hk2]
      intro i hi hS
      have hij:i < j:=by unfold knB at hS;simp at hS;exact hS.1
      rw [getD_snoc_lt (by have:=HL3.out;omega)]
      exact HV3.out i hi hS
    clear hk
    rw [hk']
    clear hk'
    go_wp2
    go_roundw
    case rel=>exact ⟨j + 1,_,by have:=HLT.out;omega,by go_num,HM5.out,HB3.out⟩
    case measure=>simp [intOf];have:=HLT.out;omega
  ·obtain rfl:j = k:=by omega
   have hlt':¬ (j:Int) < (j:Int):=by omega
   have HC:=Lib.hid (HFI.out bm j (knB j K j) vs _ (by have:=HK2.out;omega) HS.out.map HS.out.vals)
   clear hlt
   go_wp2_with fail
   refine Calls.mono HC.out ?_
   rintro e w4 ⟨gO,gT,rfl,h1,h2,h3,h4,hb⟩
   have HB4:=Lib.hid (bl HB.out hb HB.out.size)
   have hle:w.heap.size≤wr.heap.size:=HB.out.size
   have H1:Hid (w.heap.size≤gO):=Nat.le_trans hle h1
   have H2:Hid (w.heap.size≤gT):=Nat.le_trans hle h2
   have e1:∀ a,a < L→knB j K j (a / t) = knS j K (a / t):=fun a ha=>by unfold knB;rw [decide_eq_true (HLM.out a ha),Bool.true_and]
   rw [objL_congr e1] at h3
   rw [toldT_congr e1] at h4
   have H3:=Lib.hid h3
   have H4:=Lib.hid h4
   clear hb h1 h2 h3 h4 hle e1
   go_wp2
   go_ret2
   exact ⟨gO,gT,rfl,H1.out,H2.out,H3.out,H4.out,HB4.out⟩
end Go.Proofs.YtccaiiigdfieoaaGreatDoor
namespace Go.Proofs.YtccaiiigdfieoaaGreatDoor
open Gf Go.By
theorem zeroS_all {xs:List UInt8}:zeroS xs = true↔∀ x,x ∈ xs→x = 0:=by unfold zeroS;simp
end Go.Proofs.YtccaiiigdfieoaaGreatDoor
namespace Go.By
open Go.RowKit Go.Proofs.YtccaiiigdfieoaaGreatDoor Gf
def vkB (K:List Rw) (i:Nat):Bool:=K.any fun r=>decide (leadS r.1 = (i:Int)) && zeroS (r.1.drop (i + 1))
theorem vk_row {k t i:Nat} {r:Rw} (hf:Fit k t r) (hl:Led r) (hi:i < k) (hk:k≤65536):(decide (leadS r.1 = (i:Int)) && zeroS (r.1.drop (i + 1))) = decide (r.1 = (List.replicate k 0).set i 1):=by
 by_cases h:r.1 = (List.replicate k 0).set i 1
 ·rw [decide_eq_true h,h]
  have e:leadS ((List.replicate k (0:UInt8)).set i 1) = (i:Int):=by
   refine idxf_found (x:=1) ?_ (by decide) ?_
   ·rw [List.getElem?_set];simp;omega
   ·intro j y hj hy
    rw [List.getElem?_set,if_neg (by omega),List.getElem?_replicate] at hy
    split at hy
    ·cases hy;decide
    ·cases hy
  have z:zeroS (((List.replicate k (0:UInt8)).set i 1).drop (i + 1)) = true:=by
   rw [List.drop_set_of_lt (by omega)]
   exact zeroS_all.2 fun x hx=>by
    have:=List.mem_of_mem_drop hx
    exact (List.mem_replicate.1 this).2
  rw [decide_eq_true e,z];rfl
 ·rw [decide_eq_false h]
  by_cases h1:leadS r.1 = (i:Int)
  ·by_cases h2:zeroS (r.1.drop (i + 1)) = true
   ·exfalso
    apply h
    have hL:=hl.at
    have hln:leadN r = i:=by unfold leadN;rw [h1];rfl
    rw [hln] at hL
    obtain ⟨_,h3,h4⟩:=hL
    refine List.ext_getElem? fun j=>?_
    by_cases hj:j < k
    ·have hrj:r.1[j]? = some (r.1[j]'(by rw [hf.1];exact hj)):=List.getElem?_eq_getElem _
     rcases Nat.lt_trichotomy j i with g | g | g
     ·rw [List.getElem?_set_ne (by omega),List.getElem?_replicate,if_pos hj,hrj,h4 j _ g hrj]
     ·subst g
      rw [h3,List.getElem?_set_self (by simpa using hj)]
     ·rw [List.getElem?_set_ne (by omega),List.getElem?_replicate,if_pos hj,hrj]
      congr 1
      refine zeroS_all.1 h2 _ ?_
      rw [List.mem_iff_getElem?]
      exact ⟨j - (i + 1),by rw [List.getElem?_drop,show i + 1 + (j - (i + 1)) = j by omega];exact hrj⟩
    ·rw [List.getElem?_eq_none (by rw [hf.1];omega),List.getElem?_eq_none (by simp;omega)]
   ·rw [Bool.not_eq_true] at h2
    rw [h2,Bool.and_false]
  ·rw [decide_eq_false h1];rfl
theorem vk_known {k t i:Nat} {K:List Rw} (h:Red k t K) (hi:i < k) (hk:k≤65536):vkB K i = knS k K i:=by
 have e:vkB K i = K.any fun r=>decide (r.1 = (List.replicate k 0).set i 1):=by
  unfold vkB
  rw [Bool.eq_iff_iff,List.any_eq_true,List.any_eq_true]
  constructor
  ·rintro ⟨r,hr,h1⟩
   obtain ⟨a,b⟩:=h.kept.rows r hr
   exact ⟨r,hr,by rw [← vk_row a b hi hk];exact h1⟩
  ·rintro ⟨r,hr,h1⟩
   obtain ⟨a,b⟩:=h.kept.rows r hr
   exact ⟨r,hr,by rw [vk_row a b hi hk];exact h1⟩
 rw [e]
 unfold knS knownS
 rw [unitS_good (by omega)]
 rw [if_neg (by simp)]
 simp only [Int.toNat_natCast]
 cases hf:K.find? (fun r=>decide (r.1 = (List.replicate k 0).set i 1)) with
 | none =>
  simp only
  rw [List.find?_eq_none] at hf
  rw [← Bool.not_eq_true,List.any_eq_true]
  rintro ⟨r,hr,h1⟩
  exact hf r hr h1
 | some r =>
  simp only
  rw [List.any_eq_true]
  exact ⟨r,List.mem_of_find?_eq_some hf,by simpa using List.find?_some hf⟩
end Go.By
namespace Go.Proofs.YtccaiiigdfieoaaGreatDoor
open Go.RowKit Go.By
end Go.Proofs.YtccaiiigdfieoaaGreatDoor
namespace Go.By
open Go.RowKit Go.Proofs.YtccaiiigdfieoaaGreatDoor
end Go.By
namespace Go.Proofs.YtccaiiigdfieoaaGreatDoor
open Go.RowKit Go.By
end Go.Proofs.YtccaiiigdfieoaaGreatDoor
namespace Go.By
open Go.RowKit Go.Proofs.YtccaiiigdfieoaaGreatDoor Gf
def boolC (k:Nat) (f:Nat→Bool):Array Value:=((List.range k).map fun j=>Value.bool (f j)).toArray
theorem boolC_size (k:Nat) (f:Nat→Bool):(boolC k f).size = k:=by simp [boolC]
theorem boolC_at {k j:Nat} (f:Nat→Bool) (h:j < k):(boolC k f)[j]? = some (.bool (f j)):=by simp [boolC,h]
theorem boolC_set {k a:Nat} (f:Nat→Bool) (b:Bool) (h:a < k):(boolC k f).setIfInBounds a (.bool b) = boolC k (fun j=>if j = a then b else f j):=by
 apply Array.ext_getElem?
 intro j
 rw [Array.getElem?_setIfInBounds,boolC_size]
 by_cases hj:j < k
 ·rw [boolC_at _ hj,boolC_at _ hj]
  by_cases e:a = j
  ·subst e;simp [h]
  ·rw [if_neg e,if_neg (fun e2=>e e2.symm)]
 ·rw [Array.getElem?_eq_none (by rw [boolC_size];omega),Array.getElem?_eq_none (by rw [boolC_size];omega)]
  by_cases e:a = j
  ·omega
  ·rw [if_neg e]
theorem boolC_congr {k:Nat} {f g:Nat→Bool} (h:∀ j,j < k→f j = g j):boolC k f = boolC k g:=by
 unfold boolC
 congr 1
 exact List.map_congr_left fun j hj=>by rw [h j (List.mem_range.1 hj)]
theorem vkB_snoc {K:List Rw} {i:Nat} {x:Rw} (hx:K[i]? = some x) (j:Nat):vkB (K.take (i + 1)) j = (vkB (K.take i) j || (decide (leadS x.1 = (j:Int)) && zeroS (x.1.drop (j + 1)))):=by
 unfold vkB
 rw [List.take_add_one,hx]
 simp
end Go.By
namespace Go.Proofs.YtccaiiigdfieoaaGreatDoor
open Go.RowKit Go.By Go.Maps
theorem info_boolU:(Tryz.prog.info? 4).map (fun i=>(i.zero,i.size,i.bytes)) = some (some (.bool false),1,1):=by kernel_rfl
theorem mk_boolsU (n:Nat) (hn:n≤1000000) (W:World):(Instr.makeSlice 67 (.int .i64 (n:Int)) (.int .i64 (n:Int))).run Tryz.prog W = .ok (.slice (some ⟨W.heap.size,0,none⟩) n n) (W.alloc (.cells (boolC n (fun _=>false)) 4)):=by
 obtain ⟨i0,hi0,hz0,hz1,hz2⟩:=info_parts info_boolU
 have:=run_make (P:=Tryz.prog) W 67 4 i0 _ Tryz.underlying67 hi0 hz0 .i64 .i64 (n:Int) (n:Int) (by omega) (Int.le_refl _) (by rw [hz2];omega) (by omega)
 rw [hz1] at this
 simp only [Int.toNat_natCast,Nat.mul_one] at this
 have e:madeCells #[Value.bool false] n = boolC n (fun _=>false):=by
  apply Array.toList_inj.1
  rw [toList_madeCells_one]
  unfold boolC
  simp [List.map_const']
 rw [this,← e]
 rfl
theorem slice_vec {q:Option Addr} {n c a:Nat} {v:List UInt8} {w:World} (h:Sl B8 w q n c v) (hk:a≤n):∃ q' c',(∀ W,(Instr.sliceAt 97 (.slice q n c) (some (.int .i64 (a:Int))) none none).run Tryz.prog W = .ok (.slice q' (n - a) c') W)∧Sl B8 w q' (n - a) c' (v.drop a):=by
 have hel:Tryz.prog.underlying 97 = some (.slice (Tryz.prog.elem 97)):=by simp [Program.elem,Tryz.underlying97]
 refine ⟨if c = a then q else q.map (·.add a),c - a,fun W=>?_,?_⟩
 ·rw [run_sliceAt_slice (h:=hel),run_slice_l (ht:=hel) (h0:=by omega) (h1:=by have:=h.le;omega)]
  clear hel
  go_simp
 ·have hle:=h.le
  by_cases hc:c = a
  ·rw [if_pos hc]
   have hn:n = a:=by omega
   have e:v.drop a = []:=List.drop_eq_nil_of_le (by rw [h.len];omega)
   rw [e,hn,Nat.sub_self]
   refine ⟨rfl,by omega,by have:=h.max;omega,fun hq=>⟨rfl,?_⟩,fun i hi=>absurd hi (by simp)⟩
   have:=h.nil hq;omega
  ·rw [if_neg hc]
   cases q with
   | none =>
    obtain ⟨e1,e2⟩:=h.nil rfl
    omega
   | some ad=>exact Sl.drop_at h hk
theorem field_plan2 (L t k D:Nat) (w:World):(Instr.field 27 (PVal L t k D) 2).run Tryz.prog w = .ok (.int .i64 (k:Nat)) w:=by
 simp [Instr.field,go_sem,asAgg,Tryz.underlying27]
def RetBl (w:World) (k:Nat) (f:Nat→Bool) (e:Ending) (w':World):Prop:=∃ g,e = .returned (.slice (some ⟨g,0,none⟩) k k)∧w.heap.size≤g∧w'.heap[g]? = some (.cells (boolC k f) 4 (0,0))∧Below w.heap.size w w'
set_option maxRecDepth 1000000 in
set_option maxHeartbeats 4000000 in
theorem VKnown_any (base gt be L t k D N:Nat) (M v:Value) (C:DataW Unit) (K:List Rw) (st:Nat) (w:World) (h:Tkr w base gt be L t k D N M v C K st) :
  Calls Tryz.prog 93 #[.pointer (some ⟨gt,0,none⟩)] w (RetBl w k (knS k K)):=by
 have HG:Hid (∀ W,Below w.heap.size w W→Calls Tryz.prog 71 #[.pointer (some ⟨gt,0,none⟩)] W fun e w'=>e = .returned (GVal L t k D M)∧Below W.heap.size W w'):=fun W hb=>TGate_any base gt be L t k D N M v C K st W (h.keep hb)
 have HR:Hid (∀ W,Below w.heap.size w W→Calls Tryz.prog 21 #[.pointer (some ⟨gt,0,none⟩)] W fun e w'=>∃ v',e = .returned v'∧RwL 99 5 w' W.heap.size v' K.length K∧Below W.heap.size W w'):=fun W hb=>TRows_any base gt be L t k D N M v C K st W (h.keep hb)
 have hk2:=h.ok.k2
 have hKl:K.length≤k:=Red.le h.red
 have HFit:Hid (∀ r,r ∈ K→Fit k t r∧Led r):=h.red.kept.rows
 have HKn:Hid (∀ j,j < k→vkB K j = knS k K j):=fun j hj=>vk_known h.red hj (by omega)
 have hmk:=mk_boolsU k (by omega)
 obtain ⟨z0,hz0⟩:∃ z,z = boolC k (fun _=>false):=⟨_,rfl⟩
 rw [← hz0] at hmk
 have HZ0:=Lib.hid hz0
 clear h hz0
 go_enter Tryz.func93,Tryz.ntmps93
 go_wp2_with fail
 refine Calls.mono (HG.out w (Below.refl _ _)) ?_
 rintro e w1 ⟨rfl,hb1⟩
 have HB1:=Lib.hid hb1
 clear hb1
 have hfg:=field_gate L t k D M w1
 have hfp:=field_plan2 L t k D w1
 go_wp2_with (first | simp only [hfg] | simp only [hfp] | fail)
 have ba:Below w1.heap.size w1 (w1.alloc (.cells z0 4)):=al (Below.refl _ _) (Nat.le_refl _)
 have hg0:(w1.alloc (.cells z0 4)).heap[w1.heap.size]? = some (.cells (boolC k (fun _=>false)) 4 (0,0)):=by rw [hnew rfl,HZ0.out]
 have HB2:=Lib.hid (bl HB1.out ba HB1.out.size)
 have HG2:=Lib.hid hg0
 have HGe:Hid (w.heap.size≤w1.heap.size):=HB1.out.size
 have HGl:Hid (w1.heap.size < (w1.alloc (.cells z0 4)).heap.size):=by show _ < _;simp
 obtain ⟨g,hg⟩:∃ g,g = w1.heap.size:=⟨_,rfl⟩
 rw [← hg] at HG2 HGe HGl ⊢
 have HGl2:=Lib.hid HGl.out
 clear ba hg0 hfg hfp hmk HZ0 hg HB1
 generalize w1.alloc (.cells z0 4) = w2 at *
 refine Calls.mono (HR.out w2 HB2.out) ?_
 rintro e w3 ⟨v3,rfl,hr3,hb⟩
 obtain ⟨q3,c3,rfl⟩:=hr3.shape
 have HB3:=Lib.hid (bl HB2.out hb HB2.out.size)
 have HG3:=Lib.hid ((hb.block _ (lt_of_block HG2.out)).trans HG2.out)
 have HR3:=Lib.hid hr3
 clear hb hr3 HB2 HG2 HG HR HGl
 obtain ⟨n,hn⟩:∃ n,n = K.length:=⟨_,rfl⟩
 have HN:=Lib.hid hn
 rw [← hn] at HR3 hKl ⊢
 clear hn
 go_wp2
 go_loopw [15] (fun iv wr=>∃ i:Nat,i≤n∧iv = .int .i64 (i:Nat)∧Hid (RwL 99 5 wr w2.heap.size (.slice q3 n c3) n K)∧Hid (wr.heap[g]? = some (.cells (boolC k (vkB (K.take i))) 4 (0,0)))∧Hid (Below w.heap.size w wr)) (fun iv _=>n - (intOf iv).toNat)
 case atStart=>exact ⟨0,Nat.zero_le _,rfl,HR3.out,by rw [show vkB (K.take 0) = fun _=>false from by funext j;simp [vkB]];exact HG3.out,HB3.out⟩
 case round =>
  obtain ⟨i,hi,rfl,HRr,HGr,HBr⟩:=hrel
  clear HR3 HG3 HB3
  by_cases hlt:i < n
  ·obtain ⟨x,hx⟩:∃ x,K[i]? = some x:=⟨_,List.getElem?_eq_getElem (by rw [← HN.out];exact hlt)⟩
   obtain ⟨b,o,q1,m1,c1,q2,m2,c2,rfl,E1,E2,s1,s2⟩:=HRr.out.rwS.row i x hx
   obtain ⟨hf,hL⟩:=HFit.out x (List.mem_of_getElem? hx)
   have hLa:=hL.at
   obtain ⟨a,ha⟩:∃ a,a = leadN x:=⟨_,rfl⟩
   rw [← ha] at hLa
   have hlead:leadS x.1 = (a:Int):=hLa.1
   have hak:a < k:=hLa.lt hf
   have hm1:m1 = k:=by rw [← s1.len];exact hf.1
   subst hm1
   have hat1:atS x.1 (a:Int) = 1:=by unfold atS;rw [if_pos (by omega),Int.toNat_natCast,List.getD_eq_getElem?_getD,hLa.2.1];rfl
   have ba:Below wr.heap.size wr (wr.alloc (.cells #[.slice q1 m1 c1,.slice q2 m2 c2] 99 (0,0))):=al (Below.refl _ _) (Nat.le_refl _)
   have hle:=Lead_any q1 m1 c1 x.1 _ (s1.keep ba)
   rw [hlead] at hle
   have hatc:=At_any q1 m1 c1 x.1 (a:Int) _ (s1.keep ba)
   rw [hat1] at hatc
   obtain ⟨q',c',hsl,hs'⟩:=slice_vec (a:=a + 1) (s1.keep ba) (by omega)
   have hzc:=VZero_any q' (m1 - (a + 1)) c' (x.1.drop (a + 1)) _ hs'
   have e1:(((a + 1:Nat)):Int) = (a:Int) + 1:=by omega
   rw [e1] at hsl
   have HLE:=Lib.hid hle
   have HAT:=Lib.hid hatc
   have HZC:=Lib.hid hzc
   have HB4:=Lib.hid (bl HBr.out ba HBr.out.size)
   have HR4:=Lib.hid (HRr.out.keep ba)
   have HG4:=Lib.hid ((ba.block _ (lt_of_block HGr.out)).trans HGr.out)
   have HSn:Hid (∀ j,vkB (K.take (i + 1)) j = (vkB (K.take i) j || (decide (leadS x.1 = (j:Int)) && zeroS (x.1.drop (j + 1))))):=fun j=>vkB_snoc hx j
   have HLd:=Lib.hid hlead
   have hlt':(i:Int) < (n:Int):=by omega
   have HLT:=Lib.hid hlt
   have ha0:(0:Int)≤(a:Int):=by omega
   have hwa:IntKind.i64.wrap ((a:Int) + 1) = (a:Int) + 1:=by rw [IntKind.wrap_i64];omega
   have hak':(a:Int) < (m1:Int):=by omega
   have hB8:B8 1 = .int .u8 1:=rfl
   clear hx s1 s2 hf hL hLa ha hlead hat1 ba hle hatc hs' hzc e1 hlt HRr HGr HBr
   generalize hzz:zeroS (x.1.drop (a + 1)) = zz at *
   have HZZ:=Lib.hid hzz
   clear hzz
   go_wp2_with fail
   refine Calls.mono HLE.out ?_
   rintro e w5 ⟨rfl,rfl⟩
   go_wp2_with fail
   refine Calls.mono HAT.out ?_
   rintro e w5 ⟨rfl,rfl⟩
   rw [hB8]
   go_wp2_with (first | simp only [hsl] | fail)
   refine Calls.mono HZC.out ?_
   rintro e w5 ⟨rfl,rfl⟩
   clear hsl E1 E2
   generalize wr.alloc (.cells #[.slice q1 m1 c1,.slice q2 m2 c2] 99 (0,0)) = w5 at *
   cases zz with
   | true =>
    have hc:w5.cell? ⟨g,a,none⟩ = some (.bool (vkB (K.take i) a)):=by rw [cell_of_row _ _ a _ _ _ HG4.out];exact boolC_at _ hak
    have hfz:w5.frozen? ⟨g,a,none⟩ = false:=frozen_of_row _ _ a _ _ HG4.out
    have HG6:Hid ((w5.setCell ⟨g,a,none⟩ (.bool true)).heap[g]? = some (.cells (boolC m1 (vkB (K.take (i + 1)))) 4 (0,0))):=by
     show _ = _
     rw [heap_setCell_same _ _ _ _ _ _ HG4.out,boolC_set _ _ hak]
     congr 2
     refine boolC_congr fun j hj=>?_
     rw [HSn.out j,HLd.out]
     by_cases e:j = a
     ·subst e;rw [if_pos rfl,HZZ.out];simp
     ·rw [if_neg e,decide_eq_false (by omega)];simp
    have HB6:Hid (Below w.heap.size w (w5.setCell ⟨g,a,none⟩ (.bool true))):=HB4.out.setCell HGe.out _
    have HR6:Hid (RwL 99 5 (w5.setCell ⟨g,a,none⟩ (.bool true)) w2.heap.size (.slice (some ⟨b,o,none⟩) n c3) n K):=RwL.set HR4.out HG4.out (by decide) (fun e=>by
     have:=(HR4.out.lt g e).1
     have:=HGl2.out
     omega) (grownBy_setCell _ _ _ _)
    clear HG4 HB4 HR4 HSn HLE HAT HZC
    go_wp2
    clear hc hfz
    go_roundw
    case rel=>exact ⟨i + 1,HLT.out,by go_num,HR6.out,HG6.out,HB6.out⟩
    case measure=>simp [intOf];have:=HLT.out;omega
   | false =>
    have HG6:Hid (w5.heap[g]? = some (.cells (boolC m1 (vkB (K.take (i + 1)))) 4 (0,0))):=by
     show _ = _
     rw [HG4.out]
     congr 2
     refine boolC_congr fun j hj=>?_
     rw [HSn.out j,HLd.out]
     by_cases e:j = a
     ·subst e;rw [HZZ.out];simp
     ·rw [decide_eq_false (by omega)];simp
    clear HG4 HSn HLE HAT HZC
    go_wp2
    go_roundw
    case rel=>exact ⟨i + 1,HLT.out,by go_num,HR4.out,HG6.out,HB4.out⟩
    case measure=>simp [intOf];have:=HLT.out;omega
  ·obtain rfl:i = n:=by omega
   have HF:Hid (wr.heap[g]? = some (.cells (boolC k (knS k K)) 4 (0,0))):=by
    show _ = _
    rw [HGr.out,List.take_of_length_le (by have:=HN.out;omega)]
    congr 2
    exact boolC_congr fun j hj=>HKn.out j hj
   clear hlt
   go_wp2
   go_ret
   exact ⟨g,rfl,HGe.out,HF.out,HBr.out⟩
end Go.Proofs.YtccaiiigdfieoaaGreatDoor
namespace Go.Proofs.YtccaiiigdfieoaaGreatDoor
open Go.RowKit Go.By
theorem CopyCheck_new (w:World) (b:Nat) (h:w.heap[b]? = some (.cells #[.pointer none,.slice none 0 0] 135 (0,0))) :
  Calls Tryz.prog 126 #[.pointer (some ⟨b,0,none⟩)] w fun e w'=>e = .returned (.tuple #[])∧w.setCell ⟨b,0,none⟩ (.pointer (some ⟨b,0,none⟩)) = w':=by
 have c0:w.cell? ⟨b,0,none⟩ = some (.pointer none):=cell_of_row _ _ 0 _ _ _ h
 have f0:w.frozen? ⟨b,0,none⟩ = false:=frozen_of_row _ _ 0 _ _ h
 exact (Any.Builder_copyCheck_fresh (ρ:=wbRen) { wbLays167 with } wbExtra.toX72 b w c0 (by simp [World.shape?,h];rfl) f0).mono fun _ _ ⟨h1,h2⟩=>⟨h1,h2.symm⟩
set_option maxRecDepth 100000 in
set_option maxHeartbeats 2000000 in
theorem WriteB_via (B b:Nat) (v:Value) (t:List UInt8) (x:UInt8) (w0 w:World) (hC:Calls Tryz.prog 126 #[.pointer (some ⟨b,0,none⟩)] w0 fun e w'=>e = .returned (.tuple #[])∧w = w') (h:BG w B b v t) (hl:t.length + 1≤100000000) :
  Calls Tryz.prog 73 #[.pointer (some ⟨b,0,none⟩),B8 x] w0 fun e w'=>e = .returned .nilIface∧∃ v',BG w' B b v' (t ++ [x])∧BGk w w' b v v'∧(B≤b→Below B w w'):=by
 obtain ⟨i0,hi,hz0,hz1,hz2⟩:=info_parts info_u8
 obtain ⟨hbk,hown,hne,hBw⟩:=h
 obtain ⟨c0,c1⟩:=cells2 hbk
 have hlt:=lt_of_block hbk
 have HC:=Lib.hid hC
 have HBK:=Lib.hid hbk
 have HOA:Hid (∀ o,(w.alloc o).ownsRow B 5 1 v t.length (t.map B8)):=fun o=>hown.alloc o
 have HO:=Lib.hid hown
 have HNE:=Lib.hid hne
 clear hbk hown hne c0 hC
 go_enter Tryz.func73,Tryz.ntmps73
 go_wp2_with fail
 refine Calls.mono HC.out ?_
 rintro e w1 ⟨rfl,rfl⟩
 go_wp2_with (at_builtin;refine wpList_append_where _ rfl _ _ 22 rfl B 5 i0 (.int .u8 0) 1 1 Tryz.underlying22 hi hz0 hz1 hz2 rfl (by decide) v t.length (t.map B8) rfl (HOA.out _) ⟨w.heap.size,0,none⟩ 1 1 [B8 x] rfl rfl ?c1 ?c2 ?c3 ?c4 ?c5 (by decide) ?_)
 case c1 =>
  intro j u hj
  match j,hj with
  | 0,hj=>simp at hj;subst hj;rw [Addr.add_lit,cell_of_row _ _ _ _ _ _ (hnew (by simp))];rfl
 case c2=>intro u hu;simp at hu;subst hu;rfl
 case c3=>unfold maxLen;omega
 case c4=>omega
 case c5=>simp;omega
 intro v' w2 hown' hgrow hwh
 have hb2:w2.heap[b]? = some (.cells #[.pointer (some ⟨b,0,none⟩),v] 135 (0,0)):=by
  rw [hgrow.block b (by simp;omega) (fun e=>HNE.out e.symm),Lib.alloc_old w _ b hlt]
  exact HBK.out
 obtain ⟨d0,d1⟩:=cells2 hb2
 have f1:w2.frozen? ⟨b,1,none⟩ = false:=frozen_of_row _ _ 1 _ _ hb2
 have HW:=Lib.hid hwh
 have HG:=Lib.hid hgrow
 have HN:=Lib.hid hown'
 have HB2:=Lib.hid hb2
 obtain ⟨q,c,rfl⟩:=owns_shape hown'
 clear hown' hgrow hwh hb2
 go_wp2
 go_ret
 refine ⟨rfl,.slice q (t.length + 1) c,⟨?_,?_,?_,?_⟩,⟨?_,?_,?_⟩,fun hB=>?_⟩
 ·simp [World.setCell,Array.getElem?_modify,HB2.out]
 ·have hne:=Lib.ownBlock_ne HN.out HB2.out (by decide)
  have:=HN.out.kept (w':=w2.setCell ⟨b,1,none⟩ (.slice q (t.length + 1) c)) (row:=some b) ⟨rfl,rfl,rfl,by simp [World.setCell],fun k _ hk=>Below.heap_setCell _ _ _ _ (fun e=>hk (by simp [e]))⟩ (Or.inr hne)
  simpa [List.map_append] using this
 ·exact Lib.ownBlock_ne HN.out HB2.out (by decide)
 ·have:=HG.out.size;simp [World.setCell] at this ⊢;omega
 ·intro k hk hkb hkv
  rw [Below.heap_setCell _ _ _ _ (fun e=>hkb e),HG.out.block k (by simp;omega) (fun e=>hkv e.symm),Lib.alloc_old w _ k hk]
 ·have:=HG.out.size;simp [World.setCell] at this ⊢;omega
 ·rcases HW.out with e | e
  ·exact .inl e
  ·refine .inr fun g hg=>?_
   rw [e] at hg
   cases hg
   simp
 ·exact (((Below.refl B w).alloc hBw _).grown HG.out (by simp;omega) (fun k hk=>(HO.out.lt k hk).1)).setCell (p:=⟨b,1,none⟩) hB _
theorem BG.fresh {w:World} {b:Nat} (h:w.heap[b]? = some (.cells #[.pointer none,.slice none 0 0] 135 (0,0))):BG (w.setCell ⟨b,0,none⟩ (.pointer (some ⟨b,0,none⟩))) b b (.slice none 0 0) [] :=
 ⟨by rw [heap_setCell_same _ _ _ _ _ _ h];rfl,World.ownsRow_nil _ _ _ _,by simp [Value.ownBlock],by have:=lt_of_block h;simp [World.setCell];omega⟩
theorem WriteB0_g {w:World} {b:Nat} (x:UInt8) (h:w.heap[b]? = some (.cells #[.pointer none,.slice none 0 0] 135 (0,0))) :
  Calls Tryz.prog 73 #[.pointer (some ⟨b,0,none⟩),B8 x] w fun e w'=>e = .returned .nilIface∧∃ v',BG w' b b v' [x]∧(∀ k,k < w.heap.size→k≠b→w'.heap[k]? = w.heap[k]?)∧w.heap.size≤w'.heap.size∧(∀ g,v'.ownBlock = some g→w.heap.size≤g)∧Below b w w':=by
 refine (WriteB_via b b (.slice none 0 0) [] x w _ (CopyCheck_new w b h) (BG.fresh h) (by simp)).mono ?_
 rintro e w' ⟨rfl,v',hg,hk,hb⟩
 have hsz:(w.setCell ⟨b,0,none⟩ (.pointer (some ⟨b,0,none⟩))).heap.size = w.heap.size:=by simp [World.setCell]
 refine ⟨rfl,v',hg,fun k h1 h2=>?_,?_,fun g hg'=>?_,?_⟩
 ·rw [hk.1 k (by rw [hsz];exact h1) h2 (by simp [Value.ownBlock])]
  exact Below.heap_setCell _ _ _ _ h2
 ·have:=hk.2.1;rw [hsz] at this;exact this
 ·rcases hk.2.2 with e | e
  ·rw [hg'] at e;simp [Value.ownBlock] at e
  ·have:=e g hg';rw [hsz] at this;exact this
 ·exact ((Below.refl b w).setCell (p:=⟨b,0,none⟩) (Nat.le_refl _) _).trans (hb (Nat.le_refl _))
end Go.Proofs.YtccaiiigdfieoaaGreatDoor
namespace Go.By
open Go.RowKit Go.Proofs.YtccaiiigdfieoaaGreatDoor
def mapT (k:Nat) (f:Nat→Bool):List UInt8:=(List.range k).map fun j=>if f j then 35 else 46
theorem mapT_len (k:Nat) (f:Nat→Bool):(mapT k f).length = k:=by simp [mapT]
theorem mapT_succ (k:Nat) (f:Nat→Bool):mapT (k + 1) f = mapT k f ++ [if f k then 35 else 46]:=by simp [mapT,List.range_succ]
def cntB (f:Nat→Bool):Nat→Nat
 | 0=>0
 | i + 1=>if f i then cntB f i + 1 else cntB f i
theorem cntB_le (f:Nat→Bool):∀ k,cntB f k≤k
 | 0=>Nat.le_refl _
 | k + 1=>by have:=cntB_le f k;simp only [cntB];split <;> omega
theorem cntB_congr {f g:Nat→Bool}:∀ {k:Nat},(∀ j,j < k→f j = g j)→cntB f k = cntB g k
 | 0,_=>rfl
 | k + 1,h=>by simp only [cntB,h k (by omega),cntB_congr (k:=k) fun j hj=>h j (by omega)]
end Go.By
namespace Go.Proofs.YtccaiiigdfieoaaGreatDoor
open Go.RowKit Go.By Go.Maps
def BX (w:World) (b:Nat) (v:Value) (t:List UInt8):Prop:=BG w b b v t∨(t = []∧v = .slice none 0 0∧w.heap[b]? = some (.cells #[.pointer none,.slice none 0 0] 135 (0,0)))
theorem WriteB_x {w:World} {b:Nat} {v:Value} {t:List UInt8} (x:UInt8) (h:BX w b v t) (hl:t.length + 1≤100000000) :
  Calls Tryz.prog 73 #[.pointer (some ⟨b,0,none⟩),B8 x] w fun e w'=>e = .returned .nilIface∧∃ v',BX w' b v' (t ++ [x])∧BGk w w' b v v'∧Below b w w':=by
 rcases h with h | ⟨rfl,rfl,h⟩
 ·refine (WriteB_g b b v t x w h hl).mono ?_
  rintro e w' ⟨rfl,v',h1,h2,h3⟩
  exact ⟨rfl,v',.inl h1,h2,h3 (Nat.le_refl _)⟩
 ·refine (WriteB0_g x h).mono ?_
  rintro e w' ⟨rfl,v',h1,h2,h3,h4,h5⟩
  exact ⟨rfl,v',.inl h1,⟨fun k hk hb _=>h2 k hk hb,h3,.inr h4⟩,h5⟩
theorem mid_block {w6 wr:World} {s5:Nat} {v:Value} {g:Nat} {o:Obj} (h:MidW w6 wr s5 v) (hg:s5≤g) (hb:w6.heap[g]? = some o):wr.heap[g]? = some o:=(h.1 g hg (lt_of_block hb)).trans hb
set_option maxRecDepth 1000000 in
set_option maxHeartbeats 4000000 in
theorem VMap_any (base gt be L t k D N:Nat) (M v:Value) (C:DataW Unit) (K:List Rw) (st:Nat) (w:World) (h:Tkr w base gt be L t k D N M v C K st) :
  Calls Tryz.prog 36 #[.pointer (some ⟨gt,0,none⟩)] w fun e w'=>e = .returned (.string (strB (mapT k (knS k K))))∧Below w.heap.size w w':=by
 have HK:Hid (∀ W,Below w.heap.size w W→Calls Tryz.prog 93 #[.pointer (some ⟨gt,0,none⟩)] W (RetBl W k (knS k K))):=fun W hb=>VKnown_any base gt be L t k D N M v C K st W (h.keep hb)
 have hk2:=h.ok.k2
 have hk1:=h.ok.k1
 clear h
 generalize knS k K = f at *
 go_enter Tryz.func36,Tryz.ntmps36
 go_wp2_with fail
 have t1:(w.alloc (.cells #[.pointer none,.slice none 0 0] 135 (0,0))).heap[w.heap.size]? = some (.cells #[.pointer none,.slice none 0 0] 135 (0,0)):=hnew rfl
 have BW:Hid (Below w.heap.size w (w.alloc (.cells #[.pointer none,.slice none 0 0] 135 (0,0)))):=al (Below.refl _ _) (Nat.le_refl _)
 have hsz:(w.alloc (.cells #[.pointer none,.slice none 0 0] 135 (0,0))).heap.size = w.heap.size + 1:=by simp
 generalize w.alloc (.cells #[.pointer none,.slice none 0 0] 135 (0,0)) = w1 at *
 have T1:=Lib.hid t1
 have HSZ:=Lib.hid hsz
 clear t1 hsz
 refine Calls.mono (HK.out w1 BW.out) ?_
 rintro e w2 ⟨g,rfl,hg,hc,hb⟩
 have HB2:=Lib.hid (bl BW.out hb BW.out.size)
 have HX2:Hid (BX w2 w.heap.size (.slice none 0 0) (mapT 0 f)):=.inr ⟨rfl,rfl,(hb.block _ (lt_of_block T1.out)).trans T1.out⟩
 have HGc:=Lib.hid hc
 have HGe:=Lib.hid hg
 have HM2:Hid (MidW w2 w2 w1.heap.size (.slice none 0 0)):=⟨fun _ _ _=>rfl,Nat.le_refl _,fun g hg=>by simp [Value.ownBlock] at hg⟩
 have HLT1:Hid (w.heap.size < w1.heap.size):=lt_of_block T1.out
 clear hg hc hb T1 BW HK HSZ
 go_wp2
 go_loopw [11] (fun iv wr=>∃ (i:Nat) (v:Value),i≤k∧iv = .int .i64 (i:Nat)∧Hid (BX wr w.heap.size v (mapT i f))∧Hid (MidW w2 wr w1.heap.size v)∧Hid (Below w.heap.size w wr)) (fun iv _=>k - (intOf iv).toNat)
 case atStart=>exact ⟨0,_,Nat.zero_le _,rfl,HX2.out,HM2.out,HB2.out⟩
 case round =>
  obtain ⟨i,v,hi,rfl,HX,HM,HB⟩:=hrel
  clear HX2 HM2 HB2
  by_cases hlt:i < k
  ·have hlt':(i:Int) < (k:Int):=by omega
   have HLT:=Lib.hid hlt
   have hcell:wr.cell? ⟨g,i,none⟩ = some (.bool (f i)):=by rw [cell_of_row _ _ i _ _ _ (mid_block HM.out HGe.out HGc.out)];exact boolC_at _ hlt
   have HMS:=Lib.hid (mapT_succ i f)
   have hml:(mapT i f).length + 1≤100000000:=by rw [mapT_len];omega
   have hB1:B8 35 = .int .u8 35:=rfl
   have hB2:B8 46 = .int .u8 46:=rfl
   have hW1:=WriteB_x 35 HX.out hml
   have hW2:=WriteB_x 46 HX.out hml
   rw [hB1] at hW1
   rw [hB2] at hW2
   have HW1:=Lib.hid hW1
   have HW2:=Lib.hid hW2
   clear hW1 hW2 hlt hml hB1 hB2
   cases hf:f i with
   | true =>
    rw [hf] at hcell HMS
    go_wp2_with fail
    refine Calls.mono HW1.out ?_
    rintro e w7 ⟨rfl,v7,hg7,hk7,hb7⟩
    have HG7:Hid (BX w7 w.heap.size v7 (mapT (i + 1) f)):=by show BX _ _ _ _;rw [HMS.out];exact hg7
    have HM7:=Lib.hid (HM.out.step hk7 HLT1.out)
    have HB7:=Lib.hid (HB.out.trans hb7)
    clear hg7 hk7 hb7 HX HM HB HW1 HW2 hcell HMS
    go_wp2
    go_roundw
    case rel=>exact ⟨i + 1,v7,HLT.out,by go_num,HG7.out,HM7.out,HB7.out⟩
    case measure=>simp [intOf];have:=HLT.out;omega
   | false =>
    rw [hf] at hcell HMS
    go_wp2_with fail
    refine Calls.mono HW2.out ?_
    rintro e w7 ⟨rfl,v7,hg7,hk7,hb7⟩
    have HG7:Hid (BX w7 w.heap.size v7 (mapT (i + 1) f)):=by show BX _ _ _ _;rw [HMS.out];exact hg7
    have HM7:=Lib.hid (HM.out.step hk7 HLT1.out)
    have HB7:=Lib.hid (HB.out.trans hb7)
    clear hg7 hk7 hb7 HX HM HB HW1 HW2 hcell HMS
    go_wp2
    go_roundw
    case rel=>exact ⟨i + 1,v7,HLT.out,by go_num,HG7.out,HM7.out,HB7.out⟩
    case measure=>simp [intOf];have:=HLT.out;omega
  ·obtain rfl:i = k:=by omega
   have hG:BG wr w.heap.size w.heap.size v (mapT i f):=by
    rcases HX.out with h | ⟨h,_⟩
    ·exact h
    ·exfalso;have:=mapT_len i f;rw [h] at this;simp at this;omega
   have HD:=Lib.hid (StringB_b w.heap.size w.heap.size (mapT i f) wr (.inr ⟨Nat.le_refl _,v,hG.1,by rw [Lib.byteCells_length];exact hG.2.1,hG.2.2.1⟩) hG.2.2.2)
   clear hlt hG
   go_wp2_with fail
   refine Calls.mono HD.out ?_
   rintro e w7 ⟨rfl,hb⟩
   have HB7:=Lib.hid (HB.out.trans hb)
   clear hb
   go_wp2
   go_ret
   exact ⟨rfl,HB7.out⟩
end Go.Proofs.YtccaiiigdfieoaaGreatDoor
namespace Go.By
open Go.RowKit Go.Proofs.YtccaiiigdfieoaaGreatDoor
def gapsF (f:Nat→Bool):Nat→List (Nat × Nat)
 | 0=>[]
 | i + 1=>if f i then gapsF f i else if 0 < i∧f (i - 1) = false then (gapsF f i).dropLast ++ [(((gapsF f i).getLast?.getD (0,0)).1,i + 1)] else gapsF f i ++ [(i,i + 1)]
theorem gapsF_len (f:Nat→Bool):∀ i,(gapsF f i).length≤i
 | 0=>Nat.le_refl _
 | i + 1=>by
  have:=gapsF_len f i
  simp only [gapsF]
  split
  ·omega
  ·split
   ·simp;omega
   ·simp;omega
theorem gapsF_last {f:Nat→Bool} {i:Nat} (h0:0 < i) (h:f (i - 1) = false):∃ P a,gapsF f i = P ++ [(a,i)]∧a < i:=by
 induction i with
 | zero=>omega
 | succ i ih =>
  simp only [gapsF]
  simp only [Nat.add_sub_cancel] at h
  rw [if_neg (by rw [h];decide)]
  split
  ·rename_i h2
   obtain ⟨P,a,e,ha⟩:=ih h2.1 h2.2
   refine ⟨P,a,?_,by omega⟩
   rw [e];simp
  ·exact ⟨_,_,rfl,by omega⟩
theorem gapsF_yes {f:Nat→Bool} {i:Nat} (h:f i = true):gapsF f (i + 1) = gapsF f i:=by simp only [gapsF];rw [if_pos h]
theorem gapsF_more {f:Nat→Bool} {i:Nat} {P:List (Nat × Nat)} {a:Nat} (h:f i = false) (h0:0 < i) (h1:f (i - 1) = false) (e:gapsF f i = P ++ [(a,i)]):gapsF f (i + 1) = P ++ [(a,i + 1)]:=by
 simp only [gapsF];rw [if_neg (by rw [h];decide),if_pos ⟨h0,h1⟩,e];simp
theorem gapsF_new {f:Nat→Bool} {i:Nat} (h:f i = false) (h1:¬ (0 < i∧f (i - 1) = false)):gapsF f (i + 1) = gapsF f i ++ [(i,i + 1)]:=by
 simp only [gapsF];rw [if_neg (by rw [h];decide),if_neg h1]
def prV (L:List (Nat × Nat)):List (Value × Value):=L.map fun p=>(.int .i64 (p.1:Nat),.int .i64 (p.2:Nat))
def prC (L:List (Nat × Nat)):List Value:=fl2 (prV L)
theorem prC_len (L:List (Nat × Nat)):(prC L).length = L.length * 2:=by
 unfold prC;rw [fl2_length];simp [prV]
theorem prC_snoc (L:List (Nat × Nat)) (p:Nat × Nat):prC (L ++ [p]) = prC L ++ [.int .i64 (p.1:Nat),.int .i64 (p.2:Nat)]:=by simp [prC,prV,fl2]
theorem prC_at {L:List (Nat × Nat)} {i:Nat} {p:Nat × Nat} (h:L[i]? = some p):(prC L)[i * 2]? = some (.int .i64 (p.1:Nat))∧(prC L)[i * 2 + 1]? = some (.int .i64 (p.2:Nat)):=by
 have h2:(prV L)[i]? = some (.int .i64 (p.1:Nat),.int .i64 (p.2:Nat)):=by unfold prV;rw [List.getElem?_map,h];rfl
 exact fl2_at h2
theorem prC_set (P:List (Nat × Nat)) (a b c:Nat):(prC (P ++ [(a,b)])).set (P.length * 2 + 1) (.int .i64 (c:Nat)) = prC (P ++ [(a,c)]):=by
 rw [prC_snoc,prC_snoc,List.set_append_right _ _ (by rw [prC_len];omega),prC_len]
 congr 1
 rw [show P.length * 2 + 1 - P.length * 2 = 1 by omega]
 rfl
end Go.By
namespace Go.Proofs.YtccaiiigdfieoaaGreatDoor
open Go.RowKit Go.By Go.Maps
end Go.Proofs.YtccaiiigdfieoaaGreatDoor
namespace Go.Proofs.YtccaiiigdfieoaaGreatDoor
open Go.RowKit Go.By Go.Maps
theorem info_pair:(Tryz.prog.info? 74).map (fun i=>(i.zero,i.size,i.bytes)) = some (some (.agg #[.int .i64 0,.int .i64 0]),2,16):=by kernel_rfl
def PrO (w:World) (base:Nat) (q:Option Addr) (n c:Nat) (L:List (Nat × Nat)):Prop:=L.length = n∧w.ownsRow base 74 2 (.slice q n c) n (prC L)
theorem PrO.keep {w w':World} {base:Nat} {q:Option Addr} {n c:Nat} {L:List (Nat × Nat)} (h:PrO w base q n c L) (hb:Below w.heap.size w w'):PrO w' base q n c L:=⟨h.1,owns_keep h.2 hb⟩
theorem PrO.nil (w:World) (base:Nat):PrO w base none 0 0 []:=⟨rfl,World.ownsRow_nil _ _ _ _⟩
theorem PrO.snoc {w:World} {base:Nat} {q:Option Addr} {n c:Nat} {L:List (Nat × Nat)} {p:Nat × Nat} (hl:L.length = n) (h:w.ownsRow base 74 2 (.slice q (n + 1) c) (n + 1) (prC L ++ [.int .i64 (p.1:Nat),.int .i64 (p.2:Nat)])):PrO w base q (n + 1) c (L ++ [p]):=⟨by simp [hl],by rw [prC_snoc];exact h⟩
def RetPr (w:World) (L:List (Nat × Nat)) (e:Ending) (w':World):Prop:=∃ q n c,e = .returned (.slice q n c)∧PrO w' w.heap.size q n c L∧Below w.heap.size w w'
theorem told_boolC (L:Nat) (f:Nat→Bool):((toldT L f).map Value.bool).toArray = boolC L f:=by
 unfold toldT boolC;rw [List.map_map];rfl
theorem PrO.last {w:World} {base:Nat} {q:Option Addr} {p c:Nat} {P:List (Nat × Nat)} {a b:Nat} (h:PrO w base q (p + 1) c (P ++ [(a,b)])):∃ g,q = some ⟨g,0,none⟩∧base≤g∧w.cell? ⟨g,p * 2 + 1,none⟩ = some (.int .i64 (b:Nat))∧w.frozen? ⟨g,p * 2 + 1,none⟩ = false∧∀ d:Nat,PrO (w.setCell ⟨g,p * 2 + 1,none⟩ (.int .i64 (d:Nat))) base q (p + 1) c (P ++ [(a,d)]):=by
 obtain ⟨hl,ho⟩:=h
 have hp:P.length = p:=by simpa using hl
 obtain ⟨g,cur,rfl,hb,hh,h1,h2,h3,h4⟩:=owns2_open ho (by omega)
 have hcur:cur[p * 2 + 1]? = some (.int .i64 (b:Nat)):=by
  have e:(prC (P ++ [(a,b)]))[p * 2 + 1]? = some (.int .i64 (b:Nat)):=(prC_at (i:=p) (p:=(a,b)) (by rw [← hp];simp)).2
  rw [← h4,List.getElem?_take,if_pos (by omega)] at e
  exact e
 refine ⟨g,rfl,hb,by rw [cell_arr hh];exact hcur,frozen_arr hh _,fun d=>⟨by simp [hp],?_⟩⟩
 have hh2:(w.setCell ⟨g,p * 2 + 1,none⟩ (.int .i64 (d:Nat))).heap[g]? = some (.cells (cur.set (p * 2 + 1) (.int .i64 (d:Nat))).toArray 74 (0,0)):=by
  rw [hss hh];simp
 refine owns2_shut hb hh2 h1 h2 (by simpa using h3) ?_
 have e2:(cur.set (p * 2 + 1) (.int .i64 (d:Nat))).take ((p + 1) * 2) = (cur.take ((p + 1) * 2)).set (p * 2 + 1) (.int .i64 (d:Nat)):=List.take_set
 rw [e2,h4,← hp]
 exact prC_set P a b d
set_option maxRecDepth 1000000 in
set_option maxHeartbeats 4000000 in
theorem VGaps_any (base gt be L t k D N:Nat) (M v:Value) (C:DataW Unit) (K:List Rw) (st:Nat) (w:World) (h:Tkr w base gt be L t k D N M v C K st) (hL:L≤1000000) (hfit:∀ i:Nat,i < k→i * t≤L) (hlm:L≤k * t) :
  Calls Tryz.prog 37 #[.pointer (some ⟨gt,0,none⟩)] w (RetPr w (gapsF (fun a=>knS k K (a / t)) L)):=by
 obtain ⟨r0,hr0,hrz,hr1,hr2⟩:=info_parts info_pair
 have HS:=Lib.hid (TSome_any base gt be L t k D N M v C K st w h hL hfit hlm)
 clear h hfit hlm
 obtain ⟨f,hf0⟩:∃ f,f = fun a=>knS k K (a / t):=⟨_,rfl⟩
 rw [← hf0] at HS ⊢
 clear hf0
 go_enter Tryz.func37,Tryz.ntmps37
 go_wp2_with fail
 refine Calls.mono HS.out ?_
 rintro e w1 ⟨gO,g,rfl,-,hg,-,hc,hb⟩
 rw [told_boolC] at hc
 have HG:=Lib.hid hc
 have HB1:=Lib.hid hb
 clear hg hc hb HS
 go_wp2
 go_loopw [5,15] (fun ov iv wr=>∃ (i m co:Nat) (qo:Option Addr),i≤L∧iv = .int .i64 (i:Nat)∧ov = .slice qo m co∧m≤i∧Hid (PrO wr w1.heap.size qo m co (gapsF f i))∧Hid (Below w1.heap.size w1 wr)) (fun _ iv _=>L - (intOf iv).toNat)
 case atStart=>exact ⟨0,0,0,none,Nat.zero_le _,rfl,rfl,Nat.le_refl _,PrO.nil _ _,Below.refl _ _⟩
 case round =>
  obtain ⟨i,m,co,qo,hi,rfl,rfl,hm,HO,HB⟩:=hrel
  by_cases hlt:i < L
  ·have hlt':(i:Int) < (L:Int):=by omega
   have HLT:=Lib.hid hlt
   have HGw:=Lib.hid ((HB.out.block _ (lt_of_block HG.out)).trans HG.out)
   have hcell:wr.cell? ⟨g,i,none⟩ = some (.bool (f i)):=by rw [cell_of_row _ _ i _ _ _ HGw.out];exact boolC_at _ hlt
   cases hf:f i with
   | true =>
    rw [hf] at hcell
    have HN:Hid (PrO wr w1.heap.size qo m co (gapsF f (i + 1))):=by show PrO _ _ _ _ _ _;rw [gapsF_yes hf];exact HO.out
    clear hlt hf HO
    go_wp2
    go_roundw
    case rel=>exact ⟨i + 1,m,co,qo,HLT.out,by go_num,rfl,by omega,HN.out,HB.out⟩
    case measure=>simp [intOf];have:=HLT.out;omega
   | false =>
    rw [hf] at hcell
    by_cases h0:0 < i∧f (i - 1) = false
    ·obtain ⟨h1,h2⟩:=h0
     obtain ⟨P,a,hP,-⟩:=gapsF_last h1 h2
     have HN0:=Lib.hid (gapsF_more hf h1 h2 hP)
     rw [hP] at HO
     obtain ⟨p,rfl⟩:∃ p,m = p + 1:=⟨P.length,by have:=HO.out.1;simpa using this.symm⟩
     obtain ⟨gg,rfl,hgb,hcl,hfz,hset⟩:=HO.out.last
     have HN:Hid (PrO (wr.setCell ⟨gg,p * 2 + 1,none⟩ (.int .i64 ((i:Nat) + 1:Int))) w1.heap.size (some ⟨gg,0,none⟩) (p + 1) co (gapsF f (i + 1))):=by
      show PrO _ _ _ _ _ _
      rw [HN0.out];exact hset (i + 1)
     have HB6:Hid (Below w1.heap.size w1 (wr.setCell ⟨gg,p * 2 + 1,none⟩ (.int .i64 ((i:Nat) + 1:Int)))):=HB.out.setCell hgb _
     have hp0:(0:Int) < (i:Int):=by omega
     have hpc:wr.cell? ⟨g,i - 1,none⟩ = some (.bool false):=by rw [cell_of_row _ _ (i - 1) _ _ _ HGw.out,boolC_at _ (by omega:i - 1 < L),h2]
     have HPC:=Lib.hid hpc
     have hi1:((i - 1:Nat):Int) = (i:Int) - 1:=by omega
     obtain ⟨j,rfl⟩:∃ j,i = j + 1:=⟨i - 1,by omega⟩
     have hpc:wr.cell? ⟨g,j,none⟩ = some (.bool false):=HPC.out
     clear hlt hf HO hP hset HN0 h1 h2 hgb HPC hi1
     go_wp2
     go_roundw
     case rel=>exact ⟨j + 1 + 1,p + 1,co,_,HLT.out,by go_num,rfl,by omega,HN.out,HB6.out⟩
     case measure=>simp [intOf];have:=HLT.out;omega
    ·have HN0:=Lib.hid (gapsF_new hf h0)
     by_cases h1:0 < i
     ·have h2:f (i - 1) = true:=by
       cases e:f (i - 1) with
       | true=>rfl
       | false=>exact absurd ⟨h1,e⟩ h0
      obtain ⟨j,rfl⟩:∃ j,i = j + 1:=⟨i - 1,by omega⟩
      have hpc:wr.cell? ⟨g,j,none⟩ = some (.bool true):=by rw [cell_of_row _ _ j _ _ _ HGw.out,boolC_at _ (by omega:j < L)];simpa using h2
      clear hlt hf h0 h1 h2
      have HOA:Hid (∀ o,(wr.alloc o).ownsRow w1.heap.size 74 2 (.slice qo m co) m (prC (gapsF f (j + 1)))):=fun o=>HO.out.2.alloc o
      go_wp2_with (at_builtin;refine wpList_append_own _ rfl _ _ 65 rfl w1.heap.size 74 r0 _ 2 16 Tryz.underlying65 hr0 hrz hr1 hr2 rfl (by omega) _ m (prC (gapsF f (j + 1))) rfl (HOA.out _) ⟨wr.heap.size,0,none⟩ 1 1 [.int .i64 ((j + 1:Nat):Int),.int .i64 ((j + 1 + 1:Nat):Int)] rfl rfl ?c1 ?c2 ?c3 ?c4 ?c5 ?_)
      case c1 =>
       intro j' y hj'
       rw [Addr.add_lit,Nat.zero_add,cell_of_row _ _ j' _ _ _ (hnew rfl)]
       match j' with
       | 0=>simpa using hj'
       | 1=>simpa using hj'
       | j' + 2=>simp at hj'
      case c2=>intro y hy;simp at hy;rcases hy with rfl | rfl <;> rfl
      case c3=>unfold maxLen;omega
      case c4=>omega
      case c5=>have:=HB.out.size;simp;omega
      intro v6 w6 ho6 hg6 _
      obtain ⟨qb,cb,rfl⟩:=owns_shape ho6
      have HB6:=Lib.hid (al HB.out HB.out.size |>.grown hg6 (by have:=HB.out.size;simp;omega) (fun kk hk=>(HO.out.2.lt kk hk).1))
      have HO6:Hid (PrO w6 w1.heap.size qb (m + 1) cb (gapsF f (j + 1 + 1))):=by show PrO _ _ _ _ _ _;rw [HN0.out];exact PrO.snoc (p:=(j + 1,j + 1 + 1)) HO.out.1 ho6
      clear ho6 hg6 HOA HO HB hcell hpc HN0
      go_wp2
      go_roundw
      case rel=>exact ⟨j + 1 + 1,m + 1,cb,qb,HLT.out,by go_num,rfl,by omega,HO6.out,HB6.out⟩
      case measure=>simp [intOf];have:=HLT.out;omega
     ·obtain rfl:i = 0:=by omega
      clear hlt hf h0 h1
      have HOA:Hid (∀ o,(wr.alloc o).ownsRow w1.heap.size 74 2 (.slice qo m co) m (prC (gapsF f 0))):=fun o=>HO.out.2.alloc o
      go_wp2_with (at_builtin;refine wpList_append_own _ rfl _ _ 65 rfl w1.heap.size 74 r0 _ 2 16 Tryz.underlying65 hr0 hrz hr1 hr2 rfl (by omega) _ m (prC (gapsF f 0)) rfl (HOA.out _) ⟨wr.heap.size,0,none⟩ 1 1 [.int .i64 0,.int .i64 1] rfl rfl ?c1 ?c2 ?c3 ?c4 ?c5 ?_)
      case c1 =>
       intro j' y hj'
       rw [Addr.add_lit,Nat.zero_add,cell_of_row _ _ j' _ _ _ (hnew rfl)]
       match j' with
       | 0=>simpa using hj'
       | 1=>simpa using hj'
       | j' + 2=>simp at hj'
      case c2=>intro y hy;simp at hy;rcases hy with rfl | rfl <;> rfl
      case c3=>unfold maxLen;omega
      case c4=>omega
      case c5=>have:=HB.out.size;simp;omega
      intro v6 w6 ho6 hg6 _
      obtain ⟨qb,cb,rfl⟩:=owns_shape ho6
      have HB6:=Lib.hid (al HB.out HB.out.size |>.grown hg6 (by have:=HB.out.size;simp;omega) (fun kk hk=>(HO.out.2.lt kk hk).1))
      have HO6:Hid (PrO w6 w1.heap.size qb (m + 1) cb (gapsF f (0 + 1))):=by show PrO _ _ _ _ _ _;rw [HN0.out];exact PrO.snoc (p:=(0,0 + 1)) HO.out.1 ho6
      clear ho6 hg6 HOA HO HB hcell HN0
      go_wp2
      go_roundw
      case rel=>exact ⟨0 + 1,m + 1,cb,qb,HLT.out,by go_num,rfl,by omega,HO6.out,HB6.out⟩
      case measure=>simp [intOf];have:=HLT.out;omega
  ·obtain rfl:i = L:=by omega
   clear hlt
   go_wp2
   go_ret
   exact ⟨qo,m,co,rfl,⟨HO.out.1,owns_mono HO.out.2 HB1.out.size⟩,HB1.out.trans (HB.out.mono HB1.out.size)⟩
end Go.Proofs.YtccaiiigdfieoaaGreatDoor
namespace Go.Proofs.YtccaiiigdfieoaaGreatDoor
open Go.RowKit Go.By Go.Maps
def VwV (L t k D st r n m:Nat):Value:=.agg #[.int .i64 (L:Nat),.int .i64 (t:Nat),.int .i64 (k:Nat),.int .u32 (D:Nat),.int .i64 (st:Nat),.int .i64 (r:Nat),.int .i64 (n:Nat),.int .i64 (m:Nat)]
def VwB (w:World) (b L t k D st r n m:Nat):Prop:=w.heap[b]? = some (.cells #[.int .i64 (L:Nat),.int .i64 (t:Nat),.int .i64 (k:Nat),.int .u32 (D:Nat),.int .i64 (st:Nat),.int .i64 (r:Nat),.int .i64 (n:Nat),.int .i64 (m:Nat)] 63 (0,0))
theorem cells_eight {w:World} {b:Nat} {x0 x1 x2 x3 x4 x5 x6 x7:Value} {T:TypeId} {fr:Nat × Nat} (h:w.heap[b]? = some (.cells #[x0,x1,x2,x3,x4,x5,x6,x7] T fr)) :
  w.cell? ⟨b,0,none⟩ = some x0∧w.cell? ⟨b,1,none⟩ = some x1∧w.cell? ⟨b,2,none⟩ = some x2∧w.cell? ⟨b,3,none⟩ = some x3∧w.cell? ⟨b,4,none⟩ = some x4∧w.cell? ⟨b,5,none⟩ = some x5∧w.cell? ⟨b,6,none⟩ = some x6∧w.cell? ⟨b,7,none⟩ = some x7 :=
 ⟨cell_of_row _ _ 0 _ _ _ h,cell_of_row _ _ 1 _ _ _ h,cell_of_row _ _ 2 _ _ _ h,cell_of_row _ _ 3 _ _ _ h,cell_of_row _ _ 4 _ _ _ h,cell_of_row _ _ 5 _ _ _ h,cell_of_row _ _ 6 _ _ _ h,cell_of_row _ _ 7 _ _ _ h⟩
theorem fields_eight {w:World} {b:Nat} {x0 x1 x2 x3 x4 x5 x6 x7:Value} {T:TypeId} (h:w.heap[b]? = some (.cells #[x0,x1,x2,x3,x4,x5,x6,x7] T (0,0))) (i:Nat):w.frozen? ⟨b,i,none⟩ = false:=frozen_of_row _ _ i _ _ h
set_option maxRecDepth 1000000 in
set_option maxHeartbeats 4000000 in
theorem VOf_any (base gt be L t k D N:Nat) (M v:Value) (C:DataW Unit) (K:List Rw) (st:Nat) (w:World) (h:Tkr w base gt be L t k D N M v C K st) :
  Calls Tryz.prog 35 #[.pointer (some ⟨gt,0,none⟩)] w fun e w'=>e = .returned (VwV L t k D st K.length (if st = 0 then k - K.length else 0) (cntB (knS k K) k))∧Below w.heap.size w w':=by
 have hinfo:(Tryz.prog.info? 63).map (·.size) = some 8:=by kernel_rfl
 have HG:Hid (∀ W,Below w.heap.size w W→Calls Tryz.prog 71 #[.pointer (some ⟨gt,0,none⟩)] W fun e w'=>e = .returned (GVal L t k D M)∧Below W.heap.size W w'):=fun W hb=>TGate_any base gt be L t k D N M v C K st W (h.keep hb)
 have HS:Hid (∀ W,Below w.heap.size w W→Calls Tryz.prog 22 #[.pointer (some ⟨gt,0,none⟩)] W fun e w'=>e = .returned (.int .i64 (st:Nat))∧W = w'):=fun W hb=>TStatus_any base gt be L t k D N M v C K st W (h.keep hb)
 have HR:Hid (∀ W,Below w.heap.size w W→Calls Tryz.prog 47 #[.pointer (some ⟨gt,0,none⟩)] W fun e w'=>e = .returned (.int .i64 (K.length:Nat))∧W = w'):=fun W hb=>TRank_any base gt be L t k D N M v C K st W (h.keep hb)
 have HK:Hid (∀ W,Below w.heap.size w W→Calls Tryz.prog 93 #[.pointer (some ⟨gt,0,none⟩)] W (RetBl W k (knS k K))):=fun W hb=>VKnown_any base gt be L t k D N M v C K st W (h.keep hb)
 have hk2:=h.ok.k2
 have hKl:K.length≤k:=Red.le h.red
 clear h
 generalize knS k K = f at *
 generalize K.length = r at *
 obtain ⟨nd,hnd⟩:∃ nd,nd = if st = 0 then k - r else 0:=⟨_,rfl⟩
 rw [← hnd]
 go_enter Tryz.func35,Tryz.ntmps35
 go_wp2_with fail
 have BW:Hid (Below w.heap.size w (w.alloc (.cells #[.int .i64 0,.int .i64 0,.int .i64 0,.int .u32 0,.int .i64 0,.int .i64 0,.int .i64 0,.int .i64 0] 63 (0,0)))):=al (Below.refl _ _) (Nat.le_refl _)
 have hr0:VwB (w.alloc (.cells #[.int .i64 0,.int .i64 0,.int .i64 0,.int .u32 0,.int .i64 0,.int .i64 0,.int .i64 0,.int .i64 0] 63 (0,0))) w.heap.size 0 0 0 0 0 0 0 0:=hnew rfl
 have HR0:=Lib.hid hr0
 clear hr0
 generalize w.alloc (.cells #[.int .i64 0,.int .i64 0,.int .i64 0,.int .u32 0,.int .i64 0,.int .i64 0,.int .i64 0,.int .i64 0] 63 (0,0)) = w1 at *
 refine Calls.mono (HG.out w1 BW.out) ?_
 rintro e w2 ⟨rfl,hb⟩
 have HB2:=Lib.hid (bl BW.out hb BW.out.size)
 have HR2:Hid (VwB w2 w.heap.size 0 0 0 0 0 0 0 0):=(hb.block _ (lt_of_block HR0.out)).trans HR0.out
 have hlt2:w.heap.size < w2.heap.size:=lt_of_block HR2.out
 clear hb BW HR0
 have hfg:=field_gate L t k D M w2
 go_wp2_with (first | simp only [hfg] | fail)
 refine Calls.mono (HS.out w2 HB2.out) ?_
 rintro e w3 ⟨rfl,rfl⟩
 go_wp2_with fail
 refine Calls.mono (HR.out w2 HB2.out) ?_
 rintro e w3 ⟨rfl,rfl⟩
 clear HG HS HR
 by_cases hst:st = 0
 ·subst hst
  have hnk:((k:Int) - (r:Int)) = ((nd:Nat):Int):=by rw [hnd,if_pos rfl];omega
  clear hnd
  go_wp2_with fail
  have ba:Below w2.heap.size w2 (w2.alloc (.cells #[.int .i64 (L:Nat),.int .i64 (t:Nat),.int .i64 (k:Nat),.int .u32 (D:Nat),.int .i64 0,.int .i64 (r:Nat),.int .i64 (nd:Nat),.int .i64 0] 63 (0,0))):=al (Below.refl _ _) (Nat.le_refl _)
  have hv3:VwB (w2.alloc (.cells #[.int .i64 (L:Nat),.int .i64 (t:Nat),.int .i64 (k:Nat),.int .u32 (D:Nat),.int .i64 0,.int .i64 (r:Nat),.int .i64 (nd:Nat),.int .i64 0] 63 (0,0))) w2.heap.size L t k D 0 r nd 0:=hnew rfl
  have HB3:=Lib.hid (bl HB2.out ba HB2.out.size)
  have HR3:Hid (VwB (w2.alloc (.cells #[.int .i64 (L:Nat),.int .i64 (t:Nat),.int .i64 (k:Nat),.int .u32 (D:Nat),.int .i64 0,.int .i64 (r:Nat),.int .i64 (nd:Nat),.int .i64 0] 63 (0,0))) w.heap.size 0 0 0 0 0 0 0 0):=(ba.block _ (lt_of_block HR2.out)).trans HR2.out
  have HV3:=Lib.hid hv3
  clear ba hv3 HR2
  generalize w2.alloc (.cells #[.int .i64 (L:Nat),.int .i64 (t:Nat),.int .i64 (k:Nat),.int .u32 (D:Nat),.int .i64 0,.int .i64 (r:Nat),.int .i64 (nd:Nat),.int .i64 0] 63 (0,0)) = w3 at *
  have HLE:Hid (w.heap.size < w2.heap.size):=hlt2
  have HBs:Hid (w.heap.size≤w2.heap.size):=Nat.le_of_lt hlt2
  clear HB2 hlt2
  obtain ⟨b,hb0⟩:∃ b,b = w2.heap.size:=⟨_,rfl⟩
  rw [← hb0] at HV3 HLE HBs ⊢
  clear hb0
  refine Calls.mono (HK.out w3 HB3.out) ?_
  rintro e w4 ⟨g,rfl,hg,hc,hb⟩
  have HB4:=Lib.hid (bl HB3.out hb HB3.out.size)
  have HR4:Hid (VwB w4 w.heap.size 0 0 0 0 0 0 0 0):=(hb.block _ (lt_of_block HR3.out)).trans HR3.out
  have HV4:Hid (VwB w4 b L t k D 0 r nd (cntB f 0)):=(hb.block _ (lt_of_block HV3.out)).trans HV3.out
  have HGc:=Lib.hid hc
  have HGb:Hid (g≠b∧g≠w.heap.size):=⟨fun e=>by have:=lt_of_block HV3.out;omega,fun e=>by have:=lt_of_block HR3.out;omega⟩
  clear hg hc hb HB3 HR3 HV3 HK
  go_wp2
  go_loopw [30] (fun iv wr=>∃ i:Nat,i≤k∧iv = .int .i64 (i:Nat)∧Hid (VwB wr b L t k D 0 r nd (cntB f i))∧Hid (VwB wr w.heap.size 0 0 0 0 0 0 0 0)∧Hid (wr.heap[g]? = some (.cells (boolC k f) 4 (0,0)))∧Hid (Below w.heap.size w wr)) (fun iv _=>k - (intOf iv).toNat)
  case atStart=>exact ⟨0,Nat.zero_le _,rfl,HV4.out,HR4.out,HGc.out,HB4.out⟩
  case round =>
   obtain ⟨i,hi,rfl,HV,HR,HG,HB⟩:=hrel
   clear HV4 HR4 HGc HB4
   by_cases hlt:i < k
   ·have hlt':(i:Int) < (k:Int):=by omega
    have HLT:=Lib.hid hlt
    have hcell:wr.cell? ⟨g,i,none⟩ = some (.bool (f i)):=by rw [cell_of_row _ _ i _ _ _ HG.out];exact boolC_at _ hlt
    have hcm:=cntB_le f i
    have HCS:Hid (cntB f (i + 1) = if f i then cntB f i + 1 else cntB f i):=rfl
    clear hlt
    cases hf:f i with
    | true =>
     rw [hf] at hcell HCS
     obtain ⟨-,-,-,-,-,-,-,c7⟩:=cells_eight HV.out
     have z7:=fields_eight HV.out 7
     have HV6:Hid (VwB (wr.setCell ⟨b,7,none⟩ (.int .i64 ((cntB f i:Nat) + 1:Int))) b L t k D 0 r nd (cntB f (i + 1))):=by
      show _ = _
      rw [heap_setCell_same _ _ _ _ _ _ HV.out,HCS.out]
      rfl
     have HR6:Hid (VwB (wr.setCell ⟨b,7,none⟩ (.int .i64 ((cntB f i:Nat) + 1:Int))) w.heap.size 0 0 0 0 0 0 0 0):=(Below.heap_setCell _ _ _ _ (fun e=>by have:=HLE.out;simp at e;omega)).trans HR.out
     have HG6:Hid ((wr.setCell ⟨b,7,none⟩ (.int .i64 ((cntB f i:Nat) + 1:Int))).heap[g]? = some (.cells (boolC k f) 4 (0,0))):=(Below.heap_setCell _ _ _ _ (fun e=>HGb.out.1 (by simpa using e))).trans HG.out
     have HB6:Hid (Below w.heap.size w (wr.setCell ⟨b,7,none⟩ (.int .i64 ((cntB f i:Nat) + 1:Int)))):=HB.out.setCell HBs.out _
     clear HV HR HG HB HCS
     go_wp2
     clear c7 z7 hcell
     go_roundw
     case rel=>exact ⟨i + 1,HLT.out,by go_num,HV6.out,HR6.out,HG6.out,HB6.out⟩
     case measure=>simp [intOf];have:=HLT.out;omega
    | false =>
     rw [hf] at hcell HCS
     have HV6:Hid (VwB wr b L t k D 0 r nd (cntB f (i + 1))):=by show VwB _ _ _ _ _ _ _ _ _ _;rw [HCS.out];exact HV.out
     clear HV HCS
     go_wp2
     go_roundw
     case rel=>exact ⟨i + 1,HLT.out,by go_num,HV6.out,HR.out,HG.out,HB.out⟩
     case measure=>simp [intOf];have:=HLT.out;omega
   ·obtain rfl:i = k:=by omega
    clear hlt
    obtain ⟨c0,c1,c2,c3,c4,c5,c6,c7⟩:=cells_eight HV.out
    obtain ⟨d0,d1,d2,d3,d4,d5,d6,d7⟩:=cells_eight HR.out
    have z:=fields_eight HR.out
    have z0:=z 0
    have z1:=z 1
    have z2:=z 2
    have z3:=z 3
    have z4:=z 4
    have z5:=z 5
    have z6:=z 6
    have z7:=z 7
    have HRx:=Lib.hid HR.out
    clear z HV HR HG
    go_wp2
    clear c0 c1 c2 c3 c4 c5 c6 c7 d0 d1 d2 d3 d4 d5 d6 d7 z0 z1 z2 z3 z4 z5 z6 z7
    exact bodyPost_ret (results_cell_row rfl _ _ _ 63 #[.int .i64 (L:Nat),.int .i64 (t:Nat),.int .i64 (i:Nat),.int .u32 (D:Nat),.int .i64 0,.int .i64 (r:Nat),.int .i64 (nd:Nat),.int .i64 (cntB f i:Nat)] (0,0) _ rfl (hss (hss (hss (hss (hss (hss (hss (hss HRx.out)))))))) Tryz.underlying63 rfl hinfo) rfl ⟨rfl,((((((((HB.out.setCell (Nat.le_refl _) _).setCell (Nat.le_refl _) _).setCell (Nat.le_refl _) _).setCell (Nat.le_refl _) _).setCell (Nat.le_refl _) _).setCell (Nat.le_refl _) _).setCell (Nat.le_refl _) _).setCell (Nat.le_refl _) _)⟩
 ·have hnk:nd = 0:=by rw [hnd,if_neg hst]
  have hst':¬ ((st:Int) = 0):=by omega
  subst hnk
  clear hnd
  go_wp2_with fail
  have ba:Below w2.heap.size w2 (w2.alloc (.cells #[.int .i64 (L:Nat),.int .i64 (t:Nat),.int .i64 (k:Nat),.int .u32 (D:Nat),.int .i64 (st:Nat),.int .i64 (r:Nat),.int .i64 0,.int .i64 0] 63 (0,0))):=al (Below.refl _ _) (Nat.le_refl _)
  have hv3:VwB (w2.alloc (.cells #[.int .i64 (L:Nat),.int .i64 (t:Nat),.int .i64 (k:Nat),.int .u32 (D:Nat),.int .i64 (st:Nat),.int .i64 (r:Nat),.int .i64 0,.int .i64 0] 63 (0,0))) w2.heap.size L t k D st r 0 0:=by exact hnew rfl
  have HB3:=Lib.hid (bl HB2.out ba HB2.out.size)
  have HR3:Hid (VwB (w2.alloc (.cells #[.int .i64 (L:Nat),.int .i64 (t:Nat),.int .i64 (k:Nat),.int .u32 (D:Nat),.int .i64 (st:Nat),.int .i64 (r:Nat),.int .i64 0,.int .i64 0] 63 (0,0))) w.heap.size 0 0 0 0 0 0 0 0):=(ba.block _ (lt_of_block HR2.out)).trans HR2.out
  have HV3:=Lib.hid hv3
  clear ba hv3 HR2
  generalize w2.alloc (.cells #[.int .i64 (L:Nat),.int .i64 (t:Nat),.int .i64 (k:Nat),.int .u32 (D:Nat),.int .i64 (st:Nat),.int .i64 (r:Nat),.int .i64 0,.int .i64 0] 63 (0,0)) = w3 at *
  have HLE:Hid (w.heap.size < w2.heap.size):=hlt2
  have HBs:Hid (w.heap.size≤w2.heap.size):=Nat.le_of_lt hlt2
  clear HB2 hlt2
  obtain ⟨b,hb0⟩:∃ b,b = w2.heap.size:=⟨_,rfl⟩
  rw [← hb0] at HV3 HLE HBs ⊢
  clear hb0
  refine Calls.mono (HK.out w3 HB3.out) ?_
  rintro e w4 ⟨g,rfl,hg,hc,hb⟩
  have HB4:=Lib.hid (bl HB3.out hb HB3.out.size)
  have HR4:Hid (VwB w4 w.heap.size 0 0 0 0 0 0 0 0):=(hb.block _ (lt_of_block HR3.out)).trans HR3.out
  have HV4:Hid (VwB w4 b L t k D st r 0 (cntB f 0)):=(hb.block _ (lt_of_block HV3.out)).trans HV3.out
  have HGc:=Lib.hid hc
  have HGb:Hid (g≠b∧g≠w.heap.size):=⟨fun e=>by have:=lt_of_block HV3.out;omega,fun e=>by have:=lt_of_block HR3.out;omega⟩
  clear hg hc hb HB3 HR3 HV3 HK
  go_wp2
  go_loopw [30] (fun iv wr=>∃ i:Nat,i≤k∧iv = .int .i64 (i:Nat)∧Hid (VwB wr b L t k D st r 0 (cntB f i))∧Hid (VwB wr w.heap.size 0 0 0 0 0 0 0 0)∧Hid (wr.heap[g]? = some (.cells (boolC k f) 4 (0,0)))∧Hid (Below w.heap.size w wr)) (fun iv _=>k - (intOf iv).toNat)
  case atStart=>exact ⟨0,Nat.zero_le _,rfl,HV4.out,HR4.out,HGc.out,HB4.out⟩
  case round =>
   obtain ⟨i,hi,rfl,HV,HR,HG,HB⟩:=hrel
   clear HV4 HR4 HGc HB4
   by_cases hlt:i < k
   ·have hlt':(i:Int) < (k:Int):=by omega
    have HLT:=Lib.hid hlt
    have hcell:wr.cell? ⟨g,i,none⟩ = some (.bool (f i)):=by rw [cell_of_row _ _ i _ _ _ HG.out];exact boolC_at _ hlt
    have hcm:=cntB_le f i
    have HCS:Hid (cntB f (i + 1) = if f i then cntB f i + 1 else cntB f i):=rfl
    clear hlt
    cases hf:f i with
    | true =>
     rw [hf] at hcell HCS
     obtain ⟨-,-,-,-,-,-,-,c7⟩:=cells_eight HV.out
     have z7:=fields_eight HV.out 7
     have HV6:Hid (VwB (wr.setCell ⟨b,7,none⟩ (.int .i64 ((cntB f i:Nat) + 1:Int))) b L t k D st r 0 (cntB f (i + 1))):=by
      show _ = _
      rw [heap_setCell_same _ _ _ _ _ _ HV.out,HCS.out]
      rfl
     have HR6:Hid (VwB (wr.setCell ⟨b,7,none⟩ (.int .i64 ((cntB f i:Nat) + 1:Int))) w.heap.size 0 0 0 0 0 0 0 0):=(Below.heap_setCell _ _ _ _ (fun e=>by have:=HLE.out;simp at e;omega)).trans HR.out
     have HG6:Hid ((wr.setCell ⟨b,7,none⟩ (.int .i64 ((cntB f i:Nat) + 1:Int))).heap[g]? = some (.cells (boolC k f) 4 (0,0))):=(Below.heap_setCell _ _ _ _ (fun e=>HGb.out.1 (by simpa using e))).trans HG.out
     have HB6:Hid (Below w.heap.size w (wr.setCell ⟨b,7,none⟩ (.int .i64 ((cntB f i:Nat) + 1:Int)))):=HB.out.setCell HBs.out _
     clear HV HR HG HB HCS
     go_wp2
     clear c7 z7 hcell
     go_roundw
     case rel=>exact ⟨i + 1,HLT.out,by go_num,HV6.out,HR6.out,HG6.out,HB6.out⟩
     case measure=>simp [intOf];have:=HLT.out;omega
    | false =>
     rw [hf] at hcell HCS
     have HV6:Hid (VwB wr b L t k D st r 0 (cntB f (i + 1))):=by show VwB _ _ _ _ _ _ _ _ _ _;rw [HCS.out];exact HV.out
     clear HV HCS
     go_wp2
     go_roundw
     case rel=>exact ⟨i + 1,HLT.out,by go_num,HV6.out,HR.out,HG.out,HB.out⟩
     case measure=>simp [intOf];have:=HLT.out;omega
   ·obtain rfl:i = k:=by omega
    clear hlt
    obtain ⟨c0,c1,c2,c3,c4,c5,c6,c7⟩:=cells_eight HV.out
    obtain ⟨d0,d1,d2,d3,d4,d5,d6,d7⟩:=cells_eight HR.out
    have z:=fields_eight HR.out
    have z0:=z 0
    have z1:=z 1
    have z2:=z 2
    have z3:=z 3
    have z4:=z 4
    have z5:=z 5
    have z6:=z 6
    have z7:=z 7
    have HRx:=Lib.hid HR.out
    clear z HV HR HG
    go_wp2
    clear c0 c1 c2 c3 c4 c5 c6 c7 d0 d1 d2 d3 d4 d5 d6 d7 z0 z1 z2 z3 z4 z5 z6 z7
    exact bodyPost_ret (results_cell_row rfl _ _ _ 63 #[.int .i64 (L:Nat),.int .i64 (t:Nat),.int .i64 (i:Nat),.int .u32 (D:Nat),.int .i64 (st:Nat),.int .i64 (r:Nat),.int .i64 0,.int .i64 (cntB f i:Nat)] (0,0) _ rfl (hss (hss (hss (hss (hss (hss (hss (hss HRx.out)))))))) Tryz.underlying63 rfl hinfo) rfl ⟨rfl,((((((((HB.out.setCell (Nat.le_refl _) _).setCell (Nat.le_refl _) _).setCell (Nat.le_refl _) _).setCell (Nat.le_refl _) _).setCell (Nat.le_refl _) _).setCell (Nat.le_refl _) _).setCell (Nat.le_refl _) _).setCell (Nat.le_refl _) _)⟩
end Go.Proofs.YtccaiiigdfieoaaGreatDoor
namespace Go.By
open Go.RowKit
theorem below_growN (w:World) (k:Nat) (os:Array Obj):Below w.heap.size w (Sort.grow (w.drewN k) os) :=
 ⟨rfl,rfl,rfl,by rw [Sort.size_grow];simp,fun i hi=>by
  show (Sort.grow (w.drewN k) os).heap[i]? = w.heap[i]?
  rw [Sort.heap_grow_old (w.drewN k) os (by simpa using hi)];simp⟩
end Go.By
namespace Go.Proofs.YtccaiiigdfieoaaGreatDoor
open Go.RowKit Go.By
def Tab10 (w : World) : Prop := Lib.TabIs Tryz.prog w "internal/strconv.uint64pow10" .u64 Lib.pow10Tab
theorem Tab10.keep {w w':World} (h:Tab10 w) (hb:Below w.heap.size w w'):Tab10 w':=by
 unfold Tab10 Lib.TabIs World.var? at *
 cases hg : Tryz.prog.globalNamed "internal/strconv.uint64pow10" with
 | none=>rw [hg] at h;exact h
 | some g =>
  rw [hg] at h
  simp only [Option.bind_some] at h ⊢
  cases hh:w.heap[g]? with
  | none=>rw [hh] at h;cases h
  | some o=>rw [hb.block g (lt_of_block hh),hh];rw [hh] at h;exact h
theorem Itoa_any (u:Nat) (h:u≤9223372036854775807) (w:World) (hT:Tab10 w):Calls Tryz.prog 91 #[.int .i64 u] w fun e w'=>e = .returned (.string (strB (Lib.decDigits u)))∧Below w.heap.size w w':=by
 refine (Tryz.strconv_Itoa u (by omega) (by omega) w hT).mono ?_
 rintro e w' ⟨rfl,k,os,rfl⟩
 exact ⟨by rw [Lib.itoa_nonneg];rfl,below_growN _ _ _⟩
end Go.Proofs.YtccaiiigdfieoaaGreatDoor
namespace Go.By
open Go.RowKit
theorem dd_len {u:Nat} (h:u < 18446744073709551616):(Lib.decDigits u).length≤20:=by rw [Lib.decDigits_length];exact Lib.nDigits_le20 u h
end Go.By
namespace Go.Proofs.YtccaiiigdfieoaaGreatDoor
open Go.RowKit Go.By
end Go.Proofs.YtccaiiigdfieoaaGreatDoor
