/- Small laws on bytes as the walk spells them. Small laws on slices: a slice that reads as a list; append of such a one. Texts as lists of bytes; builders. DERIVED: THE SHELF's CONTRACTS AT THIS DUMP,IN PLAIN WORDS (tools/lay-plain.mjs out of 'TryzShelf.lean',which tools/lay-shelf.mjs wrote): THE SAME DECLARATIONS UNDER THE SAME NAMES: 'import','namespace','open','def','theorem' AND NOTHING ELSE: no command of the shelf's: FOR A HAND-IN. Each laying: the table of numbers ('.._ren') and one theorem,a field a fact of the dump's own or the kernel's comparison; each contract: ONE APPLICATION. strings.Builder: WriteString,WriteByte,String. Plain mathematics: the field of 256 elements,as polynomials over two bits modulo x^8+x^4+x^3+x^2+1. Nothing of the program. The contracts of the field's functions. The contracts of the kernel's functions: halves. The contracts of the kernel's functions: put. The contracts of slices.Clone,IndexFunc,ContainsFunc at bytes and rows. Small laws on slices of byte slices; what a function that makes a row hands back. The contracts of the kernel's functions: Scale,Axpy,Dot,Zero. The contracts of the kernel's functions: nought,Sum,Comb. The contracts of the kernel's functions: Sum,Comb. Small laws: literal slices. The contracts of the vectors' functions: Lead,At,Zero,Unit,Of,Clone. Plain mathematics: the reference's product of two bytes is the field's. The contract of the reference's product. The contracts of the reference's functions of layer 2. The contracts of the rows' functions: Clone,Norm,Less. The contracts of the rows' functions: Less. The contracts of slices.Equal and of the rows' Same. What the packet layers and the plan share with the rows: IndexFunc and ContainsFunc of bytes and rows,Same and Zero of the reference,Zero of the kernel and of vectors. -/
import Derived.WalkKit
import Derived.Laws.CopyOwn
import Derived.Laws.AppendOwnNone
import Derived.Lib.Strings
import Derived.Lib.UnsafeStr
import Derived.Lib.AppendStr
import Derived.Lib.Builder
import Derived.Shelf.Strings.Builder1
import Derived.Shelf.Strings.Builder2
import Derived.Shelf.Strings.OnBuilder
import Derived.Shelf.Small.Bits
import Derived.Shelf.Small.Strs
import Derived.Shelf.Small.Wraps
import Derived.Shelf.Strings.BuilderF
import Derived.Shelf.Strings.BuilderK
import Derived.Shelf.Utf8.RuneCount
import Derived.Shelf.Strings.Builder2Cap
import Derived.Shelf.Strconv.Itoa0
import Derived.Shelf.Strconv.Itoa1
import Derived.Shelf.LaysM
import Derived.Shelf.Strconv.Itoa2
import Derived.Shelf.Strconv.Itoa3
import Derived.Shelf.Strconv.Clone
import Derived.Shelf.Strconv.SyntaxError
import Derived.Shelf.LaysC
import Derived.Shelf.Strconv.ToError
import Derived.Shelf.Strconv.Lower
import Derived.Shelf.Strconv.ParseUint10
import Derived.Shelf.Strconv.ParseUint10Empty
import Derived.Shelf.Strconv.ParseUint10Any
import Derived.Shelf.Strconv.RangeError
import Derived.Shelf.Strconv.ToErrorRange
import Derived.Shelf.Strconv.ParseUintEmpty
import Derived.Shelf.Strconv.ParseUint10b64
import Derived.Shelf.Strconv.ParseUint10b32
import Derived.Shelf.Strconv.ParseUint10b16
import Derived.Shelf.Strconv.ParseUint10b8
import Derived.Shelf.Strconv.ParseUint10At
import Derived.Ground.MpProg
import Derived.Shelf.Pu.ParseUintPublic10
import Derived.Shelf.Pu.ErrVarParseUint
import Derived.Shelf.Strings.Search1
import Derived.Shelf.Strings.Search2
import Derived.Shelf.Strings.Search3
import Derived.Shelf.Strings.Count
import Derived.Shelf.Strings.Shaped
import Derived.Shelf.Sort.Plain
import Derived.Shelf.Strings.Prefix
import Derived.Shelf.Strings.Split
import Derived.Shelf.Strings.SplitShaped
import Derived.Shelf.Unicode.Decode
import Derived.Shelf.Strings.RuneCount
import Derived.Shelf.Strings.Explode
import Derived.Shelf.Unicode.DecodeSlow
import Derived.Shelf.Unicode.DecodeAny
import Derived.Shelf.Strings.BuilderCap
import Derived.Shelf.Slices.Equal
import Derived.Ground.Names2Prog
import Derived.Shelf.Slices.SearchI
import Derived.Shelf.Slices.In.SortNone
import Derived.Shelf.Slices.Empties2
import Derived.Shelf.Bytes.SlSearch0
import Derived.Ground.SlbCloneProg
import Derived.Shelf.Bytes.SlClone
import Derived.Shelf.Bytes.SlEqualAll
import Derived.Shelf.Bytes.Small
import Derived.Test.YtccaiiigdfieoaaGreatDoorProg
import Derived.WalkLawsBesides
import Derived.WalkSpells
import Derived.Lib.Hide
import Derived.BigRegion
import Derived.Shelf.Abstract
import Derived.Deep.QuietTactic
import Derived.BigQuiet
import Derived.Deep.RegionHeld3
import Derived.Deep.RegionWith
namespace Go.By
open Go.RowKit
abbrev B8 (x:UInt8):Value:=.int .u8 x.toNat
theorem bits_and (x y:UInt8):bits .and .u8 (x.toNat:Int) (y.toNat:Int) = ((x &&& y).toNat:Int):=by
 rw [UInt8.toNat_and];exact (bits_nat .u8 8 (by decide) wraps_u8 _ _ x.toNat_lt y.toNat_lt).1
theorem bits_xor_nat (k:IntKind) (j:Nat) (hj:j≤k.bits) (hk:∀ n:Int,0≤n→n < 2 ^ j→k.wrap n = n) (a b:Nat) (ha:a < 2 ^ j) (hb:b < 2 ^ j) :
  bits .xor k a b = ((a ^^^ b:Nat):Int):=by
 have hp:2 ^ j≤2 ^ k.bits:=Nat.pow_le_pow_right (by decide) hj
 have ha':a % 2 ^ k.bits = a:=Nat.mod_eq_of_lt (Nat.lt_of_lt_of_le ha hp)
 have hb':b % 2 ^ k.bits = b:=Nat.mod_eq_of_lt (Nat.lt_of_lt_of_le hb hp)
 have cast:∀ n:Nat,n < 2 ^ j→((n:Nat):Int) < 2 ^ j:=fun n h=>by exact_mod_cast h
 simp only [bits,BitVec.ofInt_natCast,BitVec.toNat_xor,BitVec.toNat_ofNat,ha',hb']
 exact hk _ (Int.natCast_nonneg _) (cast _ (Nat.xor_lt_two_pow ha hb))
theorem bits_xor (x y:UInt8):bits .xor .u8 (x.toNat:Int) (y.toNat:Int) = ((x ^^^ y).toNat:Int):=by
 rw [UInt8.toNat_xor];exact bits_xor_nat .u8 8 (by decide) wraps_u8 _ _ x.toNat_lt y.toNat_lt
theorem nat_ne_zero (x:UInt8):((x.toNat:Int) != 0) = decide (x≠0):=by
 have:x = 0↔x.toNat = 0:=by rw [← UInt8.toNat_inj];rfl
 by_cases h:x = 0
 ·simp [h]
 ·have:=mt this.2 h;rw [bne_iff_ne (a:=(x.toNat:Int)) |>.2 (by omega)];simp [h]
theorem nat_eq_zero (x:UInt8):((x.toNat:Int) == 0) = decide (x = 0):=by
 have:=nat_ne_zero x
 simp only [bne] at this
 by_cases h:x = 0 <;> simp [h] at this ⊢
 exact this
theorem shl1 (x:UInt8):((x.toNat:Int) * 2 % 256) = ((x <<< 1).toNat:Int):=by
 rw [UInt8.toNat_shiftLeft]
 simp [Nat.shiftLeft_eq]
theorem shr1 (x:UInt8):((x.toNat:Int) / 2) = ((x >>> 1).toNat:Int):=by
 rw [UInt8.toNat_shiftRight]
 simp [Nat.shiftRight_eq_div_pow]
theorem B8_congr {n:Int} {x:UInt8} (h:n = (x.toNat:Int)):Value.int .u8 n = B8 x:=by rw [h]
def Rs {α:Type} (enc:α→Value) (w:World) (p:Option Addr) (xs:List α):Prop :=
 ∀ i (hi:i < xs.length),∃ b o,p = some ⟨b,o,none⟩∧w.cell? ⟨b,o + i,none⟩ = some (enc xs[i])
theorem lt_of_cell {w:World} {b o:Nat} {v:Value} (h:w.cell? ⟨b,o,none⟩ = some v):b < w.heap.size:=by
 rcases Nat.lt_or_ge b w.heap.size with h' | h'
 ·exact h'
 ·simp [World.cell?,Array.getElem?_eq_none h'] at h
section
variable {α:Type} {enc:α→Value} {w w':World} {p:Option Addr} {xs:List α}
theorem Rs.nil:Rs enc w p ([]:List α):=fun i hi=>absurd hi (Nat.not_lt_zero i)
theorem Rs.lt (h:Rs enc w p xs) (h0:0 < xs.length):∃ b o,p = some ⟨b,o,none⟩∧b < w.heap.size:=by
 obtain ⟨b,o,hp,hc⟩:=h 0 h0
 exact ⟨b,o,hp,lt_of_cell hc⟩
theorem Rs.below {B:Nat} (h:Rs enc w p xs) (hb:Below B w w') (hB:∀ a,p = some a→a.block < B):Rs enc w' p xs:=by
 intro i hi
 obtain ⟨b,o,hp,hc⟩:=h i hi
 exact ⟨b,o,hp,(hb.cell (p:=⟨b,o + i,none⟩) (hB ⟨b,o,none⟩ hp)).trans hc⟩
theorem Rs.keep (h:Rs enc w p xs) (hb:Below w.heap.size w w'):Rs enc w' p xs:=by
 intro i hi
 obtain ⟨b,o,hp,hc⟩:=h i hi
 exact ⟨b,o,hp,(hb.cell (p:=⟨b,o + i,none⟩) (lt_of_cell hc)).trans hc⟩
theorem Rs.grown {row:Option Nat} (h:Rs enc w p xs) (hg:w.grownBy w' row) (hne:∀ a,p = some a→some a.block≠row):Rs enc w' p xs:=by
 intro i hi
 obtain ⟨b,o,hp,hc⟩:=h i hi
 exact ⟨b,o,hp,(World.cell?_of_block (a:=⟨b,o + i,none⟩) (hg.block b (lt_of_cell hc) (hne _ hp))).trans hc⟩
theorem Rs.alloc (h:Rs enc w p xs) (o:Obj):Rs enc (w.alloc o) p xs:=h.keep ((Below.refl _ _).alloc (Nat.le_refl _) _)
theorem Rs.at (h:Rs enc w p xs) (i:Nat) (hi:i < xs.length):∃ b o x,p = some ⟨b,o,none⟩∧w.cell? ⟨b,o + i,none⟩ = some (enc x)∧Hid (x = xs[i]):=by
 obtain ⟨b,o,hp,hc⟩:=h i hi
 exact ⟨b,o,_,hp,hc,rfl⟩
theorem Rs.of_owns {base e n c:Nat} (h:w.ownsRow base e 1 (.slice p n c) n (xs.map enc)):Rs enc w p xs:=by
 intro i hi
 rcases h.2 with h2 | ⟨g,cap,cur,hv,_⟩
 ·have:=h.1;simp [h2.2] at this;subst this;exact absurd hi (Nat.not_lt_zero i)
 ·obtain ⟨rfl,rfl⟩:p = some ⟨g,0,none⟩∧c = cap:=by simpa using hv
  refine ⟨g,0,rfl,?_⟩
  have hn:n = xs.length:=by have:=h.1;simp at this;exact this.symm
  rw [Nat.zero_add,h.cellAt i (by omega),List.getElem?_eq_getElem (by simpa using hi)]
  simp
theorem owns_len {base e n c:Nat} {ys:List Value} (h:w.ownsRow base e 1 (.slice p n c) n ys):ys.length = n:=by simpa using h.1
theorem owns_cap {base e n c:Nat} {ys:List Value} (h:w.ownsRow base e 1 (.slice p n c) n ys):n≤c∧c≤maxLen:=by
 rcases h.2 with h2 | ⟨g,cap,cur,hv,_,_,h3,h4,_⟩
 ·obtain ⟨h2,rfl⟩:=h2;simp at h2;simp [h2,maxLen]
 ·obtain ⟨_,rfl⟩:p = some ⟨g,0,none⟩∧c = cap:=by simpa using hv
  exact ⟨h3,h4⟩
theorem owns_at {base e n c:Nat} {ys:List Value} (h:w.ownsRow base e 1 (.slice p n c) n ys) (h0:0 < n):∃ g,p = some ⟨g,0,none⟩∧base≤g∧g < w.heap.size:=by
 rcases h.2 with h2 | ⟨g,cap,cur,hv,hb,hg,_⟩
 ·omega
 ·obtain ⟨rfl,_⟩:p = some ⟨g,0,none⟩∧c = cap:=by simpa using hv
  exact ⟨g,rfl,hb,lt_of_block hg⟩
end
theorem heap_alloc (w:World) (o:Obj) (i:Nat):(w.alloc o).heap[i]? = if i = w.heap.size then some o else w.heap[i]?:=by
 show (w.heap.push o)[i]? = _
 rw [Array.getElem?_push]
theorem hnew {w:World} {o:Obj} {i:Nat} (h:i = w.heap.size):(w.alloc o).heap[i]? = some o:=by rw [heap_alloc,if_pos h]
theorem hal {w:World} {o x:Obj} {i:Nat} (h:w.heap[i]? = some x):(w.alloc o).heap[i]? = some x:=by
 rw [heap_alloc,if_neg (by have:=lt_of_block h;omega)];exact h
theorem hsc {w:World} {a:Addr} {v:Value} {x:Obj} {i:Nat} (h:w.heap[i]? = some x) (hne:i≠a.block):(w.setCell a v).heap[i]? = some x:=by
 rw [Below.heap_setCell _ _ _ _ hne];exact h
theorem hss {w:World} {g i:Nat} {cs:Array Value} {t:TypeId} {v:Value} (h:w.heap[g]? = some (.cells cs t (0,0))):(w.setCell ⟨g,i,none⟩ v).heap[g]? = some (.cells (cs.setIfInBounds i v) t (0,0)):=heap_setCell_same w g i cs t v h
theorem hro {w:World} {g i:Nat} {cs:Array Value} {x:Obj} (h:w.heap[i]? = some x) (hne:i≠g):(w.setRow g cs).heap[i]? = some x:=by
 simp only [World.setRow,Array.getElem?_modify]
 rw [if_neg (by omega)];exact h
theorem hrs {w:World} {g:Nat} {cs old:Array Value} {t:TypeId} {fr:Nat × Nat} (h:w.heap[g]? = some (.cells old t fr)):(w.setRow g cs).heap[g]? = some (.cells cs t fr):=by
 simp only [World.setRow,Array.getElem?_modify]
 simp [h]
theorem step_load_row {P:Program} {ops:Array Oper} {o:Oper} {a:Act} {w:World} {K:Act→World→Prop} {Q:Exit→Act→World→Prop} {E:Prop} (hgd:o.guard = none) (ty:TypeId) (x:Operand) (ho:o.op = .load ty x)
  (g:Nat) (hx:a.eval x = .pointer (some ⟨g,0,none⟩)) (t:TypeId) (cs:Array Value) (fr:Nat × Nat) (d:TypeDesc) (hg:w.heap[g]? = some (.cells cs t fr))
  (hu:P.underlying ty = some d) (hd:(match d with | .struct _ | .array _ _=>true | _=>false) = true) (hi:(P.info? ty).map (·.size) = some cs.size)
  (h:K (a.put o.dst (.agg cs)) w):if Region.wanted o (yielded ops a.tmps) = true then Oper.wp P o a w K Q else E:=by
 rw [if_pos (by simp [Region.wanted,hgd])]
 exact wp_load_row ty x ho g hx t cs fr d hg hu hd hi h
theorem step_store_row {P:Program} {ops:Array Oper} {o:Oper} {a:Act} {w:World} {K:Act→World→Prop} {Q:Exit→Act→World→Prop} {E:Prop} (hgd:o.guard = none) (ty:TypeId) (x y:Operand) (ho:o.op = .store ty x y)
  (g:Nat) (cells:Array Value) (hx:a.eval x = .pointer (some ⟨g,0,none⟩)) (hy:a.eval y = .agg cells)
  (t:TypeId) (old:Array Value) (hg:w.heap[g]? = some (.cells old t (0,0))) (hi:(P.info? ty).map (·.size) = some cells.size)
  (hold:old.size = cells.size) (h1:cells.all (·.oneCell') = true)
  (h:K (a.put o.dst undef) (w.setRow g cells)):if Region.wanted o (yielded ops a.tmps) = true then Oper.wp P o a w K Q else E:=by
 rw [if_pos (by simp [Region.wanted,hgd])]
 exact wp_store_row ty x y ho g cells hx hy t old hg hi hold h1 h
theorem results_cell_row2 {P:Program} {fn:Func} {p q:Tmp} {ty:TypeId} (h:fn.results = #[.cell p ty,.cell q ty]) (tmps:Array Value) (w:World) (g g':Nat) (t t':TypeId) (cs cs':Array Value) (fr fr':Nat × Nat) (d:TypeDesc)
  (hp:tmps.getD p undef = .pointer (some ⟨g,0,none⟩)) (hg:w.heap[g]? = some (.cells cs t fr))
  (hq:tmps.getD q undef = .pointer (some ⟨g',0,none⟩)) (hg':w.heap[g']? = some (.cells cs' t' fr'))
  (hu:P.underlying ty = some d) (hd:(match d with | .struct _ | .array _ _=>true | _=>false) = true) (hi:(P.info? ty).map (·.size) = some cs.size) (hi':(P.info? ty).map (·.size) = some cs'.size) :
  (results fn tmps).run P w = .ok (.tuple #[.agg cs,.agg cs']) w:=by
 have hp':tmps[p]?.getD undef = .pointer (some ⟨g,0,none⟩):=by simpa using hp
 have hq':tmps[q]?.getD undef = .pointer (some ⟨g',0,none⟩):=by simpa using hq
 simp [results,h,hp',hq',asAddr,run_loadVar_row w g t ty cs fr d hg hu hd hi,run_loadVar_row w g' t' ty cs' fr' d hg' hu hd hi']
theorem wpList_store_row {P:Program} {ops:Array Oper} {rest:List Oper} {o:Oper} {a:Act} {w:World} {Q:Exit→Act→World→Prop} (hgd:o.guard = none) (ty:TypeId) (x y:Operand) (ho:o.op = .store ty x y)
  (g:Nat) (cells:Array Value) (hx:a.eval x = .pointer (some ⟨g,0,none⟩)) (hy:a.eval y = .agg cells)
  (t:TypeId) (old:Array Value) (hg:w.heap[g]? = some (.cells old t (0,0))) (hi:(P.info? ty).map (·.size) = some cells.size)
  (hold:old.size = cells.size) (h1:cells.all (·.oneCell') = true)
  (h:wpList P ops Q rest (a.put o.dst undef) (w.setRow g cells)):wpList P ops Q (o :: rest) a w :=
 wpList_plain hgd fun _ hK=>wp_store_row ty x y ho g cells hx hy t old hg hi hold h1 (hK _ _ h)
def prog {α:Type} (Z S:List α) (k:Nat):List α:=Z.take k ++ S.drop k
theorem prog_zero {α:Type} (Z S:List α):prog Z S 0 = S:=by simp [prog]
theorem prog_full {α:Type} (Z S:List α) (n:Nat) (hz:Z.length = n) (hs:S.length = n):prog Z S n = Z:=by
 simp [prog,List.take_of_length_le (Nat.le_of_eq hz),List.drop_of_length_le (Nat.le_of_eq hs)]
theorem prog_at {α:Type} (Z S:List α) (k n:Nat) (hz:Z.length = n) (hs:S.length = n) (hk:k < n):(prog Z S k)[k]? = S[k]?:=by
 simp only [prog]
 rw [List.getElem?_append_right (by simp;omega)]
 simp [show min k Z.length = k by omega]
theorem prog_succ {α:Type} (Z S:List α) (k n:Nat) (hz:Z.length = n) (hs:S.length = n) (hk:k < n) (z:α) (e:Z[k]? = some z):(prog Z S k).set k z = prog Z S (k + 1):=by
 obtain ⟨hk',e⟩:=List.getElem?_eq_some_iff.1 e
 apply List.ext_getElem?
 intro j
 simp only [prog]
 rw [List.getElem?_set]
 by_cases h1:k = j
 ·subst h1
  rw [if_pos rfl,if_pos (by simp;omega),List.getElem?_append_left (by simp;omega)]
  rw [List.getElem?_take_of_lt (by omega),List.getElem?_eq_getElem hk',e]
 ·rw [if_neg h1]
  by_cases h2:j < k
  ·rw [List.getElem?_append_left (by simp;omega),List.getElem?_append_left (by simp;omega),List.getElem?_take_of_lt h2,List.getElem?_take_of_lt (by omega)]
  ·rw [List.getElem?_append_right (by simp;omega),List.getElem?_append_right (by simp;omega)]
   simp only [List.length_take,List.getElem?_drop]
   congr 1;omega
theorem foldl_take_succ {α β:Type} (f:β→α→β) (z:β) (xs:List α) (k:Nat) (h:k < xs.length):(xs.take (k + 1)).foldl f z = f ((xs.take k).foldl f z) xs[k]:=by
 rw [List.take_succ_eq_append_getElem h,List.foldl_append];rfl
end Go.By
namespace Go.By
open Go.RowKit
theorem grown_trans {a b c:World} {row:Option Nat} (h:a.grownBy b row) (k:b.grownBy c row):a.grownBy c row :=
 ⟨k.os.trans h.os,k.tape.trans h.tape,k.output.trans h.output,Nat.le_trans h.size k.size,fun i hi hr=>(k.block i (Nat.lt_of_lt_of_le hi h.size) hr).trans (h.block i hi hr)⟩
structure Sl {α:Type} (enc:α→Value) (w:World) (p:Option Addr) (n c:Nat) (xs:List α):Prop where
 len:xs.length = n
 le:n≤c
 max:c≤maxLen
 nil:p = none→n = 0∧c = 0
 rs:Rs enc w p xs
def Room (n:Nat):Prop:=n≤140737488355328
theorem Room.of {n:Nat} (h:n≤140737488355328):Room n:=h
theorem Room.le {n m:Nat} (h:Room n) (hm:m≤n):Room m:=Nat.le_trans hm h
section
variable {α:Type} {enc:α→Value} {w w':World} {p:Option Addr} {n c:Nat} {xs:List α}
theorem Sl.keep (h:Sl enc w p n c xs) (hb:Below w.heap.size w w'):Sl enc w' p n c xs:=⟨h.len,h.le,h.max,h.nil,h.rs.keep hb⟩
theorem Sl.below {B:Nat} (h:Sl enc w p n c xs) (hb:Below B w w') (hB:∀ a,p = some a→a.block < B):Sl enc w' p n c xs:=⟨h.len,h.le,h.max,h.nil,h.rs.below hb hB⟩
theorem Sl.grown {row:Option Nat} (h:Sl enc w p n c xs) (hg:w.grownBy w' row) (hne:∀ a,p = some a→some a.block≠row):Sl enc w' p n c xs:=⟨h.len,h.le,h.max,h.nil,h.rs.grown hg hne⟩
theorem Sl.bound (h:Sl enc w p n c xs):n≤9223372036854775807:=by have:=h.le;have:=h.max;unfold maxLen at this;omega
theorem Sl.nil0 (enc:α→Value) (w:World):Sl enc w none 0 0 ([]:List α):=⟨rfl,Nat.le_refl _,by simp [maxLen],fun _=>⟨rfl,rfl⟩,Rs.nil⟩
theorem Sl.of_owns {base e:Nat} (h:w.ownsRow base e 1 (.slice p n c) n (xs.map enc)):Sl enc w p n c xs:=by
 have hc:=owns_cap h
 refine ⟨by simpa using owns_len h,hc.1,hc.2,fun hp=>?_,Rs.of_owns h⟩
 rcases h.2 with h2 | ⟨g,cap,cur,hv,_⟩
 ·obtain ⟨h2,rfl⟩:=h2;simp at h2;simp [h2]
 ·simp [hp] at hv
theorem Sl.at (h:Sl enc w p n c xs) (i:Nat) (hi:i < n):∃ b o x,p = some ⟨b,o,none⟩∧w.cell? ⟨b,o + i,none⟩ = some (enc x)∧Hid (xs[i]? = some x):=by
 have hi':i < xs.length:=by rw [h.len];exact hi
 obtain ⟨b,o,hp,hc⟩:=h.rs i hi'
 exact ⟨b,o,_,hp,hc,List.getElem?_eq_getElem hi'⟩
theorem owns_shape {base e size n:Nat} {v:Value} {ys:List Value} (h:w.ownsRow base e size v n ys):∃ q c,v = .slice q n c:=by
 rcases h.2 with h2 | ⟨g,cap,cur,hv,_⟩
 ·obtain ⟨h2,rfl⟩:=h2;exact ⟨none,0,h2⟩
 ·exact ⟨_,_,hv⟩
theorem owns_new {base e size n c:Nat} {ys:List Value} (h:w.ownsRow base e size (.slice p n c) n ys):∀ a,p = some a→base≤a.block∧a.block < w.heap.size:=by
 intro a ha
 exact h.lt a.block (by simp [Value.ownBlock,ha])
theorem owns_below {base B e size n c:Nat} {ys:List Value} (h:w.ownsRow base e size (.slice p n c) n ys) (hb:Below B w w') (hB:∀ a,p = some a→a.block < B):w'.ownsRow base e size (.slice p n c) n ys:=by
 refine ⟨h.1,?_⟩
 rcases h.2 with h2 | ⟨g,cap,cur,hv,hg,hh,r⟩
 ·exact Or.inl h2
 ·obtain ⟨rfl,rfl⟩:p = some ⟨g,0,none⟩∧c = cap:=by simpa using hv
  exact Or.inr ⟨g,c,cur,rfl,hg,(hb.block g (hB ⟨g,0,none⟩ rfl)).trans hh,r⟩
theorem owns_keep {base e size n c:Nat} {ys:List Value} (h:w.ownsRow base e size (.slice p n c) n ys) (hb:Below w.heap.size w w'):w'.ownsRow base e size (.slice p n c) n ys :=
 owns_below h hb (fun a ha=>(owns_new h a ha).2)
theorem owns_mono {base base' e size n:Nat} {v:Value} {ys:List Value} (h:w.ownsRow base e size v n ys) (hb:base'≤base):w.ownsRow base' e size v n ys:=by
 refine ⟨h.1,?_⟩
 rcases h.2 with h2 | ⟨g,cap,cur,hv,hg,hh,r⟩
 ·exact Or.inl h2
 ·exact Or.inr ⟨g,cap,cur,hv,Nat.le_trans hb hg,hh,r⟩
end
def idxf {α:Type} (f:α→Bool) (xs:List α):Int:=match xs.findIdx? f with
 | some i=>i
 | none=>-1
theorem idxf_found {α:Type} {f:α→Bool} {xs:List α} {k:Nat} {x:α} (hx:xs[k]? = some x) (hf:f x = true) (hb:∀ j y,j < k→xs[j]? = some y→f y = false):idxf f xs = k:=by
 obtain ⟨hk,hx⟩:=List.getElem?_eq_some_iff.1 hx
 have:xs.findIdx? f = some k:=by
  rw [List.findIdx?_eq_some_iff_getElem]
  exact ⟨hk,by rw [hx];exact hf,fun j hj=>by simp [hb j xs[j] hj (List.getElem?_eq_getElem (by omega))]⟩
 simp [idxf,this]
theorem idxf_none {α:Type} {f:α→Bool} {xs:List α} {k:Nat} (hk:k = xs.length) (hb:∀ j y,j < k→xs[j]? = some y→f y = false):idxf f xs = -1:=by
 have:xs.findIdx? f = none:=by
  rw [List.findIdx?_eq_none_iff]
  intro x hx
  obtain ⟨j,hj,rfl⟩:=List.getElem_of_mem hx
  exact hb j _ (by omega) (List.getElem?_eq_getElem hj)
 simp [idxf,this]
theorem idxf_ge {α:Type} (f:α→Bool) (xs:List α):decide (0≤idxf f xs) = xs.any f:=by
 unfold idxf
 cases h:xs.findIdx? f with
 | none =>
  rw [List.findIdx?_eq_none_iff] at h
  have:xs.any f = false:=by rw [List.any_eq_false];intro x hx;simp [h x hx]
  simp [this]
 | some i =>
  obtain ⟨hi,hf,_⟩:=List.findIdx?_eq_some_iff_getElem.1 h
  have:xs.any f = true:=List.any_eq_true.2 ⟨_,List.getElem_mem hi,hf⟩
  simp [this]
theorem wpList_append_rs {P:Program} (w:World) {ops:Array Oper} {rest:List Oper} {o:Oper} {a:Act} {Q:Exit→Act→World→Prop} (hgd:o.guard = none) (s x:Operand) (t:TypeId)
  (ho:o.op = .call { callee:=.builtin .append,args:=#[s,x],argTypes:=#[t,t] })
  (base:Nat) (e:TypeId) (i:TypeInfo) (z:Value) (bytes:Nat) (ht:P.underlying t = some (.slice e)) (hi:P.info? e = some i) (hz:i.zero = some z)
  (hsize:i.size = 1) (hby:i.bytes = bytes) (hzs:z.cells.size = 1)
  (v:Value) (n:Nat) (ys:List Value) (hs:a.eval s = v) (hown:w.ownsRow base e 1 v n ys)
  {α:Type} (enc:α→Value) (p:Option Addr) (m c:Nat) (news:List α) (henc:∀ x,x ∈ news→(enc x).oneCell' = true) (hx:a.eval x = .slice p m c) (hrs:Sl enc w p m c news)
  (h63:n + m≤maxLen) (hbytes:(n + m) * bytes≤140737488355328) (hbase:base≤w.heap.size)
  (h:∀ v' w',w'.ownsRow base e 1 v' (n + m) (ys ++ news.map enc)→w.grownBy w' v.ownBlock→wpList P ops Q rest (a.put o.dst v') w'):wpList P ops Q (o :: rest) a w:=by
 cases p with
 | none =>
  obtain ⟨rfl,rfl⟩:=hrs.nil rfl
  have:news = []:=List.eq_nil_of_length_eq_zero hrs.len
  subst this
  refine wpList_append_own_none hgd s x t ho base e i 1 ht hi v n ys hs hown hx (h v w (by simpa using hown) (World.grownBy.refl _ _))
 | some ad =>
  refine wpList_append_own w hgd s x t ho base e i z 1 bytes ht hi hz hsize hby hzs (by decide) v n ys hs hown ad m c (news.map enc) hx (by simpa using hrs.len) ?_ ?_ h63 hbytes hbase (fun v' w' h1 h2 _=>h v' w' h1 h2)
  ·intro j u hu
   obtain ⟨hj,hu⟩:=List.getElem?_eq_some_iff.1 hu
   obtain ⟨b,o',hp,hc⟩:=hrs.rs j (by simpa using hj)
   obtain rfl:=Option.some.inj hp
   rw [Addr.add_lit,hc,← hu];simp
  ·intro u hu
   obtain ⟨x,hx',rfl⟩:=List.mem_map.1 hu
   exact henc x hx'
end Go.By
namespace Go.By
open Go.RowKit
def strB (l:List UInt8):ByteArray:=⟨l.toArray⟩
theorem strB_size (l:List UInt8):(strB l).size = l.length:=by simp [strB,ByteArray.size]
theorem strB_data (l:List UInt8):(strB l).data.toList = l:=by simp [strB]
theorem strB_of (s:ByteArray):s = strB s.data.toList:=by cases s;simp [strB]
theorem BuilderAt.keep {T e:TypeId} {B b:Nat} {p:Value} {bs:List Value} {w w':World} (h:Lib.BuilderAt T e B b p bs w) (hb:Below w.heap.size w w'):Lib.BuilderAt T e B b p bs w':=by
 obtain ⟨h1,v,h2,h3,h4⟩:=h
 obtain ⟨q,c,rfl⟩:=owns_shape h3
 exact ⟨h1,_,(hb.block _ (lt_of_block h2)).trans h2,owns_keep h3 hb,h4⟩
theorem txt_app (a b:List UInt8):strB a ++ strB b = strB (a ++ b):=by
 rw [strB_of (strB a ++ strB b)]
 congr 1
end Go.By
namespace Go.Proofs
open Go.Shelf
def Tryz.lays169_ren:Go.Shelf.Ren:=⟨fun | 169=>74 | n=>n,fun | 70=>133 | 9=>9 | 0=>0 | 72=>135 | 37=>22 | 127=>211 | 3=>3 | 5=>5 | n=>n,fun | n=>n⟩
theorem Tryz.lays169:Go.Proofs.Lays.n169 Tryz.prog Tryz.lays169_ren:={
 mixed:=by kernel_rfl
 f169:=Tryz.func74.trans (congrArg some (by kernel_rfl))
 t0:=Tryz.underlying0
 a0:=Tryz.isAgg0
 z0:=Tryz.sizeOf0
 v0:=Tryz.zeroValue0
 t3:=Tryz.underlying3
 a3:=Tryz.isAgg3
 z3:=Tryz.sizeOf3
 v3:=Tryz.zeroValue3
 t9:=Tryz.underlying9
 a9:=Tryz.isAgg9
 z9:=Tryz.sizeOf9
 v9:=Tryz.zeroValue9
 t37:=Tryz.underlying22
 a37:=Tryz.isAgg22
 z37:=Tryz.sizeOf22
 v37:=Tryz.zeroValue22
 t70:=Tryz.underlying133
 a70:=Tryz.isAgg133
 z70:=Tryz.sizeOf133
 v70:=Tryz.zeroValue133
 t72:=Tryz.underlying135
 a72:=Tryz.isAgg135
 z72:=Tryz.sizeOf135
 v72:=Tryz.zeroValue135
 t127:=Tryz.underlying211
 a127:=Tryz.isAgg211
 z127:=Tryz.sizeOf211
 v127:=Tryz.zeroValue211 }
theorem Tryz.Builder_Extra_169:Builder.Extra Tryz.prog Tryz.lays169_ren:={
 sizeBuilder:=by kernel_rfl
 liesBuilder:=by kernel_rfl
 t5:=Tryz.underlying5
 a5:=Tryz.isAgg5
 z5:=Tryz.sizeOf5
 v5:=Tryz.zeroValue5
 infoByte:=by kernel_rfl
 cellsByte:=by kernel_rfl
 sizeByte:=by kernel_rfl
 neB5:=by decide }
open Go.RowKit in
theorem Tryz.Builder_String_any (B b:Nat) (l:List UInt8) (w:World) (h:Lib.IsBuilder 135 5 B b (Lib.byteCells l) w) (hBw:B≤w.heap.size) :
  Calls Tryz.prog 74 #[.pointer (some ⟨b,0,none⟩)] w fun e w'=>e = .returned (.string ⟨l.toArray⟩)∧Below B w w':=Any.Builder_String_any Tryz.lays169 Tryz.Builder_Extra_169 B b l w h hBw
def Tryz.laysM171_ren:Go.Shelf.Ren:=⟨fun | 171=>91 | 243=>157 | 246=>207 | 283=>230 | 284=>231 | 285=>232 | 286=>233 | 129=>256 | 317=>255 | 318=>257 | 319=>258 | 320=>259 | 337=>274 | 338=>275 | n=>n,fun | 3=>3 | 9=>9 | 2=>2 | 4=>4 | 171=>298 | 0=>0 | 53=>81 | 37=>22 | 5=>5 | 173=>301 | 212=>323 | 51=>23 | 20=>20 | 213=>324 | 46=>142 | 232=>353 | 233=>354 | n=>n,fun | 17=>2 | 18=>7 | 19=>8 | n=>n⟩
theorem Tryz.laysM171:Go.Proofs.LaysM.n171 Tryz.prog Tryz.laysM171_ren:={
 mixed:=by kernel_rfl
 f129:=Tryz.func256.trans (congrArg some (by kernel_rfl))
 f171:=Tryz.func91.trans (congrArg some (by kernel_rfl))
 f243:=Tryz.func157.trans (congrArg some (by kernel_rfl))
 f246:=Tryz.func207.trans (congrArg some (by kernel_rfl))
 f283:=Tryz.func230.trans (congrArg some (by kernel_rfl))
 f284:=Tryz.func231.trans (congrArg some (by kernel_rfl))
 f285:=Tryz.func232.trans (congrArg some (by kernel_rfl))
 f286:=Tryz.func233.trans (congrArg some (by kernel_rfl))
 f317:=Tryz.func255.trans (congrArg some (by kernel_rfl))
 f318:=Tryz.func257.trans (congrArg some (by kernel_rfl))
 f319:=Tryz.func258.trans (congrArg some (by kernel_rfl))
 f320:=Tryz.func259.trans (congrArg some (by kernel_rfl))
 f337:=Tryz.func274.trans (congrArg some (by kernel_rfl))
 f338:=Tryz.func275.trans (congrArg some (by kernel_rfl))
 t0:=Tryz.underlying0
 a0:=Tryz.isAgg0
 z0:=Tryz.sizeOf0
 v0:=Tryz.zeroValue0
 t2:=Tryz.underlying2
 a2:=Tryz.isAgg2
 z2:=Tryz.sizeOf2
 v2:=Tryz.zeroValue2
 t3:=Tryz.underlying3
 a3:=Tryz.isAgg3
 z3:=Tryz.sizeOf3
 v3:=Tryz.zeroValue3
 t4:=Tryz.underlying4
 a4:=Tryz.isAgg4
 z4:=Tryz.sizeOf4
 v4:=Tryz.zeroValue4
 t5:=Tryz.underlying5
 a5:=Tryz.isAgg5
 z5:=Tryz.sizeOf5
 v5:=Tryz.zeroValue5
 t9:=Tryz.underlying9
 a9:=Tryz.isAgg9
 z9:=Tryz.sizeOf9
 v9:=Tryz.zeroValue9
 t20:=Tryz.underlying20
 a20:=Tryz.isAgg20
 z20:=Tryz.sizeOf20
 v20:=Tryz.zeroValue20
 t37:=Tryz.underlying22
 a37:=Tryz.isAgg22
 z37:=Tryz.sizeOf22
 v37:=Tryz.zeroValue22
 t46:=Tryz.underlying142
 a46:=Tryz.isAgg142
 z46:=Tryz.sizeOf142
 v46:=Tryz.zeroValue142
 t51:=Tryz.underlying23
 a51:=Tryz.isAgg23
 z51:=Tryz.sizeOf23
 v51:=Tryz.zeroValue23
 t53:=Tryz.underlying81
 a53:=Tryz.isAgg81
 z53:=Tryz.sizeOf81
 v53:=Tryz.zeroValue81
 t171:=Tryz.underlying298
 a171:=Tryz.isAgg298
 z171:=Tryz.sizeOf298
 v171:=Tryz.zeroValue298
 t173:=Tryz.underlying301
 a173:=Tryz.isAgg301
 z173:=Tryz.sizeOf301
 v173:=Tryz.zeroValue301
 t212:=Tryz.underlying323
 a212:=Tryz.isAgg323
 z212:=Tryz.sizeOf323
 v212:=Tryz.zeroValue323
 t213:=Tryz.underlying324
 a213:=Tryz.isAgg324
 z213:=Tryz.sizeOf324
 t232:=Tryz.underlying353
 a232:=Tryz.isAgg353
 z232:=Tryz.sizeOf353
 v232:=Tryz.zeroValue353
 t233:=Tryz.underlying354
 a233:=Tryz.isAgg354
 z233:=Tryz.sizeOf354
 v233:=Tryz.zeroValue354
 g17:=by kernel_rfl
 g18:=by kernel_rfl
 g19:=by kernel_rfl
 i0:=by kernel_rfl
 i2:=by kernel_rfl
 i3:=by kernel_rfl
 i4:=by kernel_rfl
 i5:=by kernel_rfl
 i9:=by kernel_rfl
 i20:=by kernel_rfl
 i37:=by kernel_rfl
 i46:=by kernel_rfl
 i51:=by kernel_rfl
 i53:=by kernel_rfl
 i171:=by kernel_rfl
 i173:=by kernel_rfl
 i212:=by kernel_rfl
 i232:=by kernel_rfl
 i233:=by kernel_rfl
 m17:=by kernel_rfl
 m18:=by kernel_rfl
 m19:=by kernel_rfl }
open Go.RowKit Go.Sort Go.Lib in
theorem Tryz.strconv_Itoa (n : Int) (h0 : -9223372036854775808 ≤ n) (h1 : n ≤ 9223372036854775807) (w : World) (htab : Lib.TabIs Tryz.prog w "internal/strconv.uint64pow10" .u64 Lib.pow10Tab) :
  Calls Tryz.prog 91 #[.int .i64 n] w fun e w'=>e = .returned (.string ⟨(Lib.itoa n).toArray⟩)∧∃ k os,w' = grow (w.drewN k) os:=Any.strconv_Itoa Tryz.laysM171 n h0 h1 w htab
def Tryz.lays189_ren:Go.Shelf.Ren:=⟨fun | 189=>214 | 125=>240 | 257=>239 | 128=>270 | 129=>256 | 294=>261 | 295=>262 | 296=>263 | 297=>264 | 298=>265 | 299=>266 | 216=>267 | 300=>268 | 301=>269 | 328=>276 | 329=>277 | 330=>278 | 331=>279 | 332=>280 | 215=>281 | 343=>282 | n=>n,fun | 28=>103 | 3=>3 | 46=>142 | 0=>0 | 51=>23 | 53=>81 | 4=>4 | 183=>328 | 182=>327 | 131=>184 | 5=>5 | 9=>9 | 218=>345 | 222=>348 | 228=>355 | 229=>157 | n=>n,fun | n=>n⟩
theorem Tryz.lays189:Go.Proofs.Lays.n189 Tryz.prog Tryz.lays189_ren:={
 mixed:=by kernel_rfl
 f125:=Tryz.func240.trans (congrArg some (by kernel_rfl))
 f128:=Tryz.func270.trans (congrArg some (by kernel_rfl))
 f129:=Tryz.func256.trans (congrArg some (by kernel_rfl))
 f189:=Tryz.func214.trans (congrArg some (by kernel_rfl))
 f215:=Tryz.func281.trans (congrArg some (by kernel_rfl))
 f216:=Tryz.func267.trans (congrArg some (by kernel_rfl))
 f257:=Tryz.func239.trans (congrArg some (by kernel_rfl))
 f294:=Tryz.func261.trans (congrArg some (by kernel_rfl))
 f295:=Tryz.func262.trans (congrArg some (by kernel_rfl))
 f296:=Tryz.func263.trans (congrArg some (by kernel_rfl))
 f297:=Tryz.func264.trans (congrArg some (by kernel_rfl))
 f298:=Tryz.func265.trans (congrArg some (by kernel_rfl))
 f299:=Tryz.func266.trans (congrArg some (by kernel_rfl))
 f300:=Tryz.func268.trans (congrArg some (by kernel_rfl))
 f301:=Tryz.func269.trans (congrArg some (by kernel_rfl))
 f328:=Tryz.func276.trans (congrArg some (by kernel_rfl))
 f329:=Tryz.func277.trans (congrArg some (by kernel_rfl))
 f330:=Tryz.func278.trans (congrArg some (by kernel_rfl))
 f331:=Tryz.func279.trans (congrArg some (by kernel_rfl))
 f332:=Tryz.func280.trans (congrArg some (by kernel_rfl))
 f343:=Tryz.func282.trans (congrArg some (by kernel_rfl))
 t0:=Tryz.underlying0
 a0:=Tryz.isAgg0
 z0:=Tryz.sizeOf0
 v0:=Tryz.zeroValue0
 t3:=Tryz.underlying3
 a3:=Tryz.isAgg3
 z3:=Tryz.sizeOf3
 v3:=Tryz.zeroValue3
 t4:=Tryz.underlying4
 a4:=Tryz.isAgg4
 z4:=Tryz.sizeOf4
 v4:=Tryz.zeroValue4
 t5:=Tryz.underlying5
 a5:=Tryz.isAgg5
 z5:=Tryz.sizeOf5
 v5:=Tryz.zeroValue5
 t9:=Tryz.underlying9
 a9:=Tryz.isAgg9
 z9:=Tryz.sizeOf9
 v9:=Tryz.zeroValue9
 t28:=Tryz.underlying103
 a28:=Tryz.isAgg103
 z28:=Tryz.sizeOf103
 v28:=Tryz.zeroValue103
 t46:=Tryz.underlying142
 a46:=Tryz.isAgg142
 z46:=Tryz.sizeOf142
 v46:=Tryz.zeroValue142
 t51:=Tryz.underlying23
 a51:=Tryz.isAgg23
 z51:=Tryz.sizeOf23
 v51:=Tryz.zeroValue23
 t53:=Tryz.underlying81
 a53:=Tryz.isAgg81
 z53:=Tryz.sizeOf81
 v53:=Tryz.zeroValue81
 t131:=Tryz.underlying184
 a131:=Tryz.isAgg184
 z131:=Tryz.sizeOf184
 v131:=Tryz.zeroValue184
 t182:=Tryz.underlying327
 a182:=Tryz.isAgg327
 z182:=Tryz.sizeOf327
 v182:=Tryz.zeroValue327
 t183:=Tryz.underlying328
 a183:=Tryz.isAgg328
 z183:=Tryz.sizeOf328
 v183:=Tryz.zeroValue328
 t218:=Tryz.underlying345
 a218:=Tryz.isAgg345
 z218:=Tryz.sizeOf345
 v218:=Tryz.zeroValue345
 t222:=Tryz.underlying348
 a222:=Tryz.isAgg348
 z222:=Tryz.sizeOf348
 v222:=Tryz.zeroValue348
 t228:=Tryz.underlying355
 a228:=Tryz.isAgg355
 z228:=Tryz.sizeOf355
 v228:=Tryz.zeroValue355
 t229:=Tryz.underlying157
 a229:=Tryz.isAgg157
 z229:=Tryz.sizeOf157
 v229:=Tryz.zeroValue157 }
open Go.Sort Go.RowKit in
theorem Tryz.slices_Sort_int (blk off cap:Nat) (zs:List Int) (w:World) (hH:Holds (Value.int .i64) w blk off zs.toArray) (hblk:blk < w.heap.size) (hsz:zs.length < 4611686018427387904) :
  Calls Tryz.prog 214 #[.slice (some ⟨blk,off,none⟩) zs.length cap] w fun e w' =>
   e = .returned (.tuple #[])∧∃ n os,w' = grow (putRow (Value.int .i64) (Sort.ahead w n) blk off (zs.mergeSort fun x y=>decide (x≤y)).toArray) os:=Any.slices_Sort_int Tryz.lays189 blk off cap zs w hH hblk hsz
open Go.RowKit Go.Sort in
theorem Tryz.slices_Sort_int_none (p:Option Addr) (cap:Nat) (w:World) :
  Calls Tryz.prog 214 #[.slice p 0 cap] w fun e w'=>e = .returned (.tuple #[])∧w' = w:=Any.slices_Sort_int_none Tryz.lays189 p cap w
end Go.Proofs
namespace Go.Proofs.YtccaiiigdfieoaaGreatDoor
open Go.RowKit Go.By
def wbRen:Go.Shelf.Ren:=⟨fun | 166=>70 | 167=>73 | 240=>126 | 276=>191 | n=>n,fun | 0=>0 | 3=>3 | 4=>4 | 5=>5 | 9=>9 | 20=>20 | 37=>22 | 70=>133 | 72=>135 | 75=>137 | 164=>267 | 80=>70 | n=>n,fun n=>n⟩
theorem wbLays167:Go.Proofs.Lays.n167 Tryz.prog wbRen :=
 {
  mixed:=by kernel_rfl
  f167:=Tryz.func73.trans (congrArg some (by kernel_rfl))
  f240:=Tryz.func126.trans (congrArg some (by kernel_rfl))
  f276:=Tryz.func191.trans (congrArg some (by kernel_rfl))
  t0:=Tryz.underlying0
  a0:=Tryz.isAgg0
  z0:=Tryz.sizeOf0
  v0:=Tryz.zeroValue0
  t4:=Tryz.underlying4
  a4:=Tryz.isAgg4
  z4:=Tryz.sizeOf4
  v4:=Tryz.zeroValue4
  t5:=Tryz.underlying5
  a5:=Tryz.isAgg5
  z5:=Tryz.sizeOf5
  v5:=Tryz.zeroValue5
  t9:=Tryz.underlying9
  a9:=Tryz.isAgg9
  z9:=Tryz.sizeOf9
  v9:=Tryz.zeroValue9
  t20:=Tryz.underlying20
  a20:=Tryz.isAgg20
  z20:=Tryz.sizeOf20
  v20:=Tryz.zeroValue20
  t37:=Tryz.underlying22
  a37:=Tryz.isAgg22
  z37:=Tryz.sizeOf22
  v37:=Tryz.zeroValue22
  t70:=Tryz.underlying133
  a70:=Tryz.isAgg133
  z70:=Tryz.sizeOf133
  v70:=Tryz.zeroValue133
  t72:=Tryz.underlying135
  a72:=Tryz.isAgg135
  z72:=Tryz.sizeOf135
  v72:=Tryz.zeroValue135
  t75:=Tryz.underlying137
  a75:=Tryz.isAgg137
  z75:=Tryz.sizeOf137
  v75:=Tryz.zeroValue137
  t164:=Tryz.underlying267
  a164:=Tryz.isAgg267
  z164:=Tryz.sizeOf267
  v164:=Tryz.zeroValue267 }
theorem wbExtra:Builder.Extra Tryz.prog wbRen:={
 sizeBuilder:=by kernel_rfl
 liesBuilder:=by kernel_rfl
 t5:=Tryz.underlying5
 a5:=Tryz.isAgg5
 z5:=Tryz.sizeOf5
 v5:=Tryz.zeroValue5
 infoByte:=by kernel_rfl
 cellsByte:=by kernel_rfl
 sizeByte:=by kernel_rfl
 neB5:=by decide }
theorem StringB_b (B b:Nat) (t:List UInt8) (w:World) (h:Lib.IsBuilder 135 5 B b (Lib.byteCells t) w) (hBw:B≤w.heap.size) :
  Calls Tryz.prog 74 #[.pointer (some ⟨b,0,none⟩)] w fun e w'=>e = .returned (.string (strB t))∧Below B w w':=Tryz.Builder_String_any B b t w h hBw
end Go.Proofs.YtccaiiigdfieoaaGreatDoor
namespace Gf
def xt (a:UInt8):UInt8:=(a <<< 1) ^^^ (if a &&& 128 = 0 then 0 else 29)
def gmulN:Nat→UInt8→UInt8→UInt8
 | 0,_,_=>0
 | n + 1,a,b=>(if b &&& 1 = 0 then 0 else a) ^^^ gmulN n (xt a) (b >>> 1)
def gmul (a b:UInt8):UInt8:=gmulN 8 a b
theorem toNat_lt (x:UInt8):x.toNat < 256:=x.toNat_lt
theorem all8 {p:UInt8→Prop} (h:∀ n,n < 256→p (UInt8.ofNat n)) (x:UInt8):p x:=by
 have:=h x.toNat (toNat_lt x)
 rwa [UInt8.ofNat_toNat] at this
theorem xor_and (a b c:UInt8):(a ^^^ b) &&& c = (a &&& c) ^^^ (b &&& c):=by
 apply UInt8.eq_of_toBitVec_eq;apply BitVec.eq_of_getLsbD_eq;intro i _;simp [Bool.and_xor_distrib_right]
theorem and_bit (k:Nat) (hk:k < 8) (a:UInt8):a &&& (1 <<< UInt8.ofNat k) = 0∨a &&& (1 <<< UInt8.ofNat k) = (1 <<< UInt8.ofNat k):=by
 revert a;refine all8 ?_
 revert k;decide +kernel
theorem and1 (a:UInt8):a &&& 1 = 0∨a &&& 1 = 1:=and_bit 0 (by decide) a
theorem and128 (a:UInt8):a &&& 128 = 0∨a &&& 128 = 128:=and_bit 7 (by decide) a
theorem xor_shl (a b:UInt8):(a ^^^ b) <<< 1 = (a <<< 1) ^^^ (b <<< 1):=by
 apply UInt8.eq_of_toBitVec_eq;simp [BitVec.shiftLeft_xor_distrib]
theorem xor_shr (a b:UInt8):(a ^^^ b) >>> 1 = (a >>> 1) ^^^ (b >>> 1):=by
 apply UInt8.eq_of_toBitVec_eq;simp [BitVec.ushiftRight_xor_distrib]
theorem xor_comm (a b:UInt8):a ^^^ b = b ^^^ a:=UInt8.xor_comm a b
theorem xor_assoc (a b c:UInt8):a ^^^ b ^^^ c = a ^^^ (b ^^^ c):=UInt8.xor_assoc a b c
theorem xor_self (a:UInt8):a ^^^ a = 0:=UInt8.xor_self
theorem xor_zero (a:UInt8):a ^^^ 0 = a:=UInt8.xor_zero
theorem zero_xor (a:UInt8):0 ^^^ a = a:=UInt8.zero_xor
theorem xor_left_comm (a b c:UInt8):a ^^^ (b ^^^ c) = b ^^^ (a ^^^ c):=by rw [← xor_assoc,xor_comm a b,xor_assoc]
theorem xor4 (a b c d:UInt8):(a ^^^ b) ^^^ (c ^^^ d) = (a ^^^ c) ^^^ (b ^^^ d):=by rw [xor_assoc,xor_left_comm b c d,← xor_assoc]
theorem xor_cancel (a b:UInt8):(a ^^^ b) ^^^ b = a:=by rw [xor_assoc,xor_self,xor_zero]
theorem xor_eq_zero {a b:UInt8} (h:a ^^^ b = 0):a = b:=by
 have:=xor_cancel a b;rw [h,zero_xor] at this;exact this.symm
theorem sel_xor (m:UInt8) (hm:m≠0) (hb:∀ a:UInt8,a &&& m = 0∨a &&& m = m) (b b' v:UInt8) :
  (if (b ^^^ b') &&& m = 0 then 0 else v) = (if b &&& m = 0 then 0 else v) ^^^ (if b' &&& m = 0 then 0 else v):=by
 rw [xor_and]
 rcases hb b with h | h <;> rcases hb b' with h' | h' <;> simp [h,h',hm]
theorem xt_xor (a b:UInt8):xt (a ^^^ b) = xt a ^^^ xt b:=by
 unfold xt
 rw [xor_shl,sel_xor 128 (by decide) and128,xor4]
theorem gmulN_xor_left (n:Nat):∀ a a' b,gmulN n (a ^^^ a') b = gmulN n a b ^^^ gmulN n a' b:=by
 induction n with
 | zero=>intro a a' b;exact (xor_self 0).symm
 | succ n ih =>
  intro a a' b
  simp only [gmulN,xt_xor,ih]
  by_cases h:b &&& 1 = 0
  ·simp [h]
  ·simp only [if_neg h];rw [xor4]
theorem gmulN_xor_right (n:Nat):∀ a b b',gmulN n a (b ^^^ b') = gmulN n a b ^^^ gmulN n a b':=by
 induction n with
 | zero=>intro a b b';exact (xor_self 0).symm
 | succ n ih =>
  intro a b b'
  simp only [gmulN,xor_shr,ih]
  rw [sel_xor 1 (by decide) and1,xor4]
theorem gmul_xor_left (a a' b:UInt8):gmul (a ^^^ a') b = gmul a b ^^^ gmul a' b:=gmulN_xor_left 8 a a' b
theorem gmul_xor_right (a b b':UInt8):gmul a (b ^^^ b') = gmul a b ^^^ gmul a b':=gmulN_xor_right 8 a b b'
def Lin (f:UInt8→UInt8):Prop:=∀ a b,f (a ^^^ b) = f a ^^^ f b
theorem Lin.zero {f:UInt8→UInt8} (h:Lin f):f 0 = 0:=by
 have:=h 0 0;rw [xor_self] at this
 have h2:=xor_self (f 0);rw [← this] at h2;exact h2
def bit (k:Nat) (a:UInt8):UInt8:=a &&& (1 <<< UInt8.ofNat k)
theorem bits_eq (a:UInt8):a = bit 0 a ^^^ (bit 1 a ^^^ (bit 2 a ^^^ (bit 3 a ^^^ (bit 4 a ^^^ (bit 5 a ^^^ (bit 6 a ^^^ bit 7 a)))))):=by
 revert a;refine all8 ?_;decide +kernel
theorem lin_ext {f g:UInt8→UInt8} (hf:Lin f) (hg:Lin g) (h:∀ k,k < 8→f (1 <<< UInt8.ofNat k) = g (1 <<< UInt8.ofNat k)) (a:UInt8):f a = g a:=by
 have hb:∀ k,k < 8→f (bit k a) = g (bit k a):=by
  intro k hk
  unfold bit
  rcases and_bit k hk a with e | e <;> rw [e]
  ·rw [hf.zero,hg.zero]
  ·exact h k hk
 rw [bits_eq a]
 simp only [hf _ _,hg _ _]
 rw [hb 0 (by decide),hb 1 (by decide),hb 2 (by decide),hb 3 (by decide),hb 4 (by decide),hb 5 (by decide),hb 6 (by decide),hb 7 (by decide)]
theorem gmul_comm (a b:UInt8):gmul a b = gmul b a:=by
 refine lin_ext (f:=fun a=>gmul a b) (g:=fun a=>gmul b a) (fun x y=>gmul_xor_left x y b) (fun x y=>gmul_xor_right b x y) (fun k hk=>?_) a
 refine lin_ext (f:=fun b=>gmul (1 <<< UInt8.ofNat k) b) (g:=fun b=>gmul b (1 <<< UInt8.ofNat k)) (fun x y=>gmul_xor_right _ x y) (fun x y=>gmul_xor_left x y _) (fun j hj=>?_) b
 revert j k;decide +kernel
theorem gmul_assoc (a b c:UInt8):gmul (gmul a b) c = gmul a (gmul b c):=by
 refine lin_ext (f:=fun a=>gmul (gmul a b) c) (g:=fun a=>gmul a (gmul b c)) (fun x y=>by simp only [gmul_xor_left]) (fun x y=>by simp only [gmul_xor_left]) (fun k hk=>?_) a
 refine lin_ext (f:=fun b=>gmul (gmul (1 <<< UInt8.ofNat k) b) c) (g:=fun b=>gmul (1 <<< UInt8.ofNat k) (gmul b c)) (fun x y=>by simp only [gmul_xor_right,gmul_xor_left]) (fun x y=>by simp only [gmul_xor_right,gmul_xor_left]) (fun j hj=>?_) b
 refine lin_ext (f:=fun c=>gmul (gmul (1 <<< UInt8.ofNat k) (1 <<< UInt8.ofNat j)) c) (g:=fun c=>gmul (1 <<< UInt8.ofNat k) (gmul (1 <<< UInt8.ofNat j) c)) (fun x y=>by simp only [gmul_xor_right]) (fun x y=>by simp only [gmul_xor_right]) (fun i hi=>?_) c
 revert i j k;decide +kernel
theorem gmul_zero (a:UInt8):gmul a 0 = 0:=Lin.zero (f:=fun b=>gmul a b) (fun x y=>gmul_xor_right a x y)
theorem zero_gmul (a:UInt8):gmul 0 a = 0:=by rw [gmul_comm,gmul_zero]
theorem gmul_one (a:UInt8):gmul a 1 = a:=by
 refine lin_ext (f:=fun a=>gmul a 1) (g:=fun a=>a) (fun x y=>gmul_xor_left x y 1) (fun _ _=>rfl) ?_ a
 decide +kernel
theorem one_gmul (a:UInt8):gmul 1 a = a:=by rw [gmul_comm,gmul_one]
def gpow (a:UInt8):Nat→UInt8
 | 0=>1
 | n + 1=>gmul (gpow a n) a
theorem gpow_add (a:UInt8) (m n:Nat):gpow a (m + n) = gmul (gpow a m) (gpow a n):=by
 induction n with
 | zero=>simp [gpow,gmul_one]
 | succ n ih=>rw [← Nat.add_assoc];simp only [gpow,ih,gmul_assoc]
def ginv (a:UInt8):UInt8:=gpow a 254
def sq (a:UInt8):UInt8:=gmul a a
def inv2 (a:UInt8):UInt8 :=
 let a2:=sq a;let a4:=sq a2;let a8:=sq a4;let a16:=sq a8;let a32:=sq a16;let a64:=sq a32;let a128:=sq a64
 gmul a128 (gmul a64 (gmul a32 (gmul a16 (gmul a8 (gmul a4 a2)))))
theorem gpow_two_mul (a:UInt8) (n:Nat):gpow a (n + n) = sq (gpow a n):=gpow_add a n n
theorem gpow_one (a:UInt8):gpow a 1 = a:=one_gmul a
theorem ginv_eq (a:UInt8):ginv a = inv2 a:=by
 have h2:gpow a 2 = sq a:=by rw [show 2 = 1 + 1 from rfl,gpow_two_mul,gpow_one]
 have h4:gpow a 4 = sq (sq a):=by rw [show 4 = 2 + 2 from rfl,gpow_two_mul,h2]
 have h8:gpow a 8 = sq (sq (sq a)):=by rw [show 8 = 4 + 4 from rfl,gpow_two_mul,h4]
 have h16:gpow a 16 = sq (sq (sq (sq a))):=by rw [show 16 = 8 + 8 from rfl,gpow_two_mul,h8]
 have h32:gpow a 32 = sq (sq (sq (sq (sq a)))):=by rw [show 32 = 16 + 16 from rfl,gpow_two_mul,h16]
 have h64:gpow a 64 = sq (sq (sq (sq (sq (sq a))))):=by rw [show 64 = 32 + 32 from rfl,gpow_two_mul,h32]
 have h128:gpow a 128 = sq (sq (sq (sq (sq (sq (sq a)))))):=by rw [show 128 = 64 + 64 from rfl,gpow_two_mul,h64]
 unfold ginv inv2
 rw [show 254 = 128 + (64 + (32 + (16 + (8 + (4 + 2))))) from rfl]
 simp only [gpow_add]
 rw [h128,h64,h32,h16,h8,h4,h2]
theorem gmul_ginv (a:UInt8) (h:a≠0):gmul a (ginv a) = 1:=by
 rw [ginv_eq]
 revert h;revert a;refine all8 ?_;decide +kernel
theorem ginv_gmul (a:UInt8) (h:a≠0):gmul (ginv a) a = 1:=by rw [gmul_comm,gmul_ginv a h]
theorem ginv_ne (a:UInt8) (h:a≠0):ginv a≠0:=by
 intro e;have:=gmul_ginv a h;rw [e,gmul_zero] at this;exact absurd this (by decide)
end Gf
namespace Go.Proofs.YtccaiiigdfieoaaGreatDoor
open Go.RowKit Go.By
theorem and_t (m:UInt8) (y:UInt8) (c:Int) (hc:c = m.toNat):(bits .and .u8 (y.toNat:Int) c != 0) = !decide (y &&& m = 0):=by
 rw [hc,bits_and,nat_ne_zero];simp
theorem times_step {p x y G:UInt8} {k:Nat} (h:Hid (p ^^^ Gf.gmulN (8 - k) x y = G)) (hk:k < 8) :
  (p ^^^ (if y &&& 1 = 0 then 0 else x)) ^^^ Gf.gmulN (8 - (k + 1)) (Gf.xt x) (y >>> 1) = G:=by
 have h:=h.out
 rw [show 8 - k = (8 - (k + 1)) + 1 by omega] at h
 simp only [Gf.gmulN] at h
 rw [Gf.xor_assoc];exact h
set_option maxHeartbeats 400000 in
theorem times_any (a b:UInt8) (w:World) :
  Calls Tryz.prog 242 #[B8 a,B8 b] w fun e w'=>e = .returned (B8 (Gf.gmul a b))∧w = w':=by
 go_enter Tryz.func242,Tryz.ntmps242
 go_wp2
 go_loop [0,1,5,7] (fun x y p i=>∃ (k:Nat) (x' y' p':UInt8),k≤8∧x = B8 x'∧y = B8 y'∧p = B8 p'∧i = .int .i64 k∧p' ^^^ Gf.gmulN (8 - k) x' y' = Gf.gmul a b)
  (fun _ _ _ i=>8 - (intOf i).toNat)
 case atStart=>exact ⟨0,a,b,0,by omega,rfl,rfl,rfl,rfl,by simp [Gf.gmul]⟩
 case round =>
  obtain ⟨k,x',y',p',hk,rfl,rfl,rfl,rfl,hp⟩:=hrel
  have HP:=Lib.hid hp;clear hp
  by_cases hlt:k < 8
  ·have HS:=Lib.hid (times_step HP hlt)
   by_cases h1:y' &&& 1 = 0 <;> by_cases h2:x' &&& 128 = 0
   all_goals
    have t1:=and_t 1 y' 1 rfl
    have t2:=and_t 128 x' 128 rfl
    simp only [h1,h2,decide_true,decide_false,Bool.not_true,Bool.not_false] at t1 t2
    have HT:=Lib.hid h1;have HU:=Lib.hid h2;clear h1 h2
    go_wp2
    go_round
    case rel =>
     refine ⟨k + 1,Gf.xt x',y' >>> 1,p' ^^^ (if y' &&& 1 = 0 then 0 else x'),by omega,?_,?_,?_,by go_num,HS.out⟩
     ·refine B8_congr ?_
      unfold Gf.xt
      first | rw [if_pos HU.out] | rw [if_neg HU.out]
      first | (rw [Gf.xor_zero];exact shl1 _) | (rw [← bits_xor,← shl1];rfl)
     ·exact B8_congr (shr1 _)
     ·refine B8_congr ?_
      first | rw [if_pos HT.out] | rw [if_neg HT.out]
      first | (rw [Gf.xor_zero];done) | (rw [← bits_xor];done)
    case measure=>simp [intOf];omega
  ·go_wp2
   go_ret
   have:=HP.out
   obtain rfl:k = 8:=by omega
   simp only [Nat.sub_self,Gf.gmulN,Gf.xor_zero] at this
   exact ⟨by rw [this];rfl,rfl⟩
set_option maxHeartbeats 400000 in
theorem Mul_any (p:Option Addr) (c:Nat) (xs:List UInt8) (w:World) (h:Rs B8 w p xs) (hl:xs.length≤9223372036854775807) :
  Calls Tryz.prog 237 #[.slice p xs.length c] w fun e w'=>e = .returned (B8 (xs.foldl Gf.gmul 1))∧w = w':=by
 go_enter Tryz.func237,Tryz.ntmps237
 go_wp2
 go_loop [3,8] (fun q i=>∃ k:Nat,k≤xs.length∧i = .int .i64 k∧q = B8 ((xs.take k).foldl Gf.gmul 1)) (fun _ i=>xs.length - (intOf i).toNat)
 case atStart=>exact ⟨0,Nat.zero_le _,rfl,rfl⟩
 case round =>
  obtain ⟨k,hk,rfl,rfl⟩:=hrel
  by_cases hlt:k < xs.length
  ·obtain ⟨b,o,x,rfl,hc,hx⟩:=h.at k hlt
   generalize hq:(xs.take k).foldl Gf.gmul 1 = q
   have HS:=Lib.hid ((foldl_take_succ Gf.gmul 1 xs k hlt).trans (by rw [hq,← hx.out]))
   clear hq h
   go_wp2_with (go_at_call 242;refine (times_any _ _ _).mono ?_;rintro e w' ⟨rfl,rfl⟩)
   go_round
   case rel=>exact ⟨k + 1,by omega,by go_num,by rw [HS.out]⟩
   case measure=>simp [intOf];omega
  ·go_wp2
   go_ret
   exact ⟨by rw [List.take_of_length_le (by omega)];rfl,rfl⟩
set_option maxHeartbeats 400000 in
theorem power_any (a:UInt8) (n:Nat) (hn:n≤9223372036854775807) (w:World) :
  Calls Tryz.prog 220 #[B8 a,.int .i64 n] w fun e w'=>e = .returned (B8 (Gf.gpow a n))∧w = w':=by
 go_enter Tryz.func220,Tryz.ntmps220
 go_wp2
 go_loop [5,7] (fun q i=>∃ k:Nat,k≤n∧i = .int .i64 k∧q = B8 (Gf.gpow a k)) (fun _ i=>n - (intOf i).toNat)
 case atStart=>exact ⟨0,Nat.zero_le _,rfl,rfl⟩
 case round =>
  obtain ⟨k,hk,rfl,rfl⟩:=hrel
  by_cases hlt:k < n
  ·generalize hq:Gf.gpow a k = q
   have HS:=Lib.hid (show Gf.gpow a (k + 1) = Gf.gmul q a by rw [← hq];rfl)
   clear hq
   go_wp2_with (go_at_call 242;refine (times_any _ _ _).mono ?_;rintro e w' ⟨rfl,rfl⟩)
   go_round
   case rel=>exact ⟨k + 1,by omega,by go_num,by rw [HS.out]⟩
   case measure=>simp [intOf];omega
  ·go_wp2
   go_ret
   exact ⟨by rw [show n = k by omega];rfl,rfl⟩
def invRes (a:UInt8):Value × Int:=if a = 0 then (B8 0,3) else (B8 (Gf.ginv a),0)
set_option maxHeartbeats 400000 in
theorem Inv_any (a:UInt8) (w:World) :
  Calls Tryz.prog 178 #[B8 a] w fun e w'=>e = .returned (.tuple #[(invRes a).1,.int .i64 (invRes a).2])∧w = w':=by
 by_cases ha:a = 0
 ·subst ha
  go_enter Tryz.func178,Tryz.ntmps178
  go_wp2
  go_ret2
  exact ⟨rfl,rfl⟩
 ·have h0:((a.toNat:Int) == 0) = false:=by rw [nat_eq_zero];simp [ha]
  have HR:=Lib.hid (show invRes a = (B8 (Gf.gpow a 254),0) by simp [invRes,ha,Gf.ginv])
  clear ha
  go_enter Tryz.func178,Tryz.ntmps178
  go_wp2_with (go_at_call 220;refine (power_any a 254 (by omega) _).mono ?_;rintro e w' ⟨rfl,rfl⟩)
  go_ret2
  exact ⟨by rw [HR.out];rfl,rfl⟩
end Go.Proofs.YtccaiiigdfieoaaGreatDoor
namespace Go.Proofs.YtccaiiigdfieoaaGreatDoor
open Go.RowKit Go.By
def half (f:UInt8→UInt8) (k:Nat):Array Value:=(List.ofFn fun j:Fin 16=>B8 (if j.val < k then f (UInt8.ofNat j.val) else 0)).toArray
def lowF (c x:UInt8):UInt8:=Gf.gmul c x
def highF (c x:UInt8):UInt8:=Gf.gmul c (x <<< 4)
theorem half_size (f:UInt8→UInt8) (k:Nat):(half f k).size = 16:=by simp [half]
theorem half_zero (f:UInt8→UInt8):half f 0 = (List.replicate 16 (Value.int .u8 0)).toArray:=by
 unfold half;congr 1
theorem half_at (f:UInt8→UInt8) (k j:Nat) (hj:j < 16):(half f k)[j]? = some (B8 (if j < k then f (UInt8.ofNat j) else 0)):=by
 simp only [half,List.getElem?_toArray,List.getElem?_ofFn,hj,dif_pos]
theorem half_succ (f:UInt8→UInt8) (k:Nat) (hk:k < 16):(half f k).setIfInBounds k (B8 (f (UInt8.ofNat k))) = half f (k + 1):=by
 apply Array.ext_getElem?
 intro j
 by_cases hj:j < 16
 ·rw [Array.getElem?_setIfInBounds,half_at f (k + 1) j hj]
  by_cases e:k = j
  ·subst e;simp [half_size,hk]
  ·rw [if_neg e,half_at f k j hj]
   congr 2
   by_cases h:j < k
   ·simp [h,show j < k + 1 by omega]
   ·simp [h,show ¬ j < k + 1 by omega]
 ·rw [Array.getElem?_eq_none (by simp [half_size];omega),Array.getElem?_eq_none (by simp [half_size];omega)]
theorem rs_pair (w:World) (u v:Value) (T:TypeId) (x y:UInt8) (hu:u = B8 x) (hv:v = B8 y):Rs B8 (w.alloc (.cells #[u,v] T)) (some ⟨w.heap.size,0,none⟩) [x,y]:=by
 intro i hi
 refine ⟨w.heap.size,0,rfl,?_⟩
 rw [Nat.zero_add,cell_of_row _ _ _ _ _ _ (heap_alloc_new w _)]
 match i,hi with
 | 0,_=>simp [hu]
 | 1,_=>simp [hv]
theorem Mul2_any (g:Nat) (w:World) (u v:Value) (T:TypeId) (x y:UInt8) (hg:g = w.heap.size) (hu:u = B8 x) (hv:v = B8 y) :
  Calls Tryz.prog 237 #[.slice (some ⟨g,0,none⟩) 2 2] (w.alloc (.cells #[u,v] T)) fun e w'=>e = .returned (B8 (Gf.gmul x y))∧(w.alloc (.cells #[u,v] T)) = w' :=
 hg ▸ (Mul_any _ 2 [x,y] _ (rs_pair w u v T x y hu hv) (by simp)).mono fun e w' ⟨he,hw⟩=>⟨by rw [he];simp [Gf.one_gmul],hw⟩
theorem byte_nat {k:Nat} (hk:k < 256):Value.int .u8 (k:Int) = B8 (UInt8.ofNat k):=by
 refine B8_congr ?_
 simp;omega
theorem byte_shl4' {k:Nat} (hk:k < 16):Value.int .u8 ((k:Int) * 16) = B8 (UInt8.ofNat k <<< 4):=by
 refine B8_congr ?_
 rw [UInt8.toNat_shiftLeft]
 simp [Nat.shiftLeft_eq];omega
set_option maxRecDepth 100000 in
set_option maxHeartbeats 400000 in
theorem halves_any (c:UInt8) (w:World) :
  Calls Tryz.prog 212 #[B8 c] w fun e w'=>e = .returned (.tuple #[.agg (half (lowF c) 16),.agg (half (highF c) 16)])∧Below w.heap.size w w':=by
 go_enter Tryz.func212,Tryz.ntmps212
 go_wp2
 go_loopw [7] (fun i wr=>∃ k:Nat,k≤16∧i = .int .i64 k∧(∃ z1,z1.size = 16∧wr.heap[w.heap.size]? = some (.cells z1 285 (0,0)))∧(∃ z2,z2.size = 16∧wr.heap[w.heap.size + 1]? = some (.cells z2 285 (0,0))) ∧
  wr.heap[w.heap.size + 1 + 1]? = some (.cells (half (lowF c) k) 285 (0,0))∧wr.heap[w.heap.size + 1 + 1 + 1]? = some (.cells (half (highF c) k) 285 (0,0))∧Below w.heap.size w wr) (fun i _=>16 - (intOf i).toNat)
 case atStart =>
  refine ⟨0,by omega,rfl,⟨(List.replicate 16 (Value.int .u8 0)).toArray,rfl,?_⟩,⟨(List.replicate 16 (Value.int .u8 0)).toArray,rfl,?_⟩,?_,?_,?_⟩
  ·exact hal (hal (hal (hnew rfl)))
  ·exact hal (hal (hnew (by simp)))
  ·rw [half_zero];exact hal (hnew (by simp))
  ·rw [half_zero];exact hnew (by simp)
  ·exact (((((Below.refl _ _).alloc (Nat.le_refl _) _).alloc (by simp) _).alloc (by simp <;> omega) _).alloc (by simp <;> omega) _)
 case round =>
  obtain ⟨k,hk,rfl,⟨z1,hz1,h1⟩,⟨z2,hz2,h2⟩,h3,h4,hb⟩:=hrel
  by_cases hlt:k < 16
  ·have c3:∀ o,(wr.alloc o).cell? ⟨w.heap.size + 1 + 1,k,none⟩ = some (B8 (if k < k then lowF c (UInt8.ofNat k) else 0)):=fun o=>by
    rw [cell_of_row _ _ _ _ _ _ (hal h3),half_at _ _ _ hlt]
   have f3:∀ o,(wr.alloc o).frozen? ⟨w.heap.size + 1 + 1,k,none⟩ = false:=fun o=>frozen_of_row _ _ _ _ _ (hal h3)
   have e4:∀ o v o2,(((wr.alloc o).setCell ⟨w.heap.size + 1 + 1,k,none⟩ v).alloc o2).heap[w.heap.size + 1 + 1 + 1]? = some (.cells (half (highF c) k) 285 (0,0)):=fun o v o2=>hal (hsc (hal h4) (by simp))
   have c4:∀ o v o2,(((wr.alloc o).setCell ⟨w.heap.size + 1 + 1,k,none⟩ v).alloc o2).cell? ⟨w.heap.size + 1 + 1 + 1,k,none⟩ = some (B8 (if k < k then highF c (UInt8.ofNat k) else 0)):=fun o v o2=>by
    rw [cell_of_row _ _ _ _ _ _ (e4 o v o2),half_at _ _ _ hlt]
   have f4:∀ o v o2,(((wr.alloc o).setCell ⟨w.heap.size + 1 + 1,k,none⟩ v).alloc o2).frozen? ⟨w.heap.size + 1 + 1 + 1,k,none⟩ = false:=fun o v o2=>frozen_of_row _ _ _ _ _ (e4 o v o2)
   have HE:=Lib.hid e4;clear e4
   go_wp2_with fail
   refine (Mul2_any _ _ _ _ _ c (UInt8.ofNat k) rfl rfl (byte_nat (by omega))).mono ?_;rintro e w' ⟨rfl,rfl⟩
   generalize hv1:Gf.gmul c (UInt8.ofNat k) = v1
   have HV1:=Lib.hid hv1;clear hv1
   go_wp2_with fail
   refine Calls.mono (Mul2_any _ _ _ _ _ c (UInt8.ofNat k <<< 4) (by simp) rfl (byte_shl4' hlt)) ?_;rintro e w' ⟨rfl,rfl⟩
   generalize hv2:Gf.gmul c (UInt8.ofNat k <<< 4) = v2
   have HV2:=Lib.hid hv2;clear hv2
   go_wp2_with fail
   go_roundw
   case rel =>
    have hs:=hb.size
    refine ⟨k + 1,by omega,by go_num,⟨z1,hz1,hsc (hal (hsc (hal h1) (by simp <;> omega))) (by simp <;> omega)⟩,⟨z2,hz2,hsc (hal (hsc (hal h2) (by simp))) (by simp <;> omega)⟩,?_,?_,?_⟩
    ·rw [← half_succ _ _ hlt,lowF,HV1.out]
     exact hsc (hal (hss (hal h3))) (by simp)
    ·rw [← half_succ _ _ hlt,highF,HV2.out]
     exact hss (HE.out _ _ _)
    ·exact (((hb.alloc hs _).setCell (by simp <;> omega) _).alloc (by simp <;> omega) _).setCell (by simp <;> omega) _
   case measure=>simp [intOf];omega
  ·obtain rfl:k = 16:=by omega
   clear hk hlt
   have hs:=hb.size
   have hi:(Tryz.prog.info? 285).map (·.size) = some 16:=by kernel_rfl
   have hL:(half (lowF c) 16).all (·.oneCell') = true:=by simp [half,Value.oneCell']
   have hH:(half (highF c) 16).all (·.oneCell') = true:=by simp [half,Value.oneCell']
   have sL:=half_size (lowF c) 16
   have sH:=half_size (highF c) 16
   have fin:∀ (W:World),W.heap[w.heap.size]? = some (.cells (half (lowF c) 16) 285 (0,0))→W.heap[w.heap.size + 1]? = some (.cells (half (highF c) 16) 285 (0,0))→Below w.heap.size w W →
     ∀ tmps:Array Value,tmps.getD 2 undef = .pointer (some ⟨w.heap.size,0,none⟩)→tmps.getD 3 undef = .pointer (some ⟨w.heap.size + 1,0,none⟩) →
     bodyPost Tryz.prog Tryz.f212 (fun e w'=>e = .returned (.tuple #[.agg (half (lowF c) 16),.agg (half (highF c) 16)])∧Below w.heap.size w w') .ret ⟨tmps,[]⟩ W :=
    fun W g1 g2 gb tmps p1 p2=>bodyPost_ret (results_cell_row2 rfl tmps W _ _ _ _ _ _ _ _ _ p1 g1 p2 g2 Tryz.underlying285 rfl (hi.trans (by rw [sL])) (hi.trans (by rw [sH]))) rfl ⟨rfl,gb⟩
   have HF:=Lib.hid fin
   clear fin
   go_wp2_with fail
   refine wp_region_any (by kernel_rfl) ?_
   change wpAny _ _ _ _ _ _ _ (World.drew _)
   have d1:wr.drew.heap[w.heap.size]? = some (.cells z1 285 (0,0)):=h1
   have d2:wr.drew.heap[w.heap.size + 1]? = some (.cells z2 285 (0,0)):=h2
   have d3:wr.drew.heap[w.heap.size + 1 + 1]? = some (.cells (half (lowF c) 16) 285 (0,0)):=h3
   have d4:wr.drew.heap[w.heap.size + 1 + 1 + 1]? = some (.cells (half (highF c) 16) 285 (0,0)):=h4
   have db:Below w.heap.size w wr.drew:=hb.drew
   generalize wr.drew = W at *
   refine wpAny_ready (rs:=[0,1]) (by kernel_rfl) (by simp) ?_;refine AllReady.cons rfl (fun K hK=>?_) (AllReady.cons rfl (fun K hK=>?_) AllReady.nil)
   ·refine step_load_row rfl 285 (.tmp 4) rfl (w.heap.size + 1 + 1) rfl 285 (half (lowF c) 16) (0,0) _ (by first | exact d3 | exact hro d3 (by omega)) Tryz.underlying285 rfl (hi.trans (by rw [sL])) ?_;refine hK _ _ ?_;clear hK K
    refine wpAny_ready (rs:=[1,2]) (by kernel_rfl) (by simp) ?_;refine AllReady.cons rfl (fun K hK=>?_) (AllReady.cons rfl (fun K hK=>?_) AllReady.nil)
    ·refine step_load_row rfl 285 (.tmp 5) rfl (w.heap.size + 1 + 1 + 1) rfl 285 (half (highF c) 16) (0,0) _ (by first | exact d4 | exact hro d4 (by omega)) Tryz.underlying285 rfl (hi.trans (by rw [sH])) ?_;refine hK _ _ ?_;clear hK K
     refine wpAny_ready (rs:=[2]) (by kernel_rfl) (by simp) ?_;refine AllReady.cons rfl (fun K hK=>?_) AllReady.nil
     refine step_store_row rfl 285 (.tmp 2) (.tmp 26) rfl w.heap.size (half (lowF c) 16) rfl rfl 285 z1 d1 (hi.trans (by rw [sL])) (by rw [hz1,sL]) hL ?_;refine hK _ _ ?_;clear hK K
     refine wpAny_ready (rs:=[3]) (by kernel_rfl) (by simp) ?_;refine AllReady.cons rfl (fun K hK=>?_) AllReady.nil
     refine step_store_row rfl 285 (.tmp 3) (.tmp 27) rfl (w.heap.size + 1) (half (highF c) 16) rfl rfl 285 z2 (hro d2 (by omega)) (hi.trans (by rw [sH])) (by rw [hz2,sH]) hH ?_;refine hK _ _ ?_;clear hK K
     refine wpAny_done (by kernel_rfl) ?_ _;go_wp2;refine HF.out _ (hro (hrs d1) (by omega)) (hrs (hro d2 (by omega))) (below_setRow (below_setRow db (by omega) _) (by omega) _) _ ?_ ?_ <;> rfl
    ·refine step_store_row rfl 285 (.tmp 2) (.tmp 26) rfl w.heap.size (half (lowF c) 16) rfl rfl 285 z1 d1 (hi.trans (by rw [sL])) (by rw [hz1,sL]) hL ?_;refine hK _ _ ?_;clear hK K
     refine wpAny_ready (rs:=[1]) (by kernel_rfl) (by simp) ?_;refine AllReady.cons rfl (fun K hK=>?_) AllReady.nil
     refine step_load_row rfl 285 (.tmp 5) rfl (w.heap.size + 1 + 1 + 1) rfl 285 (half (highF c) 16) (0,0) _ (by first | exact d4 | exact hro d4 (by omega)) Tryz.underlying285 rfl (hi.trans (by rw [sH])) ?_;refine hK _ _ ?_;clear hK K
     refine wpAny_ready (rs:=[3]) (by kernel_rfl) (by simp) ?_;refine AllReady.cons rfl (fun K hK=>?_) AllReady.nil
     refine step_store_row rfl 285 (.tmp 3) (.tmp 27) rfl (w.heap.size + 1) (half (highF c) 16) rfl rfl 285 z2 (hro d2 (by omega)) (hi.trans (by rw [sH])) (by rw [hz2,sH]) hH ?_;refine hK _ _ ?_;clear hK K
     refine wpAny_done (by kernel_rfl) ?_ _;go_wp2;refine HF.out _ (hro (hrs d1) (by omega)) (hrs (hro d2 (by omega))) (below_setRow (below_setRow db (by omega) _) (by omega) _) _ ?_ ?_ <;> rfl
   ·refine step_load_row rfl 285 (.tmp 5) rfl (w.heap.size + 1 + 1 + 1) rfl 285 (half (highF c) 16) (0,0) _ (by first | exact d4 | exact hro d4 (by omega)) Tryz.underlying285 rfl (hi.trans (by rw [sH])) ?_;refine hK _ _ ?_;clear hK K
    refine wpAny_ready (rs:=[0]) (by kernel_rfl) (by simp) ?_;refine AllReady.cons rfl (fun K hK=>?_) AllReady.nil
    refine step_load_row rfl 285 (.tmp 4) rfl (w.heap.size + 1 + 1) rfl 285 (half (lowF c) 16) (0,0) _ (by first | exact d3 | exact hro d3 (by omega)) Tryz.underlying285 rfl (hi.trans (by rw [sL])) ?_;refine hK _ _ ?_;clear hK K
    refine wpAny_ready (rs:=[2]) (by kernel_rfl) (by simp) ?_;refine AllReady.cons rfl (fun K hK=>?_) AllReady.nil
    refine step_store_row rfl 285 (.tmp 2) (.tmp 26) rfl w.heap.size (half (lowF c) 16) rfl rfl 285 z1 d1 (hi.trans (by rw [sL])) (by rw [hz1,sL]) hL ?_;refine hK _ _ ?_;clear hK K
    refine wpAny_ready (rs:=[3]) (by kernel_rfl) (by simp) ?_;refine AllReady.cons rfl (fun K hK=>?_) AllReady.nil
    refine step_store_row rfl 285 (.tmp 3) (.tmp 27) rfl (w.heap.size + 1) (half (highF c) 16) rfl rfl 285 z2 (hro d2 (by omega)) (hi.trans (by rw [sH])) (by rw [hz2,sH]) hH ?_;refine hK _ _ ?_;clear hK K
    refine wpAny_done (by kernel_rfl) ?_ _;go_wp2;refine HF.out _ (hro (hrs d1) (by omega)) (hrs (hro d2 (by omega))) (below_setRow (below_setRow db (by omega) _) (by omega) _) _ ?_ ?_ <;> rfl
end Go.Proofs.YtccaiiigdfieoaaGreatDoor
namespace Go.Proofs.YtccaiiigdfieoaaGreatDoor
open Go.RowKit Go.By
def axpy (c:UInt8) (xs ss:List UInt8):List UInt8:=List.zipWith (fun x s=>s ^^^ Gf.gmul c x) xs ss
theorem axpy_length (c:UInt8) (xs ss:List UInt8) (h:xs.length = ss.length):(axpy c xs ss).length = ss.length:=by simp [axpy,h]
theorem split_byte (b:UInt8):b = UInt8.ofNat (b.toNat % 16) ^^^ (UInt8.ofNat (b.toNat / 16) <<< 4):=by
 revert b;refine Gf.all8 ?_;decide +kernel
theorem low_high (c b:UInt8):lowF c (UInt8.ofNat (b.toNat % 16)) ^^^ highF c (UInt8.ofNat (b.toNat / 16)) = Gf.gmul c b:=by
 unfold lowF highF
 rw [← Gf.gmul_xor_right,← split_byte]
theorem half_cell {w:World} {g T:Nat} {f:UInt8→UInt8} (h:w.heap[g]? = some (.cells (half f 16) T (0,0))) (j:Nat) (hj:j < 16):w.cell? ⟨g,j,none⟩ = some (B8 (f (UInt8.ofNat j))):=by
 rw [cell_of_row _ _ _ _ _ _ h,half_at _ _ _ hj,if_pos hj]
set_option maxRecDepth 100000 in
set_option maxHeartbeats 400000 in
theorem put_any (base n:Nat) (q p:Option Addr) (c1 c2:Nat) (c:UInt8) (xs ss:List UInt8) (w:World) (hx:xs.length = n) (hs:ss.length = n) (hn:n≤9223372036854775807)
  (hown:w.ownsRow base 5 1 (.slice q n c1) n (ss.map B8)) (hrow:Rs B8 w p xs) (hne:0 < n→∀ a,p = some a→∀ a',q = some a'→a.block≠a'.block) :
  Calls Tryz.prog 163 #[.slice q n c1,B8 c,.slice p n c2] w fun e w' =>
   e = .returned (.tuple #[])∧w'.ownsRow base 5 1 (.slice q n c1) n ((axpy c xs ss).map B8)∧w.grownBy w' (q.map (·.block)):=by
 have HX:=Lib.hid hx;have HS:=Lib.hid hs;clear hx hs
 have hi:(Tryz.prog.info? 285).map (·.size) = some 16:=by kernel_rfl
 have hL:(half (lowF c) 16).all (·.oneCell') = true:=by simp [half,Value.oneCell']
 have hH:(half (highF c) 16).all (·.oneCell') = true:=by simp [half,Value.oneCell']
 have sL:=half_size (lowF c) 16
 have sH:=half_size (highF c) 16
 go_enter Tryz.func163,Tryz.ntmps163
 go_wp2_with fail
 refine (halves_any _ _).mono ?_;rintro e w1 ⟨rfl,hb1⟩
 generalize hLO:half (lowF c) 16 = LO at *
 generalize hHI:half (highF c) 16 = HI at *
 have HLO:=Lib.hid hLO;have HHI:=Lib.hid hHI;clear hLO hHI
 have e1:∀ o1 o2,(((w1.alloc o1).alloc o2)).heap[w1.heap.size]? = some o1:=fun o1 o2=>hal (hnew rfl)
 have e2:∀ o1 o2 cs,(((w1.alloc o1).alloc o2).setRow w1.heap.size cs).heap[w1.heap.size + 1]? = some o2:=fun o1 o2 cs=>hro (hnew (by simp)) (by simp)
 have E1:=Lib.hid e1;have E2:=Lib.hid e2;clear e1 e2
 go_wp2_with (first
  | (refine wpList_store_row (o:=⟨none,.store 285 (.tmp 6) (.tmp 13),_,_,_,_⟩) rfl 285 (.tmp 6) (.tmp 13) rfl w1.heap.size LO rfl rfl _ _ (E1.out _ _) (hi.trans (by rw [sL])) sL.symm hL ?_)
  | (refine wpList_store_row (o:=⟨none,.store 285 (.tmp 7) (.tmp 14),_,_,_,_⟩) rfl 285 (.tmp 7) (.tmp 14) rfl (w1.heap.size + 1) HI rfl rfl _ _ (E2.out _ _ _) (hi.trans (by rw [sH])) sH.symm hH ?_))
 generalize hW:(((w1.alloc _).alloc _).setRow w1.heap.size LO).setRow (w1.heap.size + 1) HI = W0
 have f1:W0.heap[w1.heap.size]? = some (.cells LO 285 (0,0)):=by rw [← hW];exact hro (hrs (hal (hnew rfl))) (by omega)
 have f2:W0.heap[w1.heap.size + 1]? = some (.cells HI 285 (0,0)):=by rw [← hW];exact hrs (hro (hnew (by simp)) (by omega))
 have fb:Below w.heap.size w W0:=by
  have:=hb1.size
  rw [← hW]
  exact below_setRow (below_setRow ((hb1.alloc this _).alloc (by simp;omega) _) this _) (by omega) _
 have fg:w.heap.size≤w1.heap.size:=hb1.size
 have fz:w1.heap.size + 1 < W0.heap.size:=lt_of_block f2
 clear hW hb1 E1 E2
 generalize w1.heap.size = BL at *
 go_loopw [17] (fun i wr=>∃ k:Nat,k≤n∧i = .int .i64 k∧wr.ownsRow base 5 1 (.slice q n c1) n ((prog (axpy c xs ss) ss k).map B8)∧w.grownBy wr (q.map (·.block)) ∧
   wr.heap[BL]? = some (.cells LO 285 (0,0))∧wr.heap[BL + 1]? = some (.cells HI 285 (0,0))) (fun i _=>n - (intOf i).toNat)
 case atStart =>
  refine ⟨0,Nat.zero_le _,rfl,?_,?_,f1,f2⟩
  ·rw [prog_zero]
   exact hown.kept (row:=none) ⟨fb.os,fb.tape,fb.output,fb.size,fun i hi _=>fb.block i hi⟩ (by rcases hq:Value.ownBlock _ with _ | g <;> simp)
  ·exact ⟨fb.os,fb.tape,fb.output,fb.size,fun i hi _=>fb.block i hi⟩
 case round =>
  obtain ⟨k,hk,rfl,ho,hg,h1,h2⟩:=hrel
  by_cases hlt:k < n
  ·obtain ⟨b,o,x,rfl,hc0,hx⟩:=hrow.at k (by have:=HX.out;omega)
   obtain ⟨g,rfl,hbg,hgs⟩:=owns_at hown (by omega)
   have hbg':b≠g:=hne (by omega) _ rfl _ rfl
   have hc:wr.cell? ⟨b,o + k,none⟩ = some (B8 x):=(World.cell?_of_block (a:=⟨b,o + k,none⟩) (hg.block b (lt_of_cell hc0) (by simp;exact hbg'))).trans hc0
   obtain ⟨s,hs⟩:∃ s,ss[k]? = some s:=⟨_,List.getElem?_eq_getElem (by have:=HS.out;omega)⟩
   have hcs:wr.cell? ⟨g,k,none⟩ = some (B8 s):=by
    rw [ho.cellAt k (by omega)]
    simp [prog_at (axpy c xs ss) ss k n (by rw [axpy_length _ _ _ (HX.out.trans HS.out.symm),HS.out]) HS.out hlt,hs]
   have hfs:wr.frozen? ⟨g,k,none⟩ = false:=ho.frozenAt k
   have hsH:=Lib.hid hs;clear hs
   have hx16:=x.toNat_lt
   obtain ⟨lv,hv,elh⟩:∃ lv hv,lv = lowF c (UInt8.ofNat (x.toNat % 16))∧hv = highF c (UInt8.ofNat (x.toNat / 16)):=⟨_,_,rfl,rfl⟩
   have elH:=Lib.hid elh;clear elh
   have hlo:wr.cell? ⟨BL,x.toNat % 16,none⟩ = some (B8 lv):=by rw [elH.out.1];exact half_cell (by rw [HLO.out];exact h1) _ (by omega)
   have hhi:wr.cell? ⟨BL + 1,x.toNat / 16,none⟩ = some (B8 hv):=by rw [elH.out.2];exact half_cell (by rw [HHI.out];exact h2) _ (by omega)
   clear hc0
   go_wp2
   go_region
   all_goals go_wp2
   go_roundw
   case rel =>
    have st:=ho.stored k (B8 (s ^^^ Gf.gmul c x))
    have eb:bits BinOp.xor IntKind.u8 (↑s.toNat) (bits BinOp.xor IntKind.u8 (↑lv.toNat) (↑hv.toNat)) = ((s ^^^ Gf.gmul c x).toNat:Int):=by
     rw [bits_xor,elH.out.1,elH.out.2,low_high,bits_xor]
    have ez:(axpy c xs ss)[k]? = some (s ^^^ Gf.gmul c x):=by
     have hk':k < xs.length:=by have:=HX.out;omega
     simp [axpy,List.getElem?_zipWith,hsH.out,List.getElem?_eq_getElem hk',← hx.out]
    rw [← List.map_set,prog_succ _ _ k n (by rw [axpy_length _ _ _ (HX.out.trans HS.out.symm),HS.out]) HS.out hlt _ ez] at st
    refine ⟨k + 1,by omega,by go_num,?_,?_,?_,?_⟩
    ·rw [eb];exact st.1
    ·rw [eb];exact grown_trans hg ⟨st.2.os,st.2.tape,st.2.output,st.2.size,st.2.block⟩
    ·rw [eb];exact hsc h1 (by simp;omega)
    ·rw [eb];exact hsc h2 (by simp;omega)
   case measure=>simp [intOf];omega
  ·go_wp2
   go_end0
   refine ⟨rfl,?_,hg⟩
   obtain rfl:k = n:=by omega
   rwa [prog_full _ _ k (by rw [axpy_length _ _ _ (HX.out.trans HS.out.symm),HS.out]) HS.out] at ho
end Go.Proofs.YtccaiiigdfieoaaGreatDoor
namespace Go.Proofs.YtccaiiigdfieoaaGreatDoor
open Go.RowKit Go.By
theorem info_u8:(Tryz.prog.info? 5).map (fun i=>(i.zero,i.size,i.bytes)) = some (some (.int .u8 0),1,1):=by kernel_rfl
set_option maxHeartbeats 400000 in
theorem CloneB_any (p:Option Addr) (n c:Nat) (xs:List UInt8) (w:World) (h:Sl B8 w p n c xs) (hn:Room n) :
  Calls Tryz.prog 129 #[.slice p n c] w fun e w'=>∃ q c',e = .returned (.slice q n c')∧w'.ownsRow w.heap.size 5 1 (.slice q n c') n (xs.map B8)∧Below w.heap.size w w':=by
 obtain ⟨i0,hi,hz0,hz1,hz2⟩:=info_parts info_u8
 cases hp:p with
 | none =>
  subst hp
  obtain ⟨rfl,rfl⟩:=h.nil rfl
  have:xs = []:=List.eq_nil_of_length_eq_zero h.len
  subst this
  have hq:=fun w=>Lib.run_eql_slice_nil (P:=Tryz.prog) w 22 5 none 0 0 0 0 Tryz.underlying22
  go_enter Tryz.func129,Tryz.ntmps129
  go_wp2
  go_ret
  exact ⟨none,0,rfl,World.ownsRow_nil _ _ _ _,Below.refl _ _⟩
 | some ad =>
  subst hp
  have hq:=fun w=>Lib.run_eql_slice_nil (P:=Tryz.prog) w 22 5 (some ad) n c 0 0 Tryz.underlying22
  have H:=Lib.hid h
  clear h
  go_enter Tryz.func129,Tryz.ntmps129
  go_wp2_with (at_builtin;refine wpList_append_rs _ rfl _ _ 22 rfl w.heap.size 5 i0 (.int .u8 0) 1 Tryz.underlying22 hi hz0 hz1 hz2 rfl _ 0 [] rfl (World.ownsRow_lit w #[] 0 (Nat.le_refl _) (by simp [maxLen]) rfl) B8 _ _ _ xs (fun _ _=>rfl) rfl (H.out.keep ((Below.refl _ _).alloc (Nat.le_refl _) _)) ?c1 ?c2 ?c3 ?_)
  case c1=>have:=H.out.le;have:=H.out.max;omega
  case c2=>unfold Room at hn;omega
  case c3=>simp
  intro v' w' ho hg
  obtain ⟨q,c',rfl⟩:=owns_shape ho
  go_wp2
  go_ret
  exact ⟨q,c',rfl,ho,((Below.refl _ _).alloc (Nat.le_refl _) _).grown hg (by simp) (by simp [Value.ownBlock])⟩
set_option maxHeartbeats 400000 in
theorem IndexFuncB_any {α:Type} (enc:α→Value) (f:α→Bool) (g:Nat) (lb:Array Value) (eg:Enters Tryz.prog g) (p:Option Addr) (n c:Nat) (xs:List α) (w:World) (h:Sl enc w p n c xs)
  (hf:∀ (x:α),x ∈ xs→Calls Tryz.prog g (#[enc x] ++ lb) w fun e w'=>e = .returned (.bool (f x))∧w = w') :
  Calls Tryz.prog 241 #[.slice p n c,.func (.func g) #[] lb] w fun e w'=>e = .returned (.int .i64 (idxf f xs))∧w = w':=by
 have hn:=h.bound
 have H:=Lib.hid h;clear h
 have HF:=Lib.hid hf;clear hf
 have eg':∀ args w,(callFunc g args).run Tryz.prog w = .ok (.enter g args) w:=eg
 clear eg
 go_enter Tryz.func241,Tryz.ntmps241
 go_wp2
 go_loop [8] (fun i=>∃ k:Nat,k≤n∧i = .int .i64 k∧Hid (∀ j y,j < k→xs[j]? = some y→f y = false)) (fun i=>n - (intOf i).toNat)
 case atStart=>exact ⟨0,Nat.zero_le _,rfl,fun j y hj=>by omega⟩
 case round =>
  obtain ⟨k,hk,rfl,hr⟩:=hrel
  by_cases hlt:k < n
  ·obtain ⟨b,o,x,rfl,hc,hx⟩:=H.out.at k hlt
   have hm:x ∈ xs:=List.mem_of_getElem? hx.out
   cases hfx:f x with
   | false =>
    have HQ:=Lib.hid hfx;clear hfx
    go_wp2_with fail
    refine (HF.out x hm).mono ?_;rintro e w' ⟨rfl,rfl⟩
    rw [HQ.out]
    go_wp2
    go_round
    case rel =>
     refine ⟨k + 1,by omega,by go_num,fun j y hj hy=>?_⟩
     by_cases e:j = k
     ·subst e;have:=hx.out.symm.trans hy;cases this;exact HQ.out
     ·exact hr.out j y (by omega) hy
    case measure=>simp [intOf];omega
   | true =>
    have HQ:=Lib.hid hfx;clear hfx
    go_wp2_with fail
    refine (HF.out x hm).mono ?_;rintro e w' ⟨rfl,rfl⟩
    rw [HQ.out]
    go_wp2
    go_ret
    exact ⟨by rw [idxf_found hx.out HQ.out hr.out];rfl,rfl⟩
  ·go_wp2
   go_ret
   exact ⟨by rw [idxf_none (k:=k) (by have:=H.out.len;omega) hr.out];rfl,rfl⟩
set_option maxHeartbeats 400000 in
theorem ContainsFuncB_any {α:Type} (enc:α→Value) (f:α→Bool) (g:Nat) (lb:Array Value) (eg:Enters Tryz.prog g) (p:Option Addr) (n c:Nat) (xs:List α) (w:World) (h:Sl enc w p n c xs)
  (hf:∀ (x:α),x ∈ xs→Calls Tryz.prog g (#[enc x] ++ lb) w fun e w'=>e = .returned (.bool (f x))∧w = w') :
  Calls Tryz.prog 217 #[.slice p n c,.func (.func g) #[] lb] w fun e w'=>e = .returned (.bool (xs.any f))∧w = w':=by
 have H:=Lib.hid h;clear h
 have HF:=Lib.hid hf;clear hf
 have HE:=Lib.hid eg;clear eg
 go_enter Tryz.func217,Tryz.ntmps217
 go_wp2_with fail
 refine (IndexFuncB_any enc f g lb HE.out p n c xs w H.out HF.out).mono ?_;rintro e w' ⟨rfl,rfl⟩
 go_wp2
 go_ret
 exact ⟨by rw [← idxf_ge];rfl,rfl⟩
set_option maxHeartbeats 400000 in
theorem IndexFuncBB_any {α:Type} (enc:α→Value) (f:α→Bool) (g:Nat) (lb:Array Value) (eg:Enters Tryz.prog g) (p:Option Addr) (n c:Nat) (xs:List α) (w:World) (h:Sl enc w p n c xs)
  (hf:∀ (x:α),x ∈ xs→Calls Tryz.prog g (#[enc x] ++ lb) w fun e w'=>e = .returned (.bool (f x))∧w = w') :
  Calls Tryz.prog 234 #[.slice p n c,.func (.func g) #[] lb] w fun e w'=>e = .returned (.int .i64 (idxf f xs))∧w = w':=by
 have hn:=h.bound
 have H:=Lib.hid h;clear h
 have HF:=Lib.hid hf;clear hf
 have eg':∀ args w,(callFunc g args).run Tryz.prog w = .ok (.enter g args) w:=eg
 clear eg
 go_enter Tryz.func234,Tryz.ntmps234
 go_wp2
 go_loop [8] (fun i=>∃ k:Nat,k≤n∧i = .int .i64 k∧Hid (∀ j y,j < k→xs[j]? = some y→f y = false)) (fun i=>n - (intOf i).toNat)
 case atStart=>exact ⟨0,Nat.zero_le _,rfl,fun j y hj=>by omega⟩
 case round =>
  obtain ⟨k,hk,rfl,hr⟩:=hrel
  by_cases hlt:k < n
  ·obtain ⟨b,o,x,rfl,hc,hx⟩:=H.out.at k hlt
   have hm:x ∈ xs:=List.mem_of_getElem? hx.out
   cases hfx:f x with
   | false =>
    have HQ:=Lib.hid hfx;clear hfx
    go_wp2_with fail
    refine (HF.out x hm).mono ?_;rintro e w' ⟨rfl,rfl⟩
    rw [HQ.out]
    go_wp2
    go_round
    case rel =>
     refine ⟨k + 1,by omega,by go_num,fun j y hj hy=>?_⟩
     by_cases e:j = k
     ·subst e;have:=hx.out.symm.trans hy;cases this;exact HQ.out
     ·exact hr.out j y (by omega) hy
    case measure=>simp [intOf];omega
   | true =>
    have HQ:=Lib.hid hfx;clear hfx
    go_wp2_with fail
    refine (HF.out x hm).mono ?_;rintro e w' ⟨rfl,rfl⟩
    rw [HQ.out]
    go_wp2
    go_ret
    exact ⟨by rw [idxf_found hx.out HQ.out hr.out];rfl,rfl⟩
  ·go_wp2
   go_ret
   exact ⟨by rw [idxf_none (k:=k) (by have:=H.out.len;omega) hr.out];rfl,rfl⟩
set_option maxHeartbeats 400000 in
theorem ContainsFuncBB_any {α:Type} (enc:α→Value) (f:α→Bool) (g:Nat) (lb:Array Value) (eg:Enters Tryz.prog g) (p:Option Addr) (n c:Nat) (xs:List α) (w:World) (h:Sl enc w p n c xs)
  (hf:∀ (x:α),x ∈ xs→Calls Tryz.prog g (#[enc x] ++ lb) w fun e w'=>e = .returned (.bool (f x))∧w = w') :
  Calls Tryz.prog 195 #[.slice p n c,.func (.func g) #[] lb] w fun e w'=>e = .returned (.bool (xs.any f))∧w = w':=by
 have H:=Lib.hid h;clear h
 have HF:=Lib.hid hf;clear hf
 have HE:=Lib.hid eg;clear eg
 go_enter Tryz.func195,Tryz.ntmps195
 go_wp2_with fail
 refine (IndexFuncBB_any enc f g lb HE.out p n c xs w H.out HF.out).mono ?_;rintro e w' ⟨rfl,rfl⟩
 go_wp2
 go_ret
 exact ⟨by rw [← idxf_ge];rfl,rfl⟩
end Go.Proofs.YtccaiiigdfieoaaGreatDoor
namespace Go.By
open Go.RowKit
structure Sl2 (w:World) (p:Option Addr) (n c:Nat) (xss:List (List UInt8)):Prop where
 len:xss.length = n
 le:n≤c
 max:c≤maxLen
 nil:p = none→n = 0∧c = 0
 rs:∀ i xs,xss[i]? = some xs→∃ b o q c',p = some ⟨b,o,none⟩∧w.cell? ⟨b,o + i,none⟩ = some (.slice q xs.length c')∧Sl B8 w q xs.length c' xs
section
variable {w w':World} {p:Option Addr} {n c:Nat} {xss:List (List UInt8)}
theorem Sl2.keep (h:Sl2 w p n c xss) (hb:Below w.heap.size w w'):Sl2 w' p n c xss :=
 ⟨h.len,h.le,h.max,h.nil,fun i xs hi=>by
  obtain ⟨b,o,q,c',hp,hc,hs⟩:=h.rs i xs hi
  exact ⟨b,o,q,c',hp,(hb.cell (p:=⟨b,o + i,none⟩) (lt_of_cell hc)).trans hc,hs.keep hb⟩⟩
theorem Sl2.bound (h:Sl2 w p n c xss):n≤9223372036854775807:=by have:=h.le;have:=h.max;unfold maxLen at this;omega
theorem Sl2.nil0 (w:World):Sl2 w none 0 0 []:=⟨rfl,Nat.le_refl _,by simp [maxLen],fun _=>⟨rfl,rfl⟩,fun i xs hi=>by simp at hi⟩
theorem Sl2.at (h:Sl2 w p n c xss) (i:Nat) (hi:i < n):∃ b o q m c' xs,p = some ⟨b,o,none⟩∧w.cell? ⟨b,o + i,none⟩ = some (.slice q m c')∧Sl B8 w q m c' xs∧Hid (xss[i]? = some xs):=by
 have hi':i < xss.length:=by rw [h.len];exact hi
 obtain ⟨b,o,q,c',hp,hc,hs⟩:=h.rs i _ (List.getElem?_eq_getElem hi')
 exact ⟨b,o,q,_,c',_,hp,hc,hs,List.getElem?_eq_getElem hi'⟩
theorem Sl2.vals (h:Sl2 w p n c xss):∃ vs:List Value,Sl id w p n c vs∧∀ (i:Nat) (v:Value),vs[i]? = some v→∃ xs q c',xss[i]? = some xs∧v = Value.slice q xs.length c'∧Sl B8 w q xs.length c' xs:=by
 refine ⟨List.ofFn (fun i:Fin n=>(p.bind fun a=>w.cell? (a.add i.val)).getD undef),⟨by simp,h.le,h.max,h.nil,?_⟩,?_⟩
 ·intro i hi
  have hi':i < xss.length:=by rw [h.len];simpa using hi
  obtain ⟨b,o,q,c',hp,hc,hs⟩:=h.rs i _ (List.getElem?_eq_getElem hi')
  refine ⟨b,o,hp,?_⟩
  simp [hp,Addr.add_lit,hc]
 ·intro i v hv
  obtain ⟨hi,hv⟩:=List.getElem?_eq_some_iff.1 hv
  have hi':i < xss.length:=by rw [h.len];simpa using hi
  obtain ⟨b,o,q,c',hp,hc,hs⟩:=h.rs i _ (List.getElem?_eq_getElem hi')
  refine ⟨_,q,c',List.getElem?_eq_getElem hi',?_,hs⟩
  rw [← hv]
  simp [hp,Addr.add_lit,hc]
end
theorem calloc {w:World} {a:Addr} {v:Value} {o:Obj} (h:w.cell? a = some v):(w.alloc o).cell? a = some v:=by
 refine (World.cell?_of_block (a:=a) ?_).trans h
 have:=World.block_lt_of_cell? w _ h
 rw [heap_alloc,if_neg (by omega)]
def RetB (T:TypeId) (w:World) (ys:List UInt8) (code:Int) (e:Ending) (w':World):Prop :=
 ∃ q m c',Hid (ys.length = m)∧e = .returned (.tuple #[.slice q m c',.int .i64 code])∧w'.ownsRow w.heap.size T 1 (.slice q m c') m (ys.map B8)∧Below w.heap.size w w'
def RetB1 (T:TypeId) (w:World) (ys:List UInt8) (e:Ending) (w':World):Prop :=
 ∃ q m c',Hid (ys.length = m)∧e = .returned (.slice q m c')∧w'.ownsRow w.heap.size T 1 (.slice q m c') m (ys.map B8)∧Below w.heap.size w w'
theorem RetB.nil (T:TypeId) (w w':World) (code:Int) (hb:Below w.heap.size w w'):RetB T w [] code (.returned (.tuple #[.slice none 0 0,.int .i64 code])) w' :=
 ⟨none,0,0,rfl,rfl,World.ownsRow_nil _ _ _ _,hb⟩
end Go.By
namespace Go.Proofs.YtccaiiigdfieoaaGreatDoor
open Go.RowKit Go.By
def axpyS (c:UInt8) (xs ys:List UInt8):List UInt8 × Int:=if xs.length = ys.length then (axpy c xs ys,0) else ([],4)
set_option maxHeartbeats 400000 in
theorem Axpy_any (c:UInt8) (p1 p2:Option Addr) (n1 n2 c1 c2:Nat) (xs ys:List UInt8) (w:World) (h1:Sl B8 w p1 n1 c1 xs) (h2:Sl B8 w p2 n2 c2 ys) (hn:Room n2) :
  Calls Tryz.prog 182 #[B8 c,.slice p1 n1 c1,.slice p2 n2 c2] w (RetB 5 w (axpyS c xs ys).1 (axpyS c xs ys).2):=by
 by_cases he:n1 = n2
 ·obtain rfl:=he
  have HR:=Lib.hid (show axpyS c xs ys = (axpy c xs ys,0) by simp [axpyS,h1.len,h2.len])
  have H1:=Lib.hid h1;have H2:=Lib.hid h2;clear h1 h2
  go_enter Tryz.func182,Tryz.ntmps182
  go_wp2_with fail
  refine (CloneB_any _ _ _ ys _ H2.out hn).mono ?_;rintro e w1 ⟨q,c',rfl,ho,hb⟩
  have HO:=Lib.hid ho;clear ho
  go_wp2_with fail
  refine (put_any w.heap.size n1 q p1 c' c1 c xs ys w1 H1.out.len H2.out.len H1.out.bound HO.out (H1.out.keep hb).rs (fun h0 a ha a' ha'=>by
   obtain ⟨b,o,hp,hlt⟩:=H1.out.rs.lt (by rw [H1.out.len];exact h0)
   have:=(owns_new HO.out a' ha').1
   rw [hp] at ha;cases ha;show b≠a'.block;omega)).mono ?_
  rintro e w2 ⟨rfl,ho2,hg⟩
  have HO2:=Lib.hid ho2;clear ho2
  go_wp2
  go_ret2
  rw [HR.out]
  exact ⟨q,n1,c',by rw [axpy_length _ _ _ (H1.out.len.trans H2.out.len.symm)];exact H2.out.len,rfl,HO2.out,hb.grown hg hb.size (fun k hk=>by
   cases q with
   | none=>simp at hk
   | some a=>simp at hk;have:=(owns_new HO.out a rfl).1;omega)⟩
 ·have HR:=Lib.hid (show axpyS c xs ys = ([],4) by simp [axpyS,h1.len,h2.len,he])
  have b1:=h1.bound;have b2:=h2.bound
  have hne:((n1:Int) != (n2:Int)) = true:=by simp;omega
  clear h1 h2
  go_enter Tryz.func182,Tryz.ntmps182
  go_wp2
  go_ret2
  rw [HR.out]
  exact RetB.nil _ _ _ _ (Below.refl _ _)
theorem enters_zero:Enters Tryz.prog 216:=enters_of Tryz.func216 (by kernel_rfl) rfl
set_option maxHeartbeats 400000 in
theorem Zero1_any (x:UInt8) (w:World):Calls Tryz.prog 216 #[B8 x] w fun e w'=>e = .returned (.bool (decide (x≠0)))∧w = w':=by
 have hz:=nat_ne_zero x
 generalize decide (x≠0) = d at *
 go_enter Tryz.func216,Tryz.ntmps216
 go_wp2
 go_ret
 exact ⟨rfl,rfl⟩
def zeroS (xs:List UInt8):Bool:=xs.all (fun x=>decide (x = 0))
set_option maxHeartbeats 400000 in
theorem Zero_any (p:Option Addr) (n c:Nat) (xs:List UInt8) (w:World) (h:Sl B8 w p n c xs) :
  Calls Tryz.prog 169 #[.slice p n c] w fun e w'=>e = .returned (.bool (zeroS xs))∧w = w':=by
 have HR:=Lib.hid (show (!(xs.any fun x=>decide (x≠0))) = zeroS xs by simp [zeroS,List.any_eq_not_all_not])
 have H:=Lib.hid h;clear h
 go_enter Tryz.func169,Tryz.ntmps169
 go_wp2_with fail
 refine (ContainsFuncB_any B8 (fun x=>decide (x≠0)) 216 #[] enters_zero p n c xs w H.out (fun x _=>Zero1_any x w)).mono ?_;rintro e w' ⟨rfl,rfl⟩
 generalize (xs.any fun x=>decide (x≠0)) = d at HR
 go_wp2
 go_ret
 exact ⟨by rw [← HR.out];rfl,rfl⟩
set_option maxHeartbeats 400000 in
theorem Scale_any (c:UInt8) (p:Option Addr) (n cc:Nat) (xs:List UInt8) (w:World) (h:Sl B8 w p n cc xs) (hn:Room n) :
  Calls Tryz.prog 179 #[B8 c,.slice p n cc] w (RetB1 5 w (xs.map (Gf.gmul c))):=by
 obtain ⟨i0,hi,hz0,hz1,hz2⟩:=info_parts info_u8
 have hmap:axpy c xs (List.replicate n 0) = xs.map (Gf.gmul c):=by
  have:=h.len
  apply List.ext_getElem?
  intro j
  simp only [axpy,List.getElem?_zipWith,List.getElem?_map]
  by_cases hj:j < n
  ·simp [hj,this]
  ·simp [show xs.length≤j by omega]
 have HM:=Lib.hid hmap;clear hmap
 have hm1:n≤maxLen:=by have:=h.le;have:=h.max;omega
 have H:=Lib.hid h;clear h
 have hm2:1 * n≤281474976710656:=by unfold Room at hn;omega
 have HM1:=Lib.hid hm1;have HM2:=Lib.hid hm2;clear hm1 hm2
 go_enter Tryz.func179,Tryz.ntmps179
 go_wp2_with (at_make;refine wpList_make_full _ rfl _ _ 22 rfl w.heap.size 5 i0 (.int .u8 0) 1 Tryz.underlying22 hi hz0 hz1 .i64 .i64 _ _ n rfl rfl rfl rfl (by rw [hz2];exact HM2.out) HM1.out (Nat.le_refl _) ?_)
 intro w1 ho hg
 have ho':w1.ownsRow w.heap.size 5 1 (.slice (some ⟨w.heap.size,0,none⟩) n n) n ((List.replicate n (0:UInt8)).map B8):=by
  have e:(madeCells #[Value.int .u8 0] n).toList = (List.replicate n (0:UInt8)).map B8:=by
   rw [List.map_replicate];exact toList_madeCells_one _ _
  rw [← e];exact ho
 have HO:=Lib.hid ho';clear ho ho'
 have hb:Below w.heap.size w w1:=(Below.refl _ _).grown hg (Nat.le_refl _) (by simp)
 have HB:=Lib.hid hb;clear hb hg
 go_wp2_with fail
 refine (put_any w.heap.size n (some ⟨w.heap.size,0,none⟩) p n cc c xs (List.replicate n 0) w1 H.out.len (by simp) H.out.bound HO.out (H.out.keep HB.out).rs (fun h0 a ha a' ha'=>by
   obtain ⟨b,o,hp,hlt⟩:=H.out.rs.lt (by rw [H.out.len];exact h0)
   rw [hp] at ha;cases ha;cases ha';show b≠_;simp;omega)).mono ?_
 rintro e w2 ⟨rfl,ho2,hg⟩
 have HO2:=Lib.hid ho2;clear ho2
 go_wp2
 go_ret
 exact ⟨_,n,n,by rw [List.length_map];exact H.out.len,rfl,HM.out ▸ HO2.out,HB.out.grown hg HB.out.size (fun k hk=>by simp at hk;omega)⟩
end Go.Proofs.YtccaiiigdfieoaaGreatDoor
namespace Go.Proofs.YtccaiiigdfieoaaGreatDoor
open Go.RowKit Go.By
theorem enters_nought:Enters Tryz.prog 211:=enters_of Tryz.func211 (by kernel_rfl) rfl
set_option maxHeartbeats 400000 in
theorem nought1_any (q:Option Addr) (m c B n:Nat) (w:World) (hB:w.cell? ⟨B,0,none⟩ = some (.int .i64 n)) :
  Calls Tryz.prog 211 #[.slice q m c,.pointer (some ⟨B,0,none⟩)] w fun e w'=>e = .returned (.bool ((m:Int) != n))∧w = w':=by
 go_enter Tryz.func211,Tryz.ntmps211
 go_wp2
 go_ret
 exact ⟨rfl,rfl⟩
def noughtS:List (List UInt8)→List UInt8 × Int
 | []=>([],0)
 | x :: l=>if (x :: l).all (fun y=>decide (y.length = x.length)) then (List.replicate x.length 0,0) else ([],4)
theorem noughtS_len {xss:List (List UInt8)} (h:(noughtS xss).2 = 0):∀ xs,xs ∈ xss→xs.length = (noughtS xss).1.length:=by
 cases xss with
 | nil=>intro xs hx;simp at hx
 | cons x l =>
  intro xs hx
  simp only [noughtS] at h ⊢
  by_cases ha:(x :: l).all (fun y=>decide (y.length = x.length)) = true
  ·rw [if_pos ha]
   have:=List.all_eq_true.1 ha xs hx
   simpa using this
  ·rw [if_neg ha] at h;simp at h
theorem noughtS_code (xss:List (List UInt8)):(noughtS xss).2 = 0∨((noughtS xss).2 = 4∧(noughtS xss).1 = []):=by
 cases xss with
 | nil=>exact .inl rfl
 | cons x l =>
  simp only [noughtS]
  by_cases ha:(x :: l).all (fun y=>decide (y.length = x.length)) = true
  ·rw [if_pos ha];exact .inl rfl
  ·rw [if_neg ha];exact .inr ⟨rfl,rfl⟩
def lenNe (n:Nat):Value→Bool
 | .slice _ m _=>(m:Int) != n
 | _=>false
theorem any_vals {w:World} {n:Nat} {vs:List Value} {xss:List (List UInt8)} (hl:vs.length = xss.length)
  (hv:∀ (i:Nat) (v:Value),vs[i]? = some v→∃ xs q c',xss[i]? = some xs∧v = Value.slice q xs.length c'∧Sl B8 w q xs.length c' xs) :
  vs.any (lenNe n) = !(xss.all (fun y=>decide (y.length = n))):=by
 rw [List.all_eq_not_any_not,Bool.not_not,Bool.eq_iff_iff]
 simp only [List.any_eq_true]
 constructor
 ·rintro ⟨v,hm,h⟩
  obtain ⟨i,hi,e⟩:=List.getElem_of_mem hm
  obtain ⟨xs,q,c',hx,rfl,_⟩:=hv i v (by rw [List.getElem?_eq_getElem hi,e])
  refine ⟨xs,List.mem_of_getElem? hx,?_⟩
  simp [lenNe] at h ⊢;omega
 ·rintro ⟨xs,hm,h⟩
  obtain ⟨i,hi,e⟩:=List.getElem_of_mem hm
  have hi':i < vs.length:=by omega
  obtain ⟨ys,q,c',hx,hv',_⟩:=hv i _ (List.getElem?_eq_getElem hi')
  refine ⟨_,List.getElem_mem hi',?_⟩
  rw [hv']
  rw [List.getElem?_eq_getElem hi,e] at hx
  cases hx
  simp [lenNe] at h ⊢;omega
set_option maxRecDepth 100000 in
set_option maxHeartbeats 400000 in
theorem nought_any (p:Option Addr) (n c:Nat) (xss:List (List UInt8)) (w:World) (h:Sl2 w p n c xss) (hr:∀ xs,xs ∈ xss→Room xs.length) :
  Calls Tryz.prog 162 #[.slice p n c] w (RetB 5 w (noughtS xss).1 (noughtS xss).2):=by
 obtain ⟨i0,hi,hz0,hz1,hz2⟩:=info_parts info_u8
 have hb:=h.bound
 by_cases h0:n = 0
 ·subst h0
  have:xss = []:=List.eq_nil_of_length_eq_zero h.len
  subst this
  clear h hr
  go_enter Tryz.func162,Tryz.ntmps162
  go_wp2
  go_ret2
  exact RetB.nil _ _ _ _ (Below.refl _ _)
 ·have hn0:((n:Int) == 0) = false:=by simp;omega
  obtain ⟨b,o,q,m,c',xs,rfl,hc,hs,hx⟩:=h.at 0 (by omega)
  obtain ⟨vs,hvs,hvv⟩:=h.vals
  have hax:=any_vals (n:=m) (hvs.len.trans h.len.symm) hvv
  have hmem:=List.mem_of_getElem? hx.out
  have hrm:=hr xs hmem
  have hml:=hs.len
  have HS:Hid (noughtS xss = if xss.all (fun y=>decide (y.length = m)) then (List.replicate m 0,0) else ([],4)):=by
   cases xss with
   | nil=>simp at hmem
   | cons x l=>have:=hx.out;simp at this;subst this;rw [← hml];rfl
  generalize xss.all (fun y=>decide (y.length = m)) = ok at hax HS
  rw [Nat.add_zero] at hc
  have HV:=Lib.hid hvs;have HW:=Lib.hid hvv;have HX:=Lib.hid hax;have HRm:=Lib.hid hrm;have HM:=Lib.hid hs
  have hlt:=lt_of_cell hc
  have hnp:(0:Int) < (n:Int):=by omega
  clear hvs hvv hax hr hx hrm h h0 hmem hml hs
  go_enter Tryz.func162,Tryz.ntmps162
  go_wp2_with fail
  have HC:=fun (W:World) (hW:W.cell? ⟨w.heap.size,0,none⟩ = some (.int .i64 m)) (hV:Sl id W (some ⟨b,o,none⟩) n c vs) =>
   ContainsFuncBB_any id (lenNe m) 211 #[.pointer (some ⟨w.heap.size,0,none⟩)] enters_nought (some ⟨b,o,none⟩) n c vs W hV (fun v hv=>by
    obtain ⟨i,hi,e⟩:=List.getElem_of_mem hv
    obtain ⟨ys,q',c'',_,rfl,_⟩:=HW.out i v (by rw [List.getElem?_eq_getElem hi,e])
    exact nought1_any q' _ c'' w.heap.size m W hW)
  refine (HC _ ?_ ?_).mono ?_
  ·exact cell_of_row _ _ 0 #[.int .i64 m] _ _ (hnew rfl)
  ·exact HV.out.keep ((Below.refl _ _).alloc (Nat.le_refl _) _)
  rintro e w' ⟨rfl,rfl⟩
  rw [HX.out]
  cases ok with
  | false =>
   go_wp2
   go_ret2
   rw [HS.out]
   exact RetB.nil _ _ _ _ ((Below.refl _ _).alloc (Nat.le_refl _) _)
  | true =>
   have hm1:m≤maxLen:=by have:=HM.out.le;have:=HM.out.max;omega
   have hm2:1 * m≤281474976710656:=by have:=HRm.out;rw [HM.out.len] at this;unfold Room at this;omega
   have HM1:=Lib.hid hm1;have HM2:=Lib.hid hm2;clear hm1 hm2
   go_wp2_with (at_make;refine wpList_make_full _ rfl _ _ 22 rfl w.heap.size 5 i0 (.int .u8 0) 1 Tryz.underlying22 hi hz0 hz1 .i64 .i64 _ _ m rfl rfl rfl rfl (by rw [hz2];exact HM2.out) HM1.out (by simp) ?_)
   intro w1 ho hg
   have ho':w1.ownsRow w.heap.size 5 1 (.slice (some ⟨w.heap.size + 1,0,none⟩) m m) m ((List.replicate m (0:UInt8)).map B8):=by
    have e:(madeCells #[Value.int .u8 0] m).toList = (List.replicate m (0:UInt8)).map B8:=by
     rw [List.map_replicate];exact toList_madeCells_one _ _
    rw [← e];exact ho
   have HO:=Lib.hid ho';clear ho ho'
   have HB:=Lib.hid (((Below.refl w.heap.size w).alloc (Nat.le_refl _) _).grown hg (by simp) (by simp))
   clear hg
   go_wp2
   go_ret2
   rw [HS.out]
   exact ⟨_,m,m,by simp [Hid],rfl,HO.out,HB.out⟩
end Go.Proofs.YtccaiiigdfieoaaGreatDoor
namespace Go.Proofs.YtccaiiigdfieoaaGreatDoor
open Go.RowKit Go.By
def combF (z:List UInt8) (cs:List UInt8) (xss:List (List UInt8)):List UInt8:=(List.zip cs xss).foldl (fun s r=>axpy r.1 r.2 s) z
def combS (cs:List UInt8) (xss:List (List UInt8)):List UInt8 × Int :=
 if cs.length = xss.length then (if (noughtS xss).2 = 0 then (combF (noughtS xss).1 cs xss,0) else ([],4)) else ([],4)
theorem combF_len (cs:List UInt8) (xss:List (List UInt8)) (m:Nat) (h:∀ xs,xs ∈ xss→xs.length = m):∀ z:List UInt8,z.length = m→(combF z cs xss).length = m:=by
 induction xss generalizing cs with
 | nil=>intro z hz;simpa [combF] using hz
 | cons x l ih =>
  intro z hz
  cases cs with
  | nil=>simpa [combF] using hz
  | cons c cs =>
   have:=ih cs (fun xs hx=>h xs (List.mem_cons_of_mem _ hx)) (axpy c x z) (by rw [axpy_length _ _ _ ((h x List.mem_cons_self).trans hz.symm)];exact hz)
   simpa [combF] using this
theorem combF_step {z:List UInt8} {cs:List UInt8} {xss:List (List UInt8)} {k:Nat} {c:UInt8} {x:List UInt8} (hc:cs[k]? = some c) (hx:xss[k]? = some x) :
  combF z (cs.take (k + 1)) (xss.take (k + 1)) = axpy c x (combF z (cs.take k) (xss.take k)):=by
 have e:∀ j,List.zip (cs.take j) (xss.take j) = (List.zip cs xss).take j:=fun j=>by simp [List.zip,List.take_zipWith]
 have hz:(List.zip cs xss)[k]? = some (c,x):=by simp [List.zip,List.getElem?_zipWith,hc,hx]
 obtain ⟨hk,hz⟩:=List.getElem?_eq_some_iff.1 hz
 simp only [combF,e]
 rw [foldl_take_succ _ _ _ _ hk,hz]
set_option maxRecDepth 100000 in
set_option maxHeartbeats 400000 in
theorem Comb_any (p1 p2:Option Addr) (n1 n2 c1 c2:Nat) (cs:List UInt8) (xss:List (List UInt8)) (w:World) (h1:Sl B8 w p1 n1 c1 cs) (h2:Sl2 w p2 n2 c2 xss) (hr:∀ xs,xs ∈ xss→Room xs.length) :
  Calls Tryz.prog 98 #[.slice p1 n1 c1,.slice p2 n2 c2] w (RetB 5 w (combS cs xss).1 (combS cs xss).2):=by
 have b1:=h1.bound;have b2:=h2.bound
 by_cases he:n1 = n2
 ·obtain rfl:=he
  have HC:=Lib.hid (noughtS_code xss)
  have HR:Hid (combS cs xss = if (noughtS xss).2 = 0 then (combF (noughtS xss).1 cs xss,0) else ([],4)):=by unfold combS;rw [if_pos (h1.len.trans h2.len.symm)];rfl
  have H1:=Lib.hid h1;have H2:=Lib.hid h2;have HM:=Lib.hid hr;clear h1 h2 hr
  go_enter Tryz.func98,Tryz.ntmps98
  go_wp2_with fail
  refine (nought_any _ _ _ xss _ H2.out HM.out).mono ?_;rintro e w1 ⟨q,m,c',hm,rfl,ho,hb⟩
  have HO:=Lib.hid ho;clear ho
  rcases HC.out with h0 | ⟨h0,_⟩
  ·have HL:=Lib.hid (noughtS_len h0)
   rw [h0]
   rw [if_pos h0] at HR
   have HZ:=Lib.hid h0
   clear h0
   go_wp2_with fail
   go_loopw [25] (fun i wr=>∃ k:Nat,k≤n1∧i = .int .i64 k∧wr.ownsRow w.heap.size 5 1 (.slice q m c') m ((combF (noughtS xss).1 (cs.take k) (xss.take k)).map B8)∧Below w.heap.size w wr) (fun i _=>n1 - (intOf i).toNat)
   case atStart=>exact ⟨0,Nat.zero_le _,rfl,by simpa [combF] using HO.out,hb⟩
   case round =>
    obtain ⟨k,hk,rfl,ho,hw⟩:=hrel
    have HOk:=Lib.hid ho;clear ho
    by_cases hlt:k < n1
    ·obtain ⟨b,o,x,rfl,hc,hx⟩:=(H1.out.keep hw).at k hlt
     obtain ⟨b',o',q',m',c'',row,rfl,hc0,hs',hy⟩:=H2.out.at k hlt
     have hc':=(hw.cell (p:=⟨b',o' + k,none⟩) (lt_of_cell hc0)).trans hc0
     clear hc0
     have hml:m' = m:=by rw [← hs'.len,HL.out row (List.mem_of_getElem? hy.out)];exact hm.out
     subst hml
     have HS':=Lib.hid hs';clear hs'
     have hold:0 < m'→∀ a,q' = some a→a.block < w.heap.size:=fun h0 a ha=>by
      obtain ⟨b3,o3,hp3,hlt3⟩:=HS'.out.rs.lt (by rw [HS'.out.len];exact h0)
      rw [hp3] at ha;cases ha;exact hlt3
     go_wp2_with fail
     refine (put_any w.heap.size m' q q' c' c'' x row (combF (noughtS xss).1 (cs.take k) (xss.take k)) wr HS'.out.len (combF_len _ _ m' (fun xs hx=>(HL.out xs (List.mem_of_mem_take hx)).trans hm.out) _ hm.out) HS'.out.bound HOk.out (HS'.out.keep hw).rs (fun h0 a ha a' ha'=>by
      have:=hold h0 a ha
      have:=(owns_new HOk.out a' ha').1
      omega)).mono ?_
     rintro e w2 ⟨rfl,ho2,hg⟩
     have HO2:=Lib.hid ho2;clear ho2
     go_wp2
     go_roundw
     case rel =>
      refine ⟨k + 1,by omega,by go_num,?_,hw.grown hg hw.size (fun j hj=>?_)⟩
      ·rw [combF_step hx.out hy.out];exact HO2.out
      ·cases q with
       | none=>simp at hj
       | some a=>simp at hj;have:=(owns_new HOk.out a rfl).1;omega
     case measure=>simp [intOf];omega
    ·go_wp2
     go_ret2
     rw [HR.out]
     have e1:cs.take k = cs:=List.take_of_length_le (by have:=H1.out.len;omega)
     have e2:xss.take k = xss:=List.take_of_length_le (by have:=H2.out.len;omega)
     have:=HOk.out
     rw [e1,e2] at this
     exact ⟨q,m,c',combF_len _ _ m (fun xs hx=>(HL.out xs hx).trans hm.out) _ hm.out,rfl,this,hw⟩
  ·rw [if_neg (by rw [h0];decide)] at HR
   rw [h0]
   clear h0
   go_wp2
   go_ret2
   rw [HR.out]
   exact RetB.nil _ _ _ _ hb
 ·have HR:=Lib.hid (show combS cs xss = ([],4) by simp [combS,h1.len,h2.len,he])
  have hne:((n1:Int) != (n2:Int)) = true:=by simp;omega
  clear h1 h2 hr
  go_enter Tryz.func98,Tryz.ntmps98
  go_wp2
  go_ret2
  rw [HR.out]
  exact RetB.nil _ _ _ _ (Below.refl _ _)
end Go.Proofs.YtccaiiigdfieoaaGreatDoor
namespace Go.By
open Go.RowKit
theorem sl_block {α:Type} {enc:α→Value} {W:World} {g T:Nat} {cs:Array Value} {fr:Nat × Nat} (xs:List α) (n:Nat) (hW:W.heap[g]? = some (.cells cs T fr)) (hcs:cs = (xs.map enc).toArray) (hn:xs.length = n) (hm:n≤maxLen):Sl enc W (some ⟨g,0,none⟩) n n xs:=by
 subst hcs
 refine ⟨hn,Nat.le_refl _,hm,fun h=>by simp at h,?_⟩
 intro i hi
 refine ⟨g,0,rfl,?_⟩
 rw [Nat.zero_add,cell_of_row _ _ i _ T fr hW]
 simp [hi]
theorem sl2_block {W:World} {g T:Nat} {cs:Array Value} {fr:Nat × Nat} (xss:List (List UInt8)) (n:Nat) (hW:W.heap[g]? = some (.cells cs T fr)) (hs:cs.size = n) (hn:xss.length = n) (hm:n≤maxLen)
  (h:∀ (i:Nat) (xs:List UInt8),xss[i]? = some xs→∃ q m c',cs[i]? = some (Value.slice q m c')∧Sl B8 W q m c' xs):Sl2 W (some ⟨g,0,none⟩) n n xss:=by
 refine ⟨hn,Nat.le_refl _,hm,fun h=>by simp at h,?_⟩
 intro i xs hi
 obtain ⟨q,m,c',hc,hsl⟩:=h i xs hi
 refine ⟨g,0,q,c',rfl,?_,by rw [hsl.len];exact hsl⟩
 rw [Nat.zero_add,cell_of_row _ _ i _ T fr hW,hc,hsl.len]
theorem owns_set {w:World} {base e size n c B i:Nat} {p:Option Addr} {ys:List Value} {u:Value} (h:w.ownsRow base e size (.slice p n c) n ys) (hB:B < base):(w.setCell ⟨B,i,none⟩ u).ownsRow base e size (.slice p n c) n ys :=
 ownsRow_setCell_below h hB u
theorem stp {B C:Nat} {W a b:World} (h1:Below B W a) (h2:Below C a b) (hC:a.heap.size = C) (h3:B≤W.heap.size):Below B W b:=h1.trans (h2.mono (hC ▸ Nat.le_trans h3 h1.size))
theorem bl {B:Nat} {w0 w1 w2:World} (h:Below B w0 w1) (h2:Below w1.heap.size w1 w2) (hB:B≤w1.heap.size):Below B w0 w2:=h.trans (h2.mono hB)
theorem al {B:Nat} {w0 w1:World} {o:Obj} (h:Below B w0 w1) (hB:B≤w1.heap.size):Below B w0 (w1.alloc o):=h.alloc hB o
end Go.By
namespace Go.Proofs.YtccaiiigdfieoaaGreatDoor
open Go.RowKit Go.By
set_option maxHeartbeats 400000 in
theorem IndexFuncV_any {α:Type} (enc:α→Value) (f:α→Bool) (g:Nat) (lb:Array Value) (eg:Enters Tryz.prog g) (p:Option Addr) (n c:Nat) (xs:List α) (w:World) (h:Sl enc w p n c xs)
  (hf:∀ (x:α),x ∈ xs→Calls Tryz.prog g (#[enc x] ++ lb) w fun e w'=>e = .returned (.bool (f x))∧w = w') :
  Calls Tryz.prog 180 #[.slice p n c,.func (.func g) #[] lb] w fun e w'=>e = .returned (.int .i64 (idxf f xs))∧w = w':=by
 have hn:=h.bound
 have H:=Lib.hid h;clear h
 have HF:=Lib.hid hf;clear hf
 have eg':∀ args w,(callFunc g args).run Tryz.prog w = .ok (.enter g args) w:=eg
 clear eg
 go_enter Tryz.func180,Tryz.ntmps180
 go_wp2
 go_loop [8] (fun i=>∃ k:Nat,k≤n∧i = .int .i64 k∧Hid (∀ j y,j < k→xs[j]? = some y→f y = false)) (fun i=>n - (intOf i).toNat)
 case atStart=>exact ⟨0,Nat.zero_le _,rfl,fun j y hj=>by omega⟩
 case round =>
  obtain ⟨k,hk,rfl,hr⟩:=hrel
  by_cases hlt:k < n
  ·obtain ⟨b,o,x,rfl,hc,hx⟩:=H.out.at k hlt
   have hm:x ∈ xs:=List.mem_of_getElem? hx.out
   cases hfx:f x with
   | false =>
    have HQ:=Lib.hid hfx;clear hfx
    go_wp2_with fail
    refine (HF.out x hm).mono ?_;rintro e w' ⟨rfl,rfl⟩
    rw [HQ.out]
    go_wp2
    go_round
    case rel =>
     refine ⟨k + 1,by omega,by go_num,fun j y hj hy=>?_⟩
     by_cases e:j = k
     ·subst e;have:=hx.out.symm.trans hy;cases this;exact HQ.out
     ·exact hr.out j y (by omega) hy
    case measure=>simp [intOf];omega
   | true =>
    have HQ:=Lib.hid hfx;clear hfx
    go_wp2_with fail
    refine (HF.out x hm).mono ?_;rintro e w' ⟨rfl,rfl⟩
    rw [HQ.out]
    go_wp2
    go_ret
    exact ⟨by rw [idxf_found hx.out HQ.out hr.out];rfl,rfl⟩
  ·go_wp2
   go_ret
   exact ⟨by rw [idxf_none (k:=k) (by have:=H.out.len;omega) hr.out];rfl,rfl⟩
set_option maxHeartbeats 400000 in
theorem CloneV_any (p:Option Addr) (n c:Nat) (xs:List UInt8) (w:World) (h:Sl B8 w p n c xs) (hn:Room n) :
  Calls Tryz.prog 134 #[.slice p n c] w fun e w'=>∃ q c',e = .returned (.slice q n c')∧w'.ownsRow w.heap.size 5 1 (.slice q n c') n (xs.map B8)∧Below w.heap.size w w':=by
 obtain ⟨i0,hi,hz0,hz1,hz2⟩:=info_parts info_u8
 cases hp:p with
 | none =>
  subst hp
  obtain ⟨rfl,rfl⟩:=h.nil rfl
  have:xs = []:=List.eq_nil_of_length_eq_zero h.len
  subst this
  have hq:=fun w=>Lib.run_eql_slice_nil (P:=Tryz.prog) w 97 5 none 0 0 0 0 Tryz.underlying97
  go_enter Tryz.func134,Tryz.ntmps134
  go_wp2
  go_ret
  exact ⟨none,0,rfl,World.ownsRow_nil _ _ _ _,Below.refl _ _⟩
 | some ad =>
  subst hp
  have hq:=fun w=>Lib.run_eql_slice_nil (P:=Tryz.prog) w 97 5 (some ad) n c 0 0 Tryz.underlying97
  have H:=Lib.hid h
  clear h
  go_enter Tryz.func134,Tryz.ntmps134
  go_wp2_with (at_builtin;refine wpList_append_rs _ rfl _ _ 97 rfl w.heap.size 5 i0 (.int .u8 0) 1 Tryz.underlying97 hi hz0 hz1 hz2 rfl _ 0 [] rfl (World.ownsRow_lit w #[] 0 (Nat.le_refl _) (by simp [maxLen]) rfl) B8 _ _ _ xs (fun _ _=>rfl) rfl (H.out.keep ((Below.refl _ _).alloc (Nat.le_refl _) _)) ?c1 ?c2 ?c3 ?_)
  case c1=>have:=H.out.le;have:=H.out.max;omega
  case c2=>unfold Room at hn;omega
  case c3=>simp
  intro v' w' ho hg
  obtain ⟨q,c',rfl⟩:=owns_shape ho
  go_wp2
  go_ret
  exact ⟨q,c',rfl,ho,((Below.refl _ _).alloc (Nat.le_refl _) _).grown hg (by simp) (by simp [Value.ownBlock])⟩
def leadS (v:List UInt8):Int:=idxf (fun b=>decide (b≠0)) v
def atS (v:List UInt8) (i:Int):UInt8:=if 0≤i then v.getD i.toNat 0 else 0
theorem enters_lead:Enters Tryz.prog 181:=enters_of Tryz.func181 (by kernel_rfl) rfl
set_option maxHeartbeats 400000 in
theorem Lead1_any (x:UInt8) (w:World):Calls Tryz.prog 181 #[B8 x] w fun e w'=>e = .returned (.bool (decide (x≠0)))∧w = w':=by
 have hz:=nat_ne_zero x
 generalize decide (x≠0) = d at *
 go_enter Tryz.func181,Tryz.ntmps181
 go_wp2
 go_ret
 exact ⟨rfl,rfl⟩
set_option maxHeartbeats 400000 in
theorem Lead_any (p:Option Addr) (n c:Nat) (v:List UInt8) (w:World) (h:Sl B8 w p n c v) :
  Calls Tryz.prog 115 #[.slice p n c] w fun e w'=>e = .returned (.int .i64 (leadS v))∧w = w':=by
 have H:=Lib.hid h;clear h
 go_enter Tryz.func115,Tryz.ntmps115
 go_wp2_with fail
 refine (IndexFuncV_any B8 (fun x=>decide (x≠0)) 181 #[] enters_lead p n c v w H.out (fun x _=>Lead1_any x w)).mono ?_;rintro e w' ⟨rfl,rfl⟩
 generalize hL:idxf (fun x=>decide (x≠0)) v = L
 have HL:=Lib.hid hL;clear hL
 go_wp2
 go_ret
 exact ⟨by rw [leadS,HL.out];rfl,rfl⟩
set_option maxHeartbeats 400000 in
theorem At_any (p:Option Addr) (n c:Nat) (v:List UInt8) (i:Int) (w:World) (h:Sl B8 w p n c v) :
  Calls Tryz.prog 116 #[.slice p n c,.int .i64 i] w fun e w'=>e = .returned (B8 (atS v i))∧w = w':=by
 have hb:=h.bound
 by_cases h0:0≤i
 ·by_cases h1:i < n
  ·obtain ⟨k,rfl⟩:=Int.eq_ofNat_of_zero_le h0
   obtain ⟨b,o,x,rfl,hc,hx⟩:=h.at k (by omega)
   have HR:Hid (atS v (k:Int) = x):=by simp [Hid,atS,List.getD,hx.out]
   have h0':¬ ((k:Int) < 0):=by omega
   clear h h0
   go_enter Tryz.func116,Tryz.ntmps116
   go_wp2
   go_ret
   exact ⟨by rw [HR.out];rfl,rfl⟩
  ·have HR:Hid (atS v i = 0):=by
    simp only [Hid,atS,if_pos h0,List.getD]
    rw [List.getElem?_eq_none (by have:=h.len;omega)];rfl
   have h0':¬ (i < 0):=by omega
   have h1':(n:Int)≤i:=by omega
   clear h
   go_enter Tryz.func116,Tryz.ntmps116
   go_wp2
   go_ret
   exact ⟨by rw [HR.out];rfl,rfl⟩
 ·have HR:Hid (atS v i = 0):=by simp only [Hid,atS,if_neg h0]
  have h0':i < 0:=by omega
  clear h
  go_enter Tryz.func116,Tryz.ntmps116
  go_wp2
  go_ret
  exact ⟨by rw [HR.out];rfl,rfl⟩
set_option maxHeartbeats 400000 in
theorem VZero_any (p:Option Addr) (n c:Nat) (v:List UInt8) (w:World) (h:Sl B8 w p n c v) :
  Calls Tryz.prog 105 #[.slice p n c] w fun e w'=>e = .returned (.bool (zeroS v))∧w = w':=by
 have H:=Lib.hid h;clear h
 go_enter Tryz.func105,Tryz.ntmps105
 go_wp2_with fail
 refine (Zero_any p n c v w H.out).mono ?_;rintro e w' ⟨rfl,rfl⟩
 go_wp2
 go_ret
 exact ⟨rfl,rfl⟩
def RetR (T:TypeId) (w:World) (r:List UInt8 × List UInt8) (e:Ending) (w':World):Prop :=
 ∃ q1 m1 c1 q2 m2 c2,Hid (r.1.length = m1)∧Hid (r.2.length = m2)∧e = .returned (.agg #[.slice q1 m1 c1,.slice q2 m2 c2]) ∧
  w'.ownsRow w.heap.size T 1 (.slice q1 m1 c1) m1 (r.1.map B8)∧w'.ownsRow w.heap.size T 1 (.slice q2 m2 c2) m2 (r.2.map B8)∧Below w.heap.size w w'
set_option maxHeartbeats 400000 in
theorem Of_any (p1 p2:Option Addr) (n1 c1 n2 c2:Nat) (v d:List UInt8) (w:World) (h1:Sl B8 w p1 n1 c1 v) (h2:Sl B8 w p2 n2 c2 d) (r1:Room n1) (r2:Room n2) :
  Calls Tryz.prog 80 #[.slice p1 n1 c1,.slice p2 n2 c2] w (RetR 5 w (v,d)):=by
 have H1:=Lib.hid h1;have H2:=Lib.hid h2;clear h1 h2
 go_enter Tryz.func80,Tryz.ntmps80
 go_wp2_with fail
 refine (CloneV_any _ _ _ v _ (H1.out.keep ((Below.refl _ _).alloc (Nat.le_refl _) _)) r1).mono ?_;rintro e w1 ⟨q1,c1',rfl,ho1,hb1⟩
 have HO1:=Lib.hid ho1;clear ho1
 go_wp2_with fail
 refine Calls.mono (CloneB_any _ _ _ d _ (H2.out.keep (bl (al (Below.refl _ _) (Nat.le_refl _)) hb1 (by simp))) r2) ?_;rintro e w2 ⟨q2,c2',rfl,ho2,hb2⟩
 have HO2:=Lib.hid ho2;clear ho2
 have e2:w2.heap[w.heap.size]? = some (.cells #[.slice none 0 0,.slice none 0 0] 99 (0,0)):=by
  rw [hb2.block _ (by have:=hb1.size;simp at this;omega),hb1.block _ (by simp)];exact hnew rfl
 have f0:w2.cell? ⟨w.heap.size,0,none⟩ = some (.slice none 0 0):=cell_of_row _ _ 0 _ _ _ e2
 have f1:w2.cell? ⟨w.heap.size,1,none⟩ = some (.slice none 0 0):=cell_of_row _ _ 1 _ _ _ e2
 have g0:w2.frozen? ⟨w.heap.size,0,none⟩ = false:=frozen_of_row _ _ 0 _ _ e2
 have g1:w2.frozen? ⟨w.heap.size,1,none⟩ = false:=frozen_of_row _ _ 1 _ _ e2
 have E2:=Lib.hid e2;clear e2
 have hi:(Tryz.prog.info? 99).map (·.size) = some 2:=by kernel_rfl
 go_wp2
 have k2:Below w.heap.size w w2:=bl (bl (al (Below.refl _ _) (Nat.le_refl _)) hb1 (by simp)) hb2 (by have:=hb1.size;simp at this;omega)
 refine bodyPost_ret (results_cell_row rfl _ _ _ 99 #[.slice q1 n1 c1',.slice q2 n2 c2'] (0,0) _ rfl (hss (hss E2.out)) Tryz.underlying99 rfl hi) rfl ⟨q1,n1,c1',q2,n2,c2',H1.out.len,H2.out.len,rfl,?_,?_,(k2.setCell (Nat.le_refl _) _).setCell (Nat.le_refl _) _⟩
 ·exact owns_mono (owns_set (owns_set (owns_keep HO1.out hb2) (by simp)) (by simp)) (by simp)
 ·have hs:=hb1.size
  exact owns_mono (owns_set (owns_set HO2.out (by simp at hs;omega)) (by simp at hs;omega)) (by simp at hs;omega)
end Go.Proofs.YtccaiiigdfieoaaGreatDoor
namespace Gf
end Gf
namespace Go.Proofs.YtccaiiigdfieoaaGreatDoor
open Go.RowKit Go.By
end Go.Proofs.YtccaiiigdfieoaaGreatDoor
namespace Go.Proofs.YtccaiiigdfieoaaGreatDoor
open Go.RowKit Go.By
theorem eq_of_pref {xs ys:List UInt8} {k:Nat} (h1:xs.length = k) (h2:ys.length = k) (h:∀ j:Nat,j < k→xs[j]? = ys[j]?):xs = ys:=by
 apply List.ext_getElem?
 intro j
 by_cases hj:j < k
 ·exact h j hj
 ·rw [List.getElem?_eq_none (by omega),List.getElem?_eq_none (by omega)]
theorem u8_ne {x y:UInt8} (h:x≠y):(((x.toNat:Int) != (y.toNat:Int)) = true):=by
 rw [bne_iff_ne];intro e;exact h (UInt8.toNat_inj.1 (by omega))
theorem u8_eq (x:UInt8):(((x.toNat:Int) != (x.toNat:Int)) = false):=by simp
theorem below_drewN (w:World) (q:Nat):Below w.heap.size w (w.drewN q):=⟨rfl,rfl,rfl,Nat.le_refl _,fun _ _=>rfl⟩
end Go.Proofs.YtccaiiigdfieoaaGreatDoor
namespace Go.Proofs.YtccaiiigdfieoaaGreatDoor
open Go.RowKit Go.By
theorem qs {f:FuncId} {args:Array Value} {w:World} {n:Nat} {v:Value} (h:Calls Tryz.prog f args (w.drewN n) fun e w'=>e = .returned v∧w.drewN n = w') :
  Calls Tryz.prog f args (w.drewN n) fun e w''=>e = .returned v∧∃ m,w'' = w.drewN m :=
 Calls.quiet_of_same (h.mono fun _ _ ⟨a,b⟩=>⟨a,b.symm⟩)
theorem info_row:(Tryz.prog.info? 99).map (·.size) = some 2:=by kernel_rfl
set_option maxHeartbeats 400000 in
theorem RClone_any (p1 p2:Option Addr) (n1 c1 n2 c2:Nat) (v d:List UInt8) (w:World) (h1:Sl B8 w p1 n1 c1 v) (h2:Sl B8 w p2 n2 c2 d) (r1:Room n1) (r2:Room n2) :
  Calls Tryz.prog 133 #[.agg #[.slice p1 n1 c1,.slice p2 n2 c2]] w (RetR 5 w (v,d)):=by
 have hi:=info_row
 have H1:=Lib.hid h1;have H2:=Lib.hid h2;clear h1 h2
 go_enter Tryz.func133,Tryz.ntmps133
 go_wp2_with fail
 have hB:∀ o1 o2,Below w.heap.size w ((w.alloc o1).alloc o2):=fun o1 o2=>al (al (Below.refl _ _) (Nat.le_refl _)) (by simp)
 refine (Of_any _ _ _ _ _ _ v d _ (H1.out.keep (hB _ _)) (H2.out.keep (hB _ _)) r1 r2).mono ?_;rintro e w1 ⟨q1,m1,c1',q2,m2,c2',g1,g2,rfl,ho1,ho2,hb⟩
 have HO1:=Lib.hid ho1;have HO2:=Lib.hid ho2;clear ho1 ho2
 have e2:w1.heap[w.heap.size + 1]? = some (.cells #[.slice none 0 0,.slice none 0 0] 99 (0,0)):=by
  rw [hb.block _ (by simp)];exact hnew (by simp)
 have f0:w1.cell? ⟨w.heap.size + 1,0,none⟩ = some (.slice none 0 0):=cell_of_row _ _ 0 _ _ _ e2
 have f1:w1.cell? ⟨w.heap.size + 1,1,none⟩ = some (.slice none 0 0):=cell_of_row _ _ 1 _ _ _ e2
 have z0:w1.frozen? ⟨w.heap.size + 1,0,none⟩ = false:=frozen_of_row _ _ 0 _ _ e2
 have z1:w1.frozen? ⟨w.heap.size + 1,1,none⟩ = false:=frozen_of_row _ _ 1 _ _ e2
 have E2:=Lib.hid e2;clear e2
 go_wp2
 refine bodyPost_ret (results_cell_row rfl _ _ _ 99 #[.slice q1 m1 c1',.slice q2 m2 c2'] (0,0) _ rfl (hss (hss E2.out)) Tryz.underlying99 rfl hi) rfl ⟨q1,m1,c1',q2,m2,c2',g1,g2,rfl,?_,?_,((bl (hB _ _) hb (by simp;omega)).setCell (by simp) _).setCell (by simp) _⟩
 ·exact owns_mono (owns_set (owns_set HO1.out (by simp)) (by simp)) (by simp;omega)
 ·exact owns_mono (owns_set (owns_set HO2.out (by simp)) (by simp)) (by simp;omega)
def normS (r:List UInt8 × List UInt8):List UInt8 × List UInt8 :=
 if atS r.1 (leadS r.1) = 0 then r else (r.1.map (Gf.gmul (Gf.ginv (atS r.1 (leadS r.1)))),r.2.map (Gf.gmul (Gf.ginv (atS r.1 (leadS r.1)))))
set_option maxRecDepth 100000 in
set_option maxHeartbeats 1000000 in
theorem Norm_any (p1 p2:Option Addr) (n1 c1 n2 c2:Nat) (v d:List UInt8) (w:World) (h1:Sl B8 w p1 n1 c1 v) (h2:Sl B8 w p2 n2 c2 d) (r1:Room n1) (r2:Room n2) :
  Calls Tryz.prog 114 #[.agg #[.slice p1 n1 c1,.slice p2 n2 c2]] w (RetR 5 w (normS (v,d))):=by
 have hi:=info_row
 have H1:=Lib.hid h1;have H2:=Lib.hid h2;clear h1 h2
 obtain ⟨L,hL⟩:∃ L,L = leadS v:=⟨_,rfl⟩
 obtain ⟨a,ha⟩:∃ a,a = atS v L:=⟨_,rfl⟩
 have HL:=Lib.hid hL;have HA:=Lib.hid ha
 have CL:∀ W,Below w.heap.size w W→Calls Tryz.prog 115 #[.slice p1 n1 c1] W fun e w'=>e = .returned (.int .i64 L)∧W = w':=fun W hW=>by rw [hL];exact Lead_any _ _ _ v W (H1.out.keep hW)
 have CA:∀ W,Below w.heap.size w W→Calls Tryz.prog 116 #[.slice p1 n1 c1,.int .i64 L] W fun e w'=>e = .returned (B8 a)∧W = w':=fun W hW=>by rw [ha];exact At_any _ _ _ v L W (H1.out.keep hW)
 have HCL:=Lib.hid CL;have HCA:=Lib.hid CA
 clear CL CA hL ha
 have HN:Hid (normS (v,d) = if a = 0 then (v,d) else (v.map (Gf.gmul (Gf.ginv a)),d.map (Gf.gmul (Gf.ginv a)))):=by
  show _ = _
  simp only [normS,← HL.out,← HA.out]
 have hB:∀ o1 o2 n,Below w.heap.size w (((w.alloc o1).alloc o2).drewN n):=fun o1 o2 n=>(al (al (Below.refl _ _) (Nat.le_refl _)) (by simp):Below w.heap.size w ((w.alloc o1).alloc o2)).trans ⟨rfl,rfl,rfl,Nat.le_refl _,fun _ _=>rfl⟩
 by_cases ha0:a = 0
 ·have hN:=HN.out
  rw [if_pos ha0] at hN
  have HNN:=Lib.hid hN
  have HI:Hid (∀ W,Calls Tryz.prog 178 #[B8 a] W fun e w'=>e = .returned (.tuple #[B8 0,.int .i64 3])∧W = w'):=fun W=>by
   have:=Inv_any a W
   rwa [show invRes a = (B8 0,3) by simp [invRes,ha0]] at this
  clear ha0 hN HN
  go_enter Tryz.func114,Tryz.ntmps114
  go_wp2_with fail
  go_quiet ((first
   | (go_at_call 115;exact qs (HCL.out _ (hB _ _ _)))
   | (go_at_call 116;exact qs (HCA.out _ (hB _ _ _)))
   | (go_at_call 178;exact qs (HI.out _))))
  have hB':=Lib.hid (hB (.cells #[.slice p1 n1 c1,.slice p2 n2 c2] 99) (.cells #[.slice none 0 0,.slice none 0 0] 99) nq)
  clear hB
  go_wp2_with fail
  refine (RClone_any _ _ _ _ _ _ v d _ (H1.out.keep hB'.out) (H2.out.keep hB'.out) r1 r2).mono ?_;rintro e w1 ⟨q1,m1,c1',q2,m2,c2',g1,g2,rfl,ho1,ho2,hb⟩
  have HO1:=Lib.hid ho1;have HO2:=Lib.hid ho2;clear ho1 ho2
  have e2:w1.heap[w.heap.size + 1]? = some (.cells #[.slice none 0 0,.slice none 0 0] 99 (0,0)):=by
   rw [hb.block _ (by simp)];exact hnew (w:=w.alloc _) (by simp)
  have f0:w1.cell? ⟨w.heap.size + 1,0,none⟩ = some (.slice none 0 0):=cell_of_row _ _ 0 _ _ _ e2
  have f1:w1.cell? ⟨w.heap.size + 1,1,none⟩ = some (.slice none 0 0):=cell_of_row _ _ 1 _ _ _ e2
  have z0:w1.frozen? ⟨w.heap.size + 1,0,none⟩ = false:=frozen_of_row _ _ 0 _ _ e2
  have z1:w1.frozen? ⟨w.heap.size + 1,1,none⟩ = false:=frozen_of_row _ _ 1 _ _ e2
  have E2:=Lib.hid e2;clear e2
  go_wp2
  rw [HNN.out]
  refine bodyPost_ret (results_cell_row rfl _ _ _ 99 #[.slice q1 m1 c1',.slice q2 m2 c2'] (0,0) _ rfl (hss (hss E2.out)) Tryz.underlying99 rfl hi) rfl ⟨q1,m1,c1',q2,m2,c2',g1,g2,rfl,?_,?_,((bl hB'.out hb (by simp;omega)).setCell (by simp) _).setCell (by simp) _⟩
  ·exact owns_mono (owns_set (owns_set HO1.out (by simp)) (by simp)) (by simp;omega)
  ·exact owns_mono (owns_set (owns_set HO2.out (by simp)) (by simp)) (by simp;omega)
 ·have hN:=HN.out
  rw [if_neg ha0] at hN
  have HNN:=Lib.hid hN
  have HI:Hid (∀ W,Calls Tryz.prog 178 #[B8 a] W fun e w'=>e = .returned (.tuple #[B8 (Gf.ginv a),.int .i64 0])∧W = w'):=fun W=>by
   have:=Inv_any a W
   rwa [show invRes a = (B8 (Gf.ginv a),0) by simp [invRes,ha0]] at this
  clear ha0 hN HN
  generalize Gf.ginv a = g at *
  go_enter Tryz.func114,Tryz.ntmps114
  go_wp2_with fail
  go_quiet ((first
   | (go_at_call 115;exact qs (HCL.out _ (hB _ _ _)))
   | (go_at_call 116;exact qs (HCA.out _ (hB _ _ _)))
   | (go_at_call 178;exact qs (HI.out _))))
  have hB':=hB (.cells #[.slice p1 n1 c1,.slice p2 n2 c2] 99) (.cells #[.slice none 0 0,.slice none 0 0] 99) nq
  have e1:(((w.alloc (.cells #[.slice p1 n1 c1,.slice p2 n2 c2] 99)).alloc (.cells #[.slice none 0 0,.slice none 0 0] 99)).drewN nq).heap[w.heap.size]? = some (.cells #[.slice p1 n1 c1,.slice p2 n2 c2] 99 (0,0)):=hal (hnew rfl)
  have e2:(((w.alloc (.cells #[.slice p1 n1 c1,.slice p2 n2 c2] 99)).alloc (.cells #[.slice none 0 0,.slice none 0 0] 99)).drewN nq).heap[w.heap.size + 1]? = some (.cells #[.slice none 0 0,.slice none 0 0] 99 (0,0)):=hnew (w:=w.alloc _) (by simp)
  have esz:w.heap.size + 2≤(((w.alloc (.cells #[.slice p1 n1 c1,.slice p2 n2 c2] 99)).alloc (.cells #[.slice none 0 0,.slice none 0 0] 99)).drewN nq).heap.size:=by simp
  clear hB
  go_wp2_with fail
  generalize ((w.alloc (.cells #[.slice p1 n1 c1,.slice p2 n2 c2] 99)).alloc (.cells #[.slice none 0 0,.slice none 0 0] 99)).drewN nq = W at *
  have R0:∀ W',Below (w.heap.size + 2) W W'→W'.cell? ⟨w.heap.size,0,none⟩ = some (.slice p1 n1 c1):=fun W' h=>cell_of_row _ _ 0 _ _ _ ((h.block _ (by omega)).trans e1)
  have R1:∀ W',Below (w.heap.size + 2) W W'→W'.cell? ⟨w.heap.size,1,none⟩ = some (.slice p2 n2 c2):=fun W' h=>cell_of_row _ _ 1 _ _ _ ((h.block _ (by omega)).trans e1)
  have R2:∀ W',Below (w.heap.size + 2) W W'→W'.cell? ⟨w.heap.size + 1,0,none⟩ = some (.slice none 0 0):=fun W' h=>cell_of_row _ _ 0 _ _ _ ((h.block _ (by omega)).trans e2)
  have R3:∀ W',Below (w.heap.size + 2) W W'→W'.cell? ⟨w.heap.size + 1,1,none⟩ = some (.slice none 0 0):=fun W' h=>cell_of_row _ _ 1 _ _ _ ((h.block _ (by omega)).trans e2)
  have Z2:∀ W',Below (w.heap.size + 2) W W'→W'.frozen? ⟨w.heap.size + 1,0,none⟩ = false:=fun W' h=>frozen_of_row _ _ 0 _ _ ((h.block _ (by omega)).trans e2)
  have Z3:∀ W',Below (w.heap.size + 2) W W'→W'.frozen? ⟨w.heap.size + 1,1,none⟩ = false:=fun W' h=>frozen_of_row _ _ 1 _ _ ((h.block _ (by omega)).trans e2)
  have E2:=Lib.hid e2
  clear e1 e2
  have hd:Below (w.heap.size + 2) W W.drew:=(Below.refl _ _).drew
  have C1:Hid (∀ W',Below (w.heap.size + 2) W W'→Calls Tryz.prog 179 #[B8 g,.slice p1 n1 c1] W' (RetB1 5 W' (v.map (Gf.gmul g)))):=fun W' h=>Scale_any g p1 n1 c1 v W' (H1.out.keep (hB'.trans (h.mono (by omega)))) r1
  have C2:Hid (∀ W',Below (w.heap.size + 2) W W'→Calls Tryz.prog 179 #[B8 g,.slice p2 n2 c2] W' (RetB1 5 W' (d.map (Gf.gmul g)))):=fun W' h=>Scale_any g p2 n2 c2 d W' (H2.out.keep (hB'.trans (h.mono (by omega)))) r2
  have hB2:=Lib.hid hB'
  clear hB'
  go_region_with (first
   | (go_at_call 179;(with_reducible refine Calls.mono (C1.out _ (by assumption)) ?_);rintro e w1 ⟨q1,m1,c1',hm1,rfl,ho1,hb1⟩;have hw1:=stp (by assumption) hb1 rfl esz)
   | (go_at_call 179;(with_reducible refine Calls.mono (C2.out _ (by assumption)) ?_);rintro e w2 ⟨q2,m2,c2',hm2,rfl,ho2,hb2⟩;have hw2:=stp (by assumption) hb2 rfl esz))
  all_goals go_wp2
  all_goals rw [HNN.out]
  all_goals first
   | (refine bodyPost_ret (results_cell_row rfl _ _ _ 99 #[.slice q1 m1 c1',.slice q2 m2 c2'] (0,0) _ rfl (hss (hss ((hw2.block _ (by omega)).trans E2.out))) Tryz.underlying99 rfl hi) rfl ⟨q1,m1,c1',q2,m2,c2',hm1,hm2,rfl,owns_mono (owns_set (owns_set (owns_keep ho1 hb2) (show w.heap.size + 1 < _ by have:=hw1.size;simp;omega)) (show w.heap.size + 1 < _ by have:=hw1.size;simp;omega)) (by have:=hw1.size;simp;omega),owns_mono (owns_set (owns_set ho2 (show w.heap.size + 1 < _ by have:=hw1.size;simp;omega)) (show w.heap.size + 1 < _ by have:=hw1.size;simp;omega)) (by have:=hw1.size;simp;omega),((hB2.out.trans (hw2.mono (by omega))).setCell (by simp) _).setCell (by simp) _⟩)
   | (refine bodyPost_ret (results_cell_row rfl _ _ _ 99 #[.slice q1 m1 c1',.slice q2 m2 c2'] (0,0) _ rfl (hss (hss ((hw1.block _ (by omega)).trans E2.out))) Tryz.underlying99 rfl hi) rfl ⟨q1,m1,c1',q2,m2,c2',hm1,hm2,rfl,owns_mono (owns_set (owns_set ho1 (show w.heap.size + 1 < _ by have:=hw2.size;simp;omega)) (show w.heap.size + 1 < _ by have:=hw2.size;simp;omega)) (by have:=hw2.size;simp;omega),owns_mono (owns_set (owns_set (owns_keep ho2 hb1) (show w.heap.size + 1 < _ by have:=hw2.size;simp;omega)) (show w.heap.size + 1 < _ by have:=hw2.size;simp;omega)) (by have:=hw2.size;simp;omega),((hB2.out.trans (hw1.mono (by omega))).setCell (by simp) _).setCell (by simp) _⟩)
end Go.Proofs.YtccaiiigdfieoaaGreatDoor
namespace Go.Proofs.YtccaiiigdfieoaaGreatDoor
open Go.RowKit Go.By
theorem results_cell_tmp {P:Program} {fn:Func} {p u:Tmp} {ty:TypeId} (h:fn.results = #[.cell p ty,.tmp u]) (tmps:Array Value) (w:World) (g:Nat) (t:TypeId) (cs:Array Value) (fr:Nat × Nat) (d:TypeDesc) (v:Value)
  (hp:tmps.getD p undef = .pointer (some ⟨g,0,none⟩)) (hg:w.heap[g]? = some (.cells cs t fr)) (hv:tmps.getD u undef = v)
  (hu:P.underlying ty = some d) (hd:(match d with | .struct _ | .array _ _=>true | _=>false) = true) (hi:(P.info? ty).map (·.size) = some cs.size) :
  (results fn tmps).run P w = .ok (.tuple #[.agg cs,v]) w:=by
 have hp':tmps[p]?.getD undef = .pointer (some ⟨g,0,none⟩):=by simpa using hp
 have hv':tmps[u]?.getD undef = v:=by simpa using hv
 simp [results,h,hp',hv',asAddr,run_loadVar_row w g t ty cs fr d hg hu hd hi]
def RetR2 (T:TypeId) (w:World) (r:List UInt8 × List UInt8) (code:Int) (e:Ending) (w':World):Prop :=
 ∃ q1 m1 c1 q2 m2 c2,Hid (r.1.length = m1)∧Hid (r.2.length = m2)∧e = .returned (.tuple #[.agg #[.slice q1 m1 c1,.slice q2 m2 c2],.int .i64 code]) ∧
  w'.ownsRow w.heap.size T 1 (.slice q1 m1 c1) m1 (r.1.map B8)∧w'.ownsRow w.heap.size T 1 (.slice q2 m2 c2) m2 (r.2.map B8)∧Below w.heap.size w w'
def lessS (r:List UInt8 × List UInt8) (c:UInt8) (o:List UInt8 × List UInt8):(List UInt8 × List UInt8) × Int :=
 if o.1.length = r.1.length∧o.2.length = r.2.length then ((axpy c o.1 r.1,axpy c o.2 r.2),0) else (([],[]),4)
theorem axpyS_yes {c:UInt8} {x y:List UInt8} (h:x.length = y.length):axpyS c x y = (axpy c x y,0):=by simp [axpyS,h]
theorem axpyS_no {c:UInt8} {x y:List UInt8} (h:x.length≠y.length):axpyS c x y = ([],4):=by simp [axpyS,h]
set_option maxRecDepth 100000 in
set_option maxHeartbeats 1000000 in
theorem Less_any (p1 p2 p3 p4:Option Addr) (n1 c1 n2 c2 n3 c3 n4 c4:Nat) (v d x y:List UInt8) (c:UInt8) (w:World) (h1:Sl B8 w p1 n1 c1 v) (h2:Sl B8 w p2 n2 c2 d) (h3:Sl B8 w p3 n3 c3 x) (h4:Sl B8 w p4 n4 c4 y) (r1:Room n1) (r2:Room n2) :
  Calls Tryz.prog 117 #[.agg #[.slice p1 n1 c1,.slice p2 n2 c2],B8 c,.agg #[.slice p3 n3 c3,.slice p4 n4 c4]] w (RetR2 5 w (lessS (v,d) c (x,y)).1 (lessS (v,d) c (x,y)).2):=by
 have hi:=info_row
 have H1:=Lib.hid h1;have H2:=Lib.hid h2;have H3:=Lib.hid h3;have H4:=Lib.hid h4
 have hB:∀ o1 o2 o3,Below w.heap.size w (((w.alloc o1).alloc o2).alloc o3):=fun o1 o2 o3=>al (al (al (Below.refl _ _) (Nat.le_refl _)) (by simp)) (by simp;omega)
 have F:∀ (w1:World),(Below (w.heap.size + 3) (((w.alloc (.cells #[.slice p1 n1 c1,.slice p2 n2 c2] 99)).alloc (.cells #[.slice p3 n3 c3,.slice p4 n4 c4] 99)).alloc (.cells #[.slice none 0 0,.slice none 0 0] 99)) w1) →
   w1.heap[w.heap.size]? = some (.cells #[.slice p1 n1 c1,.slice p2 n2 c2] 99 (0,0))∧w1.heap[w.heap.size + 1]? = some (.cells #[.slice p3 n3 c3,.slice p4 n4 c4] 99 (0,0))∧w1.heap[w.heap.size + 1 + 1]? = some (.cells #[.slice none 0 0,.slice none 0 0] 99 (0,0)):=fun w1 h =>
  ⟨(h.block _ (by omega)).trans (hal (hal (hnew rfl))),(h.block _ (by omega)).trans (hal (hnew (by simp))),(h.block _ (by omega)).trans (hnew (by simp))⟩
 have C1:=Lib.hid (fun W a b=>Axpy_any c p3 p1 n3 n1 c3 c1 x v W a b r1)
 have C2:=Lib.hid (fun W a b=>Axpy_any c p4 p2 n4 n2 c4 c2 y d W a b r2)
 by_cases e1:n3 = n1
 ·have E1:Hid (axpyS c x v = (axpy c x v,0)):=axpyS_yes (h3.len.trans (e1.trans h1.len.symm))
  have E1':Hid (x.length = v.length):=h3.len.trans (e1.trans h1.len.symm)
  have HF:=Lib.hid F
  clear F h1 h2 h3 h4 e1
  go_enter Tryz.func117,Tryz.ntmps117
  go_wp2_with fail
  refine (C1.out _ (H3.out.keep (hB _ _ _)) (H1.out.keep (hB _ _ _))).mono ?_;rintro e w1 ⟨q1,m1,c1',g1,rfl,ho1,hb1⟩
  rw [E1.out] at ho1 g1 ⊢
  have HO1:=Lib.hid ho1;clear ho1
  have k1:=hb1.mono (show w.heap.size + 3≤_ by simp)
  obtain ⟨f0,f1,f2⟩:=HF.out w1 k1
  have l0:w1.cell? ⟨w.heap.size,1,none⟩ = some (.slice p2 n2 c2):=cell_of_row _ _ 1 _ _ _ f0
  have l1:w1.cell? ⟨w.heap.size + 1,1,none⟩ = some (.slice p4 n4 c4):=cell_of_row _ _ 1 _ _ _ f1
  have hw1:=bl (hB _ _ _) hb1 (by simp;omega)
  have hs1:=hb1.size
  have f0:=trivial;have f1:=trivial
  clear f2
  go_wp2_with fail
  refine (C2.out w1 (H4.out.keep hw1) (H2.out.keep hw1)).mono ?_;rintro e w2 ⟨q2,m2,c2',g2,rfl,ho2,hb2⟩
  have k2:=k1.trans (hb2.mono (by simp at hs1;omega))
  obtain ⟨_,_,f2⟩:=HF.out w2 k2
  have t0:w2.cell? ⟨w.heap.size + 1 + 1,0,none⟩ = some (.slice none 0 0):=cell_of_row _ _ 0 _ _ _ f2
  have t1:w2.cell? ⟨w.heap.size + 1 + 1,1,none⟩ = some (.slice none 0 0):=cell_of_row _ _ 1 _ _ _ f2
  have z0:w2.frozen? ⟨w.heap.size + 1 + 1,0,none⟩ = false:=frozen_of_row _ _ 0 _ _ f2
  have z1:w2.frozen? ⟨w.heap.size + 1 + 1,1,none⟩ = false:=frozen_of_row _ _ 1 _ _ f2
  have E2:=Lib.hid f2;clear f2
  by_cases e2:n4 = n2
  ·have E3:Hid (axpyS c y d = (axpy c y d,0)):=axpyS_yes (H4.out.len.trans (e2.trans H2.out.len.symm))
   have HR:Hid (lessS (v,d) c (x,y) = ((axpy c x v,axpy c y d),0)):=if_pos ⟨E1'.out,H4.out.len.trans (e2.trans H2.out.len.symm)⟩
   rw [E3.out] at ho2 g2 ⊢
   have HO2:=Lib.hid ho2;clear ho2
   clear e2
   go_wp2
   rw [HR.out]
   refine bodyPost_ret (results_cell_tmp rfl _ _ _ 99 #[.slice q1 m1 c1',.slice q2 m2 c2'] (0,0) _ (.int .i64 0) rfl (hss (hss E2.out)) rfl Tryz.underlying99 rfl hi) rfl ⟨q1,m1,c1',q2,m2,c2',g1,g2,rfl,?_,?_,((bl hw1 hb2 hw1.size).setCell (by simp;omega) _).setCell (by simp;omega) _⟩
   ·exact owns_mono (owns_set (owns_set (owns_keep HO1.out hb2) (by simp)) (by simp)) (by simp;omega)
   ·exact owns_mono (owns_set (owns_set HO2.out (by simp at hs1;omega)) (by simp at hs1;omega)) hw1.size
  ·have E3:Hid (axpyS c y d = ([],4)):=axpyS_no (by rw [H4.out.len,H2.out.len];exact e2)
   have HR:Hid (lessS (v,d) c (x,y) = (([],[]),4)):=if_neg (fun h=>e2 (H4.out.len.symm.trans (h.2.trans H2.out.len)))
   rw [E3.out] at ho2 g2 ⊢
   clear e2 ho2
   go_wp2
   rw [HR.out]
   refine bodyPost_ret (results_cell_tmp rfl _ _ _ 99 #[.slice none 0 0,.slice none 0 0] (0,0) _ (.int .i64 4) rfl (hss (hss E2.out)) rfl Tryz.underlying99 rfl hi) rfl ⟨none,0,0,none,0,0,rfl,rfl,rfl,World.ownsRow_nil _ _ _ _,World.ownsRow_nil _ _ _ _,((bl hw1 hb2 hw1.size).setCell (by simp;omega) _).setCell (by simp;omega) _⟩
 ·have E1:Hid (axpyS c x v = ([],4)):=axpyS_no (by rw [h3.len,h1.len];exact e1)
  have HR:Hid (lessS (v,d) c (x,y) = (([],[]),4)):=if_neg (fun h=>e1 (h3.len.symm.trans (h.1.trans h1.len)))
  have HF:=Lib.hid F
  clear F h1 h2 h3 h4 e1
  go_enter Tryz.func117,Tryz.ntmps117
  go_wp2_with fail
  refine (C1.out _ (H3.out.keep (hB _ _ _)) (H1.out.keep (hB _ _ _))).mono ?_;rintro e w1 ⟨q1,m1,c1',g1,rfl,ho1,hb1⟩
  rw [E1.out] at ho1 g1 ⊢
  clear ho1
  have k1:=hb1.mono (show w.heap.size + 3≤_ by simp)
  obtain ⟨_,_,f2⟩:=HF.out w1 k1
  have t0:w1.cell? ⟨w.heap.size + 1 + 1,0,none⟩ = some (.slice none 0 0):=cell_of_row _ _ 0 _ _ _ f2
  have t1:w1.cell? ⟨w.heap.size + 1 + 1,1,none⟩ = some (.slice none 0 0):=cell_of_row _ _ 1 _ _ _ f2
  have z0:w1.frozen? ⟨w.heap.size + 1 + 1,0,none⟩ = false:=frozen_of_row _ _ 0 _ _ f2
  have z1:w1.frozen? ⟨w.heap.size + 1 + 1,1,none⟩ = false:=frozen_of_row _ _ 1 _ _ f2
  have E2:=Lib.hid f2;clear f2
  have hw1:=bl (hB _ _ _) hb1 (by simp;omega)
  go_wp2
  rw [HR.out]
  refine bodyPost_ret (results_cell_tmp rfl _ _ _ 99 #[.slice none 0 0,.slice none 0 0] (0,0) _ (.int .i64 4) rfl (hss (hss E2.out)) rfl Tryz.underlying99 rfl hi) rfl ⟨none,0,0,none,0,0,rfl,rfl,rfl,World.ownsRow_nil _ _ _ _,World.ownsRow_nil _ _ _ _,(hw1.setCell (by simp;omega) _).setCell (by simp;omega) _⟩
end Go.Proofs.YtccaiiigdfieoaaGreatDoor
namespace Go.Proofs.YtccaiiigdfieoaaGreatDoor
open Go.RowKit Go.By
theorem bdn {B:Nat} {a w:World} (h:Below B a w) {n:Nat}:Below B a (w.drewN n):=⟨h.os,h.tape,h.output,h.size,h.block⟩
set_option maxHeartbeats 400000 in
theorem EqualB_d (p1 p2:Option Addr) (n1 n2 c1 c2:Nat) (xs ys:List UInt8) (w:World) (h1:Sl B8 w p1 n1 c1 xs) (h2:Sl B8 w p2 n2 c2 ys) :
  Calls Tryz.prog 49 #[.slice p1 n1 c1,.slice p2 n2 c2] w fun e w'=>e = .returned (.bool (decide (xs = ys)))∧∃ q,w' = w.drewN q:=by
 have b1:=h1.bound;have b2:=h2.bound
 by_cases he:n1 = n2
 ·obtain rfl:=he
  have H1:=Lib.hid h1;have H2:=Lib.hid h2;clear h1 h2
  go_enter Tryz.func49,Tryz.ntmps49
  go_wp2
  go_loopw [13] (fun i wr=>∃ k q:Nat,k≤n1∧i = .int .i64 k∧wr = w.drewN q∧Hid (∀ j:Nat,j < k→xs[j]? = ys[j]?)) (fun i _=>n1 - (intOf i).toNat)
  case atStart=>exact ⟨0,0,Nat.zero_le _,rfl,rfl,fun j hj=>by omega⟩
  case round =>
   obtain ⟨k,q,hk,rfl,rfl,hj⟩:=hrel
   by_cases hlt:k < n1
   ·obtain ⟨b,o,x,rfl,hc,hx⟩:=H1.out.at k hlt
    obtain ⟨b',o',y,rfl,hc',hy⟩:=H2.out.at k hlt
    have i1:(k:Int) < (n1:Int):=by omega
    by_cases hxy:x = y
    ·subst hxy
     have ht:=u8_eq x
     go_wp2
     go_quiet (fail)
     go_wp2
     go_roundw
     case rel=>exact ⟨k + 1,_,by omega,by go_num,rfl,fun j hj'=>by
      by_cases e:j = k
      ·subst e;exact hx.out.trans hy.out.symm
      ·exact hj.out j (by omega)⟩
     case measure=>simp [intOf];omega
    ·have ht:=u8_ne hxy
     have HN:=Lib.hid hxy;clear hxy
     go_wp2
     go_quiet (fail)
     go_wp2
     go_ret
     refine ⟨?_,_,by rw [World.drewN_drewN]⟩
     have:¬ xs = ys:=by rintro rfl;exact HN.out (Option.some.inj (hx.out.symm.trans hy.out))
     simp [this]
   ·go_wp2
    go_ret
    refine ⟨?_,q,rfl⟩
    have:xs = ys:=eq_of_pref (k:=k) (by have:=H1.out.len;omega) (by have:=H2.out.len;omega) hj.out
    simp [this]
 ·have hne:((n1:Int) != (n2:Int)) = true:=by simp;omega
  have HN:Hid (decide (xs = ys) = false):=by
   simp only [Hid,decide_eq_false_iff_not];rintro rfl;exact he (h1.len.symm.trans h2.len)
  clear h1 h2
  go_enter Tryz.func49,Tryz.ntmps49
  go_wp2
  go_ret
  exact ⟨by rw [HN.out];rfl,0,rfl⟩
set_option maxHeartbeats 400000 in
theorem EqualV_d (p1 p2:Option Addr) (n1 n2 c1 c2:Nat) (xs ys:List UInt8) (w:World) (h1:Sl B8 w p1 n1 c1 xs) (h2:Sl B8 w p2 n2 c2 ys) :
  Calls Tryz.prog 132 #[.slice p1 n1 c1,.slice p2 n2 c2] w fun e w'=>e = .returned (.bool (decide (xs = ys)))∧∃ q,w' = w.drewN q:=by
 have b1:=h1.bound;have b2:=h2.bound
 by_cases he:n1 = n2
 ·obtain rfl:=he
  have H1:=Lib.hid h1;have H2:=Lib.hid h2;clear h1 h2
  go_enter Tryz.func132,Tryz.ntmps132
  go_wp2
  go_loopw [13] (fun i wr=>∃ k q:Nat,k≤n1∧i = .int .i64 k∧wr = w.drewN q∧Hid (∀ j:Nat,j < k→xs[j]? = ys[j]?)) (fun i _=>n1 - (intOf i).toNat)
  case atStart=>exact ⟨0,0,Nat.zero_le _,rfl,rfl,fun j hj=>by omega⟩
  case round =>
   obtain ⟨k,q,hk,rfl,rfl,hj⟩:=hrel
   by_cases hlt:k < n1
   ·obtain ⟨b,o,x,rfl,hc,hx⟩:=H1.out.at k hlt
    obtain ⟨b',o',y,rfl,hc',hy⟩:=H2.out.at k hlt
    have i1:(k:Int) < (n1:Int):=by omega
    by_cases hxy:x = y
    ·subst hxy
     have ht:=u8_eq x
     go_wp2
     go_quiet (fail)
     go_wp2
     go_roundw
     case rel=>exact ⟨k + 1,_,by omega,by go_num,rfl,fun j hj'=>by
      by_cases e:j = k
      ·subst e;exact hx.out.trans hy.out.symm
      ·exact hj.out j (by omega)⟩
     case measure=>simp [intOf];omega
    ·have ht:=u8_ne hxy
     have HN:=Lib.hid hxy;clear hxy
     go_wp2
     go_quiet (fail)
     go_wp2
     go_ret
     refine ⟨?_,_,by rw [World.drewN_drewN]⟩
     have:¬ xs = ys:=by rintro rfl;exact HN.out (Option.some.inj (hx.out.symm.trans hy.out))
     simp [this]
   ·go_wp2
    go_ret
    refine ⟨?_,q,rfl⟩
    have:xs = ys:=eq_of_pref (k:=k) (by have:=H1.out.len;omega) (by have:=H2.out.len;omega) hj.out
    simp [this]
 ·have hne:((n1:Int) != (n2:Int)) = true:=by simp;omega
  have HN:Hid (decide (xs = ys) = false):=by
   simp only [Hid,decide_eq_false_iff_not];rintro rfl;exact he (h1.len.symm.trans h2.len)
  clear h1 h2
  go_enter Tryz.func132,Tryz.ntmps132
  go_wp2
  go_ret
  exact ⟨by rw [HN.out];rfl,0,rfl⟩
end Go.Proofs.YtccaiiigdfieoaaGreatDoor
namespace Go.Proofs.YtccaiiigdfieoaaGreatDoor
end Go.Proofs.YtccaiiigdfieoaaGreatDoor
