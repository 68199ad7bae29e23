/- Bytes made,and copied into a block known whole. Chapter 5: bytes out of a seed: New,Next,Bytes,Row; a seed as eight bytes. Chapter 5: mix.New,Row; a seed as eight bytes,and of eight bytes. The contracts of the plan's functions: needed,fits,Check,Of; and of the reference's Needs and Check. The contracts of slices.Grow and Concat at bytes; of the whole of the symbols (G0 holds them). Chapter 13: head.Check,Bytes. Chapter 14: row.Width,fits,Vector,Write. Chapter 14: row.Explicit,Seeded,Read. Chapter 15: packet.Length,fits (of what fits). Chapter 15: packet.Write (of what fits). Chapter 13: head.Read. The contracts of bytes.Clone,of Same of lists of rows,of slices.Equal at ints,of Harms. A region that draws its order: as in text RC,but one extract ahead of the tail may slip behind the tail's first operation (a store). Chapter 15: packet.Read. -/
import Derived.Test.YtccaiiigdfieoaaGreatDoorZm4
import Derived.WalkLawsBesides
import Derived.BigQuiet
namespace Go.By
open Go.RowKit
theorem heap_of_ownsC {w:World} {base E g n:Nat} {L:List Value} (h:w.ownsRow base E 1 (.slice (some ⟨g,0,none⟩) n n) n L):w.heap[g]? = some (.cells L.toArray E (0,0)):=by
 rcases h.2 with ⟨h1,_⟩ | ⟨g',cap,cur,hv,_,hh,_,_,hs,ht⟩
 ·cases h1
 ·cases hv
  rw [hh]
  have:cur = L.toArray:=by
   rw [← ht,List.take_of_length_le (by simp [hs])]
  rw [this]
theorem grownBy_setRowC (w:World) (g:Nat) (cs:Array Value):w.grownBy (w.setRow g cs) (some g) :=
 ⟨rfl,rfl,rfl,by simp [World.setRow],fun b _ hne=>by
  simp only [World.setRow,Array.getElem?_modify]
  rw [if_neg (fun e=>hne (by rw [e]))]⟩
theorem wp_make_bytesC {P:Program} (w:World) {o:Oper} {a:Act} {K:Act→World→Prop} {Q:Exit→Act→World→Prop} (hg:o.guard = none) (l c:Operand) (t:TypeId) (hop:o.op = Op.makeSlice t l c)
  (e:TypeId) (i:TypeInfo) (h1:P.underlying t = some (.slice e)) (h2:P.info? e = some i) (h3:i.zero = some (.int .u8 0)) (h4:i.size = 1) (h5:i.bytes = 1) (n:Nat) (hl:a.eval l = .int .i64 n) (hc:a.eval c = .int .i64 n) (hn:n≤65536)
  (hK:∀ w' g,g = w.heap.size→w'.heap[g]? = some (.cells ((List.replicate n (0:UInt8)).map B8).toArray e (0,0))→Below w.heap.size w w'→K (a.put o.dst (.slice (some ⟨g,0,none⟩) n n)) w'):o.wp P a w K Q:=by
 have _:=hg
 obtain ⟨w',hrun,r1,r2⟩:=run_make_full (P:=P) w w.heap.size t e i (.int .u8 0) 1 h1 h2 h3 h4 .i64 .i64 n (by rw [h5];omega) (by unfold maxLen;omega) (Nat.le_refl _)
 unfold Oper.wp
 simp [execOp,hop,hl,hc,hrun,Result.andThen]
 refine hK w' _ rfl ?_ ((Below.refl _ _).grown r2 (Nat.le_refl _) (by simp))
 have e1:(madeCells #[Value.int .u8 0] n).toList = List.replicate n (B8 0):=toList_madeCells_one _ _
 have r3:w'.ownsRow w.heap.size e 1 (.slice (some ⟨w.heap.size,0,none⟩) n n) n (List.replicate n (B8 0)):=by rw [← e1];have r4:=r1;simp only [Nat.mul_one] at r4;exact r4
 rw [List.map_replicate]
 exact heap_of_ownsC r3
def fillC (bs src:List UInt8):List UInt8:=src.take bs.length ++ bs.drop src.length
theorem fillS_lenC (bs src:List UInt8):(fillC bs src).length = bs.length:=by unfold fillC;rw [List.length_append,List.length_take,List.length_drop];omega
theorem wpList_copy_bytesC {P:Program} (w:World) {ops:Array Oper} {rest:List Oper} {o:Oper} {a:Act} {Q:Exit→Act→World→Prop} (hgd:o.guard = none) (d s:Operand) (dT sT:TypeId)
  (ho:o.op = .call { callee:=.builtin .copy,args:=#[d,s],argTypes:=#[dT,sT] }) (elem:TypeId) (hu:P.underlying dT = some (.slice elem)) (hsz:(P.info? elem).map (·.size) = some 1)
  (g n:Nat) (sp:Option Addr) (m c:Nat) (hd:a.eval d = .slice (some ⟨g,0,none⟩) n n) (hs:a.eval s = .slice sp m c) (bs src:List UInt8) (T:TypeId) (hg:w.heap[g]? = some (.cells (bs.map B8).toArray T (0,0))) (hl:bs.length = n) (hS:Sl B8 w sp m c src)
  (h:∀ w' z,w'.heap[g]? = some (.cells ((fillC bs src).map B8).toArray T (0,0))→w.grownBy w' (some g)→wpList P ops Q rest (a.put o.dst (goInt z)) w'):wpList P ops Q (o :: rest) a w:=by
 have hm:=hS.len
 by_cases h0:Nat.min m n = 0
 ·refine wpList_copy_nothing hgd d s dT sT ho elem hu hsz _ sp n n m c hd hs h0 ?_
  refine h w 0 ?_ (World.grownBy.refl _ _)
  have e:fillC bs src = bs:=by
   unfold fillC
   rcases Nat.eq_zero_or_pos m with h1 | h1
   ·have:src = []:=List.length_eq_zero_iff.1 (by omega)
    subst this;simp
   ·have h2:n = 0:=by have h3:min m n = 0:=h0;omega
    have:bs = []:=List.length_eq_zero_iff.1 (by omega)
    subst this;simp
  rw [e];exact hg
 ·have h1:0 < m∧0 < n:=by have h3:¬ min m n = 0:=h0;omega
  obtain ⟨b,o',rfl,-⟩:=hS.rs 0 (by omega)
  refine wpList_copy_own hgd d s dT sT ho elem hu hsz g 0 n n ⟨b,o',none⟩ m c hd hs _ T hg ((src.take n).map B8) ?_ ?_ ?_ ?_ ?_
  ·rw [List.length_map,List.length_take,hm,Nat.min_comm]
  ·intro j v hj
   rw [List.getElem?_map,List.getElem?_take] at hj
   have hjl:j < n∧j < src.length:=by
    split at hj
    ·rename_i hjn
     refine ⟨hjn,?_⟩
     rcases Nat.lt_or_ge j src.length with g | g
     ·exact g
     ·rw [List.getElem?_eq_none g] at hj;cases hj
    ·cases hj
   obtain ⟨b2,o2,e,hc⟩:=hS.rs j hjl.2
   cases e
   rw [if_pos hjl.1,List.getElem?_eq_getElem hjl.2] at hj
   rw [Addr.add_lit,hc];exact hj
  ·rw [List.length_map,List.length_take];simp;omega
  ·intro v hv
   obtain ⟨y,_,rfl⟩:=List.mem_map.1 hv
   rfl
  ·refine h _ _ ?_ (grownBy_setRowC w g _)
   rw [hrs hg]
   congr 3
   unfold fillC
   rw [hl,List.map_append,List.map_drop]
   simp only [List.take_zero,List.nil_append,Nat.zero_add,List.toList_toArray,List.length_map,List.length_take]
   congr 1
   rcases Nat.lt_or_ge n src.length with g | g
   ·rw [Nat.min_eq_left (by omega),List.drop_eq_nil_of_le (by simp [hl]),List.drop_eq_nil_of_le (by simp [hl];omega)]
   ·rw [Nat.min_eq_right g]
end Go.By
namespace Go.By
open Go.RowKit
def mixS (s:Nat):Nat:=(s + 11400714819323198485) % 18446744073709551616
def mixX (z k:Nat):Nat:=z ^^^ (z / 2 ^ k)
def mixZ (s:Nat):Nat:=mixX (mixX (mixX s 30 * 13787848793156543929 % 18446744073709551616) 27 * 10723151780598845931 % 18446744073709551616) 31
def mixIt (s:Nat):Nat→Nat
 | 0=>s
 | q + 1=>mixS (mixIt s q)
def mixAt (s i:Nat):UInt8:=UInt8.ofNat (mixZ (mixIt s (i / 8 + 1)) / 256 ^ (i % 8))
def mixRow (s n:Nat):List UInt8:=(List.range n).map (mixAt s)
theorem mixRow_len (s n:Nat):(mixRow s n).length = n:=by simp [mixRow]
theorem mixX_lt {z k:Nat} (h:z < 18446744073709551616):mixX z k < 18446744073709551616:=by
 unfold mixX
 exact Nat.xor_lt_two_pow (n:=64) h (Nat.lt_of_le_of_lt (Nat.div_le_self _ _) h)
theorem mixS_lt (s:Nat):mixS s < 18446744073709551616:=Nat.mod_lt _ (by decide)
theorem bits_xor64 {a b:Nat} (ha:a < 18446744073709551616) (hb:b < 18446744073709551616):bits .xor .u64 (a:Int) (b:Int) = ((a ^^^ b:Nat):Int) :=
 bits_xor_nat .u64 64 (by decide) (fun n h1 h2=>by rw [IntKind.wrap_u64];omega) a b ha hb
theorem mixX_bits {z k:Nat} (hz:z < 18446744073709551616):bits .xor .u64 (z:Int) ((z:Int) / ((2 ^ k:Nat):Int)) = (mixX z k:Int):=by
 rw [← Int.natCast_ediv,bits_xor64 hz (Nat.lt_of_le_of_lt (Nat.div_le_self _ _) hz)]
 rfl
theorem wpList_make_bytesC {P:Program} (w:World) {ops:Array Oper} {rest:List Oper} {o:Oper} {a:Act} {Q:Exit→Act→World→Prop} (hg:o.guard = none) (l c:Operand) (t:TypeId) (hop:o.op = Op.makeSlice t l c)
  (e:TypeId) (i:TypeInfo) (h1:P.underlying t = some (.slice e)) (h2:P.info? e = some i) (h3:i.zero = some (.int .u8 0)) (h4:i.size = 1) (h5:i.bytes = 1) (n:Nat) (hl:a.eval l = .int .i64 n) (hc:a.eval c = .int .i64 n) (hn:n≤65536)
  (hK:∀ w',w'.heap[w.heap.size]? = some (.cells ((List.replicate n (0:UInt8)).map B8).toArray e (0,0))→Below w.heap.size w w'→wpList P ops Q rest (a.put o.dst (.slice (some ⟨w.heap.size,0,none⟩) n n)) w'):wpList P ops Q (o :: rest) a w :=
 wpList_plain hg fun _ hK'=>wp_make_bytesC w hg l c t hop e i h1 h2 h3 h4 h5 n hl hc hn (fun w' g e1 e2 e3=>by subst e1;exact hK' _ _ (hK w' e2 e3))
theorem set_toArray {xs:List UInt8} {j:Nat} {v:UInt8} {w:World} {g:Nat} {T:TypeId} (h:w.heap[g]? = some (.cells (xs.map B8).toArray T (0,0))):(w.setCell ⟨g,j,none⟩ (B8 v)).heap[g]? = some (.cells ((xs.set j v).map B8).toArray T (0,0)):=by
 rw [hss h]
 simp [List.map_set]
theorem mixAt_val2 (s q i:Nat) (hi:i < 8):(((mixZ (mixIt s (q + 1)):Nat):Int) / (2 ^ (8 * i):Int)) % 256 = ((mixAt s (8 * q + i)).toNat:Int):=by
 have e1:(8 * q + i) / 8 = q:=by omega
 have e2:(8 * q + i) % 8 = i:=by omega
 unfold mixAt
 rw [e1,e2,UInt8.toNat_ofNat',show (2:Int) ^ (8 * i) = ((256 ^ i:Nat):Int) by rw [Int.natCast_pow,Int.pow_mul];rfl]
 omega
end Go.By
namespace Go.Proofs.YtccaiiigdfieoaaGreatDoor
open Go.RowKit Go.By
set_option maxRecDepth 100000 in
set_option maxHeartbeats 1000000 in
theorem MNext_any (g s:Nat) (w:World) (h:w.heap[g]? = some (.cells #[.int .u64 (s:Nat)] 308 (0,0))) :
  Calls Tryz.prog 236 #[.pointer (some ⟨g,0,none⟩)] w fun e w'=>e = .returned (.int .u64 (mixZ (mixS s):Nat))∧w' = w.setCell ⟨g,0,none⟩ (.int .u64 (mixS s:Nat)):=by
 have c0:=cell_of_row _ _ 0 _ _ _ h
 have z0:=frozen_of_row _ _ 0 _ _ h
 have w1:IntKind.u64.wrap ((s:Int) + 11400714819323198485) = (mixS s:Int):=by rw [IntKind.wrap_u64];unfold mixS;omega
 have hl:=mixS_lt s
 obtain ⟨S,hS⟩:∃ S,S = mixS s:=⟨_,rfl⟩
 unfold mixZ
 rw [← hS] at w1 hl ⊢
 have x1:=mixX_bits (k:=30) hl
 have l1:=mixX_lt (k:=30) hl
 obtain ⟨Y,hY⟩:∃ Y,Y = mixX S 30:=⟨_,rfl⟩
 rw [← hY] at x1 l1 ⊢
 have m1:IntKind.u64.wrap ((Y:Int) * 13787848793156543929) = ((Y * 13787848793156543929 % 18446744073709551616:Nat):Int):=by rw [IntKind.wrap_u64];omega
 obtain ⟨Z,hZ⟩:∃ Z,Z = Y * 13787848793156543929 % 18446744073709551616:=⟨_,rfl⟩
 have lz:Z < 18446744073709551616:=by rw [hZ];exact Nat.mod_lt _ (by decide)
 rw [← hZ] at m1 ⊢
 have x2:=mixX_bits (k:=27) lz
 have l2:=mixX_lt (k:=27) lz
 obtain ⟨Y2,hY2⟩:∃ Y,Y = mixX Z 27:=⟨_,rfl⟩
 rw [← hY2] at x2 l2 ⊢
 have m2:IntKind.u64.wrap ((Y2:Int) * 10723151780598845931) = ((Y2 * 10723151780598845931 % 18446744073709551616:Nat):Int):=by rw [IntKind.wrap_u64];omega
 obtain ⟨Z2,hZ2⟩:∃ Z,Z = Y2 * 10723151780598845931 % 18446744073709551616:=⟨_,rfl⟩
 have lz2:Z2 < 18446744073709551616:=by rw [hZ2];exact Nat.mod_lt _ (by decide)
 rw [← hZ2] at m2 ⊢
 have x3:=mixX_bits (k:=31) lz2
 obtain ⟨Y3,hY3⟩:∃ Y,Y = mixX Z2 31:=⟨_,rfl⟩
 rw [← hY3] at x3 ⊢
 simp only [Nat.reducePow,Int.cast_ofNat_Int] at x1 x2 x3
 clear hS hY hZ hY2 hZ2 hY3 hl l1 lz l2 lz2 h
 go_enter Tryz.func236,Tryz.ntmps236
 go_wp2
 go_ret
 exact ⟨rfl,rfl⟩
set_option maxRecDepth 100000 in
set_option maxHeartbeats 2000000 in
theorem MBytes_any (g s n:Nat) (w:World) (h:w.heap[g]? = some (.cells #[.int .u64 (s:Nat)] 308 (0,0))) (hn:n≤65536) :
  Calls Tryz.prog 210 #[.pointer (some ⟨g,0,none⟩),.int .i64 (n:Nat)] w fun e w'=>∃ G,e = .returned (.tuple #[.slice (some ⟨G,0,none⟩) n n,.int .i64 0])∧w.heap.size≤G∧w'.heap[G]? = some (.cells ((mixRow s n).map B8).toArray 5 (0,0))∧∀ B,B≤g→Below B w w':=by
 obtain ⟨i0,hi,hz0,hz1,hz2⟩:=info_parts info_u8
 have HN:=Lib.hid hn
 have hg:=lt_of_block h
 have H:=Lib.hid h
 clear h
 go_enter Tryz.func210,Tryz.ntmps210
 go_wp2_with (at_make;refine wpList_make_bytesC _ rfl _ _ 22 rfl 5 i0 Tryz.underlying22 hi hz0 hz1 hz2 n rfl rfl HN.out ?_)
 intro w1 h1 hb1
 obtain ⟨G,hG⟩:∃ G,G = w.heap.size:=⟨_,rfl⟩
 rw [← hG] at h1 ⊢
 have HG:Hid (g < G):=by rw [hG];exact hg
 have HS:Hid (w.heap.size≤G):=by rw [hG];exact Nat.le_refl _
 have B1:Hid (∀ B,B≤g→Below B w w1):=fun B hB=>hb1.mono (by omega)
 have H1:=Lib.hid h1
 have H2:=Lib.hid ((hb1.block _ hg).trans H.out)
 clear h1 hb1 hG hg H
 go_wp2
 go_loopw [7] (fun v wr=>∃ q:Nat,v = .int .i64 (8 * q:Nat)∧8 * q≤n + 7∧Hid (wr.heap[g]? = some (.cells #[.int .u64 (mixIt s q:Nat)] 308 (0,0)))∧Hid (wr.heap[G]? = some (.cells ((prog (mixRow s n) (List.replicate n (0:UInt8)) (min (8 * q) n)).map B8).toArray 5 (0,0)))∧Hid (∀ B,B≤g→Below B w wr)) (fun v _=>n + 8 - (intOf v).toNat)
 case atStart=>exact ⟨0,rfl,by omega,H2.out,by rw [Nat.mul_zero,Nat.zero_min,prog_zero];show w1.heap[G]? = _;simpa using H1.out,B1.out⟩
 case round =>
  obtain ⟨q,rfl,hq,R1,R2,R3⟩:=hrel
  by_cases hlt:8 * q < n
  ·go_wp2_with fail
   refine Calls.mono (MNext_any g _ _ R1.out) ?_
   rintro e w2 ⟨rfl,rfl⟩
   have e0:mixS (mixIt s q) = mixIt s (q + 1):=rfl
   rw [e0]
   have F1:=Lib.hid (hss (i:=0) (v:=.int .u64 (mixIt s (q + 1):Nat)) R1.out)
   have F2:=Lib.hid (hsc (a:=⟨g,0,none⟩) (v:=.int .u64 (mixIt s (q + 1):Nat)) R2.out (by have:=HG.out;simp;omega))
   have F3:Hid (∀ B,B≤g→Below B w (wr.setCell ⟨g,0,none⟩ (.int .u64 (mixIt s (q + 1):Nat)))):=fun B hB=>(R3.out B hB).setCell (by simpa using hB) _
   clear R1 R2 R3 e0
   generalize wr.setCell ⟨g,0,none⟩ (.int .u64 (mixIt s (q + 1):Nat)) = w2 at *
   obtain ⟨X,hX⟩:∃ X,X = mixZ (mixIt s (q + 1)):=⟨_,rfl⟩
   rw [← hX]
   have HX:=Lib.hid hX
   clear hX
   rw [show min (8 * q) n = 8 * q by omega] at F2
   by_cases h8:n < 8 * q + 8
   ·obtain ⟨m,hm⟩:∃ m,n = 8 * q + m:=⟨n - 8 * q,by omega⟩
    have eM:(n:Int) - 8 * (q:Int) = (m:Int):=by omega
    have HM:=Lib.hid hm
    have hm8:m < 8:=by omega
    clear hm
    go_wp2
    go_loopw [31] (fun v wr=>∃ i:Nat,v = .int .i64 (i:Nat)∧i≤m∧Hid (wr.heap[g]? = some (.cells #[.int .u64 (mixIt s (q + 1):Nat)] 308 (0,0)))∧Hid (wr.heap[G]? = some (.cells ((prog (mixRow s n) (List.replicate n (0:UInt8)) (8 * q + i)).map B8).toArray 5 (0,0)))∧Hid (∀ B,B≤g→Below B w wr)) (fun v _=>m - (intOf v).toNat)
    case atStart=>exact ⟨0,rfl,by omega,F1.out,by rw [Nat.add_zero];exact F2.out,F3.out⟩
    case round =>
     clear F1 F2 F3
     obtain ⟨i,rfl,hi,I1,I2,I3⟩:=hrel
     by_cases hl:i < m
     ·have hj:8 * q + i < n:=by have:=HM.out;omega
      have cG:wr.cell? ⟨G,8 * q + i,none⟩ = some (B8 0):=by
       rw [cell_of_row _ _ (8 * q + i) _ _ _ I2.out]
       have:=prog_at (mixRow s n) (List.replicate n (0:UInt8)) (8 * q + i) n (mixRow_len s n) (by simp) hj
       simp [this,hj]
      have zG:=frozen_of_row _ _ (8 * q + i) _ _ I2.out
      have hv:=mixAt_val2 s q i (by omega)
      rw [← HX.out] at hv
      have eI:(8 * (q:Int) + (i:Int)).toNat = 8 * q + i:=by omega
      have I4:=Lib.hid (set_toArray (v:=mixAt s (8 * q + i)) (j:=8 * q + i) I2.out)
      have I5:=Lib.hid (hsc (a:=⟨G,8 * q + i,none⟩) (v:=B8 (mixAt s (8 * q + i))) I1.out (by have:=HG.out;simp;omega))
      have I6:Hid (∀ B,B≤g→Below B w (wr.setCell ⟨G,8 * q + i,none⟩ (B8 (mixAt s (8 * q + i))))):=fun B hB=>(I3.out B hB).setCell (by have:=HG.out;simp;omega) _
      clear I1 I2 I3
      go_wp2
      go_roundw
      case rel =>
       refine ⟨i + 1,by go_num,by omega,I5.out,?_,I6.out⟩
       rw [prog_succ _ _ (8 * q + i) n (mixRow_len s n) (by simp) hj (mixAt s (8 * q + i)) (by simp [mixRow,hj])] at I4
       rw [← Nat.add_assoc]
       exact I4.out
      case measure=>simp [intOf];omega
     ·have hiM:i = m:=by omega
      subst hiM
      clear hl hi
      go_wp2
      go_roundw
      case rel =>
       exact ⟨q + 1,by go_num,by omega,I1.out,by rw [show min (8 * (q + 1)) n = 8 * q + i by have:=HM.out;omega];exact I2.out,I3.out⟩
      case measure=>simp [intOf];omega
   ·have HM:Hid (8 * q + 8≤n):=by show 8 * q + 8≤n;omega
    go_wp2
    go_loopw [31] (fun v wr=>∃ i:Nat,v = .int .i64 (i:Nat)∧i≤8∧Hid (wr.heap[g]? = some (.cells #[.int .u64 (mixIt s (q + 1):Nat)] 308 (0,0)))∧Hid (wr.heap[G]? = some (.cells ((prog (mixRow s n) (List.replicate n (0:UInt8)) (8 * q + i)).map B8).toArray 5 (0,0)))∧Hid (∀ B,B≤g→Below B w wr)) (fun v _=>8 - (intOf v).toNat)
    case atStart=>exact ⟨0,rfl,by omega,F1.out,by rw [Nat.add_zero];exact F2.out,F3.out⟩
    case round =>
     clear F1 F2 F3
     obtain ⟨i,rfl,hi,I1,I2,I3⟩:=hrel
     by_cases hl:i < 8
     ·have hj:8 * q + i < n:=by have:=HM.out;omega
      have cG:wr.cell? ⟨G,8 * q + i,none⟩ = some (B8 0):=by
       rw [cell_of_row _ _ (8 * q + i) _ _ _ I2.out]
       have:=prog_at (mixRow s n) (List.replicate n (0:UInt8)) (8 * q + i) n (mixRow_len s n) (by simp) hj
       simp [this,hj]
      have zG:=frozen_of_row _ _ (8 * q + i) _ _ I2.out
      have hv:=mixAt_val2 s q i (by omega)
      rw [← HX.out] at hv
      have eI:(8 * (q:Int) + (i:Int)).toNat = 8 * q + i:=by omega
      have I4:=Lib.hid (set_toArray (v:=mixAt s (8 * q + i)) (j:=8 * q + i) I2.out)
      have I5:=Lib.hid (hsc (a:=⟨G,8 * q + i,none⟩) (v:=B8 (mixAt s (8 * q + i))) I1.out (by have:=HG.out;simp;omega))
      have I6:Hid (∀ B,B≤g→Below B w (wr.setCell ⟨G,8 * q + i,none⟩ (B8 (mixAt s (8 * q + i))))):=fun B hB=>(I3.out B hB).setCell (by have:=HG.out;simp;omega) _
      clear I1 I2 I3
      go_wp2
      go_roundw
      case rel =>
       refine ⟨i + 1,by go_num,by omega,I5.out,?_,I6.out⟩
       rw [prog_succ _ _ (8 * q + i) n (mixRow_len s n) (by simp) hj (mixAt s (8 * q + i)) (by simp [mixRow,hj])] at I4
       rw [← Nat.add_assoc]
       exact I4.out
      case measure=>simp [intOf];omega
     ·have hiM:i = 8:=by omega
      subst hiM
      clear hl hi
      go_wp2
      go_roundw
      case rel =>
       exact ⟨q + 1,by go_num,by omega,I1.out,by rw [show min (8 * (q + 1)) n = 8 * q + 8 by have:=HM.out;omega];exact I2.out,I3.out⟩
      case measure=>simp [intOf];omega
  ·go_wp2
   go_ret2
   refine ⟨G,rfl,HS.out,?_,R3.out⟩
   have:=R2.out
   rw [show min (8 * q) n = n by omega,prog_full _ _ n (mixRow_len s n) (by simp)] at this
   exact this
end Go.Proofs.YtccaiiigdfieoaaGreatDoor
namespace Go.By
open Go.RowKit
def put8At (s i:Nat):UInt8:=UInt8.ofNat (s / 2 ^ (56 - 8 * i))
def put8 (s:Nat):List UInt8:=(List.range 8).map (put8At s)
theorem put8_len (s:Nat):(put8 s).length = 8:=by simp [put8]
def get8 (xs:List UInt8):Nat:=xs.foldl (fun a b=>a * 256 + b.toNat) 0
theorem get8_take {xs:List UInt8} {k:Nat} {x:UInt8} (h:xs[k]? = some x):get8 (xs.take (k + 1)) = get8 (xs.take k) * 256 + x.toNat:=by
 obtain ⟨hk,h⟩:=List.getElem?_eq_some_iff.1 h
 unfold get8
 rw [foldl_take_succ _ _ _ _ hk,h]
theorem get8_lt (xs:List UInt8) (k:Nat):get8 (xs.take k) < 256 ^ k:=by
 induction k with
 | zero=>simp [get8]
 | succ k ih =>
  rcases Nat.lt_or_ge k xs.length with h | h
  ·have e:=get8_take (List.getElem?_eq_getElem h)
   have:=xs[k].toNat_lt
   rw [e,Nat.pow_succ];omega
  ·rw [List.take_of_length_le (by omega)]
   rw [List.take_of_length_le (by omega)] at ih
   rw [Nat.pow_succ];omega
theorem bits_or64 {a b:Nat} (ha:a < 2 ^ 64) (hb:b < 2 ^ 64):bits .or .u64 (a:Int) (b:Int) = ((a ||| b:Nat):Int) :=
 (bits_nat .u64 64 (by decide) (fun n h1 h2=>by rw [IntKind.wrap_u64];omega) a b ha hb).2
theorem put8_val (s i:Nat) (hi:i < 8):((s:Int) / (2 ^ (56 - 8 * i):Int)) % 256 = ((put8At s i).toNat:Int):=by
 unfold put8At
 rw [UInt8.toNat_ofNat',show (2:Int) ^ (56 - 8 * i) = ((2 ^ (56 - 8 * i):Nat):Int) by rw [Int.natCast_pow];rfl]
 omega
end Go.By
namespace Go.Proofs.YtccaiiigdfieoaaGreatDoor
open Go.RowKit Go.By
set_option maxRecDepth 100000 in
set_option maxHeartbeats 1000000 in
theorem MRow_anyF (s n:Nat) (hn:n≤65536) (w:World) :
  Calls Tryz.prog 161 #[.int .u64 (s:Nat),.int .i64 (n:Nat)] w (SRetF 5 w (mixRow s n) 0):=by
 have HN:=Lib.hid hn
 have Hk:∀ w:World,Calls Tryz.prog 209 #[.int .u64 (s:Nat)] w fun e w'=>e = .returned (.pointer (some ⟨w.heap.size,0,none⟩))∧w' = w.alloc (.cells #[.int .u64 (s:Nat)] 308 (0,0)):=by
  intro w
  go_enter Tryz.func209,Tryz.ntmps209
  go_wp2
  go_ret
  exact ⟨rfl,rfl⟩
 have HK:=Lib.hid Hk
 clear Hk hn
 go_enter Tryz.func161,Tryz.ntmps161
 go_wp2_with fail
 refine Calls.mono (HK.out w) ?_
 rintro e w1 ⟨rfl,rfl⟩
 go_wp2_with fail
 refine Calls.mono (MBytes_any w.heap.size s n _ (hnew rfl) HN.out) ?_
 rintro e w2 ⟨G,rfl,hG,h2,hb⟩
 have HB:=Lib.hid ((al (Below.refl w.heap.size w) (Nat.le_refl _)).trans (hb _ (Nat.le_refl _)))
 have H2:=Lib.hid h2
 have HG:Hid (w.heap.size≤G):=by have:=hG;show _≤_;simp at this;omega
 clear hb hG h2
 go_wp2
 go_ret2
 exact ⟨_,_,_,rfl,Fresh.block H2.out (mixRow_len s n) (by have:=HN.out;unfold maxLen;omega) HG.out,HB.out⟩
set_option maxRecDepth 100000 in
set_option maxHeartbeats 2000000 in
theorem MPut_any (s:Nat) (w:World) :
  Calls Tryz.prog 196 #[.int .u64 (s:Nat)] w (SRet1 w (put8 s)):=by
 obtain ⟨i0,hi,hz0,hz1,hz2⟩:=info_parts info_u8
 go_enter Tryz.func196,Tryz.ntmps196
 go_wp2_with (at_make;refine wpList_make_bytesC _ rfl _ _ 22 rfl 5 i0 Tryz.underlying22 hi hz0 hz1 hz2 8 rfl rfl (by decide) ?_)
 intro w1 h1 hb1
 obtain ⟨G,hG⟩:∃ G,G = w.heap.size:=⟨_,rfl⟩
 rw [← hG] at h1 ⊢
 have HG:Hid (w.heap.size≤G):=by rw [hG];exact Nat.le_refl _
 have H1:Hid (w1.heap[G]? = some (.cells ((prog (put8 s) (List.replicate 8 (0:UInt8)) 0).map B8).toArray 5 (0,0))):=by rw [prog_zero];exact h1
 have B1:=Lib.hid hb1
 clear h1 hb1 hG
 go_wp2
 go_loopw [6] (fun v wr=>∃ i:Nat,v = .int .i64 (i:Nat)∧i≤8∧Hid (wr.heap[G]? = some (.cells ((prog (put8 s) (List.replicate 8 (0:UInt8)) i).map B8).toArray 5 (0,0)))∧Hid (Below w.heap.size w wr)) (fun v _=>8 - (intOf v).toNat)
 case atStart=>exact ⟨0,rfl,by omega,H1.out,B1.out⟩
 case round =>
  clear H1 B1
  obtain ⟨i,rfl,hi8,I1,I2⟩:=hrel
  by_cases hl:i < 8
  ·have cG:wr.cell? ⟨G,i,none⟩ = some (B8 0):=by
    rw [cell_of_row _ _ i _ _ _ I1.out]
    have:=prog_at (put8 s) (List.replicate 8 (0:UInt8)) i 8 (put8_len s) (by simp) hl
    rw [List.getElem?_replicate,if_pos hl] at this
    simp only [List.getElem?_toArray,List.getElem?_map,this,Option.map_some]
   have zG:=frozen_of_row _ _ i _ _ I1.out
   have hv:=put8_val s i hl
   have I4:=Lib.hid (set_toArray (v:=put8At s i) (j:=i) I1.out)
   have I6:=Lib.hid (I2.out.setCell (p:=⟨G,i,none⟩) HG.out (B8 (put8At s i)))
   clear I1 I2
   go_wp2
   go_roundw
   case rel =>
    refine ⟨i + 1,by go_num,by omega,?_,I6.out⟩
    rw [prog_succ _ _ i 8 (put8_len s) (by simp) hl (put8At s i) (by simp [put8,hl])] at I4
    exact I4.out
   case measure=>simp [intOf];omega
  ·have hiM:i = 8:=by omega
   subst hiM
   clear hl hi8
   rw [prog_full _ _ 8 (put8_len s) (by simp)] at I1
   go_wp2
   go_ret
   exact ⟨_,_,_,rfl,sl_block (put8 s) 8 I1.out rfl (put8_len s) (by decide),I2.out⟩
theorem get8_or {a x:Nat} (ha:a < 72057594037927936) (hx:x < 256):bits .or .u64 (((a * 256:Nat):Int)) (x:Int) = ((a * 256 + x:Nat):Int):=by
 rw [bits_or64 (by omega) (by omega),or_add (k:=8) (by omega) (by omega)]
set_option maxRecDepth 100000 in
set_option maxHeartbeats 2000000 in
theorem MSeed_any (p:Option Addr) (n c:Nat) (xs:List UInt8) (w:World) (h:Sl B8 w p n c xs) (hn:n = 8) :
  Calls Tryz.prog 218 #[.slice p n c] w fun e w'=>e = .returned (.tuple #[.int .u64 (get8 xs:Nat),.int .i64 0])∧Below w.heap.size w w':=by
 subst hn
 have HL:Hid (get8 (xs.take 8) = get8 xs):=by rw [List.take_of_length_le (by rw [h.len];omega)];rfl
 obtain ⟨T,hT⟩:∃ T:Nat→Nat,T = fun k=>get8 (xs.take k):=⟨_,rfl⟩
 have HT1:Hid (∀ k x,xs[k]? = some x→T (k + 1) = T k * 256 + x.toNat):=fun k x hx=>by rw [hT];exact get8_take hx
 have HT2:Hid (∀ k,k < 8→T k < 72057594037927936):=fun k hk=>by rw [hT];exact Nat.lt_of_lt_of_le (get8_lt xs k) (Nat.le_trans (Nat.pow_le_pow_right (by decide) (show k≤7 by omega)) (by decide))
 have HT0:Hid (T 0 = 0):=by rw [hT];rfl
 have HT8:Hid (T 8 = get8 xs):=by rw [hT];exact HL.out
 have H:=Lib.hid h
 clear hT h HL
 generalize get8 xs = V at *
 go_enter Tryz.func218,Tryz.ntmps218
 go_wp2
 go_loop [4,12] (fun v i=>∃ k:Nat,k≤8∧i = .int .i64 (k:Nat)∧v = .int .u64 (T k:Nat)) (fun _ i=>8 - (intOf i).toNat)
 case atStart=>exact ⟨0,by omega,rfl,by rw [HT0.out];rfl⟩
 case round =>
  obtain ⟨k,hk,rfl,rfl⟩:=hrel
  by_cases hl:k < 8
  ·obtain ⟨b,o,x,rfl,hc,hx⟩:=H.out.at k hl
   have t2:=HT2.out k hl
   have hx8:=x.toNat_lt
   have e1:IntKind.u64.wrap ((T k:Int) * 256) = ((T k * 256:Nat):Int):=by rw [IntKind.wrap_u64];omega
   have e3:IntKind.u64.wrap (x.toNat:Int) = (x.toNat:Int):=by rw [IntKind.wrap_u64];omega
   have e2:=get8_or t2 hx8
   rw [← HT1.out k x hx.out] at e2
   clear t2 hx hx8
   rw [Int.natCast_mul] at e2
   have HE:=Lib.hid e2
   clear e2
   go_wp2
   go_round
   case rel=>exact ⟨k + 1,by omega,by go_num,congrArg _ HE.out⟩
   case measure=>simp [intOf];omega
  ·have hk8:k = 8:=by omega
   subst hk8
   rw [HT8.out]
   clear hl hk
   go_wp2
   go_ret2
   exact ⟨rfl,Below.refl _ _⟩
end Go.Proofs.YtccaiiigdfieoaaGreatDoor
namespace Go.Proofs.YtccaiiigdfieoaaGreatDoor
open Go.RowKit Go.By
def needS (l s:Int):Int:=if l = 0 then 1 else (l - 1) / s + 1
def fitS (l s:Int):Int:=if l < 0 then 2 else if s < 1∨65535 < s then 4 else if 4096 < needS l s then 5 else 0
def checkS (l s n:Int):Int:=if fitS l s = 0 then (if n = needS l s then 0 else 14) else fitS l s
def ofS (l s:Int) (d:Int):Value:=if fitS l s = 0 then .tuple #[.agg #[.int .i64 l,.int .i64 s,.int .i64 (needS l s),.int .u32 d],.int .i64 0] else .tuple #[.agg #[.int .i64 0,.int .i64 0,.int .i64 0,.int .u32 0],.int .i64 (fitS l s)]
theorem needS_pos {l s:Int} (hl:0≤l) (hs:1≤s):1≤needS l s∧(l≠0→needS l s≤l):=by
 unfold needS
 split
 ·omega
 ·rename_i h0
  have h1:0≤(l - 1) / s:=Int.ediv_nonneg (by omega) (by omega)
  have h2:(l - 1) / s≤l - 1:=Int.ediv_le_self _ (by omega)
  omega
theorem needS_spec {l s:Int} (hl:0 < l) (hs:1≤s):(needS l s - 1) * s < l∧l≤needS l s * s:=by
 unfold needS
 rw [if_neg (by omega)]
 have h:=Int.emod_add_mul_ediv (l - 1) s
 have h1:=Int.emod_nonneg (l - 1) (show s≠0 by omega)
 have h2:=Int.emod_lt_of_pos (l - 1) (show 0 < s by omega)
 generalize (l - 1) / s = q at *
 have e1:(q + 1 - 1) * s = s * q:=by rw [Int.mul_comm];congr 1;omega
 have e2:(q + 1) * s = s * q + s:=by rw [Int.add_mul,Int.mul_comm];omega
 omega
set_option maxHeartbeats 400000 in
theorem needed_any (l s:Int) (w:World) (hl:0≤l) (hl2:l≤9223372036854775807) (hs:1≤s) :
  Calls Tryz.prog 95 #[.int .i64 l,.int .i64 s] w fun e w'=>e = .returned (.int .i64 (needS l s))∧w = w':=by
 by_cases h0:l = 0
 ·subst h0
  go_enter Tryz.func95,Tryz.ntmps95
  go_wp2
  go_ret
  exact ⟨rfl,rfl⟩
 ·have hz:(l == 0) = false:=by simpa using h0
  have hs0:(s == 0) = false:=by simp;omega
  obtain ⟨hn,hn'⟩:=needS_pos hl hs
  have hn2:=hn' h0
  clear hn'
  have e0:needS l s = (l - 1) / s + 1:=if_neg h0
  have hw:wrap64 ((l - 1) / s + 1) = needS l s:=by
   rw [← e0];unfold wrap64
   generalize needS l s = y at *
   clear e0
   omega
  clear e0
  go_enter Tryz.func95,Tryz.ntmps95
  go_wp2
  go_ret
  exact ⟨by rw [hw];rfl,rfl⟩
set_option maxHeartbeats 400000 in
theorem fits_any (l s:Int) (w:World) (hl2:l≤9223372036854775807) :
  Calls Tryz.prog 94 #[.int .i64 l,.int .i64 s] w fun e w'=>e = .returned (.int .i64 (fitS l s))∧w = w':=by
 by_cases h0:l < 0
 ·have HR:Hid (fitS l s = 2):=if_pos h0
  go_enter Tryz.func94,Tryz.ntmps94
  go_wp2
  go_ret
  exact ⟨by rw [HR.out];rfl,rfl⟩
 ·by_cases h1:s < 1
  ·have HR:Hid (fitS l s = 4):=by unfold fitS;rw [Hid,if_neg h0,if_pos (Or.inl h1)]
   go_enter Tryz.func94,Tryz.ntmps94
   go_wp2
   go_ret
   exact ⟨by rw [HR.out];rfl,rfl⟩
  ·by_cases h2:65535 < s
   ·have HR:Hid (fitS l s = 4):=by unfold fitS;rw [Hid,if_neg h0,if_pos (Or.inr h2)]
    go_enter Tryz.func94,Tryz.ntmps94
    go_wp2
    go_ret
    exact ⟨by rw [HR.out];rfl,rfl⟩
   ·have HN:=Lib.hid (fun w=>needed_any l s w (by omega) hl2 (by omega))
    by_cases h3:4096 < needS l s
    ·have HR:Hid (fitS l s = 5):=by unfold fitS;rw [Hid,if_neg h0,if_neg (by omega),if_pos h3]
     go_enter Tryz.func94,Tryz.ntmps94
     go_wp2_with fail
     refine (HN.out _).mono ?_;rintro e w' ⟨rfl,rfl⟩
     go_wp2
     go_ret
     exact ⟨by rw [HR.out];rfl,rfl⟩
    ·have HR:Hid (fitS l s = 0):=by unfold fitS;rw [Hid,if_neg h0,if_neg (by omega),if_neg h3]
     go_enter Tryz.func94,Tryz.ntmps94
     go_wp2_with fail
     refine (HN.out _).mono ?_;rintro e w' ⟨rfl,rfl⟩
     go_wp2
     go_ret
     exact ⟨by rw [HR.out];rfl,rfl⟩
theorem fitS_cases (l s:Int):(fitS l s≠0∧(fitS l s = 2∨fitS l s = 4∨fitS l s = 5))∨(fitS l s = 0∧0≤l∧1≤s∧s≤65535∧needS l s≤4096):=by
 unfold fitS
 split
 ·simp
 ·split
  ·simp
  ·split
   ·simp
   ·right;omega
theorem cell4 (w:World) (a b c d:Value) (T:TypeId):∀ i:Nat,(w.alloc (.cells #[a,b,c,d] T)).cell? ⟨w.heap.size,i,none⟩ = #[a,b,c,d][i]?:=fun i=>cell_of_row _ _ _ _ _ _ (hnew rfl)
set_option maxRecDepth 100000 in
set_option maxHeartbeats 1000000 in
theorem Check_any (l s n d:Int) (w:World) (hl2:l≤9223372036854775807) :
  Calls Tryz.prog 79 #[.agg #[.int .i64 l,.int .i64 s,.int .i64 n,.int .u32 d]] w fun e w'=>e = .returned (.int .i64 (checkS l s n))∧Below w.heap.size w w':=by
 have HF:=Lib.hid (fun w=>fits_any l s w hl2)
 rcases fitS_cases l s with ⟨h0,h1⟩ | ⟨h0,h1,h2,h3,h4⟩
 ·have HR:Hid (checkS l s n = fitS l s):=if_neg h0
  have hb:(fitS l s != 0) = true:=by simpa using h0
  clear h1
  generalize fitS l s = f at *
  clear h0
  go_enter Tryz.func79,Tryz.ntmps79
  go_wp2_with fail
  refine (HF.out _).mono ?_;rintro e w' ⟨rfl,rfl⟩
  go_wp2
  go_ret
  exact ⟨by rw [HR.out];rfl,al (Below.refl _ _) (Nat.le_refl _)⟩
 ·rw [h0] at HF
  have HN:=Lib.hid (fun w=>needed_any l s w h1 hl2 h2)
  have HR:Hid (checkS l s n = if n = needS l s then 0 else 14):=by unfold checkS;rw [Hid,if_pos h0]
  generalize needS l s = k at *
  by_cases e:n = k
  ·subst e
   have hb:(n != n) = false:=by simp
   rw [if_pos rfl] at HR
   clear h0 h1 h2 h3 h4
   go_enter Tryz.func79,Tryz.ntmps79
   go_wp2_with fail
   refine (HF.out _).mono ?_;rintro e w' ⟨rfl,rfl⟩
   go_wp2
   have C0:=cell4 w (.int .i64 l) (.int .i64 s) (.int .i64 n) (.int .u32 d) 27 0
   have C1:=cell4 w (.int .i64 l) (.int .i64 s) (.int .i64 n) (.int .u32 d) 27 1
   have C2:=cell4 w (.int .i64 l) (.int .i64 s) (.int .i64 n) (.int .u32 d) 27 2
   go_quiet ((go_at_call 95;exact Calls.quiet_of_same ((HN.out _).mono fun e w' hh=>⟨hh.1,hh.2.symm⟩)))
   go_wp2
   go_ret
   exact ⟨by rw [HR.out];rfl,bdn (al (Below.refl _ _) (Nat.le_refl _))⟩
  ·have hb:(n != k) = true:=by simpa using e
   rw [if_neg e] at HR
   clear h0 h1 h2 h3 h4 e
   go_enter Tryz.func79,Tryz.ntmps79
   go_wp2_with fail
   refine (HF.out _).mono ?_;rintro e w' ⟨rfl,rfl⟩
   go_wp2
   have C0:=cell4 w (.int .i64 l) (.int .i64 s) (.int .i64 n) (.int .u32 d) 27 0
   have C1:=cell4 w (.int .i64 l) (.int .i64 s) (.int .i64 n) (.int .u32 d) 27 1
   have C2:=cell4 w (.int .i64 l) (.int .i64 s) (.int .i64 n) (.int .u32 d) 27 2
   go_quiet ((go_at_call 95;exact Calls.quiet_of_same ((HN.out _).mono fun e w' hh=>⟨hh.1,hh.2.symm⟩)))
   go_wp2
   go_ret
   exact ⟨by rw [HR.out];rfl,bdn (al (Below.refl _ _) (Nat.le_refl _))⟩
theorem results_ct {P:Program} {fn:Func} {p u:Tmp} {ty:TypeId} (h:fn.results = #[.cell p ty,.tmp u]) (tmps:Array Value) (w:World) (g:Nat) (t:TypeId) (cs:Array Value) (fr:Nat × Nat) (d:TypeDesc) (v:Value)
  (hp:tmps.getD p undef = .pointer (some ⟨g,0,none⟩)) (hg:w.heap[g]? = some (.cells cs t fr)) (hv:tmps.getD u undef = v)
  (hu:P.underlying ty = some d) (hd:(match d with | .struct _ | .array _ _=>true | _=>false) = true) (hi:(P.info? ty).map (·.size) = some cs.size) :
  (results fn tmps).run P w = .ok (.tuple #[.agg cs,v]) w:=by
 have hp':tmps[p]?.getD undef = .pointer (some ⟨g,0,none⟩):=by simpa using hp
 have hv':tmps[u]?.getD undef = v:=by simpa using hv
 simp [results,h,hp',hv',asAddr,run_loadVar_row w g t ty cs fr d hg hu hd hi]
theorem info_plan:(Tryz.prog.info? 27).map (·.size) = some 4:=by kernel_rfl
set_option maxRecDepth 100000 in
set_option maxHeartbeats 1000000 in
theorem POf_any (l s d:Int) (w:World) (hl2:l≤9223372036854775807) :
  Calls Tryz.prog 44 #[.int .i64 l,.int .i64 s,.int .u32 d] w fun e w'=>e = .returned (ofS l s d)∧Below w.heap.size w w':=by
 have HF:=Lib.hid (fun w=>fits_any l s w hl2)
 rcases fitS_cases l s with ⟨h0,h1⟩ | ⟨h0,h1,h2,h3,h4⟩
 ·have HR:Hid (ofS l s d = .tuple #[.agg #[.int .i64 0,.int .i64 0,.int .i64 0,.int .u32 0],.int .i64 (fitS l s)]):=if_neg h0
  have hb:(fitS l s != 0) = true:=by simpa using h0
  clear h1
  generalize fitS l s = f at *
  clear h0
  have hi:=info_plan
  go_enter Tryz.func44,Tryz.ntmps44
  go_wp2_with fail
  refine (HF.out _).mono ?_;rintro e w' ⟨rfl,rfl⟩
  go_wp2
  refine bodyPost_ret (results_ct rfl _ _ _ 27 #[.int .i64 0,.int .i64 0,.int .i64 0,.int .u32 0] (0,0) _ (.int .i64 f) rfl (hnew rfl) rfl Tryz.underlying27 rfl hi) rfl ⟨by rw [HR.out],al (Below.refl _ _) (Nat.le_refl _)⟩
 ·rw [h0] at HF
  have HN:=Lib.hid (fun w=>needed_any l s w h1 hl2 h2)
  have HR:Hid (ofS l s d = .tuple #[.agg #[.int .i64 l,.int .i64 s,.int .i64 (needS l s),.int .u32 d],.int .i64 0]):=if_pos h0
  generalize needS l s = k at *
  clear h0 h1 h2 h3 h4
  have hi:=info_plan
  go_enter Tryz.func44,Tryz.ntmps44
  go_wp2_with fail
  refine (HF.out _).mono ?_;rintro e w' ⟨rfl,rfl⟩
  go_wp2_with fail
  refine (HN.out _).mono ?_;rintro e w' ⟨rfl,rfl⟩
  go_wp2
  refine bodyPost_ret (results_ct rfl _ _ _ 27 #[.int .i64 l,.int .i64 s,.int .i64 k,.int .u32 d] (0,0) _ (.int .i64 0) rfl (hnew rfl) rfl Tryz.underlying27 rfl hi) rfl ⟨by rw [HR.out],al (Below.refl _ _) (Nat.le_refl _)⟩
end Go.Proofs.YtccaiiigdfieoaaGreatDoor
namespace Go.Proofs.YtccaiiigdfieoaaGreatDoor
end Go.Proofs.YtccaiiigdfieoaaGreatDoor
namespace Go.Proofs.YtccaiiigdfieoaaGreatDoor
open Go.RowKit Go.By
abbrev HVal (m:UInt8) (o n:Nat):Value:=.agg #[B8 m,.int .u32 (o:Nat),.int .u32 (n:Nat)]
def modeC (m:UInt8):Int:=if m = 0∨m = 1 then 0 else 8
theorem modeC_range (m:UInt8):modeC m = 0∨modeC m = 8:=by unfold modeC;split <;> simp
set_option maxHeartbeats 1000000 in
theorem HCheck_any (m:UInt8) (o n:Nat) (w:World) :
  Calls Tryz.prog 177 #[HVal m o n] w fun e w'=>e = .returned (.int .i64 (modeC m))∧Below w.heap.size w w':=by
 by_cases h0:m = 0
 ·subst h0
  go_enter Tryz.func177,Tryz.ntmps177
  go_wp2
  go_ret
  exact ⟨rfl,al (Below.refl _ _) (Nat.le_refl _)⟩
 by_cases h1:m = 1
 ·subst h1
  go_enter Tryz.func177,Tryz.ntmps177
  go_wp2
  go_ret
  exact ⟨rfl,al (Below.refl _ _) (Nat.le_refl _)⟩
 ·have e0:((m.toNat:Int) != 0) = true:=bne_iff_ne.2 fun e=>h0 (UInt8.toNat_inj.1 (by show m.toNat = 0;omega))
  have e1:((m.toNat:Int) != 1) = true:=bne_iff_ne.2 fun e=>h1 (UInt8.toNat_inj.1 (by show m.toNat = 1;omega))
  have hC:modeC m = 8:=by unfold modeC;rw [if_neg (by simp [h0,h1])]
  rw [hC]
  clear hC
  go_enter Tryz.func177,Tryz.ntmps177
  go_wp2
  go_ret
  exact ⟨rfl,al (Below.refl _ _) (Nat.le_refl _)⟩
def headB (m:UInt8) (o n:Nat):List UInt8:=[1,m] ++ put4 o ++ put4 n
set_option maxRecDepth 100000 in
set_option maxHeartbeats 2000000 in
theorem HBytes_any (m:UInt8) (o n:Nat) (ho:o < 4294967296) (hn:n < 4294967296) (w:World) :
  Calls Tryz.prog 135 #[HVal m o n] w (SRet w (if modeC m = 0 then headB m o n else []) (modeC m)):=by
 have HO:=Lib.hid ho
 have HN:=Lib.hid hn
 clear ho hn
 by_cases hc:modeC m = 0
 ·rw [hc,if_pos rfl]
  have HK:Hid (∀ w,Calls Tryz.prog 177 #[HVal m o n] w fun e w'=>e = .returned (.int .i64 0)∧Below w.heap.size w w'):=fun w=>by have:=HCheck_any m o n w;rw [hc] at this;exact this
  clear hc
  go_enter Tryz.func135,Tryz.ntmps135
  go_wp2_with fail
  refine Calls.mono (HK.out _) ?_
  rintro e w1 ⟨rfl,hb1⟩
  have HB1:=Lib.hid ((al (Below.refl w.heap.size w) (Nat.le_refl _)).trans (hb1.mono (by simp)))
  have hl:w.heap.size < w1.heap.size:=by have:=hb1.size;simp at this;omega
  have HC:w1.heap[w.heap.size]? = some (.cells #[B8 m,.int .u32 (o:Nat),.int .u32 (n:Nat)] 120 (0,0)):=(hb1.block _ (by simp)).trans (hnew rfl)
  obtain ⟨c0,c1,c2⟩:=cells_three HC
  clear hb1 HC
  go_wp2_with fail
  refine wp_region_shapes (fun ix=>([.val (.pointer (some ⟨w.heap.size,0,none⟩)),.val (B8 m),.bytes ([1,m]),.val (.pointer (some ⟨w.heap.size,1,none⟩)),.val (.int .u32 (o:Nat)),.bytes (put4 o),.val (.pointer (some ⟨w.heap.size,2,none⟩)),.val (.int .u32 (n:Nat)),.bytes (put4 n),.rows ([[1,m],put4 o,put4 n]),.bytes (headB m o n),.bytes (headB m o n),.val (.int .i64 0)][ix]?).getD (.any)) 21 rfl (by kernel_rfl) (by decide) (by decide) (by decide) ?_ ?_
  ·refine ⟨?_,?_,?_,?_,?_,?_,?_,?_,?_,?_,?_,?_,?_,trivial⟩
   ·intro a W hb0 hs hp hi;have hb:=undrew hb0;clear hb0
    have t1:sl a 1 = .pointer (some ⟨w.heap.size,0,none⟩):=hi 1 (by decide)
    refine ite_y rfl (wp_val (.pointer (some ⟨w.heap.size,0,none⟩)) ?_ ?_)
    ·simp only [execOp,eval_tmp,eval_const,t1];simp [go_sem]
    ·exact ⟨_,rfl,Below.refl _ _,rfl⟩
   ·intro a W hb0 hs hp hi;have hb:=undrew hb0;clear hb0
    have tt:sl a 10 = .pointer (some ⟨w.heap.size,0,none⟩):=hp 0 (by decide)
    have dd:=(hb.cell (p:=⟨w.heap.size,0,none⟩) (lt_of_cell c0)).trans c0
    refine ite_y rfl (wp_val (B8 m) ?_ ?_)
    ·simp only [execOp,eval_tmp,tt];simp [go_sem,dd]
    ·exact ⟨_,rfl,Below.refl _ _,rfl⟩
   ·intro a W hb0 hs hp hi;have hb:=undrew hb0;clear hb0
    have t11:sl a 11 = B8 m:=hp 1 (by decide)
    have v11:a.tmps[11]?.getD undef = sl a 11:=by simp [sl]
    rw [t11] at v11
    refine ite_y rfl (wp_val' (w':=W.alloc (.cells #[.int .u8 1,B8 m] 5)) (.slice (some ⟨W.heap.size,0,none⟩) 2 2) ?_ ?_)
    ·simp only [execOp,eval_tmp,eval_const,t11];simp [go_sem,v11]
    ·exact ⟨_,rfl,(al (Below.refl _ _) (Nat.le_refl _)),_,_,_,rfl,sl_block ([1,m]) 2 (hnew rfl) rfl rfl (by simp [maxLen])⟩
   ·intro a W hb0 hs hp hi;have hb:=undrew hb0;clear hb0
    have t1:sl a 1 = .pointer (some ⟨w.heap.size,0,none⟩):=hi 1 (by decide)
    refine ite_y rfl (wp_val (.pointer (some ⟨w.heap.size,1,none⟩)) ?_ ?_)
    ·simp only [execOp,eval_tmp,eval_const,t1];simp [go_sem]
    ·exact ⟨_,rfl,Below.refl _ _,rfl⟩
   ·intro a W hb0 hs hp hi;have hb:=undrew hb0;clear hb0
    have tt:sl a 13 = .pointer (some ⟨w.heap.size,1,none⟩):=hp 3 (by decide)
    have dd:=(hb.cell (p:=⟨w.heap.size,1,none⟩) (lt_of_cell c1)).trans c1
    refine ite_y rfl (wp_val (.int .u32 (o:Nat)) ?_ ?_)
    ·simp only [execOp,eval_tmp,tt];simp [go_sem,dd]
    ·exact ⟨_,rfl,Below.refl _ _,rfl⟩
   ·intro a W hb0 hs hp hi;have hb:=undrew hb0;clear hb0
    have t14:sl a 14 = .int .u32 (o:Nat):=hp 4 (by decide)
    refine ite_y rfl (wp_enter 138 #[.int .u32 (o:Nat)] ?_ (SPut_any o HO.out _) ?_)
    ·simp only [execOp,resolve,List.map_toArray,List.map,eval_tmp,eval_func,eval_const,t14];simp [go_sem]
    ·rintro e W' ⟨g5,rfl,hg5,h5,hw⟩;exact ⟨_,rfl,_,rfl,hw,_,_,_,rfl,sl_block (put4 o) 4 h5 rfl (put4_len o) (by simp [maxLen])⟩
   ·intro a W hb0 hs hp hi;have hb:=undrew hb0;clear hb0
    have t1:sl a 1 = .pointer (some ⟨w.heap.size,0,none⟩):=hi 1 (by decide)
    refine ite_y rfl (wp_val (.pointer (some ⟨w.heap.size,2,none⟩)) ?_ ?_)
    ·simp only [execOp,eval_tmp,eval_const,t1];simp [go_sem]
    ·exact ⟨_,rfl,Below.refl _ _,rfl⟩
   ·intro a W hb0 hs hp hi;have hb:=undrew hb0;clear hb0
    have tt:sl a 16 = .pointer (some ⟨w.heap.size,2,none⟩):=hp 6 (by decide)
    have dd:=(hb.cell (p:=⟨w.heap.size,2,none⟩) (lt_of_cell c2)).trans c2
    refine ite_y rfl (wp_val (.int .u32 (n:Nat)) ?_ ?_)
    ·simp only [execOp,eval_tmp,tt];simp [go_sem,dd]
    ·exact ⟨_,rfl,Below.refl _ _,rfl⟩
   ·intro a W hb0 hs hp hi;have hb:=undrew hb0;clear hb0
    have t17:sl a 17 = .int .u32 (n:Nat):=hp 7 (by decide)
    refine ite_y rfl (wp_enter 138 #[.int .u32 (n:Nat)] ?_ (SPut_any n HN.out _) ?_)
    ·simp only [execOp,resolve,List.map_toArray,List.map,eval_tmp,eval_func,eval_const,t17];simp [go_sem]
    ·rintro e W' ⟨g5,rfl,hg5,h5,hw⟩;exact ⟨_,rfl,_,rfl,hw,_,_,_,rfl,sl_block (put4 n) 4 h5 rfl (put4_len n) (by simp [maxLen])⟩
   ·intro a W hb0 hs hp hi;have hb:=undrew hb0;clear hb0
    have t12:BytesIs ([1,m]) (sl a 12) W:=hp 2 (by decide)
    obtain ⟨y12a,y12b,y12c,t12,z12a⟩:=t12
    have t15:BytesIs (put4 o) (sl a 15) W:=hp 5 (by decide)
    obtain ⟨y15a,y15b,y15c,t15,z15a⟩:=t15
    have t18:BytesIs (put4 n) (sl a 18) W:=hp 8 (by decide)
    obtain ⟨y18a,y18b,y18c,t18,z18a⟩:=t18
    have v12:a.tmps[12]?.getD undef = sl a 12:=by simp [sl]
    rw [t12] at v12
    have v15:a.tmps[15]?.getD undef = sl a 15:=by simp [sl]
    rw [t15] at v15
    have v18:a.tmps[18]?.getD undef = sl a 18:=by simp [sl]
    rw [t18] at v18
    refine ite_y rfl (wp_val' (w':=W.alloc (.cells #[.slice y12a y12b y12c,.slice y15a y15b y15c,.slice y18a y18b y18c] 22)) (.slice (some ⟨W.heap.size,0,none⟩) 3 3) ?_ ?_)
    ·simp only [execOp,eval_tmp,eval_const,t12,t15,t18];simp [go_sem,v12,v15,v18]
    ·exact ⟨_,rfl,(al (Below.refl _ _) (Nat.le_refl _)),_,_,_,rfl,sl2_three (hnew rfl) (z12a.keep (al (Below.refl _ _) (Nat.le_refl _))) (z15a.keep (al (Below.refl _ _) (Nat.le_refl _))) (z18a.keep (al (Below.refl _ _) (Nat.le_refl _)))⟩
   ·intro a W hb0 hs hp hi;have hb:=undrew hb0;clear hb0
    have t19:RowsIs ([[1,m],put4 o,put4 n]) (sl a 19) W:=hp 9 (by decide)
    obtain ⟨y19a,y19b,y19c,t19,z19a⟩:=t19
    refine ite_y rfl (wp_enter 137 #[.slice y19a y19b y19c] ?_ (Concat_any _ _ _ _ _ z19a (by simp [put4_len];unfold Room;omega)) ?_)
    ·simp only [execOp,resolve,List.map_toArray,List.map,eval_tmp,eval_func,eval_const,t19];simp [go_sem]
    ·rintro e W' ⟨q5,m5,g5,_,rfl,o5,hw⟩;exact ⟨_,rfl,_,rfl,hw,q5,m5,g5,rfl,(Sl.of_owns o5).read (by simp [headB])⟩
   ·intro a W hb0 hs hp hi;have hb:=undrew hb0;clear hb0
    exact ite_y rfl (wp_val (sl a 20) rfl ⟨_,rfl,Below.refl _ _,hp 10 (by decide)⟩)
   ·intro a W hb0 hs hp hi;have hb:=undrew hb0;clear hb0
    exact ite_y rfl (wp_val (.int .i64 0) rfl ⟨_,rfl,Below.refl _ _,rfl⟩)
  intro a w9 hb hs hd hI ht
  have ha:=act_is [10,11,12,13,14,15,16,17,18,19,20,2,3] hs hd ht (by decide)
  have t3:sl a 3 = .int .i64 0:=hI 12 (by decide)
  have y2:=hI 11 (by decide)
  obtain ⟨q9,n9,c9,t2,z2⟩:=y2
  simp only [List.foldl,t3,t2] at ha
  generalize sl a 10 = u10 at ha
  generalize sl a 11 = u11 at ha
  generalize sl a 12 = u12 at ha
  generalize sl a 13 = u13 at ha
  generalize sl a 14 = u14 at ha
  generalize sl a 15 = u15 at ha
  generalize sl a 16 = u16 at ha
  generalize sl a 17 = u17 at ha
  generalize sl a 18 = u18 at ha
  generalize sl a 19 = u19 at ha
  generalize sl a 20 = u20 at ha
  simp only [Act.put,List.setIfInBounds_toArray,List.set_cons_zero,List.set_cons_succ] at ha
  rw [ha]
  clear ha hI ht
  go_wp2
  go_ret2
  exact ⟨_,_,_,rfl,z2,stp HB1.out hb rfl (Nat.le_refl _)⟩
 ·have hc8:modeC m = 8:=(modeC_range m).resolve_left hc
  rw [hc8,if_neg (by decide)]
  have HK:Hid (∀ w,Calls Tryz.prog 177 #[HVal m o n] w fun e w'=>e = .returned (.int .i64 8)∧Below w.heap.size w w'):=fun w=>by have:=HCheck_any m o n w;rw [hc8] at this;exact this
  clear hc hc8
  go_enter Tryz.func135,Tryz.ntmps135
  go_wp2_with fail
  refine Calls.mono (HK.out _) ?_
  rintro e w1 ⟨rfl,hb1⟩
  have HB1:=Lib.hid ((al (Below.refl w.heap.size w) (Nat.le_refl _)).trans (hb1.mono (by simp)))
  clear hb1
  go_wp2
  go_ret2
  exact SRet.nil _ _ _ HB1.out
end Go.Proofs.YtccaiiigdfieoaaGreatDoor
namespace Go.Proofs.YtccaiiigdfieoaaGreatDoor
open Go.RowKit Go.By
abbrev SVal (m:UInt8) (p:Option Addr) (n c s:Nat):Value:=.agg #[B8 m,.slice p n c,.int .u64 (s:Nat)]
def widS (m:UInt8) (k:Nat):Nat:=if m = 0 then k else if m = 1 then 8 else 0
def srcC (m:UInt8) (n k:Nat):Int:=if m = 0 then (if n = k then 0 else 4) else modeC m
def srcB (m:UInt8) (xs:List UInt8) (s:Nat):List UInt8:=if m = 0 then xs else put8 s
def vecS (m:UInt8) (xs:List UInt8) (s k:Nat):List UInt8:=if m = 0 then xs else mixRow s k
theorem mode_ne {m:UInt8} (h0:m≠0):((m.toNat:Int) != 0) = true:=bne_iff_ne.2 fun e=>h0 (UInt8.toNat_inj.1 (by show m.toNat = 0;omega))
theorem mode_ne1 {m:UInt8} (h0:m≠1):((m.toNat:Int) != 1) = true:=bne_iff_ne.2 fun e=>h0 (UInt8.toNat_inj.1 (by show m.toNat = 1;omega))
theorem mode_eq {m:UInt8} (h0:m≠0):((m.toNat:Int) == 0) = false:=beq_eq_false_iff_ne.2 fun e=>h0 (UInt8.toNat_inj.1 (by show m.toNat = 0;omega))
set_option maxHeartbeats 1000000 in
theorem RWidth_any (m:UInt8) (k:Nat) (h1:1≤k) (h2:k≤4096) (w:World) :
  Calls Tryz.prog 208 #[B8 m,.int .i64 (k:Nat)] w fun e w'=>e = .returned (.tuple #[.int .i64 (widS m k:Nat),.int .i64 (modeC m)])∧Below w.heap.size w w':=by
 unfold widS
 by_cases h0:m = 0
 ·subst h0
  rw [if_pos rfl,show modeC 0 = 0 from rfl]
  go_enter Tryz.func208,Tryz.ntmps208
  go_wp2
  go_ret2
  exact ⟨rfl,Below.refl _ _⟩
 by_cases h1':m = 1
 ·subst h1'
  rw [if_neg (by decide),if_pos rfl,show modeC 1 = 0 from rfl]
  go_enter Tryz.func208,Tryz.ntmps208
  go_wp2
  go_ret2
  exact ⟨rfl,Below.refl _ _⟩
 ·rw [if_neg h0,if_neg h1']
  have e0:=mode_ne h0
  have e1:=mode_ne1 h1'
  have hC:modeC m = 8:=by unfold modeC;rw [if_neg (by simp [h0,h1'])]
  rw [hC]
  clear hC h0 h1'
  go_enter Tryz.func208,Tryz.ntmps208
  go_wp2
  go_ret2
  exact ⟨rfl,Below.refl _ _⟩
set_option maxHeartbeats 1000000 in
theorem SFits_any (m:UInt8) (p:Option Addr) (n c s k:Nat) (h1:1≤k) (h2:k≤4096) (w:World) :
  Calls Tryz.prog 160 #[SVal m p n c s,.int .i64 (k:Nat)] w fun e w'=>e = .returned (.int .i64 (srcC m n k))∧Below w.heap.size w w':=by
 have HW:Hid (∀ w,Calls Tryz.prog 208 #[B8 m,.int .i64 (k:Nat)] w fun e w'=>e = .returned (.tuple #[.int .i64 (widS m k:Nat),.int .i64 (modeC m)])∧Below w.heap.size w w'):=fun w=>RWidth_any m k h1 h2 w
 clear h1 h2
 generalize hV:widS m k = V at HW
 clear hV
 by_cases h0:m = 0
 ·subst h0
  rw [show modeC 0 = 0 from rfl] at HW
  by_cases hk:n = k
  ·have hC:srcC 0 n k = 0:=by unfold srcC;rw [if_pos rfl,if_pos hk]
   rw [hC]
   subst hk
   clear hC
   go_enter Tryz.func160,Tryz.ntmps160
   go_wp2_with fail
   refine Calls.mono (HW.out _) ?_
   rintro e w1 ⟨rfl,hb⟩
   obtain ⟨hb1,h1,_⟩:=one_of hb
   have HB:=Lib.hid hb1
   obtain ⟨c0,c1,c2⟩:=cells_three h1
   clear hb hb1
   go_wp2
   go_ret
   exact ⟨rfl,HB.out⟩
  ·have hC:srcC 0 n k = 4:=by unfold srcC;rw [if_pos rfl,if_neg hk]
   rw [hC]
   have e0:((n:Int) != (k:Int)) = true:=bne_iff_ne.2 (by omega)
   clear hC hk
   go_enter Tryz.func160,Tryz.ntmps160
   go_wp2_with fail
   refine Calls.mono (HW.out _) ?_
   rintro e w1 ⟨rfl,hb⟩
   obtain ⟨hb1,h1,_⟩:=one_of hb
   have HB:=Lib.hid hb1
   obtain ⟨c0,c1,c2⟩:=cells_three h1
   clear hb hb1
   go_wp2
   go_ret
   exact ⟨rfl,HB.out⟩
 ·have hC:srcC m n k = modeC m:=by unfold srcC;rw [if_neg h0]
  rw [hC]
  clear hC
  have e0:=mode_eq h0
  clear h0
  rcases modeC_range m with hm | hm
  ·rw [hm] at HW ⊢
   clear hm
   go_enter Tryz.func160,Tryz.ntmps160
   go_wp2_with fail
   refine Calls.mono (HW.out _) ?_
   rintro e w1 ⟨rfl,hb⟩
   obtain ⟨hb1,h1,_⟩:=one_of hb
   have HB:=Lib.hid hb1
   obtain ⟨c0,c1,c2⟩:=cells_three h1
   clear hb hb1
   go_wp2
   go_ret
   exact ⟨rfl,HB.out⟩
  ·rw [hm] at HW ⊢
   clear hm
   go_enter Tryz.func160,Tryz.ntmps160
   go_wp2_with fail
   refine Calls.mono (HW.out _) ?_
   rintro e w1 ⟨rfl,hb⟩
   obtain ⟨hb1,h1,_⟩:=one_of hb
   have HB:=Lib.hid hb1
   clear hb hb1
   go_wp2
   go_ret
   exact ⟨rfl,HB.out⟩
set_option maxRecDepth 100000 in
set_option maxHeartbeats 1000000 in
theorem SVector_anyF (m:UInt8) (p:Option Addr) (n c s k:Nat) (xs:List UInt8) (h1:1≤k) (h2:k≤4096) (w:World) (h:Sl B8 w p n c xs) (hr:Room n) :
  Calls Tryz.prog 97 #[SVal m p n c s,.int .i64 (k:Nat)] w (SRetF 5 w (if srcC m n k = 0 then vecS m xs s k else []) (srcC m n k)):=by
 have HW:Hid (∀ w,Calls Tryz.prog 160 #[SVal m p n c s,.int .i64 (k:Nat)] w fun e w'=>e = .returned (.int .i64 (srcC m n k))∧Below w.heap.size w w'):=fun w=>SFits_any m p n c s k h1 h2 w
 have HK:Hid (k≤65536):=by show k≤65536;omega
 have H:=Lib.hid h
 have HR:=Lib.hid hr
 clear h1 h2 h hr
 by_cases hc:srcC m n k = 0
 ·rw [hc] at HW ⊢
  rw [if_pos rfl]
  clear hc
  by_cases h0:m = 0
  ·subst h0
   unfold vecS
   rw [if_pos rfl]
   go_enter Tryz.func97,Tryz.ntmps97
   go_wp2_with fail
   refine Calls.mono (HW.out _) ?_
   rintro e w1 ⟨rfl,hb⟩
   obtain ⟨hb1,h1,_⟩:=one_of hb
   have HB:=Lib.hid hb1
   obtain ⟨c0,c1,c2⟩:=cells_three h1
   clear hb hb1
   go_wp2_with fail
   refine Calls.mono (CloneB_any _ _ _ _ _ (H.out.keep HB.out) HR.out) ?_
   rintro e w2 ⟨q,c',rfl,ho,hb⟩
   have HB2:=Lib.hid (bl HB.out hb HB.out.size)
   have HO:=Lib.hid ho
   clear hb ho
   go_wp2
   go_ret2
   exact ⟨_,_,_,rfl,(Fresh.of_owns HO.out).mono HB.out.size,HB2.out⟩
  ·unfold vecS
   rw [if_neg h0]
   have e0:=mode_eq h0
   clear h0
   go_enter Tryz.func97,Tryz.ntmps97
   go_wp2_with fail
   refine Calls.mono (HW.out _) ?_
   rintro e w1 ⟨rfl,hb⟩
   obtain ⟨hb1,h1,_⟩:=one_of hb
   have HB:=Lib.hid hb1
   obtain ⟨c0,c1,c2⟩:=cells_three h1
   clear hb hb1
   go_wp2_with fail
   refine Calls.mono (MRow_anyF s k HK.out _) ?_
   rintro e w2 ⟨q,n',c',rfl,ho,hb⟩
   have HB2:=Lib.hid (bl HB.out hb HB.out.size)
   have HO:=Lib.hid ho
   clear hb ho
   go_wp2
   go_ret2
   exact ⟨_,_,_,rfl,HO.out.mono HB.out.size,HB2.out⟩
 ·rw [if_neg hc]
  have e0:(srcC m n k != 0) = true:=bne_iff_ne.2 hc
  generalize srcC m n k = C at *
  clear hc
  go_enter Tryz.func97,Tryz.ntmps97
  go_wp2_with fail
  refine Calls.mono (HW.out _) ?_
  rintro e w1 ⟨rfl,hb⟩
  obtain ⟨hb1,h1,_⟩:=one_of hb
  have HB:=Lib.hid hb1
  clear hb hb1
  go_wp2
  go_ret2
  exact SRetF.nil _ _ _ _ HB.out
theorem SVector_any (m:UInt8) (p:Option Addr) (n c s k:Nat) (xs:List UInt8) (h1:1≤k) (h2:k≤4096) (w:World) (h:Sl B8 w p n c xs) (hr:Room n) :
  Calls Tryz.prog 97 #[SVal m p n c s,.int .i64 (k:Nat)] w (SRet w (if srcC m n k = 0 then vecS m xs s k else []) (srcC m n k)):=Calls.mono (SVector_anyF m p n c s k xs h1 h2 w h hr) fun _ _ h=>h.ret
set_option maxRecDepth 100000 in
set_option maxHeartbeats 1000000 in
theorem SWrite_any (m:UInt8) (p:Option Addr) (n c s k:Nat) (xs:List UInt8) (h1:1≤k) (h2:k≤4096) (w:World) (h:Sl B8 w p n c xs) (hr:Room n) :
  Calls Tryz.prog 136 #[SVal m p n c s,.int .i64 (k:Nat)] w (SRet w (if srcC m n k = 0 then srcB m xs s else []) (srcC m n k)):=by
 have HW:Hid (∀ w,Calls Tryz.prog 160 #[SVal m p n c s,.int .i64 (k:Nat)] w fun e w'=>e = .returned (.int .i64 (srcC m n k))∧Below w.heap.size w w'):=fun w=>SFits_any m p n c s k h1 h2 w
 have H:=Lib.hid h
 have HR:=Lib.hid hr
 clear h1 h2 h hr
 by_cases hc:srcC m n k = 0
 ·rw [hc] at HW ⊢
  rw [if_pos rfl]
  clear hc
  by_cases h0:m = 0
  ·subst h0
   unfold srcB
   rw [if_pos rfl]
   go_enter Tryz.func136,Tryz.ntmps136
   go_wp2_with fail
   refine Calls.mono (HW.out _) ?_
   rintro e w1 ⟨rfl,hb⟩
   obtain ⟨hb1,h1,_⟩:=one_of hb
   have HB:=Lib.hid hb1
   obtain ⟨c0,c1,c2⟩:=cells_three h1
   clear hb hb1
   go_wp2_with fail
   refine Calls.mono (CloneB_any _ _ _ _ _ (H.out.keep HB.out) HR.out) ?_
   rintro e w2 ⟨q,c',rfl,ho,hb⟩
   have HB2:=Lib.hid (bl HB.out hb HB.out.size)
   have HO:=Lib.hid ho
   clear hb ho
   go_wp2
   go_ret2
   exact ⟨_,_,_,rfl,Sl.of_owns HO.out,HB2.out⟩
  ·unfold srcB
   rw [if_neg h0]
   have e0:=mode_eq h0
   clear h0
   go_enter Tryz.func136,Tryz.ntmps136
   go_wp2_with fail
   refine Calls.mono (HW.out _) ?_
   rintro e w1 ⟨rfl,hb⟩
   obtain ⟨hb1,h1,_⟩:=one_of hb
   have HB:=Lib.hid hb1
   obtain ⟨c0,c1,c2⟩:=cells_three h1
   clear hb hb1
   go_wp2_with fail
   refine Calls.mono (MPut_any s _) ?_
   rintro e w2 ⟨q,n',c',rfl,ho,hb⟩
   have HB2:=Lib.hid (bl HB.out hb HB.out.size)
   have HO:=Lib.hid ho
   clear hb ho
   go_wp2
   go_ret2
   exact ⟨_,_,_,rfl,HO.out,HB2.out⟩
 ·rw [if_neg hc]
  have e0:(srcC m n k != 0) = true:=bne_iff_ne.2 hc
  generalize srcC m n k = C at *
  clear hc
  go_enter Tryz.func136,Tryz.ntmps136
  go_wp2_with fail
  refine Calls.mono (HW.out _) ?_
  rintro e w1 ⟨rfl,hb⟩
  obtain ⟨hb1,h1,_⟩:=one_of hb
  have HB:=Lib.hid hb1
  clear hb hb1
  go_wp2
  go_ret2
  exact SRet.nil _ _ _ HB.out
end Go.Proofs.YtccaiiigdfieoaaGreatDoor
namespace Go.Proofs.YtccaiiigdfieoaaGreatDoor
open Go.RowKit Go.By
theorem src_ne:83≠5:=by decide
theorem info_source:(Tryz.prog.info? 83).map (·.size) = some 3:=by kernel_rfl
set_option maxRecDepth 100000 in
set_option maxHeartbeats 1000000 in
theorem RExplicit_any (p:Option Addr) (n c:Nat) (xs:List UInt8) (w:World) (h:Sl B8 w p n c xs) (hr:Room n) :
  Calls Tryz.prog 81 #[.slice p n c] w fun e w'=>∃ q c',e = .returned (SVal 0 q n c' 0)∧Fresh 5 w.heap.size w' q n c' xs∧Below w.heap.size w w':=by
 have H:=Lib.hid h
 have HR:=Lib.hid hr
 clear h hr
 go_enter Tryz.func81,Tryz.ntmps81
 go_wp2_with fail
 refine Calls.mono (CloneB_any _ _ _ _ _ (H.out.keep (al (Below.refl _ _) (Nat.le_refl _))) HR.out) ?_
 rintro e w2 ⟨q,c',rfl,ho,hb⟩
 obtain ⟨hb1,h1,_⟩:=one_of hb
 have HB:=Lib.hid hb1
 have HO:=Lib.hid ho
 clear hb hb1 ho
 go_wp2_with (refine wpList_store_row (o:=⟨none,.store 83 (.tmp 2) (.tmp 5),_,_,_,_⟩) rfl 83 (.tmp 2) (.tmp 5) rfl w.heap.size #[.int .u8 0,.slice q n c',.int .u64 0] rfl rfl _ _ h1 info_source rfl (by simp [Value.oneCell']) ?_)
 refine bodyPost_ret (results_cell_row rfl _ _ _ 83 #[.int .u8 0,.slice q n c',.int .u64 0] (0,0) _ rfl (hrs h1) Tryz.underlying83 rfl info_source) rfl ?_
 exact ⟨q,c',rfl,((Fresh.of_owns HO.out).mono (by simp)).row h1 src_ne,below_row HB.out (Nat.le_refl _)⟩
set_option maxRecDepth 100000 in
set_option maxHeartbeats 1000000 in
theorem RSeeded_any (s:Nat) (w:World) :
  Calls Tryz.prog 219 #[.int .u64 (s:Nat)] w fun e w'=>e = .returned (SVal 1 none 0 0 s)∧Below w.heap.size w w':=by
 go_enter Tryz.func219,Tryz.ntmps219
 go_wp2
 refine bodyPost_ret (results_cell_row rfl _ _ _ 83 #[.int .u8 1,.slice none 0 0,.int .u64 (s:Nat)] (0,0) _ rfl ?_ Tryz.underlying83 rfl info_source) rfl ?_
 ·exact hnew rfl
 ·exact ⟨rfl,al (Below.refl _ _) (Nat.le_refl _)⟩
def rdX (m:UInt8) (xs:List UInt8):List UInt8:=if m = 0 then xs else []
def rdS (m:UInt8) (xs:List UInt8):Nat:=if m = 0 then 0 else get8 xs
set_option maxRecDepth 100000 in
set_option maxHeartbeats 1000000 in
theorem RRead_any (m:UInt8) (k:Nat) (p:Option Addr) (n c:Nat) (xs:List UInt8) (w:World) (hm:modeC m = 0) (h1:1≤k) (h2:k≤4096) (h:Sl B8 w p n c xs) (hn:n = widS m k) :
  Calls Tryz.prog 175 #[B8 m,.int .i64 (k:Nat),.slice p n c] w fun e w'=>∃ q n' c',e = .returned (.tuple #[SVal m q n' c' (rdS m xs),.int .i64 0])∧Fresh 5 w.heap.size w' q n' c' (rdX m xs)∧Below w.heap.size w w':=by
 have HW:Hid (∀ w,Calls Tryz.prog 208 #[B8 m,.int .i64 (k:Nat)] w fun e w'=>e = .returned (.tuple #[.int .i64 (widS m k:Nat),.int .i64 0])∧Below w.heap.size w w'):=fun w=>by have:=RWidth_any m k h1 h2 w;rw [hm] at this;exact this
 have HR:Hid (Room n):=by show n≤140737488355328;rw [hn];unfold widS;split <;> (try split) <;> omega
 have H:=Lib.hid h
 have hm01:m = 0∨m = 1:=by
  unfold modeC at hm
  split at hm
  ·assumption
  ·cases hm
 have hnm:=h.bound
 have hn8:m = 1→n = 8:=fun e=>by rw [hn,e];rfl
 rw [← hn] at HW
 clear h1 h2 h hn hm
 rcases hm01 with rfl | rfl
 ·clear hn8
  unfold rdX rdS
  rw [if_pos rfl,if_pos rfl]
  go_enter Tryz.func175,Tryz.ntmps175
  go_wp2_with fail
  refine Calls.mono (HW.out _) ?_
  rintro e w1 ⟨rfl,hb⟩
  obtain ⟨hb1,h1,hs⟩:=one_of hb
  have HB:=Lib.hid hb1
  clear hb hb1
  go_wp2_with fail
  refine Calls.mono (RExplicit_any _ _ _ _ _ (H.out.keep HB.out) HR.out) ?_
  rintro e w2 ⟨q,c',rfl,hsl,hb⟩
  have h1':=(hb.block _ (by omega)).trans h1
  have HB2:=Lib.hid (bl HB.out hb HB.out.size)
  have HS:=Lib.hid (hsl.mono HB.out.size)
  clear hb hsl h1
  go_wp2_with (refine wpList_store_row (o:=⟨none,.store 83 (.tmp 6) (.tmp 29),_,_,_,_⟩) rfl 83 (.tmp 6) (.tmp 29) rfl w.heap.size #[.int .u8 0,.slice q n c',.int .u64 0] rfl rfl _ _ h1' info_source rfl (by simp [Value.oneCell']) ?_)
  refine bodyPost_ret (res_ct rfl _ _ _ 83 #[.int .u8 0,.slice q n c',.int .u64 0] (0,0) _ (.int .i64 0) rfl (hrs h1') rfl Tryz.underlying83 rfl info_source) rfl ?_
  exact ⟨q,n,c',rfl,HS.out.row h1' src_ne,below_row HB2.out (Nat.le_refl _)⟩
 ·obtain rfl:n = 8:=hn8 rfl
  clear hn8
  unfold rdX rdS
  rw [if_neg (by decide),if_neg (by decide)]
  obtain ⟨S,hS⟩:∃ S,get8 xs = S:=⟨_,rfl⟩
  rw [hS]
  have HSS:=Lib.hid hS
  clear hS
  go_enter Tryz.func175,Tryz.ntmps175
  go_wp2_with fail
  refine Calls.mono (HW.out _) ?_
  rintro e w1 ⟨rfl,hb⟩
  obtain ⟨hb1,h1,hs⟩:=one_of hb
  have HB:=Lib.hid hb1
  clear hb hb1
  go_wp2_with fail
  refine Calls.mono (MSeed_any _ _ _ _ _ (H.out.keep HB.out) rfl) ?_
  rintro e w2 ⟨rfl,hb⟩
  have h1':=(hb.block _ (by omega)).trans h1
  have HB2:=Lib.hid (bl HB.out hb HB.out.size)
  have hs2:=hb.size
  clear hb h1
  rw [HSS.out]
  go_wp2_with fail
  refine Calls.mono (RSeeded_any S _) ?_
  rintro e w3 ⟨rfl,hb⟩
  have h1:=(hb.block _ (by omega)).trans h1'
  have HB3:=Lib.hid (bl HB2.out hb HB2.out.size)
  clear hb h1'
  go_wp2_with (refine wpList_store_row (o:=⟨none,.store 83 (.tmp 6) (.tmp 40),_,_,_,_⟩) rfl 83 (.tmp 6) (.tmp 40) rfl w.heap.size #[.int .u8 1,.slice none 0 0,.int .u64 (S:Nat)] rfl rfl _ _ h1 info_source rfl (by simp [Value.oneCell']) ?_)
  refine bodyPost_ret (res_ct rfl _ _ _ 83 #[.int .u8 1,.slice none 0 0,.int .u64 (S:Nat)] (0,0) _ (.int .i64 0) rfl (hrs h1) rfl Tryz.underlying83 rfl info_source) rfl ?_
  exact ⟨none,0,0,rfl,Fresh.none _ _ _,below_row HB3.out (Nat.le_refl _)⟩
end Go.Proofs.YtccaiiigdfieoaaGreatDoor
namespace Go.Proofs.YtccaiiigdfieoaaGreatDoor
open Go.RowKit Go.By
structure POK (L t k D:Nat):Prop where
 chk:checkS (L:Int) (t:Int) (k:Int) = 0
 l:(L:Int)≤9223372036854775807
 t1:1≤t
 t2:t≤65535
 k1:1≤k
 k2:k≤4096
 d:D < 4294967296
abbrev PVal (L t k D:Nat):Value:=.agg #[.int .i64 (L:Nat),.int .i64 (t:Nat),.int .i64 (k:Nat),.int .u32 (D:Nat)]
theorem PCheck_ok {L t k D:Nat} (h:POK L t k D) (w:World):Calls Tryz.prog 79 #[PVal L t k D] w fun e w'=>e = .returned (.int .i64 0)∧Below w.heap.size w w':=by
 have:=Check_any (L:Int) (t:Int) (k:Int) (D:Int) w h.l
 rw [h.chk] at this
 exact this
def lenP (m:UInt8) (k t:Nat):Nat:=10 + widS m k + t + 4
set_option maxRecDepth 100000 in
set_option maxHeartbeats 1000000 in
theorem PLength_ok (L t k D:Nat) (m:UInt8) (w:World) (hP:POK L t k D) (hm:modeC m = 0) :
  Calls Tryz.prog 173 #[PVal L t k D,B8 m] w fun e w'=>e = .returned (.tuple #[.int .i64 (lenP m k t:Nat),.int .i64 0])∧Below w.heap.size w w':=by
 have HK:Hid (∀ w,Calls Tryz.prog 79 #[PVal L t k D] w fun e w'=>e = .returned (.int .i64 0)∧Below w.heap.size w w'):=PCheck_ok hP
 have HW:Hid (∀ w,Calls Tryz.prog 208 #[B8 m,.int .i64 (k:Nat)] w fun e w'=>e = .returned (.tuple #[.int .i64 (widS m k:Nat),.int .i64 0])∧Below w.heap.size w w'):=fun w=>by have:=RWidth_any m k hP.k1 hP.k2 w;rw [hm] at this;exact this
 have hV:widS m k≤4096:=by have:=hP.k1;have:=hP.k2;unfold widS;split <;> (try split) <;> omega
 have ht:=hP.t2
 have HL:Hid (lenP m k t = 10 + widS m k + t + 4):=rfl
 generalize lenP m k t = N at *
 generalize widS m k = V at *
 clear hP hm
 go_enter Tryz.func173,Tryz.ntmps173
 go_wp2_with fail
 refine Calls.mono (HK.out _) ?_
 rintro e w1 ⟨rfl,hb⟩
 obtain ⟨hb1,h1,hs⟩:=one_of hb
 have HB:=Lib.hid hb1
 obtain ⟨c0,c1,c2,c3⟩:=cells_four h1
 clear hb hb1
 go_wp2_with fail
 refine Calls.mono (HW.out _) ?_
 rintro e w2 ⟨rfl,hb⟩
 have h2:=(hb.block _ (by omega)).trans h1
 have HB2:=Lib.hid (bl HB.out hb HB.out.size)
 clear hb h1 c0 c1 c2 c3
 obtain ⟨c0,c1,c2,c3⟩:=cells_four h2
 go_wp2
 go_ret2
 refine ⟨?_,HB2.out⟩
 rw [HL.out]
 congr 4
abbrev PkVal (m:UInt8) (o n:Nat) (sm:UInt8) (p:Option Addr) (j c s:Nat) (q:Option Addr) (t d:Nat):Value:=.agg #[B8 m,.int .u32 (o:Nat),.int .u32 (n:Nat),B8 sm,.slice p j c,.int .u64 (s:Nat),.slice q t d]
theorem cells_seven {w:World} {b T:Nat} {u v x y z r e:Value} (h:w.heap[b]? = some (.cells #[u,v,x,y,z,r,e] T (0,0))):w.cell? ⟨b,0,none⟩ = some u∧w.cell? ⟨b,1,none⟩ = some v∧w.cell? ⟨b,2,none⟩ = some x∧w.cell? ⟨b,3,none⟩ = some y∧w.cell? ⟨b,4,none⟩ = some z∧w.cell? ⟨b,5,none⟩ = some r∧w.cell? ⟨b,6,none⟩ = some e :=
 ⟨cell_of_row _ _ 0 _ _ _ h,cell_of_row _ _ 1 _ _ _ h,cell_of_row _ _ 2 _ _ _ h,cell_of_row _ _ 3 _ _ _ h,cell_of_row _ _ 4 _ _ _ h,cell_of_row _ _ 5 _ _ _ h,cell_of_row _ _ 6 _ _ _ h⟩
set_option maxRecDepth 100000 in
set_option maxHeartbeats 2000000 in
theorem PFits_ok (L t k D n:Nat) (m:UInt8) (p:Option Addr) (j c s:Nat) (q:Option Addr) (d:Nat) (w:World) (hP:POK L t k D) (hm:modeC m = 0) (hj:m = 0→j = k) :
  Calls Tryz.prog 112 #[PkVal m D n m p j c s q t d,PVal L t k D] w fun e w'=>e = .returned (.int .i64 0)∧Below w.heap.size w w':=by
 have HK:Hid (∀ w,Calls Tryz.prog 79 #[PVal L t k D] w fun e w'=>e = .returned (.int .i64 0)∧Below w.heap.size w w'):=PCheck_ok hP
 have HC:Hid (∀ w,Calls Tryz.prog 177 #[HVal m D n] w fun e w'=>e = .returned (.int .i64 0)∧Below w.heap.size w w'):=fun w=>by have:=HCheck_any m D n w;rw [hm] at this;exact this
 have ht:=hP.t2
 clear hP hm
 by_cases h0:m = 0
 ·subst h0
  obtain rfl:=hj rfl
  clear hj
  go_enter Tryz.func112,Tryz.ntmps112
  go_wp2_with fail
  refine Calls.mono (HK.out _) ?_
  rintro e w1 ⟨rfl,hb⟩
  obtain ⟨hb1,h1,h2,hs⟩:=two_of hb
  have HB:=Lib.hid hb1
  obtain ⟨c0,c1,c2,c3,c4,c5,c6⟩:=cells_seven h1
  clear hb hb1
  go_wp2_with fail
  refine Calls.mono (HC.out _) ?_
  rintro e w2 ⟨rfl,hb⟩
  have h1':=(hb.block _ (by omega)).trans h1
  have h2':=(hb.block _ (by omega)).trans h2
  have HB2:=Lib.hid (bl HB.out hb HB.out.size)
  clear hb h1 h2 c0 c1 c2 c3 c4 c5 c6
  obtain ⟨c0,c1,c2,c3,c4,c5,c6⟩:=cells_seven h1'
  obtain ⟨d0,d1,d2,d3⟩:=cells_four h2'
  go_wp2
  go_ret
  exact ⟨rfl,HB2.out⟩
 ·have e0:=mode_eq h0
  clear hj h0
  go_enter Tryz.func112,Tryz.ntmps112
  go_wp2_with fail
  refine Calls.mono (HK.out _) ?_
  rintro e w1 ⟨rfl,hb⟩
  obtain ⟨hb1,h1,h2,hs⟩:=two_of hb
  have HB:=Lib.hid hb1
  obtain ⟨c0,c1,c2,c3,c4,c5,c6⟩:=cells_seven h1
  clear hb hb1
  go_wp2_with fail
  refine Calls.mono (HC.out _) ?_
  rintro e w2 ⟨rfl,hb⟩
  have h1':=(hb.block _ (by omega)).trans h1
  have h2':=(hb.block _ (by omega)).trans h2
  have HB2:=Lib.hid (bl HB.out hb HB.out.size)
  clear hb h1 h2 c0 c1 c2 c3 c4 c5 c6
  obtain ⟨c0,c1,c2,c3,c4,c5,c6⟩:=cells_seven h1'
  obtain ⟨d0,d1,d2,d3⟩:=cells_four h2'
  go_wp2
  go_ret
  exact ⟨rfl,HB2.out⟩
end Go.Proofs.YtccaiiigdfieoaaGreatDoor
namespace Go.Proofs.YtccaiiigdfieoaaGreatDoor
open Go.RowKit Go.By
def bodyP (m:UInt8) (o n:Nat) (xs:List UInt8) (s:Nat) (ys:List UInt8):List UInt8:=headB m o n ++ srcB m xs s ++ ys
def pktB (m:UInt8) (o n:Nat) (xs:List UInt8) (s:Nat) (ys:List UInt8):List UInt8:=bodyP m o n xs s ys ++ put4 (crcS (bodyP m o n xs s ys))
set_option maxRecDepth 100000 in
set_option maxHeartbeats 4000000 in
theorem PWrite_okF (L t k D n:Nat) (m:UInt8) (p:Option Addr) (j c s:Nat) (q:Option Addr) (d:Nat) (xs ys:List UInt8) (w:World) (hP:POK L t k D) (hn:n < 4294967296) (hm:modeC m = 0) (hj:m = 0→j = k) (hr:Room j) (h1:Sl B8 w p j c xs) (h2:Sl B8 w q t d ys) (hT:HalfT w) :
  Calls Tryz.prog 82 #[PkVal m D n m p j c s q t d,PVal L t k D] w (SRetF 5 w (pktB m D n xs s ys) 0):=by
 have HF:Hid (∀ w,Calls Tryz.prog 112 #[PkVal m D n m p j c s q t d,PVal L t k D] w fun e w'=>e = .returned (.int .i64 0)∧Below w.heap.size w w'):=fun w=>PFits_ok L t k D n m p j c s q d w hP hm hj
 have HH:Hid (∀ w,Calls Tryz.prog 135 #[HVal m D n] w (SRet w (headB m D n) 0)):=fun w=>by have:=HBytes_any m D n hP.d hn w;rw [hm,if_pos rfl] at this;exact this
 have hsc:srcC m j k = 0:=by
  unfold srcC
  by_cases h0:m = 0
  ·rw [if_pos h0,if_pos (hj h0)]
  ·rw [if_neg h0,hm]
 have HS:Hid (∀ w,Sl B8 w p j c xs→Calls Tryz.prog 136 #[SVal m p j c s,.int .i64 (k:Nat)] w (SRet w (srcB m xs s) 0)):=fun w h=>by have:=SWrite_any m p j c s k xs hP.k1 hP.k2 w h hr;rw [hsc,if_pos rfl] at this;exact this
 have HT:=Lib.hid hT
 have H1:=Lib.hid h1
 have H2:=Lib.hid h2
 obtain ⟨B,hB⟩:∃ B,headB m D n = B:=⟨_,rfl⟩
 obtain ⟨S,hS⟩:∃ S,srcB m xs s = S:=⟨_,rfl⟩
 have hBl:B.length = 10:=by rw [← hB];simp [headB,put4_len]
 have hSl : S.length ≤ 140737488355328 := by rw [← hS]; unfold srcB; split; · rw [h1.len]; exact hr
                                             ·rw [put8_len];decide
 have hYl:=h2.len
 have ht2:=hP.t2
 have HRm:Hid (Room [B,S,ys,put4 (crcS [B,S,ys].flatten)].flatten.length):=by
  show _≤_
  simp [put4_len]
  have:=hr
  unfold srcB at hS
  by_cases h0:m = 0
  ·rw [if_pos h0] at hS
   have:=hj h0;have:=hP.k2;have:=h1.len;rw [hS] at this;omega
  ·rw [if_neg h0] at hS
   have:=put8_len s;rw [hS] at this;omega
 have hE:pktB m D n xs s ys = [B,S,ys,put4 (crcS [B,S,ys].flatten)].flatten:=by
  unfold pktB bodyP
  rw [hB,hS];simp
 rw [hE]
 rw [hB] at HH
 rw [hS] at HS
 have HL:Hid (crcS [B,S,ys].flatten < 4294967296):=crcS_lt _
 clear hB hS hBl hSl hYl ht2 hE hsc h1 h2 hT hr hj hm hP hn
 go_enter Tryz.func82,Tryz.ntmps82
 go_wp2_with fail
 refine Calls.mono (HF.out _) ?_
 rintro e w1 ⟨rfl,hb⟩
 obtain ⟨hb1,h1,h2,hs⟩:=two_of hb
 have HB:=Lib.hid hb1
 obtain ⟨c0,c1,c2,c3,c4,c5,c6⟩:=cells_seven h1
 clear hb hb1
 go_wp2_with fail
 refine Calls.mono (HH.out _) ?_
 rintro e w2 ⟨q1,n1,k1,rfl,hq,hb⟩
 have h1':=(hb.block _ (by omega)).trans h1
 have h2':=(hb.block _ (by omega)).trans h2
 have hs2:=hb.size
 have HB2:=Lib.hid (bl HB.out hb HB.out.size)
 have HQ:=Lib.hid hq
 clear hb hq h1 h2 c0 c1 c2 c3 c4 c5 c6
 obtain ⟨c0,c1,c2,c3,c4,c5,c6⟩:=cells_seven h1'
 obtain ⟨d0,d1,d2,d3⟩:=cells_four h2'
 go_wp2_with fail
 refine Calls.mono (HS.out _ (H1.out.keep HB2.out)) ?_
 rintro e w3 ⟨q2,n2,k2,rfl,hq,hb⟩
 have h1:=(hb.block _ (by omega)).trans h1'
 have HB3:=Lib.hid (bl HB2.out hb HB2.out.size)
 have HQ1:=Lib.hid (HQ.out.keep hb)
 have HQ2:=Lib.hid hq
 have H2':=Lib.hid (H2.out.keep HB3.out)
 have HT':=Lib.hid (HT.out.keep HB3.out)
 clear hb hq h1' h2' c0 c1 c2 c3 c4 c5 c6 d0 d1 d2 d3
 have c6:=(cells_seven h1).2.2.2.2.2.2
 clear h1
 go_wp2_with fail
 refine wp_region_shapes (fun ix=>([.val (.slice q1 n1 k1),.val (.slice q2 n2 k2),.val (.pointer (some ⟨w.heap.size,6,none⟩)),.val (.slice q t d),.val (.slice q1 n1 k1),.val (.slice q2 n2 k2),.val (.pointer (some ⟨w.heap.size,6,none⟩)),.val (.slice q t d),.rows ([B,S,ys]),.val (.int .u32 (crcS [B,S,ys].flatten:Nat)),.bytes (put4 (crcS [B,S,ys].flatten)),.rows ([B,S,ys,put4 (crcS [B,S,ys].flatten)]),(ShF 5 w.heap.size ([B,S,ys,put4 (crcS [B,S,ys].flatten)].flatten)),(ShF 5 w.heap.size ([B,S,ys,put4 (crcS [B,S,ys].flatten)].flatten)),.val (.int .i64 0)][ix]?).getD (.any)) 49 rfl (by kernel_rfl) (by decide +kernel) (by decide +kernel) (by decide +kernel) ?_ ?_
 ·refine ⟨?_,?_,?_,?_,?_,?_,?_,?_,?_,?_,?_,?_,?_,?_,?_,trivial⟩
  ·intro a W hb0 hs hp hi;have hb:=undrew hb0;clear hb0
   have t7:sl a 7 = .slice q1 n1 k1:=hi 7 (by decide)
   exact ite_y rfl (wp_val (sl a 7) rfl ⟨_,rfl,Below.refl _ _,t7⟩)
  ·intro a W hb0 hs hp hi;have hb:=undrew hb0;clear hb0
   have t9:sl a 9 = .slice q2 n2 k2:=hi 9 (by decide)
   exact ite_y rfl (wp_val (sl a 9) rfl ⟨_,rfl,Below.refl _ _,t9⟩)
  ·intro a W hb0 hs hp hi;have hb:=undrew hb0;clear hb0
   have t2:sl a 2 = .pointer (some ⟨w.heap.size,0,none⟩):=hi 2 (by decide)
   refine ite_y rfl (wp_val (.pointer (some ⟨w.heap.size,6,none⟩)) ?_ ?_)
   ·simp only [execOp,eval_tmp,eval_const,t2];simp [go_sem]
   ·exact ⟨_,rfl,Below.refl _ _,rfl⟩
  ·intro a W hb0 hs hp hi;have hb:=undrew hb0;clear hb0
   have tt:sl a 38 = .pointer (some ⟨w.heap.size,6,none⟩):=hp 2 (by decide)
   have dd:=(hb.cell (p:=⟨w.heap.size,6,none⟩) (lt_of_cell c6)).trans c6
   refine ite_y rfl (wp_val (.slice q t d) ?_ ?_)
   ·simp only [execOp,eval_tmp,tt];simp [go_sem,dd]
   ·exact ⟨_,rfl,Below.refl _ _,rfl⟩
  ·intro a W hb0 hs hp hi;have hb:=undrew hb0;clear hb0
   have t7:sl a 7 = .slice q1 n1 k1:=hi 7 (by decide)
   exact ite_y rfl (wp_val (sl a 7) rfl ⟨_,rfl,Below.refl _ _,t7⟩)
  ·intro a W hb0 hs hp hi;have hb:=undrew hb0;clear hb0
   have t9:sl a 9 = .slice q2 n2 k2:=hi 9 (by decide)
   exact ite_y rfl (wp_val (sl a 9) rfl ⟨_,rfl,Below.refl _ _,t9⟩)
  ·intro a W hb0 hs hp hi;have hb:=undrew hb0;clear hb0
   have t2:sl a 2 = .pointer (some ⟨w.heap.size,0,none⟩):=hi 2 (by decide)
   refine ite_y rfl (wp_val (.pointer (some ⟨w.heap.size,6,none⟩)) ?_ ?_)
   ·simp only [execOp,eval_tmp,eval_const,t2];simp [go_sem]
   ·exact ⟨_,rfl,Below.refl _ _,rfl⟩
  ·intro a W hb0 hs hp hi;have hb:=undrew hb0;clear hb0
   have tt:sl a 42 = .pointer (some ⟨w.heap.size,6,none⟩):=hp 6 (by decide)
   have dd:=(hb.cell (p:=⟨w.heap.size,6,none⟩) (lt_of_cell c6)).trans c6
   refine ite_y rfl (wp_val (.slice q t d) ?_ ?_)
   ·simp only [execOp,eval_tmp,tt];simp [go_sem,dd]
   ·exact ⟨_,rfl,Below.refl _ _,rfl⟩
  ·intro a W hb0 hs hp hi;have hb:=undrew hb0;clear hb0
   have t40:sl a 40 = .slice q1 n1 k1:=hp 4 (by decide)
   have t41:sl a 41 = .slice q2 n2 k2:=hp 5 (by decide)
   have t43:sl a 43 = .slice q t d:=hp 7 (by decide)
   have v40:a.tmps[40]?.getD undef = sl a 40:=by simp [sl]
   rw [t40] at v40
   have v41:a.tmps[41]?.getD undef = sl a 41:=by simp [sl]
   rw [t41] at v41
   have v43:a.tmps[43]?.getD undef = sl a 43:=by simp [sl]
   rw [t43] at v43
   refine ite_y rfl (wp_val' (w':=W.alloc (.cells #[.slice q1 n1 k1,.slice q2 n2 k2,.slice q t d] 22)) (.slice (some ⟨W.heap.size,0,none⟩) 3 3) ?_ ?_)
   ·simp only [execOp,eval_tmp,eval_const,t40,t41,t43];simp [go_sem,v40,v41,v43]
   ·exact ⟨_,rfl,(al (Below.refl _ _) (Nat.le_refl _)),_,_,_,rfl,sl2_three (hnew rfl) ((HQ1.out.keep hb).keep (al (Below.refl _ _) (Nat.le_refl _))) ((HQ2.out.keep hb).keep (al (Below.refl _ _) (Nat.le_refl _))) ((H2'.out.keep hb).keep (al (Below.refl _ _) (Nat.le_refl _)))⟩
  ·intro a W hb0 hs hp hi;have hb:=undrew hb0;clear hb0
   have t44:RowsIs ([B,S,ys]) (sl a 44) W:=hp 8 (by decide)
   obtain ⟨y44a,y44b,y44c,t44,z44a⟩:=t44
   refine ite_y rfl (wp_enter 139 #[.slice y44a y44b y44c] ?_ (SOf_any _ _ _ _ _ z44a (HT'.out.keep hb)) ?_)
   ·simp only [execOp,resolve,List.map_toArray,List.map,eval_tmp,eval_func,eval_const,t44];simp [go_sem]
   ·rintro e W' ⟨rfl,hw⟩;exact ⟨_,rfl,_,rfl,hw,rfl⟩
  ·intro a W hb0 hs hp hi;have hb:=undrew hb0;clear hb0
   have t45:sl a 45 = .int .u32 (crcS [B,S,ys].flatten:Nat):=hp 9 (by decide)
   refine ite_y rfl (wp_enter 138 #[.int .u32 (crcS [B,S,ys].flatten:Nat)] ?_ (SPut_any _ HL.out _) ?_)
   ·simp only [execOp,resolve,List.map_toArray,List.map,eval_tmp,eval_func,eval_const,t45];simp [go_sem]
   ·rintro e W' ⟨g5,rfl,hg5,h5,hw⟩;exact ⟨_,rfl,_,rfl,hw,_,_,_,rfl,sl_block (put4 _) 4 h5 rfl (put4_len _) (by simp [maxLen])⟩
  ·intro a W hb0 hs hp hi;have hb:=undrew hb0;clear hb0
   have t36:sl a 36 = .slice q1 n1 k1:=hp 0 (by decide)
   have t37:sl a 37 = .slice q2 n2 k2:=hp 1 (by decide)
   have t39:sl a 39 = .slice q t d:=hp 3 (by decide)
   have t46:BytesIs (put4 (crcS [B,S,ys].flatten)) (sl a 46) W:=hp 10 (by decide)
   obtain ⟨y46a,y46b,y46c,t46,z46a⟩:=t46
   have v36:a.tmps[36]?.getD undef = sl a 36:=by simp [sl]
   rw [t36] at v36
   have v37:a.tmps[37]?.getD undef = sl a 37:=by simp [sl]
   rw [t37] at v37
   have v39:a.tmps[39]?.getD undef = sl a 39:=by simp [sl]
   rw [t39] at v39
   have v46:a.tmps[46]?.getD undef = sl a 46:=by simp [sl]
   rw [t46] at v46
   refine ite_y rfl (wp_val' (w':=W.alloc (.cells #[.slice q1 n1 k1,.slice q2 n2 k2,.slice q t d,.slice y46a y46b y46c] 22)) (.slice (some ⟨W.heap.size,0,none⟩) 4 4) ?_ ?_)
   ·simp only [execOp,eval_tmp,eval_const,t36,t37,t39,t46];simp [go_sem,v36,v37,v39,v46]
   ·exact ⟨_,rfl,(al (Below.refl _ _) (Nat.le_refl _)),_,_,_,rfl,sl2_four (hnew rfl) ((HQ1.out.keep hb).keep (al (Below.refl _ _) (Nat.le_refl _))) ((HQ2.out.keep hb).keep (al (Below.refl _ _) (Nat.le_refl _))) ((H2'.out.keep hb).keep (al (Below.refl _ _) (Nat.le_refl _))) (z46a.keep (al (Below.refl _ _) (Nat.le_refl _)))⟩
  ·intro a W hb0 hs hp hi;have hb:=undrew hb0;clear hb0
   have t47:RowsIs ([B,S,ys,put4 (crcS [B,S,ys].flatten)]) (sl a 47) W:=hp 11 (by decide)
   obtain ⟨y47a,y47b,y47c,t47,z47a⟩:=t47
   refine ite_y rfl (wp_enter 137 #[.slice y47a y47b y47c] ?_ (Concat_any _ _ _ _ _ z47a HRm.out) ?_)
   ·simp only [execOp,resolve,List.map_toArray,List.map,eval_tmp,eval_func,eval_const,t47];simp [go_sem]
   ·rintro e W' ⟨q5,m5,g5,_,rfl,o5,hw⟩;exact ⟨_,rfl,_,rfl,hw,q5,m5,g5,rfl,(Fresh.of_owns o5).mono (Nat.le_trans HB3.out.size hb.size)⟩
  ·intro a W hb0 hs hp hi;have hb:=undrew hb0;clear hb0
   exact ite_y rfl (wp_val (sl a 48) rfl ⟨_,rfl,Below.refl _ _,hp 12 (by decide)⟩)
  ·intro a W hb0 hs hp hi;have hb:=undrew hb0;clear hb0
   exact ite_y rfl (wp_val (.int .i64 0) rfl ⟨_,rfl,Below.refl _ _,rfl⟩)
 intro a w9 hb hs hd hI ht
 have ha:=act_is [36,37,38,39,40,41,42,43,44,45,46,47,48,4,5] hs hd ht (by decide)
 have t5:sl a 5 = .int .i64 0:=hI 14 (by decide)
 have y4:(ShF 5 w.heap.size ([B,S,ys,put4 (crcS [B,S,ys].flatten)].flatten)).ok (sl a 4) w9:=hI 13 (by decide)
 obtain ⟨q9,n9,c9,t4,z4⟩:=y4
 simp only [List.foldl,t5,t4] at ha
 generalize sl a 36 = u36 at ha
 generalize sl a 37 = u37 at ha
 generalize sl a 38 = u38 at ha
 generalize sl a 39 = u39 at ha
 generalize sl a 40 = u40 at ha
 generalize sl a 41 = u41 at ha
 generalize sl a 42 = u42 at ha
 generalize sl a 43 = u43 at ha
 generalize sl a 44 = u44 at ha
 generalize sl a 45 = u45 at ha
 generalize sl a 46 = u46 at ha
 generalize sl a 47 = u47 at ha
 generalize sl a 48 = u48 at ha
 simp only [Act.put,List.setIfInBounds_toArray,List.set_cons_zero,List.set_cons_succ] at ha
 rw [ha]
 clear ha hI ht
 go_wp2
 go_ret2
 exact ⟨_,_,_,rfl,z4.read (by simp),bl HB3.out hb HB3.out.size⟩
end Go.Proofs.YtccaiiigdfieoaaGreatDoor
namespace Go.Proofs.YtccaiiigdfieoaaGreatDoor
open Go.RowKit Go.By
def headC (xs:List UInt8):Int:=if xs.length < 10 then 6 else if xs.getD 0 0≠1 then 7 else modeC (xs.getD 1 0)
theorem headC_mode {xs:List UInt8} (h:headC xs = 0):modeC (xs.getD 1 0) = 0:=by
 unfold headC at h
 split at h
 ·cases h
 ·split at h
  ·cases h
  ·exact h
theorem info_head:(Tryz.prog.info? 120).map (·.size) = some 3:=by kernel_rfl
theorem at_get {xs:List UInt8} {i:Nat} {x:UInt8} (h:xs[i]? = some x):xs.getD i 0 = x:=by rw [List.getD_eq_getElem?_getD,h];rfl
def HRet (w:World) (m:UInt8) (o n:Nat) (code:Int) (e:Ending) (w':World):Prop :=
 ∃ q k c,e = .returned (.tuple #[HVal m o n,.slice q k c,.int .i64 code])∧Below w.heap.size w w'
set_option maxRecDepth 100000 in
set_option maxHeartbeats 2000000 in
theorem HRead_short (p:Option Addr) (n c:Nat) (w:World) (hn:n < 10) :
  Calls Tryz.prog 172 #[.slice p n c] w (HRet w 0 0 0 6):=by
 have HN:=Lib.hid hn
 go_enter Tryz.func172,Tryz.ntmps172
 go_wp2
 refine bodyPost_ret (res_ctt rfl _ _ _ 120 #[.int .u8 0,.int .u32 0,.int .u32 0] (0,0) _ (.slice none 0 0) (.int .i64 6) rfl ?_ rfl rfl Tryz.underlying120 rfl info_head) rfl ?_
 ·exact hnew rfl
 ·exact ⟨none,0,0,rfl,al (Below.refl _ _) (Nat.le_refl _)⟩
set_option maxRecDepth 100000 in
set_option maxHeartbeats 2000000 in
theorem HRead_version (b o n c:Nat) (w:World) (hn:10≤n) (x0:UInt8) (k0:w.cell? ⟨b,o,none⟩ = some (B8 x0)) (hx:x0≠1) (hm:n≤9223372036854775807) :
  Calls Tryz.prog 172 #[.slice (some ⟨b,o,none⟩) n c] w (HRet w 0 0 0 7):=by
 have e1:((x0.toNat:Int) != 1) = true:=bne_iff_ne.2 fun e=>hx (UInt8.toNat_inj.1 (by show x0.toNat = 1;omega))
 have HN:=Lib.hid hn
 have a0:∀ o',(w.alloc o').cell? ⟨b,o,none⟩ = some (B8 x0):=fun _=>calloc k0
 clear hx k0
 go_enter Tryz.func172,Tryz.ntmps172
 go_wp2
 refine bodyPost_ret (res_ctt rfl _ _ _ 120 #[.int .u8 0,.int .u32 0,.int .u32 0] (0,0) _ (.slice none 0 0) (.int .i64 7) rfl ?_ rfl rfl Tryz.underlying120 rfl info_head) rfl ?_
 ·exact hnew rfl
 ·exact ⟨none,0,0,rfl,al (Below.refl _ _) (Nat.le_refl _)⟩
set_option maxRecDepth 100000 in
set_option maxHeartbeats 2000000 in
theorem HRead_mode (b o n c:Nat) (w:World) (hn:10≤n) (x1:UInt8) (k0:w.cell? ⟨b,o,none⟩ = some (B8 1)) (k1:w.cell? ⟨b,o + 1,none⟩ = some (B8 x1)) (hx:modeC x1 = 8) (hm:n≤9223372036854775807) :
  Calls Tryz.prog 172 #[.slice (some ⟨b,o,none⟩) n c] w (HRet w 0 0 0 8):=by
 have HK:Hid (∀ w,Calls Tryz.prog 177 #[HVal x1 0 0] w fun e w'=>e = .returned (.int .i64 8)∧Below w.heap.size w w'):=fun w=>by have:=HCheck_any x1 0 0 w;rw [hx] at this;exact this
 have HN:=Lib.hid hn
 have a0:∀ o',(w.alloc o').cell? ⟨b,o,none⟩ = some (B8 1):=fun _=>calloc k0
 have a1:∀ o',(w.alloc o').cell? ⟨b,o + 1,none⟩ = some (B8 x1):=fun _=>calloc k1
 clear hx k0 k1
 go_enter Tryz.func172,Tryz.ntmps172
 go_wp2_with fail
 refine Calls.mono (HK.out _) ?_
 rintro e w1 ⟨rfl,hb1⟩
 obtain ⟨hb,h0,h1,hsz⟩:=two_of hb1
 have HB:=Lib.hid hb
 clear hb1 hb
 go_wp2_with (refine wpList_store_row (o:=⟨none,.store 120 (.tmp 2) (.tmp 24),_,_,_,_⟩) rfl 120 (.tmp 2) (.tmp 24) rfl w.heap.size #[.int .u8 0,.int .u32 0,.int .u32 0] rfl rfl _ _ h0 info_head rfl (by simp [Value.oneCell']) ?_)
 refine bodyPost_ret (res_ctt rfl _ _ _ 120 #[.int .u8 0,.int .u32 0,.int .u32 0] (0,0) _ (.slice none 0 0) (.int .i64 8) rfl ?_ rfl rfl Tryz.underlying120 rfl info_head) rfl ?_
 ·exact hrs h0
 ·exact ⟨none,0,0,rfl,below_row HB.out (Nat.le_refl _)⟩
set_option maxRecDepth 100000 in
set_option maxHeartbeats 2000000 in
theorem HRead_good (b o n c:Nat) (xs:List UInt8) (w:World) (h:Sl B8 w (some ⟨b,o,none⟩) n c xs) (hr:Room n) (hn:10≤n) (x1:UInt8) (k0:w.cell? ⟨b,o,none⟩ = some (B8 1)) (k1:w.cell? ⟨b,o + 1,none⟩ = some (B8 x1)) (hx:modeC x1 = 0) :
  Calls Tryz.prog 172 #[.slice (some ⟨b,o,none⟩) n c] w (HRet w x1 (get4 ((xs.drop 2).take 4)) (get4 ((xs.drop 6).take 4)) 0):=by
 obtain ⟨A,hA⟩:∃ A,get4 ((xs.drop 2).take 4) = A:=⟨_,rfl⟩
 obtain ⟨B,hB⟩:∃ B,get4 ((xs.drop 6).take 4) = B:=⟨_,rfl⟩
 rw [hA,hB]
 have HA:=Lib.hid hA
 have HBB:=Lib.hid hB
 clear hA hB
 have HK:Hid (∀ w,Calls Tryz.prog 177 #[HVal x1 0 0] w fun e w'=>e = .returned (.int .i64 0)∧Below w.heap.size w w'):=fun w=>by have:=HCheck_any x1 0 0 w;rw [hx] at this;exact this
 have HN:=Lib.hid hn
 have H:=Lib.hid h
 have HR:=Lib.hid hr
 have hm:=h.bound
 have hle:=h.le
 have hmx:=h.max
 unfold maxLen at hmx
 have a0:∀ o',(w.alloc o').cell? ⟨b,o,none⟩ = some (B8 1):=fun _=>calloc k0
 have a1:∀ o',(w.alloc o').cell? ⟨b,o + 1,none⟩ = some (B8 x1):=fun _=>calloc k1
 clear hx k0 k1 h hr
 go_enter Tryz.func172,Tryz.ntmps172
 go_wp2_with fail
 refine Calls.mono (HK.out _) ?_
 rintro e w1 ⟨rfl,hb1⟩
 obtain ⟨hb,h0,h1,hsz⟩:=two_of hb1
 have HB:=Lib.hid hb
 clear hb1 hb a0 a1
 go_wp2_with fail
 refine Calls.mono (SGet_any _ _ _ _ _ (Sl.part (k:=2) (m:=4) (H.out.keep HB.out) (by omega))) ?_
 rintro e w2 ⟨rfl,hb2⟩
 rw [if_pos rfl,HA.out]
 have h0':=(hb2.block _ (by omega)).trans h0
 have h1':=(hb2.block _ (by omega)).trans h1
 have HB2:=Lib.hid (bl HB.out hb2 HB.out.size)
 have hs2:=hb2.size
 obtain ⟨j0,j1,j2⟩:=cells_three h1'
 have z1:=frozen_of_row _ _ 1 _ _ h1'
 have z2:=frozen_of_row _ _ 2 _ _ h1'
 clear hb2 h0 h1
 go_wp2_with fail
 have HB3:=Lib.hid (HB2.out.setCell (p:=⟨w.heap.size + 1,1,none⟩) (by simp) (.int .u32 (A:Nat)))
 refine Calls.mono (SGet_any _ _ _ _ _ (Sl.part (k:=6) (m:=4) (H.out.keep HB3.out) (by omega))) ?_
 rintro e w3 ⟨rfl,hb3⟩
 rw [if_pos rfl,HBB.out]
 have h0:w3.heap[w.heap.size]? = some (.cells #[.int .u8 0,.int .u32 0,.int .u32 0] 120 (0,0)):=(hb3.block _ (by simp [World.setCell];omega)).trans (hsc h0' (by simp))
 have h1:w3.heap[w.heap.size + 1]? = some (.cells #[B8 x1,.int .u32 (A:Nat),.int .u32 0] 120 (0,0)):=(hb3.block _ (by simp [World.setCell];omega)).trans (hss h1')
 have HB4:=Lib.hid (bl HB3.out hb3 HB3.out.size)
 have hs3:w.heap.size + 2≤w3.heap.size:=by have:=hb3.size;simp [World.setCell] at this;omega
 clear hb3 h0' h1' z1 z2 j0 j1 j2 hs2 hsz
 have z2:=frozen_of_row _ _ 2 _ _ h1
 obtain ⟨j0,j1,j2⟩:=cells_three h1
 go_wp2_with fail
 have HB5:=Lib.hid (HB4.out.setCell (p:=⟨w.heap.size + 1,2,none⟩) (by simp) (.int .u32 (B:Nat)))
 have h0':(w3.setCell ⟨w.heap.size + 1,2,none⟩ (.int .u32 (B:Nat))).heap[w.heap.size]? = some (.cells #[.int .u8 0,.int .u32 0,.int .u32 0] 120 (0,0)):=hsc h0 (by simp)
 have h1':(w3.setCell ⟨w.heap.size + 1,2,none⟩ (.int .u32 (B:Nat))).heap[w.heap.size + 1]? = some (.cells #[B8 x1,.int .u32 (A:Nat),.int .u32 (B:Nat)] 120 (0,0)):=hss h1
 have hs4:w.heap.size + 2≤(w3.setCell ⟨w.heap.size + 1,2,none⟩ (.int .u32 (B:Nat))).heap.size:=by simp [World.setCell];omega
 clear z2 j0 j1 j2 h0 h1 hs3
 generalize w3.setCell ⟨w.heap.size + 1,2,none⟩ (.int .u32 (B:Nat)) = w4 at *
 obtain ⟨c0,c1,c2⟩:=cells_three h1'
 have S:=Lib.hid (H.out.keep HB5.out)
 have h10:(10:Int)≤(n:Int):=by omega
 clear HB HB2 HB3 HB4
 refine wp_region_tail (fun ix=>([.val (.agg #[B8 x1,.int .u32 (A:Nat),.int .u32 (B:Nat)]),.val (.slice (some ⟨b,o,none⟩) n c),.val (.slice (if c = 10 then some ⟨b,o,none⟩ else some ⟨b,o + 10,none⟩) (n - 10) (c - 10)),.bytes (xs.drop 10),.any,.any,.any][ix]?).getD (.any)) 44 4 rfl (by kernel_rfl) (by decide) (by decide) (by decide) (by decide) ?_ ?_
 ·refine ⟨?_,?_,?_,?_,trivial⟩
  ·intro a W hb0 hs hp hi;have hb:=undrew hb0;clear hb0
   have tt:sl a 5 = .pointer (some ⟨(w.heap.size + 1),0,none⟩):=hi 5 (by decide)
   have dd0:=(hb.cell (p:=⟨(w.heap.size + 1),0,none⟩) (lt_of_cell c0)).trans c0
   have dd1:=(hb.cell (p:=⟨(w.heap.size + 1),1,none⟩) (lt_of_cell c1)).trans c1
   have dd2:=(hb.cell (p:=⟨(w.heap.size + 1),2,none⟩) (lt_of_cell c2)).trans c2
   refine ite_y rfl (wp_val (.agg #[B8 x1,.int .u32 (A:Nat),.int .u32 (B:Nat)]) ?_ ?_)
   ·simp only [execOp,eval_tmp,tt];simp [go_sem,dd0,dd1,dd2]
   ·exact ⟨_,rfl,Below.refl _ _,rfl⟩
  ·intro a W hb0 hs hp hi;have hb:=undrew hb0;clear hb0
   have t0:sl a 0 = .slice (some ⟨b,o,none⟩) n c:=hi 0 (by decide)
   exact ite_y rfl (wp_val (sl a 0) rfl ⟨_,rfl,Below.refl _ _,t0⟩)
  ·intro a W hb0 hs hp hi;have hb:=undrew hb0;clear hb0
   have t41:sl a 41 = .slice (some ⟨b,o,none⟩) n c:=hp 1 (by decide)
   refine ite_y rfl (wp_val (.slice (if c = 10 then some ⟨b,o,none⟩ else some ⟨b,o + 10,none⟩) (n - 10) (c - 10)) ?_ ?_)
   ·simp only [execOp,eval_tmp,eval_const,t41];simp [go_sem,h10]
   ·exact ⟨_,rfl,Below.refl _ _,rfl⟩
  ·intro a W hb0 hs hp hi;have hb:=undrew hb0;clear hb0
   have t42:sl a 42 = .slice (if c = 10 then some ⟨b,o,none⟩ else some ⟨b,o + 10,none⟩) (n - 10) (c - 10):=hp 2 (by decide)
   refine ite_y rfl (wp_enter 129 #[.slice (if c = 10 then some ⟨b,o,none⟩ else some ⟨b,o + 10,none⟩) (n - 10) (c - 10)] ?_ (CloneB_any _ _ _ _ _ (Sl.tail 10 (S.out.keep hb) HN.out) (HR.out.le (by omega))) ?_)
   ·simp only [execOp,resolve,List.map_toArray,List.map,eval_tmp,eval_func,eval_const,t42];simp [go_sem]
   ·rintro e W' ⟨q5,g5,rfl,o5,hw⟩;exact ⟨_,rfl,_,rfl,hw,q5,_,g5,rfl,Sl.of_owns o5⟩
 intro a w9 hb hs hd hI ht
 have ha:=act_is [40,41,42,43,3,4] hs hd ht (by decide)
 have t40:sl a 40 = .agg #[B8 x1,.int .u32 (A:Nat),.int .u32 (B:Nat)]:=hI 0 (by decide)
 have y43:=hI 3 (by decide)
 obtain ⟨q9,n9,c9,t43,z43⟩:=y43
 simp only [List.foldl,t40,t43] at ha
 generalize sl a 41 = u41 at ha
 generalize sl a 42 = u42 at ha
 generalize sl a 3 = u3 at ha
 generalize sl a 4 = u4 at ha
 simp only [Act.put,List.setIfInBounds_toArray,List.set_cons_zero,List.set_cons_succ] at ha
 rw [ha];clear ha hI ht hs hd
 simp only [List.drop_succ_cons,List.drop_zero]
 have h0:=(hb.block _ (by omega)).trans h0'
 have HB6:=Lib.hid (bl HB5.out hb HB5.out.size)
 clear hb h0' h1' c0 c1 c2 h10
 go_wp2_with (refine wpList_store_row (o:=⟨none,.store 120 (.tmp 2) (.tmp 40),_,_,_,_⟩) rfl 120 (.tmp 2) (.tmp 40) rfl w.heap.size #[B8 x1,.int .u32 (A:Nat),.int .u32 (B:Nat)] rfl rfl _ _ h0 info_head rfl (by simp [Value.oneCell']) ?_)
 refine bodyPost_ret (res_ctt rfl _ _ _ 120 #[B8 x1,.int .u32 (A:Nat),.int .u32 (B:Nat)] (0,0) _ (.slice q9 n9 c9) (.int .i64 0) rfl ?_ rfl rfl Tryz.underlying120 rfl info_head) rfl ?_
 ·exact hrs h0
 ·exact ⟨_,_,_,rfl,below_row HB6.out (Nat.le_refl _)⟩
theorem HRead_any (p:Option Addr) (n c:Nat) (xs:List UInt8) (w:World) (h:Sl B8 w p n c xs) (hr:Room n) :
  Calls Tryz.prog 172 #[.slice p n c] w (if headC xs = 0 then HRet w (xs.getD 1 0) (get4 ((xs.drop 2).take 4)) (get4 ((xs.drop 6).take 4)) 0 else HRet w 0 0 0 (headC xs)):=by
 have hl:=h.len
 unfold headC
 by_cases h10:n < 10
 ·rw [if_pos (by omega:xs.length < 10),if_neg (by decide)]
  exact HRead_short p n c w h10
 ·rw [if_neg (by omega:¬ xs.length < 10)]
  obtain ⟨b,o,x0,rfl,k0,y0⟩:=h.at 0 (by omega)
  obtain ⟨_,_,x1,e1,k1,y1⟩:=h.at 1 (by omega)
  cases e1
  rw [Nat.add_zero] at k0
  rw [at_get y0.out,at_get y1.out]
  by_cases h0:x0 = 1
  ·have e:(if x0≠1 then 7 else modeC x1) = modeC x1:=if_neg (by simp [h0])
   rw [e]
   subst h0
   rcases modeC_range x1 with h1 | h1
   ·rw [h1,if_pos rfl]
    exact HRead_good b o n c xs w h hr (by omega) x1 k0 k1 h1
   ·rw [h1,if_neg (by decide)]
    exact HRead_mode b o n c w (by omega) x1 k0 k1 h1 h.bound
  ·have e:(if x0≠1 then 7 else modeC x1) = 7:=if_pos h0
   rw [e,if_neg (by decide)]
   exact HRead_version b o n c w (by omega) x0 k0 h0 h.bound
end Go.Proofs.YtccaiiigdfieoaaGreatDoor
namespace Go.Proofs.YtccaiiigdfieoaaGreatDoor
open Go.RowKit Go.By
set_option maxHeartbeats 400000 in
theorem BClone_any (p:Option Addr) (n c:Nat) (xs:List UInt8) (w:World) (h:Sl B8 w p n c xs) (hn:Room n) :
  Calls Tryz.prog 176 #[.slice p n c] w fun e w'=>∃ q c',e = .returned (.slice q n c')∧w'.ownsRow w.heap.size 5 1 (.slice q n c') n (xs.map B8)∧Below w.heap.size w w':=by
 obtain ⟨i0,hi,hz0,hz1,hz2⟩:=info_parts info_u8
 cases hp:p with
 | none =>
  subst hp
  obtain ⟨rfl,rfl⟩:=h.nil rfl
  have:xs = []:=List.eq_nil_of_length_eq_zero h.len
  subst this
  have hq:=fun w=>Lib.run_eql_slice_nil (P:=Tryz.prog) w 22 5 none 0 0 0 0 Tryz.underlying22
  go_enter Tryz.func176,Tryz.ntmps176
  go_wp2
  go_ret
  exact ⟨none,0,rfl,World.ownsRow_nil _ _ _ _,Below.refl _ _⟩
 | some ad =>
  subst hp
  have hq:=fun w=>Lib.run_eql_slice_nil (P:=Tryz.prog) w 22 5 (some ad) n c 0 0 Tryz.underlying22
  have H:=Lib.hid h
  clear h
  go_enter Tryz.func176,Tryz.ntmps176
  go_wp2_with (at_builtin;refine wpList_append_rs _ rfl _ _ 22 rfl w.heap.size 5 i0 (.int .u8 0) 1 Tryz.underlying22 hi hz0 hz1 hz2 rfl _ 0 [] rfl (World.ownsRow_lit w #[] 0 (Nat.le_refl _) (by simp [maxLen]) rfl) B8 _ _ _ xs (fun _ _=>rfl) rfl (H.out.keep ((Below.refl _ _).alloc (Nat.le_refl _) _)) ?c1 ?c2 ?c3 ?_)
  case c1=>have:=H.out.le;have:=H.out.max;omega
  case c2=>unfold Room at hn;omega
  case c3=>simp
  intro v' w' ho hg
  obtain ⟨q,c',rfl⟩:=owns_shape ho
  go_wp2
  go_ret
  exact ⟨q,c',by simp,by simpa using ho,((Below.refl _ _).alloc (Nat.le_refl _) _).grown hg (by simp) (by simp [Value.ownBlock])⟩
end Go.Proofs.YtccaiiigdfieoaaGreatDoor
namespace Go.By
open Go.RowKit
def slipB (ops:Array Oper) (m e:Nat):Bool:=decide (m + 1 < ops.size) && decide (e < m) && (match ops[m]? with
 | some o=>o.guard.isNone && o.dst.isNone && !(preds o).contains e
 | none=>false) && (match ops[m + 1]? with
 | some o=>(preds o).contains e
 | none=>false) && ((List.range m).all fun i=>i == e || (List.range (m + 1)).any fun j=>decide (i < j) && j != e && match ops[j]? with
 | some o=>(preds o).contains i
 | none=>false) && (List.range ops.size).all fun j=>!decide (m < j) || match ops[j]? with
 | some o=>(preds o).contains (j - 1)
 | none=>false
theorem wp_region_slip {P:Program} {ops:Array Oper} {Q:Exit→Act→World→Prop} {id:Nat} {a0:Act} {w0:World} (sh:Nat→Shp) (n m e t d:Nat) (u:Value) (hn:a0.tmps.size = n) (hm:P.follows .mixedOrders = true) (hback:backB ops = true) (hdist:distB ops = true)
  (htail:slipB ops m e = true) (oe:Oper) (hoe:ops[e]? = some oe) (hge:oe.guard = none) (hde:oe.dst = some d) (hdn:d < n) (hshe:sh e = Shp.val u)
  (hrun:∀ (a:Act) (x:Value) (w:World),sl a t = .tuple #[x,u]→(execOp a.eval oe).run P w = .ok (.value u) w) (hdsts:dstsB (ops.extract 0 m) n = true)
  (each:EachS P ops Q a0 w0.drew sh (ops.toList.take m) 0)
  (fin:∀ a w o,ops[m]? = some o→Below w0.heap.size w0 w→a.tmps.size = a0.tmps.size→a.defers = a0.defers→(∀ j,j < m→j≠e→InvS ops sh j (sl a) w)→(∀ t,(ops.toList.all fun o=>o.dst != some t) = true→sl a t = sl a0 t) →
   (∃ x,sl a t = .tuple #[x,u])∧o.wp P a w (fun a' w'=>a' = a∧∀ b:Act,b.tmps.size = a0.tmps.size→b.defers = a0.defers→(∀ t',t'≠d→sl b t' = sl a t')→sl b d = u→wpList P ops Q (ops.toList.drop (m + 1)) b w') Q) :
  (Code.region id ops true).wp P Q a0 w0:=by
 unfold slipB at htail
 simp only [Bool.and_eq_true,decide_eq_true_eq] at htail
 obtain ⟨⟨⟨⟨⟨hm1,hem⟩,hl2⟩,hl3⟩,htl⟩,hch⟩:=htail
 have hm':m < ops.size:=by omega
 obtain ⟨ol,hol⟩:∃ ol,ops[m]? = some ol:=⟨_,Array.getElem?_eq_getElem hm'⟩
 rw [hol] at hl2
 simp only [Bool.and_eq_true] at hl2
 have hguard:ol.guard = none:=by cases hg:ol.guard <;> simp [hg] at hl2 ⊢
 have hdst:ol.dst = none:=by cases hg:ol.dst <;> simp [hg] at hl2 ⊢
 obtain ⟨on,hon⟩:∃ on,ops[m + 1]? = some on:=⟨_,Array.getElem?_eq_getElem hm1⟩
 rw [hon] at hl3
 have hne:e ∈ preds on:=by simpa using hl3
 have hchain:∀ j o,m < j→ops[j]? = some o→(preds o).contains (j - 1) = true:=fun j o hj ho=>by
  have:=List.all_eq_true.1 hch j (List.mem_range.2 (Array.getElem?_eq_some_iff.1 ho).1)
  rw [ho] at this
  simpa [hj] using this
 have hpl:∀ i,i < m→i≠e→∃ j o,i < j∧j≤m∧j≠e∧ops[j]? = some o∧i ∈ preds o:=fun i hi hie=>by
  have h0:=List.all_eq_true.1 htl i (List.mem_range.2 hi)
  rw [Bool.or_eq_true] at h0
  have h0':=h0.resolve_left (by simpa using hie)
  obtain ⟨j,hj,h⟩:=List.any_eq_true.1 h0'
  have hjm:=List.mem_range.1 hj
  simp only [Bool.and_eq_true,decide_eq_true_eq] at h
  obtain ⟨oj,hoj⟩:∃ oj,ops[j]? = some oj:=⟨_,Array.getElem?_eq_getElem (by omega)⟩
  have h2:=h.2
  rw [hoj] at h2
  exact ⟨j,oj,h.1.1,by omega,by simpa using h.1.2,hoj,by simpa using h2⟩
 have hE:=each_of (Q:=Q) (P:=P) (a0:=a0) (W0:=w0.drew) (sh:=sh) hn (ops.toList.take m) 0 (fun j o hj=>by
   rw [List.getElem?_take] at hj;split at hj
   ·simpa using hj
   ·cases hj) (by
   unfold dstsB at hdsts
   have e:(ops.extract 0 m).toList = ops.toList.take m:=by simp
   rw [e] at hdsts;exact hdsts) each
 have stepAt:∀ i o,i < m→ops[i]? = some o→StepOf P ops Q a0 w0.drew (fun W w=>Below W.heap.size W w) (fun _ w w'=>Below w.heap.size w w') (InvS ops sh) i o:=fun i o hi ho=>by
  have:=Each.get _ 0 hE i o (by rw [List.getElem?_take,if_pos hi];simpa using ho)
  rwa [Nat.zero_add] at this
 have stable:∀ i j oi oj (σ σ':Nat→Value) w w',i≠j→ops[i]? = some oi→ops[j]? = some oj→InvS ops sh j σ w→Below w.heap.size w w'→(∀ t,oi.dst≠some t→σ' t = σ t)→InvS ops sh j σ' w':=by
  intro i j oi oj σ σ' w w' hij hoi hoj hI hR hσ
  unfold InvS at hI ⊢
  cases hdj:dstOf ops j with
  | none=>trivial
  | some d =>
   rw [hdj] at hI
   show (sh j).ok (σ' d) w'
   have hne:oi.dst≠some d:=by
    intro e
    have hi':i < ops.size:=(Array.getElem?_eq_some_iff.1 hoi).1
    have hj':j < ops.size:=(Array.getElem?_eq_some_iff.1 hoj).1
    have:=List.all_eq_true.1 (List.all_eq_true.1 hdist i (List.mem_range.2 hi')) j (List.mem_range.2 hj')
    rw [hoi,hoj] at this
    have hdj':oj.dst = some d:=by simpa [dstOf,hoj] using hdj
    simp [e,hdj',hij] at this
   rw [hσ d hne]
   exact (sh j).keep _ _ _ hI hR
 refine wp_region_any hm ?_
 show wpAny P .any ops Q ops.size (Array.replicate ops.size false) a0 w0.drew
 have main:∀ (fuel:Nat) (listed:Array Bool) (a:Act) (w:World),unl ops.size listed≤fuel→listed.getD m true = false→Below w0.heap.size w0 w→a.tmps.size = a0.tmps.size→a.defers = a0.defers →
   (∀ j o,listed.getD j false = true→ops[j]? = some o→∀ k,k ∈ preds o→listed.getD k false = true) →
   (∀ j,j < ops.size→listed.getD j true = true→listed.getD j false = true) →
   (∀ j,j < m→listed.getD j false = true→InvS ops sh j (sl a) w) →
   (∀ t,(∀ j o,j < m→listed.getD j false = true→ops[j]? = some o→o.dst≠some t)→sl a t = sl a0 t)→wpAny P .any ops Q fuel listed a w:=by
  intro fuel
  induction fuel with
  | zero =>
   intro listed a w hu hlm
   exfalso
   have h0:unl ops.size listed = 0:=by omega
   unfold unl at h0
   have:=List.countP_eq_zero.1 h0 m (List.mem_range.2 hm')
   simp [hlm] at this
  | succ fuel ih =>
   intro listed a w hu hlm hEw hs hd hcl hlt hI ht
   have hup:∀ d j,j = m + d→j < ops.size→listed.getD j false = true→False:=by
    intro d
    induction d with
    | zero=>intro j e hj hl;rw [show j = m by omega] at hl;exact (getD_both hlm).1 hl
    | succ d ihd =>
     intro j e hj hl
     have hoj:ops[j]? = some ops[j]:=Array.getElem?_eq_getElem hj
     exact ihd (j - 1) (by omega) (by omega) (hcl j _ hl hoj (j - 1) (by simpa using hchain j _ (by omega) hoj))
   refine ⟨fun hr=>?_,fun i hi=>?_⟩
   ·exfalso
    have hall:∀ k j,j < k→j < ops.size→listed.getD j false = true:=by
     intro k
     induction k with
     | zero=>intro j hj;omega
     | succ k ihk =>
      intro j hj hjs
      refine hlt j hjs ?_
      cases hb:listed.getD j true with
      | true=>rfl
      | false =>
       exfalso
       have ho:ops[j]? = some ops[j]:=Array.getElem?_eq_getElem hjs
       have:j ∈ Region.ready .any ops listed:=mem_ready.2 ⟨hjs,hb,_,ho,fun q hq=>by
        have hbk:=List.all_eq_true.1 hback j (List.mem_range.2 hjs)
        rw [ho] at hbk
        have hkj:=of_decide_eq_true (List.all_eq_true.1 hbk q hq)
        exact ihk q (by omega) (by omega)⟩
       rw [hr] at this;cases this
    have hx:=hall (m + 1) m (by omega) hm'
    rcases Nat.lt_or_ge m listed.size with h | h
    ·simp [Array.getD_eq_getD_getElem?,h] at hlm hx;rw [hlm] at hx;cases hx
    ·simp [Array.getD_eq_getD_getElem?,Array.getElem?_eq_none h] at hx
   ·obtain ⟨h1,h2,o,ho,h3⟩:=mem_ready.1 hi
    have hnl:listed.getD i false≠true:=by
     intro hx
     rcases Nat.lt_or_ge i listed.size with h | h
     ·simp [Array.getD_eq_getD_getElem?,h] at h2 hx;rw [h2] at hx;cases hx
     ·simp [Array.getD_eq_getD_getElem?,Array.getElem?_eq_none h] at hx
    have his:i < listed.size:=by
     rcases Nat.lt_or_ge i listed.size with h | h
     ·exact h
     ·simp [Array.getD_eq_getD_getElem?,Array.getElem?_eq_none h] at h2
    have gset:∀ j (d:Bool),(listed.setIfInBounds i true).getD j d = if i = j then true else listed.getD j d:=by
     intro j d
     simp only [Array.getD_eq_getD_getElem?,Array.getElem?_setIfInBounds]
     by_cases e:i = j
     ·subst e;simp [his]
     ·simp [e]
    by_cases him:i = m
    ·subst him
     rw [hol] at ho;cases ho
     have hdown:∀ d j,i - j≤d→j < i→j≠e→listed.getD j false = true:=by
      intro d
      induction d with
      | zero=>intro j h4 h5;omega
      | succ d ihd =>
       intro j h4 h5 h6
       obtain ⟨j2,o2,g1,g2,g5,g3,g4⟩:=hpl j h5 h6
       by_cases e2:j2 = i
       ·subst e2;rw [hol] at g3;cases g3;exact h3 j g4
       ·exact hcl j2 o2 (ihd j2 (by omega) (by omega) g5) g3 j g4
     have hdn':∀ j,j < i→j≠e→listed.getD j false = true:=fun j hj hje=>hdown i j (by omega) hj hje
     obtain ⟨⟨x,hx⟩,hf⟩:=fin a w ol hol hEw hs hd (fun j hj hje=>hI j hj (hdn' j hj hje)) (fun t htt=>ht t (fun j oj hj _ hoj=>by
      have:=List.all_eq_true.1 htt oj (by rw [Array.mem_toList_iff];exact Array.mem_of_getElem? hoj)
      simpa using this))
     have htrue:∀ j,listed.getD j false = true→listed.getD j true = true:=fun j hj=>by
      cases hb:listed.getD j true with
      | true=>rfl
      | false=>exact absurd hj (getD_both hb).1
     have hfu:=unl_set (n:=ops.size) h1 h2
     unfold wpOp
     rw [hol]
     show if Region.wanted ol (yielded ops a.tmps) = true then _ else _
     rw [if_pos (by simp [Region.wanted,hguard])]
     refine .inl (Oper.wp_mono (fun a' w' hq=>?_) hf)
     obtain ⟨rfl,hq⟩:=hq
     cases hle:listed.getD e false with
     | true =>
      have hIe:=hI e hem hle
      have hud:sl a' d = u:=by
       unfold InvS at hIe
       rw [show dstOf ops e = some d by simp [dstOf,hoe,hde]] at hIe
       rw [hshe] at hIe
       exact hIe
      refine wpAny_tail (m:=i) hback hchain fuel (i + 1) _ a' w' (by omega) (by omega) (fun j hj hjs=>?_) (fun j hj hjs=>?_) (hq a' hs hd (fun _ _=>rfl) hud)
      ·rw [gset,gset]
       by_cases e3:i = j
       ·rw [if_pos e3,if_pos e3];exact ⟨rfl,rfl⟩
       ·rw [if_neg e3,if_neg e3]
        have hjl:listed.getD j false = true:=by
         by_cases e4:j = e
         ·rw [e4];exact hle
         ·exact hdn' j (by omega) e4
        exact ⟨hjl,htrue j hjl⟩
      ·rw [gset,if_neg (by omega)]
       cases hb:listed.getD j true with
       | false=>rfl
       | true=>exact (hup (j - i) j (by omega) hjs (hlt j hjs hb)).elim
     | false =>
      have hes:e < ops.size:=by omega
      have hleT:listed.getD e true = false:=by
       cases hb:listed.getD e true with
       | false=>rfl
       | true=>rw [hlt e hes hb] at hle;cases hle
      have gse:(listed.setIfInBounds i true).getD e true = false:=by rw [gset,if_neg (by omega)];exact hleT
      have hpe:∀ k,k ∈ preds oe→(listed.setIfInBounds i true).getD k false = true:=fun k hk=>by
       have hbk:=List.all_eq_true.1 hback e (List.mem_range.2 hes)
       rw [hoe] at hbk
       have hke:=of_decide_eq_true (List.all_eq_true.1 hbk k hk)
       rw [gset]
       by_cases e3:i = k
       ·rw [if_pos e3]
       ·rw [if_neg e3];exact hdn' k (by omega) (by omega)
      have hin:e ∈ Region.ready .any ops (listed.setIfInBounds i true):=mem_ready.2 ⟨hes,gse,oe,hoe,hpe⟩
      have hu2:unl ops.size (listed.setIfInBounds i true)≤fuel:=by omega
      cases fuel with
      | zero =>
       exfalso
       have h0:unl ops.size (listed.setIfInBounds i true) = 0:=by omega
       unfold unl at h0
       have:=List.countP_eq_zero.1 h0 e (List.mem_range.2 hes)
       simp [gse] at this
      | succ fuel =>
       refine ⟨fun hr=>by rw [hr] at hin;simp at hin,fun k hk=>?_⟩
       obtain ⟨k1,k2,ok,hok,k3⟩:=mem_ready.1 hk
       obtain ⟨knl,kis⟩:=getD_both k2
       have hke:k = e:=by
        apply Classical.byContradiction
        intro hne'
        rcases Nat.lt_trichotomy k i with hlt' | heq | hgt
        ·exact knl (by rw [gset,if_neg (by omega)];exact hdn' k hlt' hne')
        ·subst heq;exact knl (by rw [gset,if_pos rfl])
        ·by_cases hk1:k = i + 1
         ·subst hk1
          rw [hon] at hok;cases hok
          have:=k3 e hne
          exact (getD_both gse).1 this
         ·have:=k3 (k - 1) (by simpa using hchain k ok (by omega) hok)
          rw [gset,if_neg (by omega)] at this
          exact hup (k - 1 - i) (k - 1) (by omega) (by omega) this
       subst hke
       rw [hoe] at hok;cases hok
       unfold wpOp
       rw [hoe]
       show if Region.wanted oe (yielded ops a'.tmps) = true then _ else _
       rw [if_pos (by simp [Region.wanted,hge])]
       have hr:=hrun a' x w' hx
       refine .inl ?_
       refine wp_val u hr ?_
       rw [hde]
       have gset2:∀ j (dd:Bool),((listed.setIfInBounds i true).setIfInBounds k true).getD j dd = if k = j then true else (listed.setIfInBounds i true).getD j dd:=by
        intro j dd
        simp only [Array.getD_eq_getD_getElem?,Array.getElem?_setIfInBounds]
        by_cases e5:k = j
        ·subst e5;simp at kis;simp [kis]
        ·simp [e5]
       refine wpAny_tail (m:=i) hback hchain fuel (i + 1) _ _ w' (by omega) (by have:=unl_set (n:=ops.size) k1 k2;omega) (fun j hj hjs=>?_) (fun j hj hjs=>?_) (hq (a'.put (some d) u) ((put_size _ _ _).trans hs) ((put_defers _ _ _).trans hd) (fun t' ht'=>put_sl _ _ _ _ (fun ee=>ht' (Option.some.inj ee).symm)) (put_same _ _ _ (by rw [hs,hn];exact hdn)))
       ·rw [gset2,gset2]
        by_cases e3:k = j
        ·rw [if_pos e3,if_pos e3];exact ⟨rfl,rfl⟩
        ·rw [if_neg e3,if_neg e3,gset,gset]
         by_cases e4:i = j
         ·rw [if_pos e4,if_pos e4];exact ⟨rfl,rfl⟩
         ·rw [if_neg e4,if_neg e4]
          have hjl:=hdn' j (by omega) (fun e9=>e3 e9.symm)
          exact ⟨hjl,htrue j hjl⟩
       ·rw [gset2,if_neg (by omega),gset,if_neg (by omega)]
        cases hb:listed.getD j true with
        | false=>rfl
        | true=>exact (hup (j - i) j (by omega) hjs (hlt j hjs hb)).elim
    ·have him':i < m:=by
      rcases Nat.lt_or_ge i m with hx | hx
      ·exact hx
      ·exact (hup (i - 1 - m) (i - 1) (by omega) (by omega) (h3 (i - 1) (by simpa using hchain i o (by omega) ho))).elim
     have hst:=stepAt i o him' ho
     have hst':=hst a w ⟨hEw.os,hEw.tape,hEw.output,hEw.size,hEw.block⟩ hs (fun k hk=>hI k (by
       have hbk:=List.all_eq_true.1 hback i (List.mem_range.2 h1)
       rw [ho] at hbk
       have:=of_decide_eq_true (List.all_eq_true.1 hbk k hk);omega) (h3 k hk)) (fun t hti=>by
      refine ht t (fun j oj hj hlj hoj hdj=>?_)
      have:=List.all_eq_true.1 hti j (List.mem_range.2 (by omega))
      rw [hoj] at this
      by_cases e:j = i
      ·subst e;exact hnl hlj
      ·simp [e,hdj] at this
       exact hnl (hcl j oj hlj hoj i this))
     have next:∀ (v:Value) (w':World),Below w.heap.size w w'→InvS ops sh i (sl (a.put o.dst v)) w'→wpAny P .any ops Q fuel (listed.setIfInBounds i true) (a.put o.dst v) w':=by
      intro v w' hR hIi
      refine ih _ _ _ (by have:=unl_set (n:=ops.size) h1 h2;omega) (by rw [gset,if_neg him];exact hlm) (hEw.trans (hR.mono hEw.size)) ((put_size _ _ _).trans hs) ((put_defers _ _ _).trans hd) ?_ ?_ ?_ ?_
      ·intro j oj hj hoj k hk
       rw [gset] at hj ⊢
       by_cases e:i = k
       ·rw [if_pos e]
       ·rw [if_neg e]
        by_cases e':i = j
        ·subst e';rw [ho] at hoj;cases hoj;exact h3 k hk
        ·rw [if_neg e'] at hj;exact hcl j oj hj hoj k hk
      ·intro j hj hl
       rw [gset] at hl ⊢
       by_cases e:i = j
       ·rw [if_pos e]
       ·rw [if_neg e] at hl ⊢;exact hlt j hj hl
      ·intro j hj hl
       rw [gset] at hl
       by_cases e:i = j
       ·subst e;exact hIi
       ·rw [if_neg e] at hl
        have hoj:ops[j]? = some ops[j]:=Array.getElem?_eq_getElem (by omega)
        exact stable i j o _ (sl a) _ w w' e ho hoj (hI j hj hl) hR (fun t h=>put_sl _ _ _ _ h)
      ·intro t htt
       have hdt:o.dst≠some t:=htt i o him' (by rw [gset,if_pos rfl]) ho
       rw [put_sl _ _ _ _ hdt]
       exact ht t (fun j oj hj hl hoj=>htt j oj hj (by rw [gset];split <;> simp [hl]) hoj)
     unfold wpOp
     rw [ho]
     show if Region.wanted o (yielded ops a.tmps) = true then _ else _
     split
     ·rename_i hw
      rw [if_pos hw] at hst'
      exact .inl (Oper.wp_mono (fun a' w' ⟨v,e,hR,hIi⟩=>by rw [e] at hIi ⊢;exact next v w' hR hIi) hst')
     ·rename_i hw
      rw [if_neg hw] at hst'
      exact next undef w hst'.1 hst'.2
 refine main ops.size _ a0 w0.drew ?_ ?_ ⟨rfl,rfl,rfl,Nat.le_refl _,fun _ _=>rfl⟩ rfl rfl ?_ ?_ ?_ ?_
 ·unfold unl;exact Nat.le_trans List.countP_le_length (by simp)
 ·simp [Array.getD_eq_getD_getElem?,Array.getElem?_replicate,hm']
 ·intro j o hj;simp [Array.getD_eq_getD_getElem?,Array.getElem?_replicate] at hj
  split at hj <;> simp at hj
 ·intro j hj hl;simp [Array.getD_eq_getD_getElem?,Array.getElem?_replicate,hj] at hl
 ·intro j hj hl;simp [Array.getD_eq_getD_getElem?,Array.getElem?_replicate,show j < ops.size by omega] at hl
 ·intro t _;rfl
theorem run_extract_two {P:Program} {a:Act} {u x:Value} {w:World} {t:Nat} (oe:Oper) (hop:oe.op = .extract (.tmp t) 1) (h:sl a t = .tuple #[x,u]):(execOp a.eval oe).run P w = .ok (.value u) w:=by
 unfold execOp;rw [hop];simp only [eval_tmp,h];rfl
end Go.By
namespace Go.Proofs.YtccaiiigdfieoaaGreatDoor
open Go.RowKit Go.By
theorem info_packet:(Tryz.prog.info? 122).map (·.size) = some 7:=by kernel_rfl
theorem Sl.front' {α:Type} {enc:α→Value} {w:World} {p:Option Addr} {n c k:Nat} {xs:List α} (h:Sl enc w p n c xs) (hk:k≤n):Sl enc w p k c (xs.take k):=by
 have h1:=h.len;have h2:=h.le;have h3:=h.max
 refine ⟨by simp;omega,by omega,h3,fun hp=>by have:=h.nil hp;omega,?_⟩
 intro i hi
 simp at hi
 obtain ⟨b,o,e,hc⟩:=h.rs i (by omega)
 exact ⟨b,o,e,by rw [hc];simp⟩
def PZero (w:World) (code:Int) (e:Ending) (w':World):Prop:=e = .returned (.tuple #[PkVal 0 0 0 0 none 0 0 0 none 0 0,.int .i64 code])∧Below w.heap.size w w'
set_option maxRecDepth 100000 in
set_option maxHeartbeats 2000000 in
theorem PRead_head (L t k D:Nat) (p:Option Addr) (n c:Nat) (xs:List UInt8) (w:World) (hP:POK L t k D) (h:Sl B8 w p n c xs) (hr:Room n) (hc:headC xs≠0) :
  Calls Tryz.prog 111 #[PVal L t k D,.slice p n c] w (PZero w (headC xs)):=by
 have HK:Hid (∀ w,Calls Tryz.prog 79 #[PVal L t k D] w fun e w'=>e = .returned (.int .i64 0)∧Below w.heap.size w w'):=PCheck_ok hP
 have HR:Hid (∀ w,Sl B8 w p n c xs→Calls Tryz.prog 172 #[.slice p n c] w (HRet w 0 0 0 (headC xs))):=fun w h=>by have:=HRead_any p n c xs w h hr;rw [if_neg hc] at this;exact this
 have H:=Lib.hid h
 have e0:(headC xs != 0) = true:=bne_iff_ne.2 hc
 generalize headC xs = C at *
 clear hP h hr hc
 go_enter Tryz.func111,Tryz.ntmps111
 go_wp2_with fail
 refine Calls.mono (HK.out _) ?_
 rintro e w1 ⟨rfl,hb⟩
 obtain ⟨hb1,h1,h2,hs⟩:=two_of hb
 have HB:=Lib.hid hb1
 clear hb hb1
 go_wp2_with fail
 refine Calls.mono (HR.out _ (H.out.keep HB.out)) ?_
 rintro e w2 ⟨q0,n0,k0,rfl,hb⟩
 have h1':=(hb.block _ (by omega)).trans h1
 have h2':=(hb.block _ (by omega)).trans h2
 have hs2:w.heap.size + 2≤w2.heap.size:=Nat.le_trans hs hb.size
 have HB2:=Lib.hid (bl HB.out hb HB.out.size)
 clear hb h1 h2 hs
 go_wp2_with (refine wpList_store_row (o:=⟨none,.store 122 (.tmp 4) (.tmp 29),_,_,_,_⟩) rfl 122 (.tmp 4) (.tmp 29) rfl (w.heap.size + 1) #[.int .u8 0,.int .u32 0,.int .u32 0,.int .u8 0,.slice none 0 0,.int .u64 0,.slice none 0 0] rfl rfl _ _ (hal h2') info_packet rfl (by simp [Value.oneCell']) ?_)
 refine bodyPost_ret (res_ct rfl _ _ _ 122 #[.int .u8 0,.int .u32 0,.int .u32 0,.int .u8 0,.slice none 0 0,.int .u64 0,.slice none 0 0] (0,0) _ (.int .i64 C) rfl (hrs (hal h2')) rfl Tryz.underlying122 rfl info_packet) rfl ?_
 exact ⟨rfl,below_row (al HB2.out HB2.out.size) (by omega)⟩
set_option maxRecDepth 100000 in
set_option maxHeartbeats 2000000 in
theorem PRead_len (L t k D:Nat) (p:Option Addr) (n c:Nat) (xs:List UInt8) (w:World) (hP:POK L t k D) (h:Sl B8 w p n c xs) (hr:Room n) (hc:headC xs = 0) (hn:n≠lenP (xs.getD 1 0) k t) :
  Calls Tryz.prog 111 #[PVal L t k D,.slice p n c] w (PZero w 4):=by
 have HK:Hid (∀ w,Calls Tryz.prog 79 #[PVal L t k D] w fun e w'=>e = .returned (.int .i64 0)∧Below w.heap.size w w'):=PCheck_ok hP
 have hm:=headC_mode hc
 have HR:Hid (∀ w,Sl B8 w p n c xs→Calls Tryz.prog 172 #[.slice p n c] w (HRet w (xs.getD 1 0) (get4 ((xs.drop 2).take 4)) (get4 ((xs.drop 6).take 4)) 0)):=fun w h=>by have:=HRead_any p n c xs w h hr;rw [if_pos hc] at this;exact this
 have HN:Hid (∀ w,Calls Tryz.prog 173 #[PVal L t k D,B8 (xs.getD 1 0)] w fun e w'=>e = .returned (.tuple #[.int .i64 (lenP (xs.getD 1 0) k t:Nat),.int .i64 0])∧Below w.heap.size w w'):=fun w=>PLength_ok L t k D _ w hP hm
 have H:=Lib.hid h
 have e0:((n:Int) != (lenP (xs.getD 1 0) k t:Int)) = true:=bne_iff_ne.2 (by omega)
 generalize lenP (xs.getD 1 0) k t = N at *
 generalize xs.getD 1 0 = m at *
 generalize get4 ((xs.drop 2).take 4) = O at *
 generalize get4 ((xs.drop 6).take 4) = M at *
 clear hP h hr hc hm hn
 go_enter Tryz.func111,Tryz.ntmps111
 go_wp2_with fail
 refine Calls.mono (HK.out _) ?_
 rintro e w1 ⟨rfl,hb⟩
 obtain ⟨hb1,h1,h2,hs⟩:=two_of hb
 have HB:=Lib.hid hb1
 clear hb hb1
 go_wp2_with fail
 refine Calls.mono (HR.out _ (H.out.keep HB.out)) ?_
 rintro e w2 ⟨q0,n0,k0,rfl,hb⟩
 have h1':=(hb.block _ (by omega)).trans h1
 have h2':=(hb.block _ (by omega)).trans h2
 have hs2:w.heap.size + 2≤w2.heap.size:=Nat.le_trans hs hb.size
 have HB2:=Lib.hid (bl HB.out hb HB.out.size)
 clear hb h1 h2 hs
 have c0:∀ o',(w2.alloc o').cell? ⟨w.heap.size,0,none⟩ = _:=fun _=>calloc (cells_four h1').1
 have c1:∀ o',(w2.alloc o').cell? ⟨w.heap.size,1,none⟩ = _:=fun _=>calloc (cells_four h1').2.1
 have c2:∀ o',(w2.alloc o').cell? ⟨w.heap.size,2,none⟩ = _:=fun _=>calloc (cells_four h1').2.2.1
 have c3:∀ o',(w2.alloc o').cell? ⟨w.heap.size,3,none⟩ = _:=fun _=>calloc (cells_four h1').2.2.2
 go_wp2_with fail
 refine Calls.mono (HN.out _) ?_
 rintro e w3 ⟨rfl,hb⟩
 obtain ⟨hb3,h3,hs3⟩:=one_of hb
 have h1:=(hb3.block _ (by omega)).trans h1'
 have h2:=(hb3.block _ (by omega)).trans h2'
 have HB3:=Lib.hid (bl HB2.out hb3 HB2.out.size)
 have HX:Hid (w.heap.size + 2≤w2.heap.size):=hs2
 clear hb hb3 h1' h2' c0 c1 c2 c3
 go_wp2_with (refine wpList_store_row (o:=⟨none,.store 122 (.tmp 4) (.tmp 46),_,_,_,_⟩) rfl 122 (.tmp 4) (.tmp 46) rfl (w.heap.size + 1) #[.int .u8 0,.int .u32 0,.int .u32 0,.int .u8 0,.slice none 0 0,.int .u64 0,.slice none 0 0] rfl rfl _ _ h2 info_packet rfl (by simp [Value.oneCell']) ?_)
 refine bodyPost_ret (res_ct rfl _ _ _ 122 #[.int .u8 0,.int .u32 0,.int .u32 0,.int .u8 0,.slice none 0 0,.int .u64 0,.slice none 0 0] (0,0) _ (.int .i64 4) rfl (hrs h2) rfl Tryz.underlying122 rfl info_packet) rfl ?_
 exact ⟨rfl,below_row HB3.out (by omega)⟩
set_option maxRecDepth 100000 in
set_option maxHeartbeats 4000000 in
theorem PRead_sum (L t k D:Nat) (b o:Nat) (n c:Nat) (xs:List UInt8) (w:World) (hP:POK L t k D) (hT:HalfT w) (h:Sl B8 w (some ⟨b,o,none⟩) n c xs) (hr:Room n) (hc:headC xs = 0) (E:Nat) (hn:n = lenP (xs.getD 1 0) k t) (hE:n = E + 4) (hs:get4 ((xs.drop E).take 4)≠crcS (xs.take E)) :
  Calls Tryz.prog 111 #[PVal L t k D,.slice (some ⟨b,o,none⟩) n c] w (PZero w 10):=by
 have HK:Hid (∀ w,Calls Tryz.prog 79 #[PVal L t k D] w fun e w'=>e = .returned (.int .i64 0)∧Below w.heap.size w w'):=PCheck_ok hP
 have hm:=headC_mode hc
 have HR:Hid (∀ w,Sl B8 w (some ⟨b,o,none⟩) n c xs→Calls Tryz.prog 172 #[.slice (some ⟨b,o,none⟩) n c] w (HRet w (xs.getD 1 0) (get4 ((xs.drop 2).take 4)) (get4 ((xs.drop 6).take 4)) 0)):=fun w h=>by have:=HRead_any (some ⟨b,o,none⟩) n c xs w h hr;rw [if_pos hc] at this;exact this
 have HN:Hid (∀ w,Calls Tryz.prog 173 #[PVal L t k D,B8 (xs.getD 1 0)] w fun e w'=>e = .returned (.tuple #[.int .i64 (n:Nat),.int .i64 0])∧Below w.heap.size w w'):=fun w=>by rw [hn];exact PLength_ok L t k D _ w hP hm
 have H:=Lib.hid h
 have HT:=Lib.hid hT
 have hle:=h.le
 have hmx:=h.max
 unfold maxLen at hmx
 have HE:Hid (E + 4≤n):=by show E + 4≤n;omega
 have HE':Hid (E≤n):=by show E≤n;omega
 have eE:(n:Int) - 4 = (E:Int):=by omega
 have eN:n - E = 4:=by omega
 have eC:¬ (c = E):=by omega
 have eb1:(E:Int)≤(n:Int):=by omega
 have eb2:(E:Int)≤(c:Int):=by omega
 obtain ⟨G,hG⟩:∃ G,get4 ((xs.drop E).take 4) = G:=⟨_,rfl⟩
 have HG:=Lib.hid hG
 obtain ⟨C,hC⟩:∃ C,crcS ([xs.take E].flatten) = C:=⟨_,rfl⟩
 have HC:=Lib.hid hC
 have e0:((G:Int) != (C:Int)) = true:=bne_iff_ne.2 (by rw [hG] at hs;simp at hC;rw [hC] at hs;omega)
 generalize xs.getD 1 0 = m at *
 generalize get4 ((xs.drop 2).take 4) = O at *
 generalize get4 ((xs.drop 6).take 4) = M at *
 clear hP h hr hc hm hn hs hT hG hC hE
 go_enter Tryz.func111,Tryz.ntmps111
 go_wp2_with fail
 refine Calls.mono (HK.out _) ?_
 rintro e w1 ⟨rfl,hb⟩
 obtain ⟨hb1,h1,h2,hs⟩:=two_of hb
 have HB:=Lib.hid hb1
 clear hb hb1
 go_wp2_with fail
 refine Calls.mono (HR.out _ (H.out.keep HB.out)) ?_
 rintro e w2 ⟨q0,n0,k0,rfl,hb⟩
 have h1':=(hb.block _ (by omega)).trans h1
 have h2':=(hb.block _ (by omega)).trans h2
 have hs2:w.heap.size + 2≤w2.heap.size:=Nat.le_trans hs hb.size
 have HB2:=Lib.hid (bl HB.out hb HB.out.size)
 clear hb h1 h2 hs
 have c0:∀ o',(w2.alloc o').cell? ⟨w.heap.size,0,none⟩ = _:=fun _=>calloc (cells_four h1').1
 have c1:∀ o',(w2.alloc o').cell? ⟨w.heap.size,1,none⟩ = _:=fun _=>calloc (cells_four h1').2.1
 have c2:∀ o',(w2.alloc o').cell? ⟨w.heap.size,2,none⟩ = _:=fun _=>calloc (cells_four h1').2.2.1
 have c3:∀ o',(w2.alloc o').cell? ⟨w.heap.size,3,none⟩ = _:=fun _=>calloc (cells_four h1').2.2.2
 go_wp2_with fail
 refine Calls.mono (HN.out _) ?_
 rintro e w3 ⟨rfl,hb⟩
 obtain ⟨hb3,h3,hs3⟩:=one_of hb
 have h1:=(hb3.block _ (by omega)).trans h1'
 have h2:=(hb3.block _ (by omega)).trans h2'
 have HB3:=Lib.hid (bl HB2.out hb3 HB2.out.size)
 have HX:Hid (w.heap.size + 2≤w2.heap.size):=hs2
 clear hb hb3 h1' h2' c0 c1 c2 c3
 go_wp2_with fail
 refine Calls.mono (SGet_any _ _ _ _ _ (Sl.part (k:=E) (m:=4) (H.out.keep HB3.out) HE.out)) ?_
 rintro e w4 ⟨rfl,hb⟩
 rw [if_pos rfl,HG.out]
 have h1':=(hb.block _ (by omega)).trans h1
 have h2':=(hb.block _ (by omega)).trans h2
 have h3':=(hb.block _ (by omega)).trans h3
 have hs4:w2.heap.size + 1≤w4.heap.size:=Nat.le_trans hs3 hb.size
 have HB4:=Lib.hid (bl HB3.out hb HB3.out.size)
 clear hb h1 h2 h3 hs3
 go_wp2_with fail
 refine Calls.mono (SOf_any _ _ _ [xs.take E] _ (sl2_one (hnew rfl) ((Sl.front' (H.out.keep HB4.out) HE'.out).keep (al (Below.refl _ _) (Nat.le_refl _)))) (HT.out.keep (al HB4.out HB4.out.size))) ?_
 rintro e w5 ⟨rfl,hb⟩
 obtain ⟨hb5,-,hs5'⟩:=one_of hb
 have h1:=(hb5.block _ (by omega)).trans h1'
 have h2:=(hb5.block _ (by omega)).trans h2'
 have h3:=(hb5.block _ (by omega)).trans h3'
 have hs5:w2.heap.size + 1≤w5.heap.size:=by omega
 have HB5:=Lib.hid (bl HB4.out hb5 HB4.out.size)
 clear hb hb5 h1' h2' h3' hs5' hs4
 rw [HC.out]
 go_wp2_with (refine wpList_store_row (o:=⟨none,.store 122 (.tmp 4) (.tmp 67),_,_,_,_⟩) rfl 122 (.tmp 4) (.tmp 67) rfl (w.heap.size + 1) #[.int .u8 0,.int .u32 0,.int .u32 0,.int .u8 0,.slice none 0 0,.int .u64 0,.slice none 0 0] rfl rfl _ _ h2 info_packet rfl (by simp [Value.oneCell']) ?_)
 refine bodyPost_ret (res_ct rfl _ _ _ 122 #[.int .u8 0,.int .u32 0,.int .u32 0,.int .u8 0,.slice none 0 0,.int .u64 0,.slice none 0 0] (0,0) _ (.int .i64 10) rfl (hrs h2) rfl Tryz.underlying122 rfl info_packet) rfl ?_
 exact ⟨rfl,below_row HB5.out (by omega)⟩
set_option maxRecDepth 100000 in
set_option maxHeartbeats 4000000 in
theorem PRead_obj (L t k D:Nat) (b o:Nat) (n c:Nat) (xs:List UInt8) (w:World) (hP:POK L t k D) (hT:HalfT w) (h:Sl B8 w (some ⟨b,o,none⟩) n c xs) (hr:Room n) (hc:headC xs = 0) (E:Nat) (hn:n = lenP (xs.getD 1 0) k t) (hE:n = E + 4) (hs:get4 ((xs.drop E).take 4) = crcS (xs.take E)) (ho:get4 ((xs.drop 2).take 4)≠D) :
  Calls Tryz.prog 111 #[PVal L t k D,.slice (some ⟨b,o,none⟩) n c] w (PZero w 9):=by
 have HK:Hid (∀ w,Calls Tryz.prog 79 #[PVal L t k D] w fun e w'=>e = .returned (.int .i64 0)∧Below w.heap.size w w'):=PCheck_ok hP
 have hm:=headC_mode hc
 have HR:Hid (∀ w,Sl B8 w (some ⟨b,o,none⟩) n c xs→Calls Tryz.prog 172 #[.slice (some ⟨b,o,none⟩) n c] w (HRet w (xs.getD 1 0) (get4 ((xs.drop 2).take 4)) (get4 ((xs.drop 6).take 4)) 0)):=fun w h=>by have:=HRead_any (some ⟨b,o,none⟩) n c xs w h hr;rw [if_pos hc] at this;exact this
 have HN:Hid (∀ w,Calls Tryz.prog 173 #[PVal L t k D,B8 (xs.getD 1 0)] w fun e w'=>e = .returned (.tuple #[.int .i64 (n:Nat),.int .i64 0])∧Below w.heap.size w w'):=fun w=>by rw [hn];exact PLength_ok L t k D _ w hP hm
 have H:=Lib.hid h
 have HT:=Lib.hid hT
 have hle:=h.le
 have hmx:=h.max
 unfold maxLen at hmx
 have HE:Hid (E + 4≤n):=by show E + 4≤n;omega
 have HE':Hid (E≤n):=by show E≤n;omega
 have eE:(n:Int) - 4 = (E:Int):=by omega
 have eN:n - E = 4:=by omega
 have eC:¬ (c = E):=by omega
 have eb1:(E:Int)≤(n:Int):=by omega
 have eb2:(E:Int)≤(c:Int):=by omega
 obtain ⟨G,hG⟩:∃ G,get4 ((xs.drop E).take 4) = G:=⟨_,rfl⟩
 have HG:=Lib.hid hG
 obtain ⟨C,hC⟩:∃ C,crcS ([xs.take E].flatten) = C:=⟨_,rfl⟩
 have HC:=Lib.hid hC
 have e0:C = G:=by rw [hG] at hs;simp at hC;rw [hC] at hs;exact hs.symm
 subst e0
 have e1:((get4 ((xs.drop 2).take 4):Int) != (D:Int)) = true:=bne_iff_ne.2 (by omega)
 generalize xs.getD 1 0 = m at *
 generalize get4 ((xs.drop 2).take 4) = O at *
 generalize get4 ((xs.drop 6).take 4) = M at *
 clear hP h hr hc hm hn hs ho hT hG hC hE
 go_enter Tryz.func111,Tryz.ntmps111
 go_wp2_with fail
 refine Calls.mono (HK.out _) ?_
 rintro e w1 ⟨rfl,hb⟩
 obtain ⟨hb1,h1,h2,hs⟩:=two_of hb
 have HB:=Lib.hid hb1
 clear hb hb1
 go_wp2_with fail
 refine Calls.mono (HR.out _ (H.out.keep HB.out)) ?_
 rintro e w2 ⟨q0,n0,k0,rfl,hb⟩
 have h1':=(hb.block _ (by omega)).trans h1
 have h2':=(hb.block _ (by omega)).trans h2
 have hs2:w.heap.size + 2≤w2.heap.size:=Nat.le_trans hs hb.size
 have HB2:=Lib.hid (bl HB.out hb HB.out.size)
 clear hb h1 h2 hs
 have c0:∀ o',(w2.alloc o').cell? ⟨w.heap.size,0,none⟩ = _:=fun _=>calloc (cells_four h1').1
 have c1:∀ o',(w2.alloc o').cell? ⟨w.heap.size,1,none⟩ = _:=fun _=>calloc (cells_four h1').2.1
 have c2:∀ o',(w2.alloc o').cell? ⟨w.heap.size,2,none⟩ = _:=fun _=>calloc (cells_four h1').2.2.1
 have c3:∀ o',(w2.alloc o').cell? ⟨w.heap.size,3,none⟩ = _:=fun _=>calloc (cells_four h1').2.2.2
 go_wp2_with fail
 refine Calls.mono (HN.out _) ?_
 rintro e w3 ⟨rfl,hb⟩
 obtain ⟨hb3,h3,hs3⟩:=one_of hb
 have h1:=(hb3.block _ (by omega)).trans h1'
 have h2:=(hb3.block _ (by omega)).trans h2'
 have HB3:=Lib.hid (bl HB2.out hb3 HB2.out.size)
 have HX:Hid (w.heap.size + 2≤w2.heap.size):=hs2
 clear hb hb3 h1' h2' c0 c1 c2 c3
 go_wp2_with fail
 refine Calls.mono (SGet_any _ _ _ _ _ (Sl.part (k:=E) (m:=4) (H.out.keep HB3.out) HE.out)) ?_
 rintro e w4 ⟨rfl,hb⟩
 rw [if_pos rfl,HG.out]
 have h1':=(hb.block _ (by omega)).trans h1
 have h2':=(hb.block _ (by omega)).trans h2
 have h3':=(hb.block _ (by omega)).trans h3
 have hs4:w2.heap.size + 1≤w4.heap.size:=Nat.le_trans hs3 hb.size
 have HB4:=Lib.hid (bl HB3.out hb HB3.out.size)
 clear hb h1 h2 h3 hs3
 go_wp2_with fail
 refine Calls.mono (SOf_any _ _ _ [xs.take E] _ (sl2_one (hnew rfl) ((Sl.front' (H.out.keep HB4.out) HE'.out).keep (al (Below.refl _ _) (Nat.le_refl _)))) (HT.out.keep (al HB4.out HB4.out.size))) ?_
 rintro e w5 ⟨rfl,hb⟩
 obtain ⟨hb5,-,hs5'⟩:=one_of hb
 have h1:=(hb5.block _ (by omega)).trans h1'
 have h2:=(hb5.block _ (by omega)).trans h2'
 have h3:=(hb5.block _ (by omega)).trans h3'
 have hs5:w2.heap.size + 1≤w5.heap.size:=by omega
 have HB5:=Lib.hid (bl HB4.out hb5 HB4.out.size)
 clear hb hb5 h1' h2' h3' hs5' hs4
 rw [HC.out]
 obtain ⟨c0,c1,c2,c3⟩:=cells_four h1
 obtain ⟨d0,d1,d2⟩:=cells_three h3
 go_wp2_with (refine wpList_store_row (o:=⟨none,.store 122 (.tmp 4) (.tmp 73),_,_,_,_⟩) rfl 122 (.tmp 4) (.tmp 73) rfl (w.heap.size + 1) #[.int .u8 0,.int .u32 0,.int .u32 0,.int .u8 0,.slice none 0 0,.int .u64 0,.slice none 0 0] rfl rfl _ _ h2 info_packet rfl (by simp [Value.oneCell']) ?_)
 refine bodyPost_ret (res_ct rfl _ _ _ 122 #[.int .u8 0,.int .u32 0,.int .u32 0,.int .u8 0,.slice none 0 0,.int .u64 0,.slice none 0 0] (0,0) _ (.int .i64 9) rfl (hrs h2) rfl Tryz.underlying122 rfl info_packet) rfl ?_
 exact ⟨rfl,below_row HB5.out (by omega)⟩
end Go.Proofs.YtccaiiigdfieoaaGreatDoor
