/- DERIVED: THE SHELF's CONTRACTS AT THIS DUMP,IN PLAIN WORDS (tools/lay-plain.mjs out of 'TryzShelf.lean',which tools/lay-shelf.mjs wrote): THE SAME DECLARATIONS UNDER THE SAME NAMES: 'import','namespace','open','def','theorem' AND NOTHING ELSE: no command of the shelf's: FOR A HAND-IN. Each laying: the table of numbers ('.._ren') and one theorem,a field a fact of the dump's own or the kernel's comparison; each contract: ONE APPLICATION. The library: FormatUint of base 10; Itoa; Join. The plan's Room,Pad,Text; the reference's Text. Chapter 13: head.Read. The contracts of bytes.Clone,of Same of lists of rows,of slices.Equal at ints,of Harms. A region that draws its order: as in text RC,but one extract ahead of the tail may slip behind the tail's first operation (a store). Chapter 15: packet.Read. Chapter 15: packet.Read of what is one. Chapter 15: packet.Read whole; packet.Equation (of what fits). Chapter 18: gate.New (of a plan that may be); the counts in memory. -/
import Derived.Test.YtccaiiigdfieoaaGreatDoorZk4
import Derived.Shelf.Strings.Builder1
import Derived.Shelf.Strings.Builder2
import Derived.Shelf.Strings.OnBuilder
import Derived.Shelf.Small.Bits
import Derived.Shelf.Small.Strs
import Derived.Shelf.Small.Wraps
import Derived.Shelf.Strings.BuilderF
import Derived.Shelf.Strings.BuilderK
import Derived.Shelf.Utf8.RuneCount
import Derived.Shelf.Strings.Builder2Cap
import Derived.Shelf.Strconv.Itoa0
import Derived.Shelf.Strconv.Itoa1
import Derived.Shelf.LaysM
import Derived.Shelf.Strconv.Itoa2
import Derived.Shelf.Strconv.Itoa3
import Derived.Shelf.Strconv.Clone
import Derived.Shelf.Strconv.SyntaxError
import Derived.Shelf.LaysC
import Derived.Shelf.Strconv.ToError
import Derived.Shelf.Strconv.Lower
import Derived.Shelf.Strconv.ParseUint10
import Derived.Shelf.Strconv.ParseUint10Empty
import Derived.Shelf.Strconv.ParseUint10Any
import Derived.Shelf.Strconv.RangeError
import Derived.Shelf.Strconv.ToErrorRange
import Derived.Shelf.Strconv.ParseUintEmpty
import Derived.Shelf.Strconv.ParseUint10b64
import Derived.Shelf.Strconv.ParseUint10b32
import Derived.Shelf.Strconv.ParseUint10b16
import Derived.Shelf.Strconv.ParseUint10b8
import Derived.Shelf.Strconv.ParseUint10At
import Derived.Ground.MpProg
import Derived.Shelf.Pu.ParseUintPublic10
import Derived.Shelf.Pu.ErrVarParseUint
import Derived.Shelf.Strings.Search1
import Derived.Shelf.Strings.Search2
import Derived.Shelf.Strings.Search3
import Derived.Shelf.Strings.Count
import Derived.Shelf.Strings.Shaped
import Derived.Shelf.Sort.Plain
import Derived.Shelf.Strings.Prefix
import Derived.Shelf.Strings.Split
import Derived.Shelf.Strings.SplitShaped
import Derived.Shelf.Unicode.Decode
import Derived.Shelf.Strings.RuneCount
import Derived.Shelf.Strings.Explode
import Derived.Shelf.Unicode.DecodeSlow
import Derived.Shelf.Unicode.DecodeAny
import Derived.Shelf.Strings.BuilderCap
import Derived.Shelf.Slices.Equal
import Derived.Ground.Names2Prog
import Derived.Shelf.Slices.SearchI
import Derived.Shelf.Slices.In.SortNone
import Derived.Shelf.Slices.Empties2
import Derived.Shelf.Bytes.SlSearch0
import Derived.Ground.SlbCloneProg
import Derived.Shelf.Bytes.SlClone
import Derived.Shelf.Bytes.SlEqualAll
import Derived.Shelf.Bytes.Small
import Derived.Test.YtccaiiigdfieoaaGreatDoorProg
import Derived.Lib.ItoaMem
import Derived.Lib.Join
import Derived.BigCall
import Derived.BigGuard
import Derived.Lib.ItoaLen
import Derived.Maps.RangeWalk
import Derived.Maps.Own
import Derived.Maps.OwnSet
import Derived.Maps.OwnOps
import Derived.Maps.Views
import Derived.Maps.Ext
namespace Go.Proofs
open Go.Shelf
def Tryz.lays169_ren:Go.Shelf.Ren:=⟨fun | 169=>74 | n=>n,fun | 70=>133 | 9=>9 | 0=>0 | 72=>135 | 37=>22 | 127=>211 | 3=>3 | 5=>5 | n=>n,fun | n=>n⟩
theorem Tryz.lays169:Go.Proofs.Lays.n169 Tryz.prog Tryz.lays169_ren:={
 mixed:=by kernel_rfl
 f169:=Tryz.func74.trans (congrArg some (by kernel_rfl))
 t0:=Tryz.underlying0
 a0:=Tryz.isAgg0
 z0:=Tryz.sizeOf0
 v0:=Tryz.zeroValue0
 t3:=Tryz.underlying3
 a3:=Tryz.isAgg3
 z3:=Tryz.sizeOf3
 v3:=Tryz.zeroValue3
 t9:=Tryz.underlying9
 a9:=Tryz.isAgg9
 z9:=Tryz.sizeOf9
 v9:=Tryz.zeroValue9
 t37:=Tryz.underlying22
 a37:=Tryz.isAgg22
 z37:=Tryz.sizeOf22
 v37:=Tryz.zeroValue22
 t70:=Tryz.underlying133
 a70:=Tryz.isAgg133
 z70:=Tryz.sizeOf133
 v70:=Tryz.zeroValue133
 t72:=Tryz.underlying135
 a72:=Tryz.isAgg135
 z72:=Tryz.sizeOf135
 v72:=Tryz.zeroValue135
 t127:=Tryz.underlying211
 a127:=Tryz.isAgg211
 z127:=Tryz.sizeOf211
 v127:=Tryz.zeroValue211 }
theorem Tryz.Builder_Extra_169:Builder.Extra Tryz.prog Tryz.lays169_ren:={
 sizeBuilder:=by kernel_rfl
 liesBuilder:=by kernel_rfl
 t5:=Tryz.underlying5
 a5:=Tryz.isAgg5
 z5:=Tryz.sizeOf5
 v5:=Tryz.zeroValue5
 infoByte:=by kernel_rfl
 cellsByte:=by kernel_rfl
 sizeByte:=by kernel_rfl
 neB5:=by decide }
open Go.RowKit in
theorem Tryz.Builder_String_any (B b:Nat) (l:List UInt8) (w:World) (h:Lib.IsBuilder 135 5 B b (Lib.byteCells l) w) (hBw:B≤w.heap.size) :
  Calls Tryz.prog 74 #[.pointer (some ⟨b,0,none⟩)] w fun e w'=>e = .returned (.string ⟨l.toArray⟩)∧Below B w w':=Any.Builder_String_any Tryz.lays169 Tryz.Builder_Extra_169 B b l w h hBw
def Tryz.lays156_ren:Go.Shelf.Ren:=⟨fun | 156=>127 | 165=>192 | 166=>70 | 169=>74 | 240=>126 | 241=>229 | 276=>191 | 277=>254 | n=>n,fun | 31=>88 | 9=>9 | 3=>3 | 4=>4 | 0=>0 | 20=>20 | 72=>135 | 76=>138 | 70=>133 | 37=>22 | 75=>137 | 127=>211 | 164=>267 | 5=>5 | 80=>70 | n=>n,fun | n=>n⟩
theorem Tryz.lays156:Go.Proofs.Lays.n156 Tryz.prog Tryz.lays156_ren:={
 mixed:=by kernel_rfl
 f156:=Tryz.func127.trans (congrArg some (by kernel_rfl))
 f165:=Tryz.func192.trans (congrArg some (by kernel_rfl))
 f166:=Tryz.func70.trans (congrArg some (by kernel_rfl))
 f169:=Tryz.func74.trans (congrArg some (by kernel_rfl))
 f240:=Tryz.func126.trans (congrArg some (by kernel_rfl))
 f241:=Tryz.func229.trans (congrArg some (by kernel_rfl))
 f276:=Tryz.func191.trans (congrArg some (by kernel_rfl))
 f277:=Tryz.func254.trans (congrArg some (by kernel_rfl))
 t0:=Tryz.underlying0
 a0:=Tryz.isAgg0
 z0:=Tryz.sizeOf0
 v0:=Tryz.zeroValue0
 t3:=Tryz.underlying3
 a3:=Tryz.isAgg3
 z3:=Tryz.sizeOf3
 v3:=Tryz.zeroValue3
 t4:=Tryz.underlying4
 a4:=Tryz.isAgg4
 z4:=Tryz.sizeOf4
 v4:=Tryz.zeroValue4
 t9:=Tryz.underlying9
 a9:=Tryz.isAgg9
 z9:=Tryz.sizeOf9
 v9:=Tryz.zeroValue9
 t20:=Tryz.underlying20
 a20:=Tryz.isAgg20
 z20:=Tryz.sizeOf20
 v20:=Tryz.zeroValue20
 t31:=Tryz.underlying88
 a31:=Tryz.isAgg88
 z31:=Tryz.sizeOf88
 v31:=Tryz.zeroValue88
 t37:=Tryz.underlying22
 a37:=Tryz.isAgg22
 z37:=Tryz.sizeOf22
 v37:=Tryz.zeroValue22
 t70:=Tryz.underlying133
 a70:=Tryz.isAgg133
 z70:=Tryz.sizeOf133
 v70:=Tryz.zeroValue133
 t72:=Tryz.underlying135
 a72:=Tryz.isAgg135
 z72:=Tryz.sizeOf135
 v72:=Tryz.zeroValue135
 t75:=Tryz.underlying137
 a75:=Tryz.isAgg137
 z75:=Tryz.sizeOf137
 v75:=Tryz.zeroValue137
 t76:=Tryz.underlying138
 a76:=Tryz.isAgg138
 z76:=Tryz.sizeOf138
 v76:=Tryz.zeroValue138
 t127:=Tryz.underlying211
 a127:=Tryz.isAgg211
 z127:=Tryz.sizeOf211
 v127:=Tryz.zeroValue211
 t164:=Tryz.underlying267
 a164:=Tryz.isAgg267
 z164:=Tryz.sizeOf267
 v164:=Tryz.zeroValue267 }
theorem Tryz.Builder_Extra_156:Builder.Extra Tryz.prog Tryz.lays156_ren:={
 sizeBuilder:=by kernel_rfl
 liesBuilder:=by kernel_rfl
 t5:=Tryz.underlying5
 a5:=Tryz.isAgg5
 z5:=Tryz.sizeOf5
 v5:=Tryz.zeroValue5
 infoByte:=by kernel_rfl
 cellsByte:=by kernel_rfl
 sizeByte:=by kernel_rfl
 neB5:=by decide }
open Go.RowKit in
theorem Tryz.strings_Join (bk o c:Nat) (xs:List ByteArray) (sep:ByteArray) (w:World) (hcells:∀ (j:Nat) x,xs[j]? = some x→w.cell? ⟨bk,o + j,none⟩ = some (.string x)) (hbk:bk < w.heap.size) (hN:xs.length≤140737488355328) (hcap:xs.length≤c) (hlen:(Lib.join (xs.map (·.data.toList)) sep.data.toList).length≤140737488355328) :
  Calls Tryz.prog 127 #[.slice (some ⟨bk,o,none⟩) xs.length c,.string sep] w fun e w'=>e = .returned (.string ⟨(Lib.join (xs.map (·.data.toList)) sep.data.toList).toArray⟩)∧Below w.heap.size w w':=Any.strings_Join Tryz.lays156 Tryz.Builder_Extra_156 bk o c xs sep w hcells hbk hN hcap hlen
def Tryz.lays137_ren:Go.Shelf.Ren:=⟨fun | 137=>123 | 217=>189 | 266=>226 | n=>n,fun | 9=>9 | 5=>5 | 3=>3 | n=>n,fun | n=>n⟩
theorem Tryz.lays137:Go.Proofs.Lays.n137 Tryz.prog Tryz.lays137_ren:={
 mixed:=by kernel_rfl
 f137:=Tryz.func123.trans (congrArg some (by kernel_rfl))
 f217:=Tryz.func189.trans (congrArg some (by kernel_rfl))
 f266:=Tryz.func226.trans (congrArg some (by kernel_rfl))
 t3:=Tryz.underlying3
 a3:=Tryz.isAgg3
 z3:=Tryz.sizeOf3
 v3:=Tryz.zeroValue3
 t5:=Tryz.underlying5
 a5:=Tryz.isAgg5
 z5:=Tryz.sizeOf5
 v5:=Tryz.zeroValue5
 t9:=Tryz.underlying9
 a9:=Tryz.isAgg9
 z9:=Tryz.sizeOf9
 v9:=Tryz.zeroValue9 }
open Go.RowKit in
theorem Tryz.strings_IndexByte (s:ByteArray) (c:Int) (w:World) :
  Calls Tryz.prog 123 #[.string s,.int .u8 c] w fun e w'=>e = .returned (.int .i64 (Lib.indexByte s.data.toList c.toNat.toUInt8))∧w' = w:=Any.strings_IndexByte Tryz.lays137 s c w
def Tryz.lays104_ren:Go.Shelf.Ren:=⟨fun | 104=>66 | 211=>121 | 207=>185 | n=>n,fun | 9=>9 | 4=>4 | 24=>129 | 3=>3 | n=>n,fun | n=>n⟩
theorem Tryz.lays104:Go.Proofs.Lays.n104 Tryz.prog Tryz.lays104_ren:={
 mixed:=by kernel_rfl
 f104:=Tryz.func66.trans (congrArg some (by kernel_rfl))
 f207:=Tryz.func185.trans (congrArg some (by kernel_rfl))
 f211:=Tryz.func121.trans (congrArg some (by kernel_rfl))
 t3:=Tryz.underlying3
 a3:=Tryz.isAgg3
 z3:=Tryz.sizeOf3
 v3:=Tryz.zeroValue3
 t4:=Tryz.underlying4
 a4:=Tryz.isAgg4
 z4:=Tryz.sizeOf4
 v4:=Tryz.zeroValue4
 t9:=Tryz.underlying9
 a9:=Tryz.isAgg9
 z9:=Tryz.sizeOf9
 v9:=Tryz.zeroValue9
 t24:=Tryz.underlying129
 a24:=Tryz.isAgg129
 z24:=Tryz.sizeOf129
 v24:=Tryz.zeroValue129 }
open Go.RowKit in
theorem Tryz.strings_CutSuffix (s p:ByteArray) (w:World) (hs:s.size≤9223372036854775807) :
  Calls Tryz.prog 66 #[.string s,.string p] w fun e w'=>e = .returned (.tuple #[.string ⟨(Lib.trimSuffix s.data.toList p.data.toList).toArray⟩,.bool (Lib.hasSuffix s.data.toList p.data.toList)])∧w' = w:=Any.strings_CutSuffix Tryz.lays104 s p w hs
def Tryz.lays283_ren:Go.Shelf.Ren:=⟨fun | 283=>230 | n=>n,fun | 3=>3 | 9=>9 | 4=>4 | n=>n,fun | n=>n⟩
theorem Tryz.lays283:Go.Proofs.Lays.n283 Tryz.prog Tryz.lays283_ren:={
 mixed:=by kernel_rfl
 f283:=Tryz.func230.trans (congrArg some (by kernel_rfl))
 t3:=Tryz.underlying3
 a3:=Tryz.isAgg3
 z3:=Tryz.sizeOf3
 v3:=Tryz.zeroValue3
 t4:=Tryz.underlying4
 a4:=Tryz.isAgg4
 z4:=Tryz.sizeOf4
 v4:=Tryz.zeroValue4
 t9:=Tryz.underlying9
 a9:=Tryz.isAgg9
 z9:=Tryz.sizeOf9
 v9:=Tryz.zeroValue9 }
open Go.Lib in
theorem Tryz.internal_strconv_small (i:Nat) (h:i < 100) (w:World) :
  Calls Tryz.prog 230 #[.int .i64 i] w fun e w'=>e = .returned (.string ⟨(Lib.decDigits i).toArray⟩)∧w' = w:=Any.internal_strconv_small Tryz.lays283 i h w
def Tryz.laysM284_ren:Go.Shelf.Ren:=⟨fun | 284=>231 | 129=>256 | 317=>255 | 318=>257 | n=>n,fun | 53=>81 | 3=>3 | 212=>323 | 0=>0 | 4=>4 | 46=>142 | 5=>5 | 9=>9 | n=>n,fun | 17=>2 | n=>n⟩
theorem Tryz.laysM284:Go.Proofs.LaysM.n284 Tryz.prog Tryz.laysM284_ren:={
 mixed:=by kernel_rfl
 f129:=Tryz.func256.trans (congrArg some (by kernel_rfl))
 f284:=Tryz.func231.trans (congrArg some (by kernel_rfl))
 f317:=Tryz.func255.trans (congrArg some (by kernel_rfl))
 f318:=Tryz.func257.trans (congrArg some (by kernel_rfl))
 t0:=Tryz.underlying0
 a0:=Tryz.isAgg0
 z0:=Tryz.sizeOf0
 v0:=Tryz.zeroValue0
 t3:=Tryz.underlying3
 a3:=Tryz.isAgg3
 z3:=Tryz.sizeOf3
 v3:=Tryz.zeroValue3
 t4:=Tryz.underlying4
 a4:=Tryz.isAgg4
 z4:=Tryz.sizeOf4
 v4:=Tryz.zeroValue4
 t5:=Tryz.underlying5
 a5:=Tryz.isAgg5
 z5:=Tryz.sizeOf5
 v5:=Tryz.zeroValue5
 t9:=Tryz.underlying9
 a9:=Tryz.isAgg9
 z9:=Tryz.sizeOf9
 v9:=Tryz.zeroValue9
 t46:=Tryz.underlying142
 a46:=Tryz.isAgg142
 z46:=Tryz.sizeOf142
 v46:=Tryz.zeroValue142
 t53:=Tryz.underlying81
 a53:=Tryz.isAgg81
 z53:=Tryz.sizeOf81
 v53:=Tryz.zeroValue81
 t212:=Tryz.underlying323
 a212:=Tryz.isAgg323
 z212:=Tryz.sizeOf323
 v212:=Tryz.zeroValue323
 g17:=by kernel_rfl
 i0:=by kernel_rfl
 i3:=by kernel_rfl
 i4:=by kernel_rfl
 i5:=by kernel_rfl
 i9:=by kernel_rfl
 i46:=by kernel_rfl
 i53:=by kernel_rfl
 i212:=by kernel_rfl
 m17:=by kernel_rfl }
open Go.Lib in
theorem Tryz.internal_strconv_numDigits (u : Nat) (h1 : 1 ≤ u) (h2 : u < 18446744073709551616) (w : World) (htab : Lib.TabIs Tryz.prog w "internal/strconv.uint64pow10" .u64 Lib.pow10Tab) :
  Calls Tryz.prog 231 #[.int .u64 u] w fun e w'=>e = .returned (.int .i64 (Lib.nDigits u))∧w' = w:=Any.internal_strconv_numDigits Tryz.laysM284 u h1 h2 w htab
def Tryz.lays285_ren:Go.Shelf.Ren:=⟨fun | 285=>232 | n=>n,fun | 37=>22 | 53=>81 | 3=>3 | 4=>4 | 51=>23 | 9=>9 | 5=>5 | 0=>0 | n=>n,fun | n=>n⟩
theorem Tryz.lays285:Go.Proofs.Lays.n285 Tryz.prog Tryz.lays285_ren:={
 mixed:=by kernel_rfl
 f285:=Tryz.func232.trans (congrArg some (by kernel_rfl))
 t0:=Tryz.underlying0
 a0:=Tryz.isAgg0
 z0:=Tryz.sizeOf0
 v0:=Tryz.zeroValue0
 t3:=Tryz.underlying3
 a3:=Tryz.isAgg3
 z3:=Tryz.sizeOf3
 v3:=Tryz.zeroValue3
 t4:=Tryz.underlying4
 a4:=Tryz.isAgg4
 z4:=Tryz.sizeOf4
 v4:=Tryz.zeroValue4
 t5:=Tryz.underlying5
 a5:=Tryz.isAgg5
 z5:=Tryz.sizeOf5
 v5:=Tryz.zeroValue5
 t9:=Tryz.underlying9
 a9:=Tryz.isAgg9
 z9:=Tryz.sizeOf9
 v9:=Tryz.zeroValue9
 t37:=Tryz.underlying22
 a37:=Tryz.isAgg22
 z37:=Tryz.sizeOf22
 v37:=Tryz.zeroValue22
 t51:=Tryz.underlying23
 a51:=Tryz.isAgg23
 z51:=Tryz.sizeOf23
 v51:=Tryz.zeroValue23
 t53:=Tryz.underlying81
 a53:=Tryz.isAgg81
 z53:=Tryz.sizeOf81
 v53:=Tryz.zeroValue81 }
open Go.RowKit Go.Sort Go.Lib in
theorem Tryz.internal_strconv_formatBase10 (blk off cap:Nat) (u:Nat) (d:Array UInt8) (w:World) (hH:Holds (fun (b:UInt8)=>Value.int .u8 (b.toNat:Int)) w blk off d) (hu:u < 10 ^ d.size) (hu64:u < 18446744073709551616) (hsz:d.size < 4611686018427387904) :
  Calls Tryz.prog 232 #[.slice (some ⟨blk,off,none⟩) d.size cap,.int .u64 u] w fun e w' =>
   e = .returned (.tuple #[])∧∃ (n v':Nat) (dk:Array UInt8),w' = (putRow (fun (b:UInt8)=>Value.int .u8 (b.toNat:Int)) w blk off dk).drewN n∧FmtInv d.size u 0 v' dk:=Any.internal_strconv_formatBase10 Tryz.lays285 blk off cap u d w hH hu hu64 hsz
def Tryz.laysM171_ren:Go.Shelf.Ren:=⟨fun | 171=>91 | 243=>157 | 246=>207 | 283=>230 | 284=>231 | 285=>232 | 286=>233 | 129=>256 | 317=>255 | 318=>257 | 319=>258 | 320=>259 | 337=>274 | 338=>275 | n=>n,fun | 3=>3 | 9=>9 | 2=>2 | 4=>4 | 171=>298 | 0=>0 | 53=>81 | 37=>22 | 5=>5 | 173=>301 | 212=>323 | 51=>23 | 20=>20 | 213=>324 | 46=>142 | 232=>353 | 233=>354 | n=>n,fun | 17=>2 | 18=>7 | 19=>8 | n=>n⟩
theorem Tryz.laysM171:Go.Proofs.LaysM.n171 Tryz.prog Tryz.laysM171_ren:={
 mixed:=by kernel_rfl
 f129:=Tryz.func256.trans (congrArg some (by kernel_rfl))
 f171:=Tryz.func91.trans (congrArg some (by kernel_rfl))
 f243:=Tryz.func157.trans (congrArg some (by kernel_rfl))
 f246:=Tryz.func207.trans (congrArg some (by kernel_rfl))
 f283:=Tryz.func230.trans (congrArg some (by kernel_rfl))
 f284:=Tryz.func231.trans (congrArg some (by kernel_rfl))
 f285:=Tryz.func232.trans (congrArg some (by kernel_rfl))
 f286:=Tryz.func233.trans (congrArg some (by kernel_rfl))
 f317:=Tryz.func255.trans (congrArg some (by kernel_rfl))
 f318:=Tryz.func257.trans (congrArg some (by kernel_rfl))
 f319:=Tryz.func258.trans (congrArg some (by kernel_rfl))
 f320:=Tryz.func259.trans (congrArg some (by kernel_rfl))
 f337:=Tryz.func274.trans (congrArg some (by kernel_rfl))
 f338:=Tryz.func275.trans (congrArg some (by kernel_rfl))
 t0:=Tryz.underlying0
 a0:=Tryz.isAgg0
 z0:=Tryz.sizeOf0
 v0:=Tryz.zeroValue0
 t2:=Tryz.underlying2
 a2:=Tryz.isAgg2
 z2:=Tryz.sizeOf2
 v2:=Tryz.zeroValue2
 t3:=Tryz.underlying3
 a3:=Tryz.isAgg3
 z3:=Tryz.sizeOf3
 v3:=Tryz.zeroValue3
 t4:=Tryz.underlying4
 a4:=Tryz.isAgg4
 z4:=Tryz.sizeOf4
 v4:=Tryz.zeroValue4
 t5:=Tryz.underlying5
 a5:=Tryz.isAgg5
 z5:=Tryz.sizeOf5
 v5:=Tryz.zeroValue5
 t9:=Tryz.underlying9
 a9:=Tryz.isAgg9
 z9:=Tryz.sizeOf9
 v9:=Tryz.zeroValue9
 t20:=Tryz.underlying20
 a20:=Tryz.isAgg20
 z20:=Tryz.sizeOf20
 v20:=Tryz.zeroValue20
 t37:=Tryz.underlying22
 a37:=Tryz.isAgg22
 z37:=Tryz.sizeOf22
 v37:=Tryz.zeroValue22
 t46:=Tryz.underlying142
 a46:=Tryz.isAgg142
 z46:=Tryz.sizeOf142
 v46:=Tryz.zeroValue142
 t51:=Tryz.underlying23
 a51:=Tryz.isAgg23
 z51:=Tryz.sizeOf23
 v51:=Tryz.zeroValue23
 t53:=Tryz.underlying81
 a53:=Tryz.isAgg81
 z53:=Tryz.sizeOf81
 v53:=Tryz.zeroValue81
 t171:=Tryz.underlying298
 a171:=Tryz.isAgg298
 z171:=Tryz.sizeOf298
 v171:=Tryz.zeroValue298
 t173:=Tryz.underlying301
 a173:=Tryz.isAgg301
 z173:=Tryz.sizeOf301
 v173:=Tryz.zeroValue301
 t212:=Tryz.underlying323
 a212:=Tryz.isAgg323
 z212:=Tryz.sizeOf323
 v212:=Tryz.zeroValue323
 t213:=Tryz.underlying324
 a213:=Tryz.isAgg324
 z213:=Tryz.sizeOf324
 t232:=Tryz.underlying353
 a232:=Tryz.isAgg353
 z232:=Tryz.sizeOf353
 v232:=Tryz.zeroValue353
 t233:=Tryz.underlying354
 a233:=Tryz.isAgg354
 z233:=Tryz.sizeOf354
 v233:=Tryz.zeroValue354
 g17:=by kernel_rfl
 g18:=by kernel_rfl
 g19:=by kernel_rfl
 i0:=by kernel_rfl
 i2:=by kernel_rfl
 i3:=by kernel_rfl
 i4:=by kernel_rfl
 i5:=by kernel_rfl
 i9:=by kernel_rfl
 i20:=by kernel_rfl
 i37:=by kernel_rfl
 i46:=by kernel_rfl
 i51:=by kernel_rfl
 i53:=by kernel_rfl
 i171:=by kernel_rfl
 i173:=by kernel_rfl
 i212:=by kernel_rfl
 i232:=by kernel_rfl
 i233:=by kernel_rfl
 m17:=by kernel_rfl
 m18:=by kernel_rfl
 m19:=by kernel_rfl }
open Go.RowKit Go.Sort Go.Lib in
theorem Tryz.strconv_Itoa (n : Int) (h0 : -9223372036854775808 ≤ n) (h1 : n ≤ 9223372036854775807) (w : World) (htab : Lib.TabIs Tryz.prog w "internal/strconv.uint64pow10" .u64 Lib.pow10Tab) :
  Calls Tryz.prog 91 #[.int .i64 n] w fun e w'=>e = .returned (.string ⟨(Lib.itoa n).toArray⟩)∧∃ k os,w' = grow (w.drewN k) os:=Any.strconv_Itoa Tryz.laysM171 n h0 h1 w htab
def Tryz.laysC245_ren:Go.Shelf.Ren:=⟨fun | 245=>228 | 279=>250 | 280=>251 | 281=>252 | 282=>253 | 316=>272 | 171=>91 | 205=>273 | 243=>157 | 246=>207 | 283=>230 | 284=>231 | 285=>232 | 286=>233 | 129=>256 | 317=>255 | 318=>257 | 319=>258 | 320=>259 | 337=>274 | 338=>275 | n=>n,fun | 9=>9 | 3=>3 | 75=>137 | 167=>317 | 4=>4 | 168=>318 | 210=>343 | 37=>22 | 0=>0 | 127=>211 | 145=>352 | 143=>350 | 2=>2 | 171=>298 | 53=>81 | 5=>5 | 173=>301 | 212=>323 | 51=>23 | 20=>20 | 213=>324 | 46=>142 | 232=>353 | 233=>354 | 80=>70 | n=>n,fun | 15=>5 | 16=>6 | 17=>2 | 18=>7 | 19=>8 | n=>n⟩
theorem Tryz.laysC245:Go.Proofs.LaysC.n245 Tryz.prog Tryz.laysC245_ren:={
 mixed:=by kernel_rfl
 f129:=Tryz.func256.trans (congrArg some (by kernel_rfl))
 f171:=Tryz.func91.trans (congrArg some (by kernel_rfl))
 f205:=Tryz.func273.trans (congrArg some (by kernel_rfl))
 f243:=Tryz.func157.trans (congrArg some (by kernel_rfl))
 f245:=Tryz.func228.trans (congrArg some (by kernel_rfl))
 f246:=Tryz.func207.trans (congrArg some (by kernel_rfl))
 f279:=Tryz.func250.trans (congrArg some (by kernel_rfl))
 f280:=Tryz.func251.trans (congrArg some (by kernel_rfl))
 f281:=Tryz.func252.trans (congrArg some (by kernel_rfl))
 f282:=Tryz.func253.trans (congrArg some (by kernel_rfl))
 f283:=Tryz.func230.trans (congrArg some (by kernel_rfl))
 f284:=Tryz.func231.trans (congrArg some (by kernel_rfl))
 f285:=Tryz.func232.trans (congrArg some (by kernel_rfl))
 f286:=Tryz.func233.trans (congrArg some (by kernel_rfl))
 f316:=Tryz.func272.trans (congrArg some (by kernel_rfl))
 f317:=Tryz.func255.trans (congrArg some (by kernel_rfl))
 f318:=Tryz.func257.trans (congrArg some (by kernel_rfl))
 f319:=Tryz.func258.trans (congrArg some (by kernel_rfl))
 f320:=Tryz.func259.trans (congrArg some (by kernel_rfl))
 f337:=Tryz.func274.trans (congrArg some (by kernel_rfl))
 f338:=Tryz.func275.trans (congrArg some (by kernel_rfl))
 t0:=Tryz.underlying0
 a0:=Tryz.isAgg0
 z0:=Tryz.sizeOf0
 v0:=Tryz.zeroValue0
 t2:=Tryz.underlying2
 a2:=Tryz.isAgg2
 z2:=Tryz.sizeOf2
 v2:=Tryz.zeroValue2
 t3:=Tryz.underlying3
 a3:=Tryz.isAgg3
 z3:=Tryz.sizeOf3
 v3:=Tryz.zeroValue3
 t4:=Tryz.underlying4
 a4:=Tryz.isAgg4
 z4:=Tryz.sizeOf4
 v4:=Tryz.zeroValue4
 t5:=Tryz.underlying5
 a5:=Tryz.isAgg5
 z5:=Tryz.sizeOf5
 v5:=Tryz.zeroValue5
 t9:=Tryz.underlying9
 a9:=Tryz.isAgg9
 z9:=Tryz.sizeOf9
 v9:=Tryz.zeroValue9
 t20:=Tryz.underlying20
 a20:=Tryz.isAgg20
 z20:=Tryz.sizeOf20
 v20:=Tryz.zeroValue20
 t37:=Tryz.underlying22
 a37:=Tryz.isAgg22
 z37:=Tryz.sizeOf22
 v37:=Tryz.zeroValue22
 t46:=Tryz.underlying142
 a46:=Tryz.isAgg142
 z46:=Tryz.sizeOf142
 v46:=Tryz.zeroValue142
 t51:=Tryz.underlying23
 a51:=Tryz.isAgg23
 z51:=Tryz.sizeOf23
 v51:=Tryz.zeroValue23
 t53:=Tryz.underlying81
 a53:=Tryz.isAgg81
 z53:=Tryz.sizeOf81
 v53:=Tryz.zeroValue81
 t75:=Tryz.underlying137
 a75:=Tryz.isAgg137
 z75:=Tryz.sizeOf137
 v75:=Tryz.zeroValue137
 t127:=Tryz.underlying211
 a127:=Tryz.isAgg211
 z127:=Tryz.sizeOf211
 v127:=Tryz.zeroValue211
 t143:=Tryz.underlying350
 a143:=Tryz.isAgg350
 z143:=Tryz.sizeOf350
 v143:=Tryz.zeroValue350
 t145:=Tryz.underlying352
 a145:=Tryz.isAgg352
 z145:=Tryz.sizeOf352
 v145:=Tryz.zeroValue352
 t167:=Tryz.underlying317
 a167:=Tryz.isAgg317
 z167:=Tryz.sizeOf317
 v167:=Tryz.zeroValue317
 t168:=Tryz.underlying318
 a168:=Tryz.isAgg318
 z168:=Tryz.sizeOf318
 v168:=Tryz.zeroValue318
 t171:=Tryz.underlying298
 a171:=Tryz.isAgg298
 z171:=Tryz.sizeOf298
 v171:=Tryz.zeroValue298
 t173:=Tryz.underlying301
 a173:=Tryz.isAgg301
 z173:=Tryz.sizeOf301
 v173:=Tryz.zeroValue301
 t210:=Tryz.underlying343
 a210:=Tryz.isAgg343
 z210:=Tryz.sizeOf343
 v210:=Tryz.zeroValue343
 t212:=Tryz.underlying323
 a212:=Tryz.isAgg323
 z212:=Tryz.sizeOf323
 v212:=Tryz.zeroValue323
 t213:=Tryz.underlying324
 a213:=Tryz.isAgg324
 z213:=Tryz.sizeOf324
 t232:=Tryz.underlying353
 a232:=Tryz.isAgg353
 z232:=Tryz.sizeOf353
 v232:=Tryz.zeroValue353
 t233:=Tryz.underlying354
 a233:=Tryz.isAgg354
 z233:=Tryz.sizeOf354
 v233:=Tryz.zeroValue354
 g15:=by kernel_rfl
 g16:=by kernel_rfl
 g17:=by kernel_rfl
 g18:=by kernel_rfl
 g19:=by kernel_rfl
 t80:=Tryz.underlying70
 a80:=Tryz.isAgg70
 z80:=Tryz.sizeOf70
 v80:=Tryz.zeroValue70
 i0:=by kernel_rfl
 i2:=by kernel_rfl
 i3:=by kernel_rfl
 i4:=by kernel_rfl
 i5:=by kernel_rfl
 i9:=by kernel_rfl
 i20:=by kernel_rfl
 i37:=by kernel_rfl
 i46:=by kernel_rfl
 i51:=by kernel_rfl
 i53:=by kernel_rfl
 i75:=by kernel_rfl
 i80:=by kernel_rfl
 i127:=by kernel_rfl
 i143:=by kernel_rfl
 i145:=by kernel_rfl
 i167:=by kernel_rfl
 i168:=by kernel_rfl
 i171:=by kernel_rfl
 i173:=by kernel_rfl
 i210:=by kernel_rfl
 i212:=by kernel_rfl
 i232:=by kernel_rfl
 i233:=by kernel_rfl
 m15:=by kernel_rfl
 m16:=by kernel_rfl
 m17:=by kernel_rfl
 m18:=by kernel_rfl
 m19:=by kernel_rfl
 c0:=by kernel_rfl
 c2:=by kernel_rfl
 c3:=by kernel_rfl
 c4:=by kernel_rfl
 c5:=by kernel_rfl
 c9:=by kernel_rfl
 c20:=by kernel_rfl
 c37:=by kernel_rfl
 c46:=by kernel_rfl
 c51:=by kernel_rfl
 c53:=by kernel_rfl
 c75:=by kernel_rfl
 c80:=by kernel_rfl
 c127:=by kernel_rfl
 c143:=by kernel_rfl
 c145:=by kernel_rfl
 c167:=by kernel_rfl
 c168:=by kernel_rfl
 c171:=by kernel_rfl
 c173:=by kernel_rfl
 c210:=by kernel_rfl
 c212:=by kernel_rfl
 c213:=by kernel_rfl
 c232:=by kernel_rfl
 c233:=by kernel_rfl }
open Go.RowKit in
theorem Tryz.strconv_toError_range (fn s:ByteArray) (base bits:Int) (ev:Value) (w:World) (hlim:s.size≤281474976710656) (hv:w.cell? ⟨6,0,none⟩ = some ev) (hev:ev = .nilIface∨∃ te pe,ev = .iface te pe) :
  Calls Tryz.prog 228 #[.string fn,.string s,.int .i64 base,.int .i64 bits,.iface 317 (.int .i64 1)] w fun e w'=>∃ N,e = .returned (.iface 318 (.pointer (some ⟨N,0,none⟩)))∧w.heap.size≤N∧w'.heap[N]? = some (.cells #[.string fn,.string s,ev] 343 (0,0))∧Below w.heap.size w w':=Any.strconv_toError_range Tryz.laysC245 fn s base bits ev w hlim hv hev
def Tryz.lays146_ren:Go.Shelf.Ren:=⟨fun | 146=>67 | 221=>122 | 268=>186 | 138=>187 | 143=>188 | 195=>222 | 197=>223 | 218=>224 | 219=>225 | 260=>244 | 217=>189 | 225=>245 | 224=>246 | 267=>247 | 266=>226 | 314=>271 | n=>n,fun | 9=>9 | 31=>88 | 3=>3 | 4=>4 | 0=>0 | 105=>295 | 21=>21 | 5=>5 | 46=>142 | 119=>335 | 139=>338 | 138=>337 | 146=>339 | 51=>23 | n=>n,fun | 1=>1 | 3=>3 | 4=>4 | n=>n⟩
theorem Tryz.lays146:Go.Proofs.Lays.n146 Tryz.prog Tryz.lays146_ren:={
 mixed:=by kernel_rfl
 f138:=Tryz.func187.trans (congrArg some (by kernel_rfl))
 f143:=Tryz.func188.trans (congrArg some (by kernel_rfl))
 f146:=Tryz.func67.trans (congrArg some (by kernel_rfl))
 f195:=Tryz.func222.trans (congrArg some (by kernel_rfl))
 f197:=Tryz.func223.trans (congrArg some (by kernel_rfl))
 f217:=Tryz.func189.trans (congrArg some (by kernel_rfl))
 f218:=Tryz.func224.trans (congrArg some (by kernel_rfl))
 f219:=Tryz.func225.trans (congrArg some (by kernel_rfl))
 f221:=Tryz.func122.trans (congrArg some (by kernel_rfl))
 f224:=Tryz.func246.trans (congrArg some (by kernel_rfl))
 f225:=Tryz.func245.trans (congrArg some (by kernel_rfl))
 f260:=Tryz.func244.trans (congrArg some (by kernel_rfl))
 f266:=Tryz.func226.trans (congrArg some (by kernel_rfl))
 f267:=Tryz.func247.trans (congrArg some (by kernel_rfl))
 f268:=Tryz.func186.trans (congrArg some (by kernel_rfl))
 f314:=Tryz.func271.trans (congrArg some (by kernel_rfl))
 t0:=Tryz.underlying0
 a0:=Tryz.isAgg0
 z0:=Tryz.sizeOf0
 v0:=Tryz.zeroValue0
 t3:=Tryz.underlying3
 a3:=Tryz.isAgg3
 z3:=Tryz.sizeOf3
 v3:=Tryz.zeroValue3
 t4:=Tryz.underlying4
 a4:=Tryz.isAgg4
 z4:=Tryz.sizeOf4
 v4:=Tryz.zeroValue4
 t5:=Tryz.underlying5
 a5:=Tryz.isAgg5
 z5:=Tryz.sizeOf5
 v5:=Tryz.zeroValue5
 t9:=Tryz.underlying9
 a9:=Tryz.isAgg9
 z9:=Tryz.sizeOf9
 v9:=Tryz.zeroValue9
 t21:=Tryz.underlying21
 a21:=Tryz.isAgg21
 z21:=Tryz.sizeOf21
 v21:=Tryz.zeroValue21
 t31:=Tryz.underlying88
 a31:=Tryz.isAgg88
 z31:=Tryz.sizeOf88
 v31:=Tryz.zeroValue88
 t46:=Tryz.underlying142
 a46:=Tryz.isAgg142
 z46:=Tryz.sizeOf142
 v46:=Tryz.zeroValue142
 t51:=Tryz.underlying23
 a51:=Tryz.isAgg23
 z51:=Tryz.sizeOf23
 v51:=Tryz.zeroValue23
 t105:=Tryz.underlying295
 a105:=Tryz.isAgg295
 z105:=Tryz.sizeOf295
 v105:=Tryz.zeroValue295
 t119:=Tryz.underlying335
 a119:=Tryz.isAgg335
 z119:=Tryz.sizeOf335
 t138:=Tryz.underlying337
 a138:=Tryz.isAgg337
 z138:=Tryz.sizeOf337
 v138:=Tryz.zeroValue337
 t139:=Tryz.underlying338
 a139:=Tryz.isAgg338
 z139:=Tryz.sizeOf338
 v139:=Tryz.zeroValue338
 t146:=Tryz.underlying339
 a146:=Tryz.isAgg339
 z146:=Tryz.sizeOf339
 v146:=Tryz.zeroValue339
 g1:=by kernel_rfl
 g3:=by kernel_rfl
 g4:=by kernel_rfl }
open Go.RowKit Go.Lib in
theorem Tryz.strings_Split (s sep:ByteArray) (m:Int) (w:World) (hs:s.size < 4294967281) (hm:w.cell? ⟨1,0,none⟩ = some (.int .i64 m)) (h1:1≤sep.size) :
  Calls Tryz.prog 67 #[.string s,.string sep] w fun e w' =>
   e = .returned (.slice (some ⟨w.heap.size,0,none⟩) (Lib.countB s sep + 1) (Lib.countB s sep + 1))∧w' = w.alloc (.cells ((Lib.splitB sep 0 (Lib.countB s sep) s).map Value.string).toArray 9):=Any.strings_Split Tryz.lays146 (by kernel_rfl) s sep m w hs hm h1
def Tryz.lays147_ren:Go.Shelf.Ren:=⟨fun | 147=>124 | 221=>122 | 268=>186 | 138=>187 | 143=>188 | 195=>222 | 197=>223 | 218=>224 | 219=>225 | 260=>244 | 217=>189 | 225=>245 | 224=>246 | 267=>247 | 266=>226 | 314=>271 | n=>n,fun | 9=>9 | 3=>3 | 31=>88 | 4=>4 | 0=>0 | 105=>295 | 21=>21 | 5=>5 | 46=>142 | 119=>335 | 139=>338 | 138=>337 | 146=>339 | 51=>23 | n=>n,fun | 1=>1 | 3=>3 | 4=>4 | n=>n⟩
theorem Tryz.lays147:Go.Proofs.Lays.n147 Tryz.prog Tryz.lays147_ren:={
 mixed:=by kernel_rfl
 f138:=Tryz.func187.trans (congrArg some (by kernel_rfl))
 f143:=Tryz.func188.trans (congrArg some (by kernel_rfl))
 f147:=Tryz.func124.trans (congrArg some (by kernel_rfl))
 f195:=Tryz.func222.trans (congrArg some (by kernel_rfl))
 f197:=Tryz.func223.trans (congrArg some (by kernel_rfl))
 f217:=Tryz.func189.trans (congrArg some (by kernel_rfl))
 f218:=Tryz.func224.trans (congrArg some (by kernel_rfl))
 f219:=Tryz.func225.trans (congrArg some (by kernel_rfl))
 f221:=Tryz.func122.trans (congrArg some (by kernel_rfl))
 f224:=Tryz.func246.trans (congrArg some (by kernel_rfl))
 f225:=Tryz.func245.trans (congrArg some (by kernel_rfl))
 f260:=Tryz.func244.trans (congrArg some (by kernel_rfl))
 f266:=Tryz.func226.trans (congrArg some (by kernel_rfl))
 f267:=Tryz.func247.trans (congrArg some (by kernel_rfl))
 f268:=Tryz.func186.trans (congrArg some (by kernel_rfl))
 f314:=Tryz.func271.trans (congrArg some (by kernel_rfl))
 t0:=Tryz.underlying0
 a0:=Tryz.isAgg0
 z0:=Tryz.sizeOf0
 v0:=Tryz.zeroValue0
 t3:=Tryz.underlying3
 a3:=Tryz.isAgg3
 z3:=Tryz.sizeOf3
 v3:=Tryz.zeroValue3
 t4:=Tryz.underlying4
 a4:=Tryz.isAgg4
 z4:=Tryz.sizeOf4
 v4:=Tryz.zeroValue4
 t5:=Tryz.underlying5
 a5:=Tryz.isAgg5
 z5:=Tryz.sizeOf5
 v5:=Tryz.zeroValue5
 t9:=Tryz.underlying9
 a9:=Tryz.isAgg9
 z9:=Tryz.sizeOf9
 v9:=Tryz.zeroValue9
 t21:=Tryz.underlying21
 a21:=Tryz.isAgg21
 z21:=Tryz.sizeOf21
 v21:=Tryz.zeroValue21
 t31:=Tryz.underlying88
 a31:=Tryz.isAgg88
 z31:=Tryz.sizeOf88
 v31:=Tryz.zeroValue88
 t46:=Tryz.underlying142
 a46:=Tryz.isAgg142
 z46:=Tryz.sizeOf142
 v46:=Tryz.zeroValue142
 t51:=Tryz.underlying23
 a51:=Tryz.isAgg23
 z51:=Tryz.sizeOf23
 v51:=Tryz.zeroValue23
 t105:=Tryz.underlying295
 a105:=Tryz.isAgg295
 z105:=Tryz.sizeOf295
 v105:=Tryz.zeroValue295
 t119:=Tryz.underlying335
 a119:=Tryz.isAgg335
 z119:=Tryz.sizeOf335
 t138:=Tryz.underlying337
 a138:=Tryz.isAgg337
 z138:=Tryz.sizeOf337
 v138:=Tryz.zeroValue337
 t139:=Tryz.underlying338
 a139:=Tryz.isAgg338
 z139:=Tryz.sizeOf338
 v139:=Tryz.zeroValue338
 t146:=Tryz.underlying339
 a146:=Tryz.isAgg339
 z146:=Tryz.sizeOf339
 v146:=Tryz.zeroValue339
 g1:=by kernel_rfl
 g3:=by kernel_rfl
 g4:=by kernel_rfl }
open Go.RowKit Go.Lib in
theorem Tryz.strings_SplitN (s sep:ByteArray) (n:Nat) (m:Int) (w:World) (hs:s.size < 4294967281) (hm:w.cell? ⟨1,0,none⟩ = some (.int .i64 m)) (h1:1≤sep.size) (hn:1≤n) (hn63:n≤9223372036854775807) :
  Calls Tryz.prog 124 #[.string s,.string sep,.int .i64 n] w fun e w' =>
   e = .returned (.slice (some ⟨w.heap.size,0,none⟩) (Lib.splitB sep 0 (min n (s.size + 1) - 1) s).length (min n (s.size + 1)))∧w' = w.alloc (.cells (Lib.cellsOf (Lib.splitB sep 0 (min n (s.size + 1) - 1) s) (min n (s.size + 1))) 9):=Any.strings_SplitN Tryz.lays147 (by kernel_rfl) s sep n m w hs hm h1 hn hn63
end Go.Proofs
namespace Go.By
open Go.RowKit
theorem below_growN (w:World) (k:Nat) (os:Array Obj):Below w.heap.size w (Sort.grow (w.drewN k) os) :=
 ⟨rfl,rfl,rfl,by rw [Sort.size_grow];simp,fun i hi=>by
  show (Sort.grow (w.drewN k) os).heap[i]? = w.heap[i]?
  rw [Sort.heap_grow_old (w.drewN k) os (by simpa using hi)];simp⟩
theorem fin_pos0 (w:World) (o:Obj) (dk:Array UInt8) (k:Nat):∃ os,(Sort.putRow (fun (b:UInt8)=>Value.int .u8 (b.toNat:Int)) (w.alloc o) w.heap.size 0 dk).drewN k = Sort.grow (w.drewN k) os:=by
 rw [Sort.alloc_eq_grow]
 obtain ⟨os',_,e⟩:=Sort.putRow_grow_new (fun (b:UInt8)=>Value.int .u8 (b.toNat:Int)) w #[o] w.heap.size 0 dk (Nat.le_refl _)
 exact ⟨os',by rw [e];rfl⟩
theorem holds_zero0 (w:World) (T:TypeId) (nd:Nat) (hs:nd≤24):Sort.Holds (fun (b:UInt8)=>Value.int .u8 (b.toNat:Int)) (w.alloc (.cells Lib.zeros24 T)) w.heap.size 0 (Array.replicate nd (0:UInt8)):=fun j hj=>by
 have hj':j < nd:=by simpa using hj
 rw [cell_of_row _ _ _ _ _ _ (hnew rfl),Nat.zero_add,Lib.zeros24_at j (by omega)]
 have e:(Array.replicate nd (0:UInt8))[j]! = 0:=by
  rw [getElem!_pos (Array.replicate nd (0:UInt8)) j hj];exact Array.getElem_replicate ..
 rw [e]
 exact ⟨rfl,frozen_of_row _ _ j _ _ (hnew rfl)⟩
end Go.By
namespace Go.Proofs.YtccaiiigdfieoaaGreatDoor
open Go.RowKit Go.By
def Tab10 (w : World) : Prop := Lib.TabIs Tryz.prog w "internal/strconv.uint64pow10" .u64 Lib.pow10Tab
theorem Tab10.keep {w w':World} (h:Tab10 w) (hb:Below w.heap.size w w'):Tab10 w':=by
 unfold Tab10 Lib.TabIs World.var? at *
 cases hg : Tryz.prog.globalNamed "internal/strconv.uint64pow10" with
 | none=>rw [hg] at h;exact h
 | some g =>
  rw [hg] at h
  simp only [Option.bind_some] at h ⊢
  cases hh:w.heap[g]? with
  | none=>rw [hh] at h;cases h
  | some o=>rw [hb.block g (lt_of_block hh),hh];rw [hh] at h;exact h
theorem Itoa_any (u:Nat) (h:u≤9223372036854775807) (w:World) (hT:Tab10 w):Calls Tryz.prog 91 #[.int .i64 u] w fun e w'=>e = .returned (.string (strB (Lib.decDigits u)))∧Below w.heap.size w w':=by
 refine (Tryz.strconv_Itoa u (by omega) (by omega) w hT).mono ?_
 rintro e w' ⟨rfl,k,os,rfl⟩
 exact ⟨by rw [Lib.itoa_nonneg];rfl,below_growN _ _ _⟩
theorem Join_s (b:Nat) (T:TypeId) (xs:List (List UInt8)) (sep:List UInt8) (n:Nat) (w:World) (hn:xs.length = n) (h:w.heap[b]? = some (.cells (xs.map fun x=>Value.string (strB x)).toArray T (0,0))) (hN:n≤100000) (hlen:(Lib.join xs sep).length≤100000000) :
  Calls Tryz.prog 127 #[.slice (some ⟨b,0,none⟩) n n,.string (strB sep)] w fun e w'=>e = .returned (.string (strB (Lib.join xs sep)))∧Below w.heap.size w w':=by
 subst hn
 have e1 : (xs.map strB).map (fun x => x.data.toList) = xs := by rw [List.map_map]; conv => rhs; rw [← List.map_id xs]
                                                                 apply List.map_congr_left;intro x _;exact strB_data x
 have:=Tryz.strings_Join b 0 xs.length (xs.map strB) (strB sep) w (fun j x hj=>?_) (lt_of_block h) (by rw [List.length_map];omega) (by simp) (by rw [e1,strB_data];omega)
 ·rw [e1,strB_data,List.length_map] at this
  exact this
 ·rw [cell_of_row _ _ _ _ _ _ h,Nat.zero_add]
  rw [List.getElem?_map] at hj
  obtain ⟨y,hy,rfl⟩:=Option.map_eq_some_iff.1 hj
  simp [hy]
set_option maxRecDepth 100000 in
set_option maxHeartbeats 4000000 in
theorem FormatUint_in10 (u:Nat) (h:u < 18446744073709551616) (w:World) (hT:Tab10 w) :
  Calls Tryz.prog 193 #[.int .u64 u,.int .i64 10] w fun e w'=>e = .returned (.string (strB (Lib.decDigits u)))∧Below w.heap.size w w':=by
 by_cases hs:u < 100
 ·have hs':(u:Int) < 100:=by omega
  go_enter Tryz.func193,Tryz.ntmps193
  go_wp2_with fail
  refine Calls.mono (Tryz.internal_strconv_small u hs _) ?_
  rintro e w' ⟨rfl,rfl⟩
  go_wp2
  go_ret
  exact ⟨rfl,Below.refl _ _⟩
 ·have hu1:1≤u:=by omega
  have hs':¬ (u:Int) < 100:=by omega
  have hnd20:Lib.nDigits u≤20:=by have:=Lib.numDigits_eq u hu1 h;split at this <;> omega
  have hal:Tryz.prog.arrayLen 298 = 24:=by simp [Program.arrayLen,Tryz.underlying298]
  have hsl1:∀ W,(Instr.sliceAt 298 (.pointer (some ⟨w.heap.size,0,none⟩)) none (some (.int .i64 (Lib.nDigits u:Int))) none).run Tryz.prog W = .ok (.slice (some ⟨w.heap.size,0,none⟩) (Lib.nDigits u) 24) W:=fun W=>by
   rw [run_sliceAt_array_h W 298 ⟨w.heap.size,0,none⟩ (by simp [Program.arrayLen,Program.elem,Tryz.underlying298]) .i64 (Lib.nDigits u:Int) (by omega) (by rw [hal];omega)]
   go_simp
  have hH0:=holds_zero0 w 298 (Lib.nDigits u) (by omega)
  have hfmt:=Tryz.internal_strconv_formatBase10 w.heap.size 0 24 u (Array.replicate (Lib.nDigits u) 0) (w.alloc (.cells Lib.zeros24 298)) hH0 (by rw [Array.size_replicate];exact Lib.lt_pow_nDigits u) h (by rw [Array.size_replicate];omega)
  rw [Array.size_replicate] at hfmt
  have HH0:=Lib.hid hH0
  have HF:=Lib.hid hfmt
  have HT:=Lib.hid hT
  clear hH0 hal hfmt hT
  have hs2:(100:Int)≤(u:Int):=by omega
  clear hs' hs
  go_enter Tryz.func193,Tryz.ntmps193
  go_wp2_with fail
  refine Calls.mono (Tryz.internal_strconv_numDigits u hu1 h _ (Lib.tabIs_alloc HT.out _)) ?_
  rintro e w' ⟨rfl,rfl⟩
  go_wp2_with (first | simp only [hsl1])
  refine Calls.mono HF.out ?_
  rintro e w' ⟨rfl,k,v',dk,rfl,hF⟩
  have hcv:(convert 22 9 (.slice (some ⟨w.heap.size,0,none⟩) (Lib.nDigits u) 24)).run Tryz.prog ((Sort.putRow (fun (b:UInt8)=>Value.int .u8 (b.toNat:Int)) (w.alloc (.cells Lib.zeros24 298)) w.heap.size 0 dk).drewN k) = .ok (.string ⟨(Lib.decDigits u).toArray⟩) ((Sort.putRow (fun (b:UInt8)=>Value.int .u8 (b.toNat:Int)) (w.alloc (.cells Lib.zeros24 298)) w.heap.size 0 dk).drewN k):=by
   have h:=run_convert_bytes_back (P:=Tryz.prog) ((Sort.putRow (fun (b:UInt8)=>Value.int .u8 (b.toNat:Int)) (w.alloc (.cells Lib.zeros24 298)) w.heap.size 0 dk).drewN k) 22 9 5 ⟨w.heap.size,0,none⟩ 24 (Lib.decDigits u) Tryz.underlying22 Tryz.underlying5 Tryz.underlying9 (fun j hj=>by
    rw [Lib.row_is_numeral hF j hj,Lib.add_plain,World.cell?_drewN]
    exact Sort.cell?_putRow (fun (b:UInt8)=>Value.int .u8 (b.toNat:Int)) _ w.heap.size 0 _ dk HH0.out (by rw [hF.size,Array.size_replicate]) j (by rw [hF.size];rw [Lib.decDigits_length] at hj;exact hj))
   rw [Lib.decDigits_length] at h
   exact h
  go_wp2_with (first | simp only [hsl1] | simp only [hcv])
  go_ret
  obtain ⟨os,eo⟩:=fin_pos0 w (.cells Lib.zeros24 298) dk k
  exact ⟨rfl,by rw [eo];exact below_growN _ _ _⟩
theorem FormatUint_10 (u:Nat) (h:u < 18446744073709551616) (w:World) (hT:Tab10 w) :
  Calls Tryz.prog 128 #[.int .u64 u,.int .i64 10] w fun e w'=>e = .returned (.string (strB (Lib.decDigits u)))∧Below w.heap.size w w':=by
 have HF:=Lib.hid (FormatUint_in10 u h w hT)
 clear h hT
 go_enter Tryz.func128,Tryz.ntmps128
 go_wp2_with fail
 refine Calls.mono HF.out ?_
 rintro e w' ⟨rfl,hb⟩
 have HB:=Lib.hid hb;clear hb
 go_wp2
 go_ret
 exact ⟨rfl,HB.out⟩
end Go.Proofs.YtccaiiigdfieoaaGreatDoor
namespace Go.By
open Go.RowKit
def ShpStr (T:TypeId) (L:List (List UInt8)):Shp:=⟨fun v w=>∃ b,v = .slice (some ⟨b,0,none⟩) L.length L.length∧w.heap[b]? = some (.cells (L.map fun x=>Value.string (strB x)).toArray T (0,0)),fun _ _ _ ⟨b,e,h⟩ hb=>⟨b,e,(hb.block _ (lt_of_block h)).trans h⟩⟩
def wordsS (d l s n:Nat):List (List UInt8):=[[111,98,106,101,99,116],Lib.decDigits d,Lib.decDigits l,Lib.decDigits s,Lib.decDigits n]
def textW (d l s n:Nat):List UInt8:=Lib.join (wordsS d l s n) [32]
theorem dd_len {u:Nat} (h:u < 18446744073709551616):(Lib.decDigits u).length≤20:=by rw [Lib.decDigits_length];exact Lib.nDigits_le20 u h
theorem textW_eq (d l s n:Nat):textW d l s n = [111,98,106,101,99,116] ++ 32 :: (Lib.decDigits d ++ 32 :: (Lib.decDigits l ++ 32 :: (Lib.decDigits s ++ 32 :: Lib.decDigits n))):=by
 unfold textW wordsS;rw [Lib.join_cons];simp [Lib.joinTail]
theorem textW_len {d l s n:Nat} (hd:d < 18446744073709551616) (hl:l < 18446744073709551616) (hs:s < 18446744073709551616) (hn:n < 18446744073709551616):(textW d l s n).length≤100:=by
 have h1:=dd_len hd;have h2:=dd_len hl;have h3:=dd_len hs;have h4:=dd_len hn
 rw [textW_eq];simp only [List.length_append,List.length_cons,List.length_nil];omega
end Go.By
namespace Go.Proofs.YtccaiiigdfieoaaGreatDoor
open Go.RowKit Go.By
theorem use_wq {P:Program} {f:FuncId} {args:Array Value} {W:World} {Q:Ending→World→Prop} (I:World→Prop) (h:I W) (k:∀ W',I W'→Calls P f args W' Q):Calls P f args W Q:=k W h
theorem lt_blkq {w:World} {b:Nat} {o:Obj} (h:w.heap[b]? = some o):b < w.heap.size:=by
 rcases Nat.lt_or_ge b w.heap.size with g | g
 ·exact g
 ·rw [Array.getElem?_eq_none g] at h;cases h
def PC4 (b:Nat) (T:TypeId) (l s n d:Int) (W:World):Prop:=W.heap[b]? = some (.cells #[.int .i64 l,.int .i64 s,.int .i64 n,.int .u32 d] T (0,0))
theorem PC4.keep {b:Nat} {T:TypeId} {l s n d:Int} {W W':World} (h:PC4 b T l s n d W) (hb:Below W.heap.size W W'):PC4 b T l s n d W':=(hb.block _ (lt_blkq h)).trans h
theorem PC4.lt {b:Nat} {T:TypeId} {l s n d:Int} {W:World} (h:PC4 b T l s n d W):b < W.heap.size:=lt_blkq h
theorem PC4.cells {b:Nat} {T:TypeId} {l s n d:Int} {W:World} (h:PC4 b T l s n d W):W.cell? ⟨b,0,none⟩ = some (.int .i64 l)∧W.cell? ⟨b,1,none⟩ = some (.int .i64 s)∧W.cell? ⟨b,2,none⟩ = some (.int .i64 n)∧W.cell? ⟨b,3,none⟩ = some (.int .u32 d) :=
 ⟨cell_of_row _ _ 0 _ _ _ h,cell_of_row _ _ 1 _ _ _ h,cell_of_row _ _ 2 _ _ _ h,cell_of_row _ _ 3 _ _ _ h⟩
theorem PC4.froz {b:Nat} {T:TypeId} {l s n d:Int} {W:World} (h:PC4 b T l s n d W) (i:Nat):W.frozen? ⟨b,i,none⟩ = false:=frozen_of_row _ _ i _ _ h
def textS (l s n:Int) (d:Nat):List UInt8:=if checkS l s n = 0 then textW d l.toNat s.toNat n.toNat else []
theorem checkS_zero {l s n:Int} (h:checkS l s n = 0):0≤l∧1≤s∧s≤65535∧n = needS l s∧1≤n∧n≤4096∧l≤n * s∧0≤n * s∧n * s≤268431360:=by
 have hf:fitS l s = 0:=by
  unfold checkS at h
  by_cases e:fitS l s = 0
  ·exact e
  ·rw [if_neg e] at h;exact h
 have hn:n = needS l s:=by
  unfold checkS at h
  rw [if_pos hf] at h
  by_cases e:n = needS l s
  ·exact e
  ·rw [if_neg e] at h;cases h
 rcases fitS_cases l s with ⟨a,_⟩ | ⟨_,h1,h2,h3,h4⟩
 ·exact absurd hf a
 ·have hp:=(needS_pos h1 h2).1
  have hle:l≤needS l s * s:=by
   by_cases h0:l = 0
   ·have:0≤needS l s * s:=Int.mul_nonneg (by omega) (by omega)
    omega
   ·exact (needS_spec (by omega) h2).2
  have hm:n * s≤4096 * 65535:=Int.mul_le_mul (by omega) h3 (by omega) (by omega)
  have h0:0≤n * s:=Int.mul_nonneg (by omega) (by omega)
  exact ⟨h1,h2,h3,hn,by omega,by omega,by rw [hn];exact hle,h0,by omega⟩
theorem checkS_cases (l s n:Int):checkS l s n = 0∨(checkS l s n != 0) = true:=by
 by_cases h:checkS l s n = 0
 ·exact .inl h
 ·exact .inr (by simpa using h)
theorem cells4k {w w1:World} {b:Nat} {a c e d:Value} {T:TypeId} {fr:Nat × Nat} (h:w.heap[b]? = some (.cells #[a,c,e,d] T fr)) (hb:Below w.heap.size w w1):w1.cell? ⟨b,0,none⟩ = some a∧w1.cell? ⟨b,1,none⟩ = some c∧w1.cell? ⟨b,2,none⟩ = some e∧w1.cell? ⟨b,3,none⟩ = some d:=by
 have h1:=(hb.block _ (lt_of_block h)).trans h
 exact ⟨cell_of_row _ _ _ _ _ _ h1,cell_of_row _ _ _ _ _ _ h1,cell_of_row _ _ _ _ _ _ h1,cell_of_row _ _ _ _ _ _ h1⟩
set_option maxRecDepth 100000 in
set_option maxHeartbeats 4000000 in
theorem PText_any (l s n:Int) (d:Nat) (hd:d < 4294967296) (w:World) (hl2:l≤9223372036854775807) (hT:Tab10 w) :
  Calls Tryz.prog 72 #[.agg #[.int .i64 l,.int .i64 s,.int .i64 n,.int .u32 (d:Int)]] w fun e w'=>e = .returned (.string (strB (textS l s n d)))∧Below w.heap.size w w':=by
 have HC:=Lib.hid (fun w=>Check_any l s n d w hl2)
 have HX:Hid (∀ o,(w.alloc o).heap[w.heap.size]? = some o):=fun o=>hnew rfl
 have HT:=Lib.hid hT
 clear hT
 rcases checkS_cases l s n with h | h
 ·obtain ⟨h0,h1,h2,-,h4,h5,h6,-,h7⟩:=checkS_zero h
  obtain ⟨L,rfl⟩:=Int.eq_ofNat_of_zero_le h0
  obtain ⟨S,rfl⟩:=Int.eq_ofNat_of_zero_le (show 0≤s by omega)
  obtain ⟨N,rfl⟩:=Int.eq_ofNat_of_zero_le (show 0≤n by omega)
  have hL:L≤9223372036854775807:=by omega
  have hS:S≤9223372036854775807:=by omega
  have hN:N≤9223372036854775807:=by omega
  have HR:Hid (textS L S N d = textW d L S N):=if_pos h
  rw [h] at HC
  clear h h0 h1 h2 h4 h5 h6 h7
  go_enter Tryz.func72,Tryz.ntmps72
  go_wp2_with fail
  refine Calls.mono (HC.out _) ?_
  rintro e w1 ⟨rfl,hb⟩
  obtain ⟨c0,c1,c2,c3⟩:=cells4k (HX.out _) hb
  have HB:Hid (Below w.heap.size w w1):=bl (al (Below.refl _ _) (Nat.le_refl _)) hb (by simp)
  have HT1:=Lib.hid (HT.out.keep HB.out)
  clear hb
  go_wp2
  refine wp_region_shapes (fun ix=>([.val (.pointer (some ⟨w.heap.size,3,none⟩)),.val (.int .u32 (d:Int)),.val (.int .u64 (d:Int)),.val (.string (strB (Lib.decDigits d))),.val (.pointer (some ⟨w.heap.size,0,none⟩)),.val (.int .i64 (L:Nat)),.val (.string (strB (Lib.decDigits L))),.val (.pointer (some ⟨w.heap.size,1,none⟩)),.val (.int .i64 (S:Nat)),.val (.string (strB (Lib.decDigits S))),.val (.pointer (some ⟨w.heap.size,2,none⟩)),.val (.int .i64 (N:Nat)),.val (.string (strB (Lib.decDigits N))),(ShpStr 9 (wordsS d L S N)),.val (.string (strB (textW d L S N))),.val (.string (strB (textW d L S N)))][ix]?).getD (.any)) 21 rfl (by kernel_rfl) (by decide) (by decide) (by decide) ?_ ?_
  ·refine ⟨?_,?_,?_,?_,?_,?_,?_,?_,?_,?_,?_,?_,?_,?_,?_,?_,trivial⟩
   ·intro a W hb0 hs hp hi;have hb:=undrew hb0;clear hb0
    have t1:sl a 1 = .pointer (some ⟨w.heap.size,0,none⟩):=hi 1 (by decide)
    refine ite_y rfl (wp_val (.pointer (some ⟨w.heap.size,3,none⟩)) ?_ ?_)
    ·simp only [execOp,eval_tmp,eval_const,t1];simp [go_sem]
    ·exact ⟨_,rfl,Below.refl _ _,rfl⟩
   ·intro a W hb0 hs hp hi;have hb:=undrew hb0;clear hb0
    have tt:sl a 6 = .pointer (some ⟨w.heap.size,3,none⟩):=hp 0 (by decide)
    have dd:=(hb.cell (p:=⟨w.heap.size,3,none⟩) (lt_of_cell c3)).trans c3
    refine ite_y rfl (wp_val (.int .u32 (d:Int)) ?_ ?_)
    ·simp only [execOp,eval_tmp,tt];simp [go_sem,dd]
    ·exact ⟨_,rfl,Below.refl _ _,rfl⟩
   ·intro a W hb0 hs hp hi;have hb:=undrew hb0;clear hb0
    have tt:sl a 7 = .int .u32 (d:Int):=hp 1 (by decide)
    refine ite_y rfl (wp_val (.int .u64 (d:Int)) ?_ ?_)
    ·simp only [execOp,eval_tmp,tt];simp [go_sem,Tryz.underlying23,Tryz.underlying81,show IntKind.u64.wrap (d:Int) = d by rw [IntKind.wrap_u64];omega]
    ·exact ⟨_,rfl,Below.refl _ _,rfl⟩
   ·intro a W hb0 hs hp hi;have hb:=undrew hb0;clear hb0
    have t8:sl a 8 = .int .u64 (d:Int):=hp 2 (by decide)
    refine ite_y rfl (wp_enter 128 #[.int .u64 (d:Int),.int .i64 10] ?_ (FormatUint_10 d (by omega) W (HT1.out.keep hb)) ?_)
    ·simp only [execOp,resolve,List.map_toArray,List.map,eval_tmp,eval_func,eval_const,t8];simp [go_sem]
    ·rintro e W' ⟨rfl,hw⟩;exact ⟨_,rfl,_,rfl,hw,rfl⟩
   ·intro a W hb0 hs hp hi;have hb:=undrew hb0;clear hb0
    have t1:sl a 1 = .pointer (some ⟨w.heap.size,0,none⟩):=hi 1 (by decide)
    refine ite_y rfl (wp_val (.pointer (some ⟨w.heap.size,0,none⟩)) ?_ ?_)
    ·simp only [execOp,eval_tmp,eval_const,t1];simp [go_sem]
    ·exact ⟨_,rfl,Below.refl _ _,rfl⟩
   ·intro a W hb0 hs hp hi;have hb:=undrew hb0;clear hb0
    have tt:sl a 10 = .pointer (some ⟨w.heap.size,0,none⟩):=hp 4 (by decide)
    have dd:=(hb.cell (p:=⟨w.heap.size,0,none⟩) (lt_of_cell c0)).trans c0
    refine ite_y rfl (wp_val (.int .i64 (L:Nat)) ?_ ?_)
    ·simp only [execOp,eval_tmp,tt];simp [go_sem,dd]
    ·exact ⟨_,rfl,Below.refl _ _,rfl⟩
   ·intro a W hb0 hs hp hi;have hb:=undrew hb0;clear hb0
    have t11:sl a 11 = .int .i64 (L:Nat):=hp 5 (by decide)
    refine ite_y rfl (wp_enter 91 #[.int .i64 (L:Nat)] ?_ (Itoa_any L hL W (HT1.out.keep hb)) ?_)
    ·simp only [execOp,resolve,List.map_toArray,List.map,eval_tmp,eval_func,eval_const,t11];simp [go_sem]
    ·rintro e W' ⟨rfl,hw⟩;exact ⟨_,rfl,_,rfl,hw,rfl⟩
   ·intro a W hb0 hs hp hi;have hb:=undrew hb0;clear hb0
    have t1:sl a 1 = .pointer (some ⟨w.heap.size,0,none⟩):=hi 1 (by decide)
    refine ite_y rfl (wp_val (.pointer (some ⟨w.heap.size,1,none⟩)) ?_ ?_)
    ·simp only [execOp,eval_tmp,eval_const,t1];simp [go_sem]
    ·exact ⟨_,rfl,Below.refl _ _,rfl⟩
   ·intro a W hb0 hs hp hi;have hb:=undrew hb0;clear hb0
    have tt:sl a 13 = .pointer (some ⟨w.heap.size,1,none⟩):=hp 7 (by decide)
    have dd:=(hb.cell (p:=⟨w.heap.size,1,none⟩) (lt_of_cell c1)).trans c1
    refine ite_y rfl (wp_val (.int .i64 (S:Nat)) ?_ ?_)
    ·simp only [execOp,eval_tmp,tt];simp [go_sem,dd]
    ·exact ⟨_,rfl,Below.refl _ _,rfl⟩
   ·intro a W hb0 hs hp hi;have hb:=undrew hb0;clear hb0
    have t14:sl a 14 = .int .i64 (S:Nat):=hp 8 (by decide)
    refine ite_y rfl (wp_enter 91 #[.int .i64 (S:Nat)] ?_ (Itoa_any S hS W (HT1.out.keep hb)) ?_)
    ·simp only [execOp,resolve,List.map_toArray,List.map,eval_tmp,eval_func,eval_const,t14];simp [go_sem]
    ·rintro e W' ⟨rfl,hw⟩;exact ⟨_,rfl,_,rfl,hw,rfl⟩
   ·intro a W hb0 hs hp hi;have hb:=undrew hb0;clear hb0
    have t1:sl a 1 = .pointer (some ⟨w.heap.size,0,none⟩):=hi 1 (by decide)
    refine ite_y rfl (wp_val (.pointer (some ⟨w.heap.size,2,none⟩)) ?_ ?_)
    ·simp only [execOp,eval_tmp,eval_const,t1];simp [go_sem]
    ·exact ⟨_,rfl,Below.refl _ _,rfl⟩
   ·intro a W hb0 hs hp hi;have hb:=undrew hb0;clear hb0
    have tt:sl a 16 = .pointer (some ⟨w.heap.size,2,none⟩):=hp 10 (by decide)
    have dd:=(hb.cell (p:=⟨w.heap.size,2,none⟩) (lt_of_cell c2)).trans c2
    refine ite_y rfl (wp_val (.int .i64 (N:Nat)) ?_ ?_)
    ·simp only [execOp,eval_tmp,tt];simp [go_sem,dd]
    ·exact ⟨_,rfl,Below.refl _ _,rfl⟩
   ·intro a W hb0 hs hp hi;have hb:=undrew hb0;clear hb0
    have t17:sl a 17 = .int .i64 (N:Nat):=hp 11 (by decide)
    refine ite_y rfl (wp_enter 91 #[.int .i64 (N:Nat)] ?_ (Itoa_any N hN W (HT1.out.keep hb)) ?_)
    ·simp only [execOp,resolve,List.map_toArray,List.map,eval_tmp,eval_func,eval_const,t17];simp [go_sem]
    ·rintro e W' ⟨rfl,hw⟩;exact ⟨_,rfl,_,rfl,hw,rfl⟩
   ·intro a W hb0 hs hp hi;have hb:=undrew hb0;clear hb0
    have x0:sl a 9 = .string (strB (Lib.decDigits d)):=hp 3 (by decide)
    have x1:sl a 12 = .string (strB (Lib.decDigits L)):=hp 6 (by decide)
    have x2:sl a 15 = .string (strB (Lib.decDigits S)):=hp 9 (by decide)
    have x3:sl a 18 = .string (strB (Lib.decDigits N)):=hp 12 (by decide)
    refine ite_y rfl (wp_val' (w':=W.alloc (.cells #[.string ⟨#[111,98,106,101,99,116]⟩,.string (strB (Lib.decDigits d)),.string (strB (Lib.decDigits L)),.string (strB (Lib.decDigits S)),.string (strB (Lib.decDigits N))] 9)) (.slice (some ⟨W.heap.size,0,none⟩) 5 5) ?_ ?_)
    ·simp only [execOp,eval_tmp,eval_const,List.map_toArray,List.map,x0,x1,x2,x3];simp [go_sem,x0,x1,x2,x3]
    ·exact ⟨_,rfl,al (Below.refl _ _) (Nat.le_refl _),W.heap.size,rfl,hnew rfl⟩
   ·intro a W hb0 hs hp hi;have hb:=undrew hb0;clear hb0
    have ty:(ShpStr 9 (wordsS d L S N)).ok (sl a 19) W:=hp 13 (by decide)
    obtain ⟨b,ty,hh⟩:=ty
    have ty:sl a 19 = .slice (some ⟨b,0,none⟩) 5 5:=ty
    refine ite_y rfl (wp_enter 127 #[.slice (some ⟨b,0,none⟩) 5 5,.string ⟨#[32]⟩] ?_ (Join_s b 9 (wordsS d L S N) [32] 5 W rfl hh (by decide) (Nat.le_trans (textW_len (d:=d) (l:=L) (s:=S) (n:=N) (by omega) (by omega) (by omega) (by omega)) (by decide))) ?_)
    ·simp only [execOp,resolve,List.map_toArray,List.map,eval_tmp,eval_func,eval_const,ty];simp [go_sem]
    ·rintro e W' ⟨rfl,hw⟩;exact ⟨_,rfl,_,rfl,hw,rfl⟩
   ·intro a W hb0 hs hp hi;have hb:=undrew hb0;clear hb0
    have t20:sl a 20 = .string (strB (textW d L S N)):=hp 14 (by decide)
    exact ite_y rfl (wp_val (sl a 20) rfl ⟨_,rfl,Below.refl _ _,t20⟩)
  intro a w2 hb hs hd hI ht
  have ha:=act_is [6,7,8,9,10,11,12,13,14,15,16,17,18,19,20,2] hs hd ht (by decide)
  have t2:sl a 2 = .string (strB (textW d L S N)):=hI 15 (by decide)
  simp only [List.foldl,t2] at ha
  generalize sl a 6 = u6 at ha
  generalize sl a 7 = u7 at ha
  generalize sl a 8 = u8 at ha
  generalize sl a 9 = u9 at ha
  generalize sl a 10 = u10 at ha
  generalize sl a 11 = u11 at ha
  generalize sl a 12 = u12 at ha
  generalize sl a 13 = u13 at ha
  generalize sl a 14 = u14 at ha
  generalize sl a 15 = u15 at ha
  generalize sl a 16 = u16 at ha
  generalize sl a 17 = u17 at ha
  generalize sl a 18 = u18 at ha
  generalize sl a 19 = u19 at ha
  generalize sl a 20 = u20 at ha
  simp only [Act.put,List.setIfInBounds_toArray,List.set_cons_zero,List.set_cons_succ] at ha
  rw [ha]
  clear ha hI ht
  have HB2:Hid (Below w.heap.size w w2):=bl HB.out hb HB.out.size
  clear hb
  go_wp2
  go_ret
  exact ⟨by rw [HR.out];rfl,HB2.out⟩
 ·have HR:Hid (textS l s n d = []):=if_neg (by simpa using h)
  generalize checkS l s n = k at *
  go_enter Tryz.func72,Tryz.ntmps72
  go_wp2_with fail
  refine Calls.mono (HC.out _) ?_
  rintro e w1 ⟨rfl,hb⟩
  have HB:Hid (Below w.heap.size w w1):=bl (al (Below.refl _ _) (Nat.le_refl _)) hb (by simp)
  clear hb
  go_wp2
  go_ret
  exact ⟨by rw [HR.out];rfl,HB.out⟩
end Go.Proofs.YtccaiiigdfieoaaGreatDoor
namespace Go.Proofs.YtccaiiigdfieoaaGreatDoor
open Go.RowKit Go.By
def headC (xs:List UInt8):Int:=if xs.length < 10 then 6 else if xs.getD 0 0≠1 then 7 else modeC (xs.getD 1 0)
theorem headC_mode {xs:List UInt8} (h:headC xs = 0):modeC (xs.getD 1 0) = 0:=by
 unfold headC at h
 split at h
 ·cases h
 ·split at h
  ·cases h
  ·exact h
theorem info_head:(Tryz.prog.info? 120).map (·.size) = some 3:=by kernel_rfl
theorem at_get {xs:List UInt8} {i:Nat} {x:UInt8} (h:xs[i]? = some x):xs.getD i 0 = x:=by rw [List.getD_eq_getElem?_getD,h];rfl
def HRet (w:World) (m:UInt8) (o n:Nat) (code:Int) (e:Ending) (w':World):Prop :=
 ∃ q k c,e = .returned (.tuple #[HVal m o n,.slice q k c,.int .i64 code])∧Below w.heap.size w w'
set_option maxRecDepth 100000 in
set_option maxHeartbeats 2000000 in
theorem HRead_short (p:Option Addr) (n c:Nat) (w:World) (hn:n < 10) :
  Calls Tryz.prog 172 #[.slice p n c] w (HRet w 0 0 0 6):=by
 have HN:=Lib.hid hn
 go_enter Tryz.func172,Tryz.ntmps172
 go_wp2
 refine bodyPost_ret (res_ctt rfl _ _ _ 120 #[.int .u8 0,.int .u32 0,.int .u32 0] (0,0) _ (.slice none 0 0) (.int .i64 6) rfl ?_ rfl rfl Tryz.underlying120 rfl info_head) rfl ?_
 ·exact hnew rfl
 ·exact ⟨none,0,0,rfl,al (Below.refl _ _) (Nat.le_refl _)⟩
set_option maxRecDepth 100000 in
set_option maxHeartbeats 2000000 in
theorem HRead_version (b o n c:Nat) (w:World) (hn:10≤n) (x0:UInt8) (k0:w.cell? ⟨b,o,none⟩ = some (B8 x0)) (hx:x0≠1) (hm:n≤9223372036854775807) :
  Calls Tryz.prog 172 #[.slice (some ⟨b,o,none⟩) n c] w (HRet w 0 0 0 7):=by
 have e1:((x0.toNat:Int) != 1) = true:=bne_iff_ne.2 fun e=>hx (UInt8.toNat_inj.1 (by show x0.toNat = 1;omega))
 have HN:=Lib.hid hn
 have a0:∀ o',(w.alloc o').cell? ⟨b,o,none⟩ = some (B8 x0):=fun _=>calloc k0
 clear hx k0
 go_enter Tryz.func172,Tryz.ntmps172
 go_wp2
 refine bodyPost_ret (res_ctt rfl _ _ _ 120 #[.int .u8 0,.int .u32 0,.int .u32 0] (0,0) _ (.slice none 0 0) (.int .i64 7) rfl ?_ rfl rfl Tryz.underlying120 rfl info_head) rfl ?_
 ·exact hnew rfl
 ·exact ⟨none,0,0,rfl,al (Below.refl _ _) (Nat.le_refl _)⟩
set_option maxRecDepth 100000 in
set_option maxHeartbeats 2000000 in
theorem HRead_mode (b o n c:Nat) (w:World) (hn:10≤n) (x1:UInt8) (k0:w.cell? ⟨b,o,none⟩ = some (B8 1)) (k1:w.cell? ⟨b,o + 1,none⟩ = some (B8 x1)) (hx:modeC x1 = 8) (hm:n≤9223372036854775807) :
  Calls Tryz.prog 172 #[.slice (some ⟨b,o,none⟩) n c] w (HRet w 0 0 0 8):=by
 have HK:Hid (∀ w,Calls Tryz.prog 177 #[HVal x1 0 0] w fun e w'=>e = .returned (.int .i64 8)∧Below w.heap.size w w'):=fun w=>by have:=HCheck_any x1 0 0 w;rw [hx] at this;exact this
 have HN:=Lib.hid hn
 have a0:∀ o',(w.alloc o').cell? ⟨b,o,none⟩ = some (B8 1):=fun _=>calloc k0
 have a1:∀ o',(w.alloc o').cell? ⟨b,o + 1,none⟩ = some (B8 x1):=fun _=>calloc k1
 clear hx k0 k1
 go_enter Tryz.func172,Tryz.ntmps172
 go_wp2_with fail
 refine Calls.mono (HK.out _) ?_
 rintro e w1 ⟨rfl,hb1⟩
 obtain ⟨hb,h0,h1,hsz⟩:=two_of hb1
 have HB:=Lib.hid hb
 clear hb1 hb
 go_wp2_with (refine wpList_store_row (o:=⟨none,.store 120 (.tmp 2) (.tmp 24),_,_,_,_⟩) rfl 120 (.tmp 2) (.tmp 24) rfl w.heap.size #[.int .u8 0,.int .u32 0,.int .u32 0] rfl rfl _ _ h0 info_head rfl (by simp [Value.oneCell']) ?_)
 refine bodyPost_ret (res_ctt rfl _ _ _ 120 #[.int .u8 0,.int .u32 0,.int .u32 0] (0,0) _ (.slice none 0 0) (.int .i64 8) rfl ?_ rfl rfl Tryz.underlying120 rfl info_head) rfl ?_
 ·exact hrs h0
 ·exact ⟨none,0,0,rfl,below_row HB.out (Nat.le_refl _)⟩
set_option maxRecDepth 100000 in
set_option maxHeartbeats 2000000 in
theorem HRead_good (b o n c:Nat) (xs:List UInt8) (w:World) (h:Sl B8 w (some ⟨b,o,none⟩) n c xs) (hr:Room n) (hn:10≤n) (x1:UInt8) (k0:w.cell? ⟨b,o,none⟩ = some (B8 1)) (k1:w.cell? ⟨b,o + 1,none⟩ = some (B8 x1)) (hx:modeC x1 = 0) :
  Calls Tryz.prog 172 #[.slice (some ⟨b,o,none⟩) n c] w (HRet w x1 (get4 ((xs.drop 2).take 4)) (get4 ((xs.drop 6).take 4)) 0):=by
 obtain ⟨A,hA⟩:∃ A,get4 ((xs.drop 2).take 4) = A:=⟨_,rfl⟩
 obtain ⟨B,hB⟩:∃ B,get4 ((xs.drop 6).take 4) = B:=⟨_,rfl⟩
 rw [hA,hB]
 have HA:=Lib.hid hA
 have HBB:=Lib.hid hB
 clear hA hB
 have HK:Hid (∀ w,Calls Tryz.prog 177 #[HVal x1 0 0] w fun e w'=>e = .returned (.int .i64 0)∧Below w.heap.size w w'):=fun w=>by have:=HCheck_any x1 0 0 w;rw [hx] at this;exact this
 have HN:=Lib.hid hn
 have H:=Lib.hid h
 have HR:=Lib.hid hr
 have hm:=h.bound
 have hle:=h.le
 have hmx:=h.max
 unfold maxLen at hmx
 have a0:∀ o',(w.alloc o').cell? ⟨b,o,none⟩ = some (B8 1):=fun _=>calloc k0
 have a1:∀ o',(w.alloc o').cell? ⟨b,o + 1,none⟩ = some (B8 x1):=fun _=>calloc k1
 clear hx k0 k1 h hr
 go_enter Tryz.func172,Tryz.ntmps172
 go_wp2_with fail
 refine Calls.mono (HK.out _) ?_
 rintro e w1 ⟨rfl,hb1⟩
 obtain ⟨hb,h0,h1,hsz⟩:=two_of hb1
 have HB:=Lib.hid hb
 clear hb1 hb a0 a1
 go_wp2_with fail
 refine Calls.mono (SGet_any _ _ _ _ _ (Sl.part (k:=2) (m:=4) (H.out.keep HB.out) (by omega))) ?_
 rintro e w2 ⟨rfl,hb2⟩
 rw [if_pos rfl,HA.out]
 have h0':=(hb2.block _ (by omega)).trans h0
 have h1':=(hb2.block _ (by omega)).trans h1
 have HB2:=Lib.hid (bl HB.out hb2 HB.out.size)
 have hs2:=hb2.size
 obtain ⟨j0,j1,j2⟩:=cells_three h1'
 have z1:=frozen_of_row _ _ 1 _ _ h1'
 have z2:=frozen_of_row _ _ 2 _ _ h1'
 clear hb2 h0 h1
 go_wp2_with fail
 have HB3:=Lib.hid (HB2.out.setCell (p:=⟨w.heap.size + 1,1,none⟩) (by simp) (.int .u32 (A:Nat)))
 refine Calls.mono (SGet_any _ _ _ _ _ (Sl.part (k:=6) (m:=4) (H.out.keep HB3.out) (by omega))) ?_
 rintro e w3 ⟨rfl,hb3⟩
 rw [if_pos rfl,HBB.out]
 have h0:w3.heap[w.heap.size]? = some (.cells #[.int .u8 0,.int .u32 0,.int .u32 0] 120 (0,0)):=(hb3.block _ (by simp [World.setCell];omega)).trans (hsc h0' (by simp))
 have h1:w3.heap[w.heap.size + 1]? = some (.cells #[B8 x1,.int .u32 (A:Nat),.int .u32 0] 120 (0,0)):=(hb3.block _ (by simp [World.setCell];omega)).trans (hss h1')
 have HB4:=Lib.hid (bl HB3.out hb3 HB3.out.size)
 have hs3:w.heap.size + 2≤w3.heap.size:=by have:=hb3.size;simp [World.setCell] at this;omega
 clear hb3 h0' h1' z1 z2 j0 j1 j2 hs2 hsz
 have z2:=frozen_of_row _ _ 2 _ _ h1
 obtain ⟨j0,j1,j2⟩:=cells_three h1
 go_wp2_with fail
 have HB5:=Lib.hid (HB4.out.setCell (p:=⟨w.heap.size + 1,2,none⟩) (by simp) (.int .u32 (B:Nat)))
 have h0':(w3.setCell ⟨w.heap.size + 1,2,none⟩ (.int .u32 (B:Nat))).heap[w.heap.size]? = some (.cells #[.int .u8 0,.int .u32 0,.int .u32 0] 120 (0,0)):=hsc h0 (by simp)
 have h1':(w3.setCell ⟨w.heap.size + 1,2,none⟩ (.int .u32 (B:Nat))).heap[w.heap.size + 1]? = some (.cells #[B8 x1,.int .u32 (A:Nat),.int .u32 (B:Nat)] 120 (0,0)):=hss h1
 have hs4:w.heap.size + 2≤(w3.setCell ⟨w.heap.size + 1,2,none⟩ (.int .u32 (B:Nat))).heap.size:=by simp [World.setCell];omega
 clear z2 j0 j1 j2 h0 h1 hs3
 generalize w3.setCell ⟨w.heap.size + 1,2,none⟩ (.int .u32 (B:Nat)) = w4 at *
 obtain ⟨c0,c1,c2⟩:=cells_three h1'
 have S:=Lib.hid (H.out.keep HB5.out)
 have h10:(10:Int)≤(n:Int):=by omega
 clear HB HB2 HB3 HB4
 refine wp_region_tail (fun ix=>([.val (.agg #[B8 x1,.int .u32 (A:Nat),.int .u32 (B:Nat)]),.val (.slice (some ⟨b,o,none⟩) n c),.val (.slice (if c = 10 then some ⟨b,o,none⟩ else some ⟨b,o + 10,none⟩) (n - 10) (c - 10)),.bytes (xs.drop 10),.any,.any,.any][ix]?).getD (.any)) 44 4 rfl (by kernel_rfl) (by decide) (by decide) (by decide) (by decide) ?_ ?_
 ·refine ⟨?_,?_,?_,?_,trivial⟩
  ·intro a W hb0 hs hp hi;have hb:=undrew hb0;clear hb0
   have tt:sl a 5 = .pointer (some ⟨(w.heap.size + 1),0,none⟩):=hi 5 (by decide)
   have dd0:=(hb.cell (p:=⟨(w.heap.size + 1),0,none⟩) (lt_of_cell c0)).trans c0
   have dd1:=(hb.cell (p:=⟨(w.heap.size + 1),1,none⟩) (lt_of_cell c1)).trans c1
   have dd2:=(hb.cell (p:=⟨(w.heap.size + 1),2,none⟩) (lt_of_cell c2)).trans c2
   refine ite_y rfl (wp_val (.agg #[B8 x1,.int .u32 (A:Nat),.int .u32 (B:Nat)]) ?_ ?_)
   ·simp only [execOp,eval_tmp,tt];simp [go_sem,dd0,dd1,dd2]
   ·exact ⟨_,rfl,Below.refl _ _,rfl⟩
  ·intro a W hb0 hs hp hi;have hb:=undrew hb0;clear hb0
   have t0:sl a 0 = .slice (some ⟨b,o,none⟩) n c:=hi 0 (by decide)
   exact ite_y rfl (wp_val (sl a 0) rfl ⟨_,rfl,Below.refl _ _,t0⟩)
  ·intro a W hb0 hs hp hi;have hb:=undrew hb0;clear hb0
   have t41:sl a 41 = .slice (some ⟨b,o,none⟩) n c:=hp 1 (by decide)
   refine ite_y rfl (wp_val (.slice (if c = 10 then some ⟨b,o,none⟩ else some ⟨b,o + 10,none⟩) (n - 10) (c - 10)) ?_ ?_)
   ·simp only [execOp,eval_tmp,eval_const,t41];simp [go_sem,h10]
   ·exact ⟨_,rfl,Below.refl _ _,rfl⟩
  ·intro a W hb0 hs hp hi;have hb:=undrew hb0;clear hb0
   have t42:sl a 42 = .slice (if c = 10 then some ⟨b,o,none⟩ else some ⟨b,o + 10,none⟩) (n - 10) (c - 10):=hp 2 (by decide)
   refine ite_y rfl (wp_enter 129 #[.slice (if c = 10 then some ⟨b,o,none⟩ else some ⟨b,o + 10,none⟩) (n - 10) (c - 10)] ?_ (CloneB_any _ _ _ _ _ (Sl.tail 10 (S.out.keep hb) HN.out) (HR.out.le (by omega))) ?_)
   ·simp only [execOp,resolve,List.map_toArray,List.map,eval_tmp,eval_func,eval_const,t42];simp [go_sem]
   ·rintro e W' ⟨q5,g5,rfl,o5,hw⟩;exact ⟨_,rfl,_,rfl,hw,q5,_,g5,rfl,Sl.of_owns o5⟩
 intro a w9 hb hs hd hI ht
 have ha:=act_is [40,41,42,43,3,4] hs hd ht (by decide)
 have t40:sl a 40 = .agg #[B8 x1,.int .u32 (A:Nat),.int .u32 (B:Nat)]:=hI 0 (by decide)
 have y43:=hI 3 (by decide)
 obtain ⟨q9,n9,c9,t43,z43⟩:=y43
 simp only [List.foldl,t40,t43] at ha
 generalize sl a 41 = u41 at ha
 generalize sl a 42 = u42 at ha
 generalize sl a 3 = u3 at ha
 generalize sl a 4 = u4 at ha
 simp only [Act.put,List.setIfInBounds_toArray,List.set_cons_zero,List.set_cons_succ] at ha
 rw [ha];clear ha hI ht hs hd
 simp only [List.drop_succ_cons,List.drop_zero]
 have h0:=(hb.block _ (by omega)).trans h0'
 have HB6:=Lib.hid (bl HB5.out hb HB5.out.size)
 clear hb h0' h1' c0 c1 c2 h10
 go_wp2_with (refine wpList_store_row (o:=⟨none,.store 120 (.tmp 2) (.tmp 40),_,_,_,_⟩) rfl 120 (.tmp 2) (.tmp 40) rfl w.heap.size #[B8 x1,.int .u32 (A:Nat),.int .u32 (B:Nat)] rfl rfl _ _ h0 info_head rfl (by simp [Value.oneCell']) ?_)
 refine bodyPost_ret (res_ctt rfl _ _ _ 120 #[B8 x1,.int .u32 (A:Nat),.int .u32 (B:Nat)] (0,0) _ (.slice q9 n9 c9) (.int .i64 0) rfl ?_ rfl rfl Tryz.underlying120 rfl info_head) rfl ?_
 ·exact hrs h0
 ·exact ⟨_,_,_,rfl,below_row HB6.out (Nat.le_refl _)⟩
theorem HRead_any (p:Option Addr) (n c:Nat) (xs:List UInt8) (w:World) (h:Sl B8 w p n c xs) (hr:Room n) :
  Calls Tryz.prog 172 #[.slice p n c] w (if headC xs = 0 then HRet w (xs.getD 1 0) (get4 ((xs.drop 2).take 4)) (get4 ((xs.drop 6).take 4)) 0 else HRet w 0 0 0 (headC xs)):=by
 have hl:=h.len
 unfold headC
 by_cases h10:n < 10
 ·rw [if_pos (by omega:xs.length < 10),if_neg (by decide)]
  exact HRead_short p n c w h10
 ·rw [if_neg (by omega:¬ xs.length < 10)]
  obtain ⟨b,o,x0,rfl,k0,y0⟩:=h.at 0 (by omega)
  obtain ⟨_,_,x1,e1,k1,y1⟩:=h.at 1 (by omega)
  cases e1
  rw [Nat.add_zero] at k0
  rw [at_get y0.out,at_get y1.out]
  by_cases h0:x0 = 1
  ·have e:(if x0≠1 then 7 else modeC x1) = modeC x1:=if_neg (by simp [h0])
   rw [e]
   subst h0
   rcases modeC_range x1 with h1 | h1
   ·rw [h1,if_pos rfl]
    exact HRead_good b o n c xs w h hr (by omega) x1 k0 k1 h1
   ·rw [h1,if_neg (by decide)]
    exact HRead_mode b o n c w (by omega) x1 k0 k1 h1 h.bound
  ·have e:(if x0≠1 then 7 else modeC x1) = 7:=if_pos h0
   rw [e,if_neg (by decide)]
   exact HRead_version b o n c w (by omega) x0 k0 h0 h.bound
end Go.Proofs.YtccaiiigdfieoaaGreatDoor
namespace Go.Proofs.YtccaiiigdfieoaaGreatDoor
open Go.RowKit Go.By
set_option maxHeartbeats 400000 in
theorem BClone_any (p:Option Addr) (n c:Nat) (xs:List UInt8) (w:World) (h:Sl B8 w p n c xs) (hn:Room n) :
  Calls Tryz.prog 176 #[.slice p n c] w fun e w'=>∃ q c',e = .returned (.slice q n c')∧w'.ownsRow w.heap.size 5 1 (.slice q n c') n (xs.map B8)∧Below w.heap.size w w':=by
 obtain ⟨i0,hi,hz0,hz1,hz2⟩:=info_parts info_u8
 cases hp:p with
 | none =>
  subst hp
  obtain ⟨rfl,rfl⟩:=h.nil rfl
  have:xs = []:=List.eq_nil_of_length_eq_zero h.len
  subst this
  have hq:=fun w=>Lib.run_eql_slice_nil (P:=Tryz.prog) w 22 5 none 0 0 0 0 Tryz.underlying22
  go_enter Tryz.func176,Tryz.ntmps176
  go_wp2
  go_ret
  exact ⟨none,0,rfl,World.ownsRow_nil _ _ _ _,Below.refl _ _⟩
 | some ad =>
  subst hp
  have hq:=fun w=>Lib.run_eql_slice_nil (P:=Tryz.prog) w 22 5 (some ad) n c 0 0 Tryz.underlying22
  have H:=Lib.hid h
  clear h
  go_enter Tryz.func176,Tryz.ntmps176
  go_wp2_with (at_builtin;refine wpList_append_rs _ rfl _ _ 22 rfl w.heap.size 5 i0 (.int .u8 0) 1 Tryz.underlying22 hi hz0 hz1 hz2 rfl _ 0 [] rfl (World.ownsRow_lit w #[] 0 (Nat.le_refl _) (by simp [maxLen]) rfl) B8 _ _ _ xs (fun _ _=>rfl) rfl (H.out.keep ((Below.refl _ _).alloc (Nat.le_refl _) _)) ?c1 ?c2 ?c3 ?_)
  case c1=>have:=H.out.le;have:=H.out.max;omega
  case c2=>unfold Room at hn;omega
  case c3=>simp
  intro v' w' ho hg
  obtain ⟨q,c',rfl⟩:=owns_shape ho
  go_wp2
  go_ret
  exact ⟨q,c',by simp,by simpa using ho,((Below.refl _ _).alloc (Nat.le_refl _) _).grown hg (by simp) (by simp [Value.ownBlock])⟩
end Go.Proofs.YtccaiiigdfieoaaGreatDoor
namespace Go.By
open Go.RowKit
def slipB (ops:Array Oper) (m e:Nat):Bool:=decide (m + 1 < ops.size) && decide (e < m) && (match ops[m]? with
 | some o=>o.guard.isNone && o.dst.isNone && !(preds o).contains e
 | none=>false) && (match ops[m + 1]? with
 | some o=>(preds o).contains e
 | none=>false) && ((List.range m).all fun i=>i == e || (List.range (m + 1)).any fun j=>decide (i < j) && j != e && match ops[j]? with
 | some o=>(preds o).contains i
 | none=>false) && (List.range ops.size).all fun j=>!decide (m < j) || match ops[j]? with
 | some o=>(preds o).contains (j - 1)
 | none=>false
theorem wp_region_slip {P:Program} {ops:Array Oper} {Q:Exit→Act→World→Prop} {id:Nat} {a0:Act} {w0:World} (sh:Nat→Shp) (n m e t d:Nat) (u:Value) (hn:a0.tmps.size = n) (hm:P.follows .mixedOrders = true) (hback:backB ops = true) (hdist:distB ops = true)
  (htail:slipB ops m e = true) (oe:Oper) (hoe:ops[e]? = some oe) (hge:oe.guard = none) (hde:oe.dst = some d) (hdn:d < n) (hshe:sh e = Shp.val u)
  (hrun:∀ (a:Act) (x:Value) (w:World),sl a t = .tuple #[x,u]→(execOp a.eval oe).run P w = .ok (.value u) w) (hdsts:dstsB (ops.extract 0 m) n = true)
  (each:EachS P ops Q a0 w0.drew sh (ops.toList.take m) 0)
  (fin:∀ a w o,ops[m]? = some o→Below w0.heap.size w0 w→a.tmps.size = a0.tmps.size→a.defers = a0.defers→(∀ j,j < m→j≠e→InvS ops sh j (sl a) w)→(∀ t,(ops.toList.all fun o=>o.dst != some t) = true→sl a t = sl a0 t) →
   (∃ x,sl a t = .tuple #[x,u])∧o.wp P a w (fun a' w'=>a' = a∧∀ b:Act,b.tmps.size = a0.tmps.size→b.defers = a0.defers→(∀ t',t'≠d→sl b t' = sl a t')→sl b d = u→wpList P ops Q (ops.toList.drop (m + 1)) b w') Q) :
  (Code.region id ops true).wp P Q a0 w0:=by
 unfold slipB at htail
 simp only [Bool.and_eq_true,decide_eq_true_eq] at htail
 obtain ⟨⟨⟨⟨⟨hm1,hem⟩,hl2⟩,hl3⟩,htl⟩,hch⟩:=htail
 have hm':m < ops.size:=by omega
 obtain ⟨ol,hol⟩:∃ ol,ops[m]? = some ol:=⟨_,Array.getElem?_eq_getElem hm'⟩
 rw [hol] at hl2
 simp only [Bool.and_eq_true] at hl2
 have hguard:ol.guard = none:=by cases hg:ol.guard <;> simp [hg] at hl2 ⊢
 have hdst:ol.dst = none:=by cases hg:ol.dst <;> simp [hg] at hl2 ⊢
 obtain ⟨on,hon⟩:∃ on,ops[m + 1]? = some on:=⟨_,Array.getElem?_eq_getElem hm1⟩
 rw [hon] at hl3
 have hne:e ∈ preds on:=by simpa using hl3
 have hchain:∀ j o,m < j→ops[j]? = some o→(preds o).contains (j - 1) = true:=fun j o hj ho=>by
  have:=List.all_eq_true.1 hch j (List.mem_range.2 (Array.getElem?_eq_some_iff.1 ho).1)
  rw [ho] at this
  simpa [hj] using this
 have hpl:∀ i,i < m→i≠e→∃ j o,i < j∧j≤m∧j≠e∧ops[j]? = some o∧i ∈ preds o:=fun i hi hie=>by
  have h0:=List.all_eq_true.1 htl i (List.mem_range.2 hi)
  rw [Bool.or_eq_true] at h0
  have h0':=h0.resolve_left (by simpa using hie)
  obtain ⟨j,hj,h⟩:=List.any_eq_true.1 h0'
  have hjm:=List.mem_range.1 hj
  simp only [Bool.and_eq_true,decide_eq_true_eq] at h
  obtain ⟨oj,hoj⟩:∃ oj,ops[j]? = some oj:=⟨_,Array.getElem?_eq_getElem (by omega)⟩
  have h2:=h.2
  rw [hoj] at h2
  exact ⟨j,oj,h.1.1,by omega,by simpa using h.1.2,hoj,by simpa using h2⟩
 have hE:=each_of (Q:=Q) (P:=P) (a0:=a0) (W0:=w0.drew) (sh:=sh) hn (ops.toList.take m) 0 (fun j o hj=>by
   rw [List.getElem?_take] at hj;split at hj
   ·simpa using hj
   ·cases hj) (by
   unfold dstsB at hdsts
   have e:(ops.extract 0 m).toList = ops.toList.take m:=by simp
   rw [e] at hdsts;exact hdsts) each
 have stepAt:∀ i o,i < m→ops[i]? = some o→StepOf P ops Q a0 w0.drew (fun W w=>Below W.heap.size W w) (fun _ w w'=>Below w.heap.size w w') (InvS ops sh) i o:=fun i o hi ho=>by
  have:=Each.get _ 0 hE i o (by rw [List.getElem?_take,if_pos hi];simpa using ho)
  rwa [Nat.zero_add] at this
 have stable:∀ i j oi oj (σ σ':Nat→Value) w w',i≠j→ops[i]? = some oi→ops[j]? = some oj→InvS ops sh j σ w→Below w.heap.size w w'→(∀ t,oi.dst≠some t→σ' t = σ t)→InvS ops sh j σ' w':=by
  intro i j oi oj σ σ' w w' hij hoi hoj hI hR hσ
  unfold InvS at hI ⊢
  cases hdj:dstOf ops j with
  | none=>trivial
  | some d =>
   rw [hdj] at hI
   show (sh j).ok (σ' d) w'
   have hne:oi.dst≠some d:=by
    intro e
    have hi':i < ops.size:=(Array.getElem?_eq_some_iff.1 hoi).1
    have hj':j < ops.size:=(Array.getElem?_eq_some_iff.1 hoj).1
    have:=List.all_eq_true.1 (List.all_eq_true.1 hdist i (List.mem_range.2 hi')) j (List.mem_range.2 hj')
    rw [hoi,hoj] at this
    have hdj':oj.dst = some d:=by simpa [dstOf,hoj] using hdj
    simp [e,hdj',hij] at this
   rw [hσ d hne]
   exact (sh j).keep _ _ _ hI hR
 refine wp_region_any hm ?_
 show wpAny P .any ops Q ops.size (Array.replicate ops.size false) a0 w0.drew
 have main:∀ (fuel:Nat) (listed:Array Bool) (a:Act) (w:World),unl ops.size listed≤fuel→listed.getD m true = false→Below w0.heap.size w0 w→a.tmps.size = a0.tmps.size→a.defers = a0.defers →
   (∀ j o,listed.getD j false = true→ops[j]? = some o→∀ k,k ∈ preds o→listed.getD k false = true) →
   (∀ j,j < ops.size→listed.getD j true = true→listed.getD j false = true) →
   (∀ j,j < m→listed.getD j false = true→InvS ops sh j (sl a) w) →
   (∀ t,(∀ j o,j < m→listed.getD j false = true→ops[j]? = some o→o.dst≠some t)→sl a t = sl a0 t)→wpAny P .any ops Q fuel listed a w:=by
  intro fuel
  induction fuel with
  | zero =>
   intro listed a w hu hlm
   exfalso
   have h0:unl ops.size listed = 0:=by omega
   unfold unl at h0
   have:=List.countP_eq_zero.1 h0 m (List.mem_range.2 hm')
   simp [hlm] at this
  | succ fuel ih =>
   intro listed a w hu hlm hEw hs hd hcl hlt hI ht
   have hup:∀ d j,j = m + d→j < ops.size→listed.getD j false = true→False:=by
    intro d
    induction d with
    | zero=>intro j e hj hl;rw [show j = m by omega] at hl;exact (getD_both hlm).1 hl
    | succ d ihd =>
     intro j e hj hl
     have hoj:ops[j]? = some ops[j]:=Array.getElem?_eq_getElem hj
     exact ihd (j - 1) (by omega) (by omega) (hcl j _ hl hoj (j - 1) (by simpa using hchain j _ (by omega) hoj))
   refine ⟨fun hr=>?_,fun i hi=>?_⟩
   ·exfalso
    have hall:∀ k j,j < k→j < ops.size→listed.getD j false = true:=by
     intro k
     induction k with
     | zero=>intro j hj;omega
     | succ k ihk =>
      intro j hj hjs
      refine hlt j hjs ?_
      cases hb:listed.getD j true with
      | true=>rfl
      | false =>
       exfalso
       have ho:ops[j]? = some ops[j]:=Array.getElem?_eq_getElem hjs
       have:j ∈ Region.ready .any ops listed:=mem_ready.2 ⟨hjs,hb,_,ho,fun q hq=>by
        have hbk:=List.all_eq_true.1 hback j (List.mem_range.2 hjs)
        rw [ho] at hbk
        have hkj:=of_decide_eq_true (List.all_eq_true.1 hbk q hq)
        exact ihk q (by omega) (by omega)⟩
       rw [hr] at this;cases this
    have hx:=hall (m + 1) m (by omega) hm'
    rcases Nat.lt_or_ge m listed.size with h | h
    ·simp [Array.getD_eq_getD_getElem?,h] at hlm hx;rw [hlm] at hx;cases hx
    ·simp [Array.getD_eq_getD_getElem?,Array.getElem?_eq_none h] at hx
   ·obtain ⟨h1,h2,o,ho,h3⟩:=mem_ready.1 hi
    have hnl:listed.getD i false≠true:=by
     intro hx
     rcases Nat.lt_or_ge i listed.size with h | h
     ·simp [Array.getD_eq_getD_getElem?,h] at h2 hx;rw [h2] at hx;cases hx
     ·simp [Array.getD_eq_getD_getElem?,Array.getElem?_eq_none h] at hx
    have his:i < listed.size:=by
     rcases Nat.lt_or_ge i listed.size with h | h
     ·exact h
     ·simp [Array.getD_eq_getD_getElem?,Array.getElem?_eq_none h] at h2
    have gset:∀ j (d:Bool),(listed.setIfInBounds i true).getD j d = if i = j then true else listed.getD j d:=by
     intro j d
     simp only [Array.getD_eq_getD_getElem?,Array.getElem?_setIfInBounds]
     by_cases e:i = j
     ·subst e;simp [his]
     ·simp [e]
    by_cases him:i = m
    ·subst him
     rw [hol] at ho;cases ho
     have hdown:∀ d j,i - j≤d→j < i→j≠e→listed.getD j false = true:=by
      intro d
      induction d with
      | zero=>intro j h4 h5;omega
      | succ d ihd =>
       intro j h4 h5 h6
       obtain ⟨j2,o2,g1,g2,g5,g3,g4⟩:=hpl j h5 h6
       by_cases e2:j2 = i
       ·subst e2;rw [hol] at g3;cases g3;exact h3 j g4
       ·exact hcl j2 o2 (ihd j2 (by omega) (by omega) g5) g3 j g4
     have hdn':∀ j,j < i→j≠e→listed.getD j false = true:=fun j hj hje=>hdown i j (by omega) hj hje
     obtain ⟨⟨x,hx⟩,hf⟩:=fin a w ol hol hEw hs hd (fun j hj hje=>hI j hj (hdn' j hj hje)) (fun t htt=>ht t (fun j oj hj _ hoj=>by
      have:=List.all_eq_true.1 htt oj (by rw [Array.mem_toList_iff];exact Array.mem_of_getElem? hoj)
      simpa using this))
     have htrue:∀ j,listed.getD j false = true→listed.getD j true = true:=fun j hj=>by
      cases hb:listed.getD j true with
      | true=>rfl
      | false=>exact absurd hj (getD_both hb).1
     have hfu:=unl_set (n:=ops.size) h1 h2
     unfold wpOp
     rw [hol]
     show if Region.wanted ol (yielded ops a.tmps) = true then _ else _
     rw [if_pos (by simp [Region.wanted,hguard])]
     refine .inl (Oper.wp_mono (fun a' w' hq=>?_) hf)
     obtain ⟨rfl,hq⟩:=hq
     cases hle:listed.getD e false with
     | true =>
      have hIe:=hI e hem hle
      have hud:sl a' d = u:=by
       unfold InvS at hIe
       rw [show dstOf ops e = some d by simp [dstOf,hoe,hde]] at hIe
       rw [hshe] at hIe
       exact hIe
      refine wpAny_tail (m:=i) hback hchain fuel (i + 1) _ a' w' (by omega) (by omega) (fun j hj hjs=>?_) (fun j hj hjs=>?_) (hq a' hs hd (fun _ _=>rfl) hud)
      ·rw [gset,gset]
       by_cases e3:i = j
       ·rw [if_pos e3,if_pos e3];exact ⟨rfl,rfl⟩
       ·rw [if_neg e3,if_neg e3]
        have hjl:listed.getD j false = true:=by
         by_cases e4:j = e
         ·rw [e4];exact hle
         ·exact hdn' j (by omega) e4
        exact ⟨hjl,htrue j hjl⟩
      ·rw [gset,if_neg (by omega)]
       cases hb:listed.getD j true with
       | false=>rfl
       | true=>exact (hup (j - i) j (by omega) hjs (hlt j hjs hb)).elim
     | false =>
      have hes:e < ops.size:=by omega
      have hleT:listed.getD e true = false:=by
       cases hb:listed.getD e true with
       | false=>rfl
       | true=>rw [hlt e hes hb] at hle;cases hle
      have gse:(listed.setIfInBounds i true).getD e true = false:=by rw [gset,if_neg (by omega)];exact hleT
      have hpe:∀ k,k ∈ preds oe→(listed.setIfInBounds i true).getD k false = true:=fun k hk=>by
       have hbk:=List.all_eq_true.1 hback e (List.mem_range.2 hes)
       rw [hoe] at hbk
       have hke:=of_decide_eq_true (List.all_eq_true.1 hbk k hk)
       rw [gset]
       by_cases e3:i = k
       ·rw [if_pos e3]
       ·rw [if_neg e3];exact hdn' k (by omega) (by omega)
      have hin:e ∈ Region.ready .any ops (listed.setIfInBounds i true):=mem_ready.2 ⟨hes,gse,oe,hoe,hpe⟩
      have hu2:unl ops.size (listed.setIfInBounds i true)≤fuel:=by omega
      cases fuel with
      | zero =>
       exfalso
       have h0:unl ops.size (listed.setIfInBounds i true) = 0:=by omega
       unfold unl at h0
       have:=List.countP_eq_zero.1 h0 e (List.mem_range.2 hes)
       simp [gse] at this
      | succ fuel =>
       refine ⟨fun hr=>by rw [hr] at hin;simp at hin,fun k hk=>?_⟩
       obtain ⟨k1,k2,ok,hok,k3⟩:=mem_ready.1 hk
       obtain ⟨knl,kis⟩:=getD_both k2
       have hke:k = e:=by
        apply Classical.byContradiction
        intro hne'
        rcases Nat.lt_trichotomy k i with hlt' | heq | hgt
        ·exact knl (by rw [gset,if_neg (by omega)];exact hdn' k hlt' hne')
        ·subst heq;exact knl (by rw [gset,if_pos rfl])
        ·by_cases hk1:k = i + 1
         ·subst hk1
          rw [hon] at hok;cases hok
          have:=k3 e hne
          exact (getD_both gse).1 this
         ·have:=k3 (k - 1) (by simpa using hchain k ok (by omega) hok)
          rw [gset,if_neg (by omega)] at this
          exact hup (k - 1 - i) (k - 1) (by omega) (by omega) this
       subst hke
       rw [hoe] at hok;cases hok
       unfold wpOp
       rw [hoe]
       show if Region.wanted oe (yielded ops a'.tmps) = true then _ else _
       rw [if_pos (by simp [Region.wanted,hge])]
       have hr:=hrun a' x w' hx
       refine .inl ?_
       refine wp_val u hr ?_
       rw [hde]
       have gset2:∀ j (dd:Bool),((listed.setIfInBounds i true).setIfInBounds k true).getD j dd = if k = j then true else (listed.setIfInBounds i true).getD j dd:=by
        intro j dd
        simp only [Array.getD_eq_getD_getElem?,Array.getElem?_setIfInBounds]
        by_cases e5:k = j
        ·subst e5;simp at kis;simp [kis]
        ·simp [e5]
       refine wpAny_tail (m:=i) hback hchain fuel (i + 1) _ _ w' (by omega) (by have:=unl_set (n:=ops.size) k1 k2;omega) (fun j hj hjs=>?_) (fun j hj hjs=>?_) (hq (a'.put (some d) u) ((put_size _ _ _).trans hs) ((put_defers _ _ _).trans hd) (fun t' ht'=>put_sl _ _ _ _ (fun ee=>ht' (Option.some.inj ee).symm)) (put_same _ _ _ (by rw [hs,hn];exact hdn)))
       ·rw [gset2,gset2]
        by_cases e3:k = j
        ·rw [if_pos e3,if_pos e3];exact ⟨rfl,rfl⟩
        ·rw [if_neg e3,if_neg e3,gset,gset]
         by_cases e4:i = j
         ·rw [if_pos e4,if_pos e4];exact ⟨rfl,rfl⟩
         ·rw [if_neg e4,if_neg e4]
          have hjl:=hdn' j (by omega) (fun e9=>e3 e9.symm)
          exact ⟨hjl,htrue j hjl⟩
       ·rw [gset2,if_neg (by omega),gset,if_neg (by omega)]
        cases hb:listed.getD j true with
        | false=>rfl
        | true=>exact (hup (j - i) j (by omega) hjs (hlt j hjs hb)).elim
    ·have him':i < m:=by
      rcases Nat.lt_or_ge i m with hx | hx
      ·exact hx
      ·exact (hup (i - 1 - m) (i - 1) (by omega) (by omega) (h3 (i - 1) (by simpa using hchain i o (by omega) ho))).elim
     have hst:=stepAt i o him' ho
     have hst':=hst a w ⟨hEw.os,hEw.tape,hEw.output,hEw.size,hEw.block⟩ hs (fun k hk=>hI k (by
       have hbk:=List.all_eq_true.1 hback i (List.mem_range.2 h1)
       rw [ho] at hbk
       have:=of_decide_eq_true (List.all_eq_true.1 hbk k hk);omega) (h3 k hk)) (fun t hti=>by
      refine ht t (fun j oj hj hlj hoj hdj=>?_)
      have:=List.all_eq_true.1 hti j (List.mem_range.2 (by omega))
      rw [hoj] at this
      by_cases e:j = i
      ·subst e;exact hnl hlj
      ·simp [e,hdj] at this
       exact hnl (hcl j oj hlj hoj i this))
     have next:∀ (v:Value) (w':World),Below w.heap.size w w'→InvS ops sh i (sl (a.put o.dst v)) w'→wpAny P .any ops Q fuel (listed.setIfInBounds i true) (a.put o.dst v) w':=by
      intro v w' hR hIi
      refine ih _ _ _ (by have:=unl_set (n:=ops.size) h1 h2;omega) (by rw [gset,if_neg him];exact hlm) (hEw.trans (hR.mono hEw.size)) ((put_size _ _ _).trans hs) ((put_defers _ _ _).trans hd) ?_ ?_ ?_ ?_
      ·intro j oj hj hoj k hk
       rw [gset] at hj ⊢
       by_cases e:i = k
       ·rw [if_pos e]
       ·rw [if_neg e]
        by_cases e':i = j
        ·subst e';rw [ho] at hoj;cases hoj;exact h3 k hk
        ·rw [if_neg e'] at hj;exact hcl j oj hj hoj k hk
      ·intro j hj hl
       rw [gset] at hl ⊢
       by_cases e:i = j
       ·rw [if_pos e]
       ·rw [if_neg e] at hl ⊢;exact hlt j hj hl
      ·intro j hj hl
       rw [gset] at hl
       by_cases e:i = j
       ·subst e;exact hIi
       ·rw [if_neg e] at hl
        have hoj:ops[j]? = some ops[j]:=Array.getElem?_eq_getElem (by omega)
        exact stable i j o _ (sl a) _ w w' e ho hoj (hI j hj hl) hR (fun t h=>put_sl _ _ _ _ h)
      ·intro t htt
       have hdt:o.dst≠some t:=htt i o him' (by rw [gset,if_pos rfl]) ho
       rw [put_sl _ _ _ _ hdt]
       exact ht t (fun j oj hj hl hoj=>htt j oj hj (by rw [gset];split <;> simp [hl]) hoj)
     unfold wpOp
     rw [ho]
     show if Region.wanted o (yielded ops a.tmps) = true then _ else _
     split
     ·rename_i hw
      rw [if_pos hw] at hst'
      exact .inl (Oper.wp_mono (fun a' w' ⟨v,e,hR,hIi⟩=>by rw [e] at hIi ⊢;exact next v w' hR hIi) hst')
     ·rename_i hw
      rw [if_neg hw] at hst'
      exact next undef w hst'.1 hst'.2
 refine main ops.size _ a0 w0.drew ?_ ?_ ⟨rfl,rfl,rfl,Nat.le_refl _,fun _ _=>rfl⟩ rfl rfl ?_ ?_ ?_ ?_
 ·unfold unl;exact Nat.le_trans List.countP_le_length (by simp)
 ·simp [Array.getD_eq_getD_getElem?,Array.getElem?_replicate,hm']
 ·intro j o hj;simp [Array.getD_eq_getD_getElem?,Array.getElem?_replicate] at hj
  split at hj <;> simp at hj
 ·intro j hj hl;simp [Array.getD_eq_getD_getElem?,Array.getElem?_replicate,hj] at hl
 ·intro j hj hl;simp [Array.getD_eq_getD_getElem?,Array.getElem?_replicate,show j < ops.size by omega] at hl
 ·intro t _;rfl
theorem run_extract_two {P:Program} {a:Act} {u x:Value} {w:World} {t:Nat} (oe:Oper) (hop:oe.op = .extract (.tmp t) 1) (h:sl a t = .tuple #[x,u]):(execOp a.eval oe).run P w = .ok (.value u) w:=by
 unfold execOp;rw [hop];simp only [eval_tmp,h];rfl
end Go.By
namespace Go.Proofs.YtccaiiigdfieoaaGreatDoor
open Go.RowKit Go.By
theorem info_packet:(Tryz.prog.info? 122).map (·.size) = some 7:=by kernel_rfl
theorem Sl.front' {α:Type} {enc:α→Value} {w:World} {p:Option Addr} {n c k:Nat} {xs:List α} (h:Sl enc w p n c xs) (hk:k≤n):Sl enc w p k c (xs.take k):=by
 have h1:=h.len;have h2:=h.le;have h3:=h.max
 refine ⟨by simp;omega,by omega,h3,fun hp=>by have:=h.nil hp;omega,?_⟩
 intro i hi
 simp at hi
 obtain ⟨b,o,e,hc⟩:=h.rs i (by omega)
 exact ⟨b,o,e,by rw [hc];simp⟩
def PZero (w:World) (code:Int) (e:Ending) (w':World):Prop:=e = .returned (.tuple #[PkVal 0 0 0 0 none 0 0 0 none 0 0,.int .i64 code])∧Below w.heap.size w w'
set_option maxRecDepth 100000 in
set_option maxHeartbeats 2000000 in
theorem PRead_head (L t k D:Nat) (p:Option Addr) (n c:Nat) (xs:List UInt8) (w:World) (hP:POK L t k D) (h:Sl B8 w p n c xs) (hr:Room n) (hc:headC xs≠0) :
  Calls Tryz.prog 111 #[PVal L t k D,.slice p n c] w (PZero w (headC xs)):=by
 have HK:Hid (∀ w,Calls Tryz.prog 79 #[PVal L t k D] w fun e w'=>e = .returned (.int .i64 0)∧Below w.heap.size w w'):=PCheck_ok hP
 have HR:Hid (∀ w,Sl B8 w p n c xs→Calls Tryz.prog 172 #[.slice p n c] w (HRet w 0 0 0 (headC xs))):=fun w h=>by have:=HRead_any p n c xs w h hr;rw [if_neg hc] at this;exact this
 have H:=Lib.hid h
 have e0:(headC xs != 0) = true:=bne_iff_ne.2 hc
 generalize headC xs = C at *
 clear hP h hr hc
 go_enter Tryz.func111,Tryz.ntmps111
 go_wp2_with fail
 refine Calls.mono (HK.out _) ?_
 rintro e w1 ⟨rfl,hb⟩
 obtain ⟨hb1,h1,h2,hs⟩:=two_of hb
 have HB:=Lib.hid hb1
 clear hb hb1
 go_wp2_with fail
 refine Calls.mono (HR.out _ (H.out.keep HB.out)) ?_
 rintro e w2 ⟨q0,n0,k0,rfl,hb⟩
 have h1':=(hb.block _ (by omega)).trans h1
 have h2':=(hb.block _ (by omega)).trans h2
 have hs2:w.heap.size + 2≤w2.heap.size:=Nat.le_trans hs hb.size
 have HB2:=Lib.hid (bl HB.out hb HB.out.size)
 clear hb h1 h2 hs
 go_wp2_with (refine wpList_store_row (o:=⟨none,.store 122 (.tmp 4) (.tmp 29),_,_,_,_⟩) rfl 122 (.tmp 4) (.tmp 29) rfl (w.heap.size + 1) #[.int .u8 0,.int .u32 0,.int .u32 0,.int .u8 0,.slice none 0 0,.int .u64 0,.slice none 0 0] rfl rfl _ _ (hal h2') info_packet rfl (by simp [Value.oneCell']) ?_)
 refine bodyPost_ret (res_ct rfl _ _ _ 122 #[.int .u8 0,.int .u32 0,.int .u32 0,.int .u8 0,.slice none 0 0,.int .u64 0,.slice none 0 0] (0,0) _ (.int .i64 C) rfl (hrs (hal h2')) rfl Tryz.underlying122 rfl info_packet) rfl ?_
 exact ⟨rfl,below_row (al HB2.out HB2.out.size) (by omega)⟩
set_option maxRecDepth 100000 in
set_option maxHeartbeats 2000000 in
theorem PRead_len (L t k D:Nat) (p:Option Addr) (n c:Nat) (xs:List UInt8) (w:World) (hP:POK L t k D) (h:Sl B8 w p n c xs) (hr:Room n) (hc:headC xs = 0) (hn:n≠lenP (xs.getD 1 0) k t) :
  Calls Tryz.prog 111 #[PVal L t k D,.slice p n c] w (PZero w 4):=by
 have HK:Hid (∀ w,Calls Tryz.prog 79 #[PVal L t k D] w fun e w'=>e = .returned (.int .i64 0)∧Below w.heap.size w w'):=PCheck_ok hP
 have hm:=headC_mode hc
 have HR:Hid (∀ w,Sl B8 w p n c xs→Calls Tryz.prog 172 #[.slice p n c] w (HRet w (xs.getD 1 0) (get4 ((xs.drop 2).take 4)) (get4 ((xs.drop 6).take 4)) 0)):=fun w h=>by have:=HRead_any p n c xs w h hr;rw [if_pos hc] at this;exact this
 have HN:Hid (∀ w,Calls Tryz.prog 173 #[PVal L t k D,B8 (xs.getD 1 0)] w fun e w'=>e = .returned (.tuple #[.int .i64 (lenP (xs.getD 1 0) k t:Nat),.int .i64 0])∧Below w.heap.size w w'):=fun w=>PLength_ok L t k D _ w hP hm
 have H:=Lib.hid h
 have e0:((n:Int) != (lenP (xs.getD 1 0) k t:Int)) = true:=bne_iff_ne.2 (by omega)
 generalize lenP (xs.getD 1 0) k t = N at *
 generalize xs.getD 1 0 = m at *
 generalize get4 ((xs.drop 2).take 4) = O at *
 generalize get4 ((xs.drop 6).take 4) = M at *
 clear hP h hr hc hm hn
 go_enter Tryz.func111,Tryz.ntmps111
 go_wp2_with fail
 refine Calls.mono (HK.out _) ?_
 rintro e w1 ⟨rfl,hb⟩
 obtain ⟨hb1,h1,h2,hs⟩:=two_of hb
 have HB:=Lib.hid hb1
 clear hb hb1
 go_wp2_with fail
 refine Calls.mono (HR.out _ (H.out.keep HB.out)) ?_
 rintro e w2 ⟨q0,n0,k0,rfl,hb⟩
 have h1':=(hb.block _ (by omega)).trans h1
 have h2':=(hb.block _ (by omega)).trans h2
 have hs2:w.heap.size + 2≤w2.heap.size:=Nat.le_trans hs hb.size
 have HB2:=Lib.hid (bl HB.out hb HB.out.size)
 clear hb h1 h2 hs
 have c0:∀ o',(w2.alloc o').cell? ⟨w.heap.size,0,none⟩ = _:=fun _=>calloc (cells_four h1').1
 have c1:∀ o',(w2.alloc o').cell? ⟨w.heap.size,1,none⟩ = _:=fun _=>calloc (cells_four h1').2.1
 have c2:∀ o',(w2.alloc o').cell? ⟨w.heap.size,2,none⟩ = _:=fun _=>calloc (cells_four h1').2.2.1
 have c3:∀ o',(w2.alloc o').cell? ⟨w.heap.size,3,none⟩ = _:=fun _=>calloc (cells_four h1').2.2.2
 go_wp2_with fail
 refine Calls.mono (HN.out _) ?_
 rintro e w3 ⟨rfl,hb⟩
 obtain ⟨hb3,h3,hs3⟩:=one_of hb
 have h1:=(hb3.block _ (by omega)).trans h1'
 have h2:=(hb3.block _ (by omega)).trans h2'
 have HB3:=Lib.hid (bl HB2.out hb3 HB2.out.size)
 have HX:Hid (w.heap.size + 2≤w2.heap.size):=hs2
 clear hb hb3 h1' h2' c0 c1 c2 c3
 go_wp2_with (refine wpList_store_row (o:=⟨none,.store 122 (.tmp 4) (.tmp 46),_,_,_,_⟩) rfl 122 (.tmp 4) (.tmp 46) rfl (w.heap.size + 1) #[.int .u8 0,.int .u32 0,.int .u32 0,.int .u8 0,.slice none 0 0,.int .u64 0,.slice none 0 0] rfl rfl _ _ h2 info_packet rfl (by simp [Value.oneCell']) ?_)
 refine bodyPost_ret (res_ct rfl _ _ _ 122 #[.int .u8 0,.int .u32 0,.int .u32 0,.int .u8 0,.slice none 0 0,.int .u64 0,.slice none 0 0] (0,0) _ (.int .i64 4) rfl (hrs h2) rfl Tryz.underlying122 rfl info_packet) rfl ?_
 exact ⟨rfl,below_row HB3.out (by omega)⟩
set_option maxRecDepth 100000 in
set_option maxHeartbeats 4000000 in
theorem PRead_sum (L t k D:Nat) (b o:Nat) (n c:Nat) (xs:List UInt8) (w:World) (hP:POK L t k D) (hT:HalfT w) (h:Sl B8 w (some ⟨b,o,none⟩) n c xs) (hr:Room n) (hc:headC xs = 0) (E:Nat) (hn:n = lenP (xs.getD 1 0) k t) (hE:n = E + 4) (hs:get4 ((xs.drop E).take 4)≠crcS (xs.take E)) :
  Calls Tryz.prog 111 #[PVal L t k D,.slice (some ⟨b,o,none⟩) n c] w (PZero w 10):=by
 have HK:Hid (∀ w,Calls Tryz.prog 79 #[PVal L t k D] w fun e w'=>e = .returned (.int .i64 0)∧Below w.heap.size w w'):=PCheck_ok hP
 have hm:=headC_mode hc
 have HR:Hid (∀ w,Sl B8 w (some ⟨b,o,none⟩) n c xs→Calls Tryz.prog 172 #[.slice (some ⟨b,o,none⟩) n c] w (HRet w (xs.getD 1 0) (get4 ((xs.drop 2).take 4)) (get4 ((xs.drop 6).take 4)) 0)):=fun w h=>by have:=HRead_any (some ⟨b,o,none⟩) n c xs w h hr;rw [if_pos hc] at this;exact this
 have HN:Hid (∀ w,Calls Tryz.prog 173 #[PVal L t k D,B8 (xs.getD 1 0)] w fun e w'=>e = .returned (.tuple #[.int .i64 (n:Nat),.int .i64 0])∧Below w.heap.size w w'):=fun w=>by rw [hn];exact PLength_ok L t k D _ w hP hm
 have H:=Lib.hid h
 have HT:=Lib.hid hT
 have hle:=h.le
 have hmx:=h.max
 unfold maxLen at hmx
 have HE:Hid (E + 4≤n):=by show E + 4≤n;omega
 have HE':Hid (E≤n):=by show E≤n;omega
 have eE:(n:Int) - 4 = (E:Int):=by omega
 have eN:n - E = 4:=by omega
 have eC:¬ (c = E):=by omega
 have eb1:(E:Int)≤(n:Int):=by omega
 have eb2:(E:Int)≤(c:Int):=by omega
 obtain ⟨G,hG⟩:∃ G,get4 ((xs.drop E).take 4) = G:=⟨_,rfl⟩
 have HG:=Lib.hid hG
 obtain ⟨C,hC⟩:∃ C,crcS ([xs.take E].flatten) = C:=⟨_,rfl⟩
 have HC:=Lib.hid hC
 have e0:((G:Int) != (C:Int)) = true:=bne_iff_ne.2 (by rw [hG] at hs;simp at hC;rw [hC] at hs;omega)
 generalize xs.getD 1 0 = m at *
 generalize get4 ((xs.drop 2).take 4) = O at *
 generalize get4 ((xs.drop 6).take 4) = M at *
 clear hP h hr hc hm hn hs hT hG hC hE
 go_enter Tryz.func111,Tryz.ntmps111
 go_wp2_with fail
 refine Calls.mono (HK.out _) ?_
 rintro e w1 ⟨rfl,hb⟩
 obtain ⟨hb1,h1,h2,hs⟩:=two_of hb
 have HB:=Lib.hid hb1
 clear hb hb1
 go_wp2_with fail
 refine Calls.mono (HR.out _ (H.out.keep HB.out)) ?_
 rintro e w2 ⟨q0,n0,k0,rfl,hb⟩
 have h1':=(hb.block _ (by omega)).trans h1
 have h2':=(hb.block _ (by omega)).trans h2
 have hs2:w.heap.size + 2≤w2.heap.size:=Nat.le_trans hs hb.size
 have HB2:=Lib.hid (bl HB.out hb HB.out.size)
 clear hb h1 h2 hs
 have c0:∀ o',(w2.alloc o').cell? ⟨w.heap.size,0,none⟩ = _:=fun _=>calloc (cells_four h1').1
 have c1:∀ o',(w2.alloc o').cell? ⟨w.heap.size,1,none⟩ = _:=fun _=>calloc (cells_four h1').2.1
 have c2:∀ o',(w2.alloc o').cell? ⟨w.heap.size,2,none⟩ = _:=fun _=>calloc (cells_four h1').2.2.1
 have c3:∀ o',(w2.alloc o').cell? ⟨w.heap.size,3,none⟩ = _:=fun _=>calloc (cells_four h1').2.2.2
 go_wp2_with fail
 refine Calls.mono (HN.out _) ?_
 rintro e w3 ⟨rfl,hb⟩
 obtain ⟨hb3,h3,hs3⟩:=one_of hb
 have h1:=(hb3.block _ (by omega)).trans h1'
 have h2:=(hb3.block _ (by omega)).trans h2'
 have HB3:=Lib.hid (bl HB2.out hb3 HB2.out.size)
 have HX:Hid (w.heap.size + 2≤w2.heap.size):=hs2
 clear hb hb3 h1' h2' c0 c1 c2 c3
 go_wp2_with fail
 refine Calls.mono (SGet_any _ _ _ _ _ (Sl.part (k:=E) (m:=4) (H.out.keep HB3.out) HE.out)) ?_
 rintro e w4 ⟨rfl,hb⟩
 rw [if_pos rfl,HG.out]
 have h1':=(hb.block _ (by omega)).trans h1
 have h2':=(hb.block _ (by omega)).trans h2
 have h3':=(hb.block _ (by omega)).trans h3
 have hs4:w2.heap.size + 1≤w4.heap.size:=Nat.le_trans hs3 hb.size
 have HB4:=Lib.hid (bl HB3.out hb HB3.out.size)
 clear hb h1 h2 h3 hs3
 go_wp2_with fail
 refine Calls.mono (SOf_any _ _ _ [xs.take E] _ (sl2_one (hnew rfl) ((Sl.front' (H.out.keep HB4.out) HE'.out).keep (al (Below.refl _ _) (Nat.le_refl _)))) (HT.out.keep (al HB4.out HB4.out.size))) ?_
 rintro e w5 ⟨rfl,hb⟩
 obtain ⟨hb5,-,hs5'⟩:=one_of hb
 have h1:=(hb5.block _ (by omega)).trans h1'
 have h2:=(hb5.block _ (by omega)).trans h2'
 have h3:=(hb5.block _ (by omega)).trans h3'
 have hs5:w2.heap.size + 1≤w5.heap.size:=by omega
 have HB5:=Lib.hid (bl HB4.out hb5 HB4.out.size)
 clear hb hb5 h1' h2' h3' hs5' hs4
 rw [HC.out]
 go_wp2_with (refine wpList_store_row (o:=⟨none,.store 122 (.tmp 4) (.tmp 67),_,_,_,_⟩) rfl 122 (.tmp 4) (.tmp 67) rfl (w.heap.size + 1) #[.int .u8 0,.int .u32 0,.int .u32 0,.int .u8 0,.slice none 0 0,.int .u64 0,.slice none 0 0] rfl rfl _ _ h2 info_packet rfl (by simp [Value.oneCell']) ?_)
 refine bodyPost_ret (res_ct rfl _ _ _ 122 #[.int .u8 0,.int .u32 0,.int .u32 0,.int .u8 0,.slice none 0 0,.int .u64 0,.slice none 0 0] (0,0) _ (.int .i64 10) rfl (hrs h2) rfl Tryz.underlying122 rfl info_packet) rfl ?_
 exact ⟨rfl,below_row HB5.out (by omega)⟩
set_option maxRecDepth 100000 in
set_option maxHeartbeats 4000000 in
theorem PRead_obj (L t k D:Nat) (b o:Nat) (n c:Nat) (xs:List UInt8) (w:World) (hP:POK L t k D) (hT:HalfT w) (h:Sl B8 w (some ⟨b,o,none⟩) n c xs) (hr:Room n) (hc:headC xs = 0) (E:Nat) (hn:n = lenP (xs.getD 1 0) k t) (hE:n = E + 4) (hs:get4 ((xs.drop E).take 4) = crcS (xs.take E)) (ho:get4 ((xs.drop 2).take 4)≠D) :
  Calls Tryz.prog 111 #[PVal L t k D,.slice (some ⟨b,o,none⟩) n c] w (PZero w 9):=by
 have HK:Hid (∀ w,Calls Tryz.prog 79 #[PVal L t k D] w fun e w'=>e = .returned (.int .i64 0)∧Below w.heap.size w w'):=PCheck_ok hP
 have hm:=headC_mode hc
 have HR:Hid (∀ w,Sl B8 w (some ⟨b,o,none⟩) n c xs→Calls Tryz.prog 172 #[.slice (some ⟨b,o,none⟩) n c] w (HRet w (xs.getD 1 0) (get4 ((xs.drop 2).take 4)) (get4 ((xs.drop 6).take 4)) 0)):=fun w h=>by have:=HRead_any (some ⟨b,o,none⟩) n c xs w h hr;rw [if_pos hc] at this;exact this
 have HN:Hid (∀ w,Calls Tryz.prog 173 #[PVal L t k D,B8 (xs.getD 1 0)] w fun e w'=>e = .returned (.tuple #[.int .i64 (n:Nat),.int .i64 0])∧Below w.heap.size w w'):=fun w=>by rw [hn];exact PLength_ok L t k D _ w hP hm
 have H:=Lib.hid h
 have HT:=Lib.hid hT
 have hle:=h.le
 have hmx:=h.max
 unfold maxLen at hmx
 have HE:Hid (E + 4≤n):=by show E + 4≤n;omega
 have HE':Hid (E≤n):=by show E≤n;omega
 have eE:(n:Int) - 4 = (E:Int):=by omega
 have eN:n - E = 4:=by omega
 have eC:¬ (c = E):=by omega
 have eb1:(E:Int)≤(n:Int):=by omega
 have eb2:(E:Int)≤(c:Int):=by omega
 obtain ⟨G,hG⟩:∃ G,get4 ((xs.drop E).take 4) = G:=⟨_,rfl⟩
 have HG:=Lib.hid hG
 obtain ⟨C,hC⟩:∃ C,crcS ([xs.take E].flatten) = C:=⟨_,rfl⟩
 have HC:=Lib.hid hC
 have e0:C = G:=by rw [hG] at hs;simp at hC;rw [hC] at hs;exact hs.symm
 subst e0
 have e1:((get4 ((xs.drop 2).take 4):Int) != (D:Int)) = true:=bne_iff_ne.2 (by omega)
 generalize xs.getD 1 0 = m at *
 generalize get4 ((xs.drop 2).take 4) = O at *
 generalize get4 ((xs.drop 6).take 4) = M at *
 clear hP h hr hc hm hn hs ho hT hG hC hE
 go_enter Tryz.func111,Tryz.ntmps111
 go_wp2_with fail
 refine Calls.mono (HK.out _) ?_
 rintro e w1 ⟨rfl,hb⟩
 obtain ⟨hb1,h1,h2,hs⟩:=two_of hb
 have HB:=Lib.hid hb1
 clear hb hb1
 go_wp2_with fail
 refine Calls.mono (HR.out _ (H.out.keep HB.out)) ?_
 rintro e w2 ⟨q0,n0,k0,rfl,hb⟩
 have h1':=(hb.block _ (by omega)).trans h1
 have h2':=(hb.block _ (by omega)).trans h2
 have hs2:w.heap.size + 2≤w2.heap.size:=Nat.le_trans hs hb.size
 have HB2:=Lib.hid (bl HB.out hb HB.out.size)
 clear hb h1 h2 hs
 have c0:∀ o',(w2.alloc o').cell? ⟨w.heap.size,0,none⟩ = _:=fun _=>calloc (cells_four h1').1
 have c1:∀ o',(w2.alloc o').cell? ⟨w.heap.size,1,none⟩ = _:=fun _=>calloc (cells_four h1').2.1
 have c2:∀ o',(w2.alloc o').cell? ⟨w.heap.size,2,none⟩ = _:=fun _=>calloc (cells_four h1').2.2.1
 have c3:∀ o',(w2.alloc o').cell? ⟨w.heap.size,3,none⟩ = _:=fun _=>calloc (cells_four h1').2.2.2
 go_wp2_with fail
 refine Calls.mono (HN.out _) ?_
 rintro e w3 ⟨rfl,hb⟩
 obtain ⟨hb3,h3,hs3⟩:=one_of hb
 have h1:=(hb3.block _ (by omega)).trans h1'
 have h2:=(hb3.block _ (by omega)).trans h2'
 have HB3:=Lib.hid (bl HB2.out hb3 HB2.out.size)
 have HX:Hid (w.heap.size + 2≤w2.heap.size):=hs2
 clear hb hb3 h1' h2' c0 c1 c2 c3
 go_wp2_with fail
 refine Calls.mono (SGet_any _ _ _ _ _ (Sl.part (k:=E) (m:=4) (H.out.keep HB3.out) HE.out)) ?_
 rintro e w4 ⟨rfl,hb⟩
 rw [if_pos rfl,HG.out]
 have h1':=(hb.block _ (by omega)).trans h1
 have h2':=(hb.block _ (by omega)).trans h2
 have h3':=(hb.block _ (by omega)).trans h3
 have hs4:w2.heap.size + 1≤w4.heap.size:=Nat.le_trans hs3 hb.size
 have HB4:=Lib.hid (bl HB3.out hb HB3.out.size)
 clear hb h1 h2 h3 hs3
 go_wp2_with fail
 refine Calls.mono (SOf_any _ _ _ [xs.take E] _ (sl2_one (hnew rfl) ((Sl.front' (H.out.keep HB4.out) HE'.out).keep (al (Below.refl _ _) (Nat.le_refl _)))) (HT.out.keep (al HB4.out HB4.out.size))) ?_
 rintro e w5 ⟨rfl,hb⟩
 obtain ⟨hb5,-,hs5'⟩:=one_of hb
 have h1:=(hb5.block _ (by omega)).trans h1'
 have h2:=(hb5.block _ (by omega)).trans h2'
 have h3:=(hb5.block _ (by omega)).trans h3'
 have hs5:w2.heap.size + 1≤w5.heap.size:=by omega
 have HB5:=Lib.hid (bl HB4.out hb5 HB4.out.size)
 clear hb hb5 h1' h2' h3' hs5' hs4
 rw [HC.out]
 obtain ⟨c0,c1,c2,c3⟩:=cells_four h1
 obtain ⟨d0,d1,d2⟩:=cells_three h3
 go_wp2_with (refine wpList_store_row (o:=⟨none,.store 122 (.tmp 4) (.tmp 73),_,_,_,_⟩) rfl 122 (.tmp 4) (.tmp 73) rfl (w.heap.size + 1) #[.int .u8 0,.int .u32 0,.int .u32 0,.int .u8 0,.slice none 0 0,.int .u64 0,.slice none 0 0] rfl rfl _ _ h2 info_packet rfl (by simp [Value.oneCell']) ?_)
 refine bodyPost_ret (res_ct rfl _ _ _ 122 #[.int .u8 0,.int .u32 0,.int .u32 0,.int .u8 0,.slice none 0 0,.int .u64 0,.slice none 0 0] (0,0) _ (.int .i64 9) rfl (hrs h2) rfl Tryz.underlying122 rfl info_packet) rfl ?_
 exact ⟨rfl,below_row HB5.out (by omega)⟩
end Go.Proofs.YtccaiiigdfieoaaGreatDoor
namespace Go.By
open Go.RowKit
end Go.By
namespace Go.Proofs.YtccaiiigdfieoaaGreatDoor
open Go.RowKit Go.By
def RdT (T B:Nat) (m:UInt8) (S:Nat) (X:List UInt8) (v:Value) (w:World):Prop:=∃ q n c,v = .tuple #[SVal m q n c S,.int .i64 0]∧Fresh T B w q n c X
def RdV (T B:Nat) (m:UInt8) (S:Nat) (X:List UInt8) (v:Value) (w:World):Prop:=∃ q n c,v = SVal m q n c S∧Fresh T B w q n c X
def ShRdT (T B:Nat) (m:UInt8) (S:Nat) (X:List UInt8):Shp:=⟨RdT T B m S X,fun _ _ _ ⟨q,n,c,e,h⟩ hb=>⟨q,n,c,e,h.keep hb⟩⟩
def ShRdV (T B:Nat) (m:UInt8) (S:Nat) (X:List UInt8):Shp:=⟨RdV T B m S X,fun _ _ _ ⟨q,n,c,e,h⟩ hb=>⟨q,n,c,e,h.keep hb⟩⟩
def ShNew (T B:Nat) (cs:Array Value):Shp:=⟨fun v w=>∃ g,v = .pointer (some ⟨g,0,none⟩)∧B≤g∧w.heap[g]? = some (.cells cs T (0,0)),fun _ _ _ ⟨g,e,h1,h2⟩ hb=>⟨g,e,h1,(hb.block _ (lt_of_block h2)).trans h2⟩⟩
def FrV (T B:Nat) (Y:List UInt8) (v:Value) (w:World):Prop:=∃ q n c,v = .slice q n c∧Fresh T B w q n c Y
def ShFr (T B:Nat) (Y:List UInt8):Shp:=⟨FrV T B Y,fun _ _ _ ⟨q,n,c,e,h⟩ hb=>⟨q,n,c,e,h.keep hb⟩⟩
def PkV (T B:Nat) (m:UInt8) (O M:Nat) (q8:Option Addr) (n8 k8 S:Nat) (Y:List UInt8) (v:Value) (w:World):Prop:=∃ q n c,v = PkVal m O M m q8 n8 k8 S q n c∧Fresh T B w q n c Y
def ShPk (T B:Nat) (m:UInt8) (O M:Nat) (q8:Option Addr) (n8 k8 S:Nat) (Y:List UInt8):Shp:=⟨PkV T B m O M q8 n8 k8 S Y,fun _ _ _ ⟨q,n,c,e,h⟩ hb=>⟨q,n,c,e,h.keep hb⟩⟩
theorem pkt_ne:122≠5:=by decide
def PRet (w:World) (m:UInt8) (O M:Nat) (X:List UInt8) (S:Nat) (Y:List UInt8) (e:Ending) (w':World):Prop :=
 ∃ q n c q2 n2 c2,e = .returned (.tuple #[PkVal m O M m q n c S q2 n2 c2,.int .i64 0])∧Fresh 5 w.heap.size w' q n c X∧Fresh 5 w.heap.size w' q2 n2 c2 Y∧Below w.heap.size w w'
set_option maxRecDepth 100000 in
set_option maxHeartbeats 4000000 in
theorem PRead_ok (L t k D:Nat) (b o:Nat) (n c:Nat) (xs:List UInt8) (w:World) (hP:POK L t k D) (hT:HalfT w) (h:Sl B8 w (some ⟨b,o,none⟩) n c xs) (hr:Room n) (hc:headC xs = 0) (E:Nat) (hn:n = lenP (xs.getD 1 0) k t) (hE:n = E + 4) (hs:get4 ((xs.drop E).take 4) = crcS (xs.take E)) (ho:get4 ((xs.drop 2).take 4) = D) :
  Calls Tryz.prog 111 #[PVal L t k D,.slice (some ⟨b,o,none⟩) n c] w (PRet w (xs.getD 1 0) D (get4 ((xs.drop 6).take 4)) (rdX (xs.getD 1 0) ((xs.drop 10).take (widS (xs.getD 1 0) k))) (rdS (xs.getD 1 0) ((xs.drop 10).take (widS (xs.getD 1 0) k))) ((xs.drop (10 + widS (xs.getD 1 0) k)).take t)):=by
 have HK:Hid (∀ w,Calls Tryz.prog 79 #[PVal L t k D] w fun e w'=>e = .returned (.int .i64 0)∧Below w.heap.size w w'):=PCheck_ok hP
 have hm:=headC_mode hc
 have HR:Hid (∀ w,Sl B8 w (some ⟨b,o,none⟩) n c xs→Calls Tryz.prog 172 #[.slice (some ⟨b,o,none⟩) n c] w (HRet w (xs.getD 1 0) (get4 ((xs.drop 2).take 4)) (get4 ((xs.drop 6).take 4)) 0)):=fun w h=>by have:=HRead_any (some ⟨b,o,none⟩) n c xs w h hr;rw [if_pos hc] at this;exact this
 have HN:Hid (∀ w,Calls Tryz.prog 173 #[PVal L t k D,B8 (xs.getD 1 0)] w fun e w'=>e = .returned (.tuple #[.int .i64 (n:Nat),.int .i64 0])∧Below w.heap.size w w'):=fun w=>by rw [hn];exact PLength_ok L t k D _ w hP hm
 have H:=Lib.hid h
 have HT:=Lib.hid hT
 have hle:=h.le
 have hmx:=h.max
 unfold maxLen at hmx
 have HE:Hid (E + 4≤n):=by show E + 4≤n;omega
 have HE':Hid (E≤n):=by show E≤n;omega
 have eE:(n:Int) - 4 = (E:Int):=by omega
 have eN:n - E = 4:=by omega
 have eC:¬ (c = E):=by omega
 have eb1:(E:Int)≤(n:Int):=by omega
 have eb2:(E:Int)≤(c:Int):=by omega
 obtain ⟨G,hG⟩:∃ G,get4 ((xs.drop E).take 4) = G:=⟨_,rfl⟩
 have HG:=Lib.hid hG
 obtain ⟨C,hC⟩:∃ C,crcS ([xs.take E].flatten) = C:=⟨_,rfl⟩
 have HC:=Lib.hid hC
 have e0:C = G:=by rw [hG] at hs;simp at hC;rw [hC] at hs;exact hs.symm
 subst e0
 have hV2:n = 10 + widS (xs.getD 1 0) k + t + 4:=hn
 obtain ⟨V,hV⟩:∃ V,widS (xs.getD 1 0) k = V:=⟨_,rfl⟩
 obtain ⟨X,hX⟩:∃ X,rdX (xs.getD 1 0) ((xs.drop 10).take V) = X:=⟨_,rfl⟩
 obtain ⟨S,hS⟩:∃ S,rdS (xs.getD 1 0) ((xs.drop 10).take V) = S:=⟨_,rfl⟩
 obtain ⟨Y,hY⟩:∃ Y,(xs.drop (10 + V)).take t = Y:=⟨_,rfl⟩
 have HRD:Hid (∀ w,Sl B8 w (some ⟨b,o + 10,none⟩) V (c - 10) ((xs.drop 10).take V)→Calls Tryz.prog 175 #[B8 (xs.getD 1 0),.int .i64 (k:Nat),.slice (some ⟨b,o + 10,none⟩) V (c - 10)] w fun e w'=>∃ q n' c',e = .returned (.tuple #[SVal (xs.getD 1 0) q n' c' S,.int .i64 0])∧Fresh 5 w.heap.size w' q n' c' X∧Below w.heap.size w w'):=fun w h=>by
  have:=RRead_any (xs.getD 1 0) k _ _ _ _ w hm hP.k1 hP.k2 h hV.symm
  rw [hX,hS] at this;exact this
 have HY:=Lib.hid hY
 have HRt:Hid (Room t):=by have:=hP.t2;show t≤140737488355328;omega
 rw [hV] at hV2
 rw [hV,hX,hS,hY]
 obtain ⟨A,hA⟩:∃ A,A = 10 + V:=⟨_,rfl⟩
 have HAV:=Lib.hid hA
 have eA:(E:Int) - (t:Int) = (A:Int):=by omega
 have HV:Hid (10 + V≤n):=by show 10 + V≤n;omega
 have HVt:Hid (10 + V + t≤n):=by show 10 + V + t≤n;omega
 have HEt:Hid (E = A + t):=by show E = A + t;omega
 have ea1:(10:Int)≤(A:Int):=by omega
 have ea2:(A:Int)≤(c:Int):=by omega
 have ea3:A - 10 = V:=by omega
 have ea4:¬ (c = 10):=by omega
 have ea5:(A:Int)≤(n:Int):=by omega
 generalize xs.getD 1 0 = m at *
 rw [ho] at HR
 generalize get4 ((xs.drop 6).take 4) = M at *
 clear hP h hr hc hm hn hs ho hT hG hC hE hV hV2 hX hS hY hA
 go_enter Tryz.func111,Tryz.ntmps111
 go_wp2_with fail
 refine Calls.mono (HK.out _) ?_
 rintro e w1 ⟨rfl,hb⟩
 obtain ⟨hb1,h1,h2,hs⟩:=two_of hb
 have HB:=Lib.hid hb1
 clear hb hb1
 go_wp2_with fail
 refine Calls.mono (HR.out _ (H.out.keep HB.out)) ?_
 rintro e w2 ⟨q0,n0,k0,rfl,hb⟩
 have h1':=(hb.block _ (by omega)).trans h1
 have h2':=(hb.block _ (by omega)).trans h2
 have hs2:w.heap.size + 2≤w2.heap.size:=Nat.le_trans hs hb.size
 have HB2:=Lib.hid (bl HB.out hb HB.out.size)
 clear hb h1 h2 hs
 have c0:∀ o',(w2.alloc o').cell? ⟨w.heap.size,0,none⟩ = _:=fun _=>calloc (cells_four h1').1
 have c1:∀ o',(w2.alloc o').cell? ⟨w.heap.size,1,none⟩ = _:=fun _=>calloc (cells_four h1').2.1
 have c2:∀ o',(w2.alloc o').cell? ⟨w.heap.size,2,none⟩ = _:=fun _=>calloc (cells_four h1').2.2.1
 have c3:∀ o',(w2.alloc o').cell? ⟨w.heap.size,3,none⟩ = _:=fun _=>calloc (cells_four h1').2.2.2
 go_wp2_with fail
 refine Calls.mono (HN.out _) ?_
 rintro e w3 ⟨rfl,hb⟩
 obtain ⟨hb3,h3,hs3⟩:=one_of hb
 have h1:=(hb3.block _ (by omega)).trans h1'
 have h2:=(hb3.block _ (by omega)).trans h2'
 have HB3:=Lib.hid (bl HB2.out hb3 HB2.out.size)
 have HX:Hid (w.heap.size + 2≤w2.heap.size):=hs2
 clear hb hb3 h1' h2' c0 c1 c2 c3
 go_wp2_with fail
 refine Calls.mono (SGet_any _ _ _ _ _ (Sl.part (k:=E) (m:=4) (H.out.keep HB3.out) HE.out)) ?_
 rintro e w4 ⟨rfl,hb⟩
 rw [if_pos rfl,HG.out]
 have h1':=(hb.block _ (by omega)).trans h1
 have h2':=(hb.block _ (by omega)).trans h2
 have h3':=(hb.block _ (by omega)).trans h3
 have hs4:w2.heap.size + 1≤w4.heap.size:=Nat.le_trans hs3 hb.size
 have HB4:=Lib.hid (bl HB3.out hb HB3.out.size)
 clear hb h1 h2 h3 hs3
 go_wp2_with fail
 refine Calls.mono (SOf_any _ _ _ [xs.take E] _ (sl2_one (hnew rfl) ((Sl.front' (H.out.keep HB4.out) HE'.out).keep (al (Below.refl _ _) (Nat.le_refl _)))) (HT.out.keep (al HB4.out HB4.out.size))) ?_
 rintro e w5 ⟨rfl,hb⟩
 obtain ⟨hb5,-,hs5'⟩:=one_of hb
 have h1:=(hb5.block _ (by omega)).trans h1'
 have h2:=(hb5.block _ (by omega)).trans h2'
 have h3:=(hb5.block _ (by omega)).trans h3'
 have hs5:w2.heap.size + 1≤w5.heap.size:=by omega
 have HB5:=Lib.hid (bl HB4.out hb5 HB4.out.size)
 clear hb hb5 h1' h2' h3' hs5' hs4
 rw [HC.out]
 obtain ⟨c0,c1,c2,c3⟩:=cells_four h1
 obtain ⟨d0,d1,d2⟩:=cells_three h3
 go_wp2_with fail
 refine wp_region_slip (fun ix=>([.val (.pointer (some ⟨w2.heap.size,0,none⟩)),.val (B8 m),.val (.pointer (some ⟨w.heap.size,2,none⟩)),.val (.int .i64 (k:Nat)),.val (.slice (some ⟨b,o,none⟩) n c),.val (.int .i64 (A:Nat)),.val (.slice (some ⟨b,o + 10,none⟩) V (c - 10)),(ShRdT 5 w5.heap.size m S X),(ShRdT 5 w5.heap.size m S X),(ShRdV 5 w5.heap.size m S X),(.val (.int .i64 0)),(ShNew 83 w5.heap.size #[.int .u8 0,.slice none 0 0,.int .u64 0]),.any,.any][ix]?).getD (.any)) 101 12 10 78 88 (.int .i64 0) rfl (by kernel_rfl) (by decide) (by decide) (by decide) _ rfl rfl rfl (by decide) rfl (fun a x w h=>run_extract_two _ rfl h) (by decide) ?_ ?_
 ·refine ⟨?_,?_,?_,?_,?_,?_,?_,?_,?_,?_,?_,?_,trivial⟩
  ·intro a W hb0 hs hp hi;have hb:=undrew hb0;clear hb0
   have t7:sl a 7 = .pointer (some ⟨w2.heap.size,0,none⟩):=hi 7 (by decide)
   refine ite_y rfl (wp_val (.pointer (some ⟨w2.heap.size,0,none⟩)) ?_ ?_)
   ·simp only [execOp,eval_tmp,eval_const,t7];simp [go_sem]
   ·exact ⟨_,rfl,Below.refl _ _,rfl⟩
  ·intro a W hb0 hs hp hi;have hb:=undrew hb0;clear hb0
   have tt:sl a 79 = .pointer (some ⟨w2.heap.size,0,none⟩):=hp 0 (by decide)
   have dd:=(hb.cell (p:=⟨w2.heap.size,0,none⟩) (lt_of_cell d0)).trans d0
   refine ite_y rfl (wp_val (B8 m) ?_ ?_)
   ·simp only [execOp,eval_tmp,tt];simp [go_sem,dd]
   ·exact ⟨_,rfl,Below.refl _ _,rfl⟩
  ·intro a W hb0 hs hp hi;have hb:=undrew hb0;clear hb0
   have t2:sl a 2 = .pointer (some ⟨w.heap.size,0,none⟩):=hi 2 (by decide)
   refine ite_y rfl (wp_val (.pointer (some ⟨w.heap.size,2,none⟩)) ?_ ?_)
   ·simp only [execOp,eval_tmp,eval_const,t2];simp [go_sem]
   ·exact ⟨_,rfl,Below.refl _ _,rfl⟩
  ·intro a W hb0 hs hp hi;have hb:=undrew hb0;clear hb0
   have tt:sl a 81 = .pointer (some ⟨w.heap.size,2,none⟩):=hp 2 (by decide)
   have dd:=(hb.cell (p:=⟨w.heap.size,2,none⟩) (lt_of_cell c2)).trans c2
   refine ite_y rfl (wp_val (.int .i64 (k:Nat)) ?_ ?_)
   ·simp only [execOp,eval_tmp,tt];simp [go_sem,dd]
   ·exact ⟨_,rfl,Below.refl _ _,rfl⟩
  ·intro a W hb0 hs hp hi;have hb:=undrew hb0;clear hb0
   have t1:sl a 1 = .slice (some ⟨b,o,none⟩) n c:=hi 1 (by decide)
   exact ite_y rfl (wp_val (sl a 1) rfl ⟨_,rfl,Below.refl _ _,t1⟩)
  ·intro a W hb0 hs hp hi;have hb:=undrew hb0;clear hb0
   have t13:sl a 13 = .int .i64 (A:Nat):=hi 13 (by decide)
   exact ite_y rfl (wp_val (sl a 13) rfl ⟨_,rfl,Below.refl _ _,t13⟩)
  ·intro a W hb0 hs hp hi;have hb:=undrew hb0;clear hb0
   have t83:sl a 83 = .slice (some ⟨b,o,none⟩) n c:=hp 4 (by decide)
   have t84:sl a 84 = .int .i64 (A:Nat):=hp 5 (by decide)
   have v84:a.tmps[84]?.getD undef = sl a 84:=by simp [sl]
   rw [t84] at v84
   refine ite_y rfl (wp_val (.slice (some ⟨b,o + 10,none⟩) V (c - 10)) ?_ ?_)
   ·simp only [execOp,eval_tmp,eval_const,t83,t84];simp [go_sem,v84,ea1,ea2,ea3,ea4,ea5]
   ·exact ⟨_,rfl,Below.refl _ _,rfl⟩
  ·intro a W hb0 hs hp hi;have hb:=undrew hb0;clear hb0
   have t80:sl a 80 = B8 m:=hp 1 (by decide)
   have t82:sl a 82 = .int .i64 (k:Nat):=hp 3 (by decide)
   have t85:sl a 85 = .slice (some ⟨b,o + 10,none⟩) V (c - 10):=hp 6 (by decide)
   refine ite_y rfl (wp_enter 175 #[B8 m,.int .i64 (k:Nat),.slice (some ⟨b,o + 10,none⟩) V (c - 10)] ?_ (HRD.out _ ((Sl.part (k:=10) (m:=V) (H.out.keep HB5.out) HV.out).keep hb)) ?_)
   ·simp only [execOp,resolve,List.map_toArray,List.map,eval_tmp,eval_func,eval_const,t80,t82,t85];simp [go_sem]
   ·rintro e W' ⟨q5,n5,g5,rfl,o5,hw⟩;exact ⟨_,rfl,_,rfl,hw,q5,n5,g5,rfl,o5.mono hb.size⟩
  ·intro a W hb0 hs hp hi;have hb:=undrew hb0;clear hb0
   exact ite_y rfl (wp_val (sl a 86) rfl ⟨_,rfl,Below.refl _ _,hp 7 (by decide)⟩)
  ·intro a W hb0 hs hp hi;have hb:=undrew hb0;clear hb0
   have tt:RdT 5 w5.heap.size m S X (sl a 78) W:=hp 8 (by decide)
   obtain ⟨q5,n5,g5,tt,z5⟩:=tt
   refine ite_y rfl (wp_val (SVal m q5 n5 g5 S) ?_ ?_)
   ·simp only [execOp,eval_tmp,tt];rfl
   ·exact ⟨_,rfl,Below.refl _ _,q5,n5,g5,rfl,z5⟩
  ·intro a W hb0 hs hp hi;have hb:=undrew hb0;clear hb0
   have tt:RdT 5 w5.heap.size m S X (sl a 78) W:=hp 8 (by decide)
   obtain ⟨q5,n5,g5,tt,z5⟩:=tt
   refine ite_y rfl (wp_val (.int .i64 0) ?_ ?_)
   ·simp only [execOp,eval_tmp,tt];rfl
   ·exact ⟨_,rfl,Below.refl _ _,rfl⟩
  ·intro a W hb0 hs hp hi;have hb:=undrew hb0;clear hb0
   refine ite_y rfl (wp_val' (w':=W.alloc (.cells #[.int .u8 0,.slice none 0 0,.int .u64 0] 83)) (.pointer (some ⟨W.heap.size,0,none⟩)) ?_ ?_)
   ·simp only [execOp];simp [go_sem]
   ·exact ⟨_,rfl,al (Below.refl _ _) (Nat.le_refl _),_,rfl,hb.size,hnew rfl⟩
 intro a w9 o ho hb hs hd hI ht
 simp at ho;subst ho
 have y14:=hI 11 (by decide) (by decide)
 obtain ⟨g14,t14,hg14,hh14⟩:=y14
 have y87:=hI 9 (by decide) (by decide)
 obtain ⟨q8,n8,k8,t87,z87⟩:=y87
 have y78:=hI 8 (by decide) (by decide)
 obtain ⟨_,_,_,t78,_⟩:=y78
 refine ⟨⟨_,t78⟩,?_⟩
 refine wp_store_row 83 (.tmp 14) (.tmp 87) rfl g14 #[B8 m,.slice q8 n8 k8,.int .u64 (S:Nat)] (by rw [eval_tmp];exact t14) (by rw [eval_tmp];exact t87) _ _ hh14 info_source rfl (by simp [Value.oneCell']) ?_
 refine ⟨rfl,fun ab hbs hbd hbt hbu=>?_⟩
 have ha:=act_is [79,80,81,82,83,84,85,86,78,87,88,14,9] hbs hbd (fun t h=>(hbt t (fun e=>by subst e;revert h;decide)).trans (ht t h)) (by decide)
 have s14:=(hbt 14 (by decide)).trans t14
 simp only [List.foldl,hbu,s14] at ha
 generalize sl ab 79 = u79 at ha
 generalize sl ab 80 = u80 at ha
 generalize sl ab 81 = u81 at ha
 generalize sl ab 82 = u82 at ha
 generalize sl ab 83 = u83 at ha
 generalize sl ab 84 = u84 at ha
 generalize sl ab 85 = u85 at ha
 generalize sl ab 86 = u86 at ha
 generalize sl ab 78 = u78 at ha
 generalize sl ab 87 = u87 at ha
 generalize sl ab 9 = u9 at ha
 simp only [Act.put,List.setIfInBounds_toArray,List.set_cons_zero,List.set_cons_succ] at ha
 rw [ha];clear ha hbu hbt hbs hbd hI ht hs hd s14
 simp only [List.drop_succ_cons,List.drop_zero]
 have hl2:=lt_of_block h2
 have hl5:=hb.size
 have Z:=Lib.hid (z87.row (cs:=#[B8 m,.slice q8 n8 k8,.int .u64 (S:Nat)]) hh14 src_ne)
 have HB6:=Lib.hid (below_row (cs:=#[B8 m,.slice q8 n8 k8,.int .u64 (S:Nat)]) (g:=g14) (bl HB5.out hb HB5.out.size) (Nat.le_trans HB5.out.size hg14))
 have k1:=hro (cs:=#[B8 m,.slice q8 n8 k8,.int .u64 (S:Nat)]) (g:=g14) ((hb.block _ (by omega)).trans h1) (by omega)
 have k2:=hro (cs:=#[B8 m,.slice q8 n8 k8,.int .u64 (S:Nat)]) (g:=g14) ((hb.block _ (by omega)).trans h2) (by omega)
 have k3:=hro (cs:=#[B8 m,.slice q8 n8 k8,.int .u64 (S:Nat)]) (g:=g14) ((hb.block _ (by omega)).trans h3) (by omega)
 have k4:=hrs (cs:=#[B8 m,.slice q8 n8 k8,.int .u64 (S:Nat)]) hh14
 have hs6:w5.heap.size≤(w9.setRow g14 #[B8 m,.slice q8 n8 k8,.int .u64 (S:Nat)]).heap.size:=by simp [World.setRow];exact hl5
 have HSZ:Hid (w.heap.size≤w5.heap.size):=HB5.out.size
 clear hb h1 h2 h3 z87 hh14 t14 t87 t78 c0 c1 c2 c3 d0 d1 d2 hl2 hl5
 generalize w9.setRow g14 #[B8 m,.slice q8 n8 k8,.int .u64 (S:Nat)] = w6 at *
 obtain ⟨d0,d1,d2⟩:=cells_three k3
 obtain ⟨f0,f1,f2⟩:=cells_three k4
 have ec1:(A:Int)≤(E:Int):=by have:=HEt.out;omega
 have ec2:E - A = t:=by have:=HEt.out;omega
 have ec3:¬ (c = A):=by have:=HEt.out;omega
 have ec4:(E:Int)≤(c:Int):=by omega
 have HAt:Hid (A + t≤n):=by have:=HEt.out;have:=HE.out;show A + t≤n;omega
 rw [← HAV.out] at HY
 go_wp2_with fail
 refine wp_region_tail (fun ix=>([.val (.agg #[B8 m,.int .u32 (D:Nat),.int .u32 (M:Nat)]),.val (.agg #[B8 m,.slice q8 n8 k8,.int .u64 (S:Nat)]),.val (.slice (some ⟨b,o,none⟩) n c),.val (.int .i64 (A:Nat)),.val (.int .i64 (E:Nat)),.val (.slice (some ⟨b,o + A,none⟩) t (c - A)),(ShFr 5 w6.heap.size Y),(ShPk 5 w6.heap.size m D M q8 n8 k8 S Y),.any,.any][ix]?).getD (.any)) 101 8 rfl (by kernel_rfl) (by decide) (by decide) (by decide) (by decide) ?_ ?_
 ·refine ⟨?_,?_,?_,?_,?_,?_,?_,?_,trivial⟩
  ·intro a W hb0 hs hp hi;have hb:=undrew hb0;clear hb0
   have tt:sl a 7 = .pointer (some ⟨w2.heap.size,0,none⟩):=hi 7 (by decide)
   have dd0:=(hb.cell (p:=⟨w2.heap.size,0,none⟩) (lt_of_cell d0)).trans d0
   have dd1:=(hb.cell (p:=⟨w2.heap.size,1,none⟩) (lt_of_cell d1)).trans d1
   have dd2:=(hb.cell (p:=⟨w2.heap.size,2,none⟩) (lt_of_cell d2)).trans d2
   refine ite_y rfl (wp_val (.agg #[B8 m,.int .u32 (D:Nat),.int .u32 (M:Nat)]) ?_ ?_)
   ·simp only [execOp,eval_tmp,tt];simp [go_sem,dd0,dd1,dd2]
   ·exact ⟨_,rfl,Below.refl _ _,rfl⟩
  ·intro a W hb0 hs hp hi;have hb:=undrew hb0;clear hb0
   have tt:sl a 14 = .pointer (some ⟨g14,0,none⟩):=hi 14 (by decide)
   have dd0:=(hb.cell (p:=⟨g14,0,none⟩) (lt_of_cell f0)).trans f0
   have dd1:=(hb.cell (p:=⟨g14,1,none⟩) (lt_of_cell f1)).trans f1
   have dd2:=(hb.cell (p:=⟨g14,2,none⟩) (lt_of_cell f2)).trans f2
   refine ite_y rfl (wp_val (.agg #[B8 m,.slice q8 n8 k8,.int .u64 (S:Nat)]) ?_ ?_)
   ·simp only [execOp,eval_tmp,tt];simp [go_sem,dd0,dd1,dd2]
   ·exact ⟨_,rfl,Below.refl _ _,rfl⟩
  ·intro a W hb0 hs hp hi;have hb:=undrew hb0;clear hb0
   have t1:sl a 1 = .slice (some ⟨b,o,none⟩) n c:=hi 1 (by decide)
   exact ite_y rfl (wp_val (sl a 1) rfl ⟨_,rfl,Below.refl _ _,t1⟩)
  ·intro a W hb0 hs hp hi;have hb:=undrew hb0;clear hb0
   have t13:sl a 13 = .int .i64 (A:Nat):=hi 13 (by decide)
   exact ite_y rfl (wp_val (sl a 13) rfl ⟨_,rfl,Below.refl _ _,t13⟩)
  ·intro a W hb0 hs hp hi;have hb:=undrew hb0;clear hb0
   have t11:sl a 11 = .int .i64 (E:Nat):=hi 11 (by decide)
   exact ite_y rfl (wp_val (sl a 11) rfl ⟨_,rfl,Below.refl _ _,t11⟩)
  ·intro a W hb0 hs hp hi;have hb:=undrew hb0;clear hb0
   have t95:sl a 95 = .slice (some ⟨b,o,none⟩) n c:=hp 2 (by decide)
   have t96:sl a 96 = .int .i64 (A:Nat):=hp 3 (by decide)
   have t97:sl a 97 = .int .i64 (E:Nat):=hp 4 (by decide)
   have v96:a.tmps[96]?.getD undef = sl a 96:=by simp [sl]
   rw [t96] at v96
   have v97:a.tmps[97]?.getD undef = sl a 97:=by simp [sl]
   rw [t97] at v97
   refine ite_y rfl (wp_val (.slice (some ⟨b,o + A,none⟩) t (c - A)) ?_ ?_)
   ·simp only [execOp,eval_tmp,eval_const,t95,t96,t97];simp [go_sem,v96,v97,eb1,eb2,ec1,ec2,ec3,ec4]
   ·exact ⟨_,rfl,Below.refl _ _,rfl⟩
  ·intro a W hb0 hs hp hi;have hb:=undrew hb0;clear hb0
   have t98:sl a 98 = .slice (some ⟨b,o + A,none⟩) t (c - A):=hp 5 (by decide)
   refine ite_y rfl (wp_enter 176 #[.slice (some ⟨b,o + A,none⟩) t (c - A)] ?_ (BClone_any _ _ _ _ _ ((Sl.part (k:=A) (m:=t) (H.out.keep HB6.out) HAt.out).keep hb) HRt.out) ?_)
   ·simp only [execOp,resolve,List.map_toArray,List.map,eval_tmp,eval_func,eval_const,t98];simp [go_sem]
   ·rintro e W' ⟨q5,g5,rfl,o5,hw⟩;exact ⟨_,rfl,_,rfl,hw,q5,_,g5,rfl,by rw [← HY.out];exact (Fresh.of_owns o5).mono hb.size⟩
  ·intro a W hb0 hs hp hi;have hb:=undrew hb0;clear hb0
   have t93:sl a 93 = .agg #[B8 m,.int .u32 (D:Nat),.int .u32 (M:Nat)]:=hp 0 (by decide)
   have t94:sl a 94 = .agg #[B8 m,.slice q8 n8 k8,.int .u64 (S:Nat)]:=hp 1 (by decide)
   have t99:=hp 6 (by decide)
   obtain ⟨q5,n5,g5,t99,z99⟩:=t99
   have v93:a.tmps[93]?.getD undef = sl a 93:=by simp [sl]
   rw [t93] at v93
   have v94:a.tmps[94]?.getD undef = sl a 94:=by simp [sl]
   rw [t94] at v94
   have v99:a.tmps[99]?.getD undef = sl a 99:=by simp [sl]
   rw [t99] at v99
   refine ite_y rfl (wp_val (PkVal m D M m q8 n8 k8 S q5 n5 g5) ?_ ?_)
   ·simp only [execOp,eval_tmp,t93,t94,t99];simp [go_sem,v93,v94,v99,Tryz.underlying120,Tryz.underlying83,Tryz.underlying122]
   ·exact ⟨_,rfl,Below.refl _ _,q5,n5,g5,rfl,z99⟩
 intro a w10 hb hs hd hI ht
 have ha:=act_is [93,94,95,96,97,98,99,100,5] hs hd ht (by decide)
 have y100:=hI 7 (by decide)
 obtain ⟨q9,n9,c9,t100,z100⟩:=y100
 simp only [List.foldl,t100] at ha
 generalize sl a 93 = u93 at ha
 generalize sl a 94 = u94 at ha
 generalize sl a 95 = u95 at ha
 generalize sl a 96 = u96 at ha
 generalize sl a 97 = u97 at ha
 generalize sl a 98 = u98 at ha
 generalize sl a 99 = u99 at ha
 generalize sl a 5 = u5 at ha
 simp only [Act.put,List.setIfInBounds_toArray,List.set_cons_zero,List.set_cons_succ] at ha
 rw [ha];clear ha hI ht hs hd
 simp only [List.drop_succ_cons,List.drop_zero]
 have k2':=(hb.block _ (by have:=lt_of_block k2;omega)).trans k2
 have Z2:=Lib.hid (Z.out.keep hb)
 have HB7:=Lib.hid (bl HB6.out hb HB6.out.size)
 have ZZ:=Lib.hid z100
 clear hb k1 k2 k3 k4 d0 d1 d2 f0 f1 f2 z100
 go_wp2_with (refine wpList_store_row (o:=⟨none,.store 122 (.tmp 4) (.tmp 100),_,_,_,_⟩) rfl 122 (.tmp 4) (.tmp 100) rfl (w.heap.size + 1) #[B8 m,.int .u32 (D:Nat),.int .u32 (M:Nat),B8 m,.slice q8 n8 k8,.int .u64 (S:Nat),.slice q9 n9 c9] rfl rfl _ _ k2' info_packet rfl (by simp [Value.oneCell']) ?_)
 refine bodyPost_ret (res_ct rfl _ _ _ 122 #[B8 m,.int .u32 (D:Nat),.int .u32 (M:Nat),B8 m,.slice q8 n8 k8,.int .u64 (S:Nat),.slice q9 n9 c9] (0,0) _ (.int .i64 0) rfl (hrs k2') rfl Tryz.underlying122 rfl info_packet) rfl ?_
 exact ⟨q8,n8,k8,q9,n9,c9,rfl,(Z2.out.mono HSZ.out).row k2' pkt_ne,(ZZ.out.mono (Nat.le_trans HSZ.out hs6)).row k2' pkt_ne,below_row HB7.out (by omega)⟩
end Go.Proofs.YtccaiiigdfieoaaGreatDoor
namespace Go.By
open Go.RowKit
theorem three_of {w w1:World} {A B C:Obj} (hb:Below (((w.alloc A).alloc B).alloc C).heap.size (((w.alloc A).alloc B).alloc C) w1):Below w.heap.size w w1∧w1.heap[w.heap.size]? = some A∧w1.heap[w.heap.size + 1]? = some B∧w1.heap[w.heap.size + 2]? = some C∧w.heap.size + 3≤w1.heap.size :=
 ⟨(al (al (al (Below.refl _ _) (Nat.le_refl _)) (by simp)) (by simp;omega)).trans (hb.mono (by simp;omega)),(hb.block _ (by simp;omega)).trans (hal (hal (hnew rfl))),(hb.block _ (by simp)).trans (hal (hnew (by simp))),(hb.block _ (by simp)).trans (hnew (by simp)),by have:=hb.size;simp at this;omega⟩
end Go.By
namespace Go.Proofs.YtccaiiigdfieoaaGreatDoor
open Go.RowKit Go.By
def readC (k t D:Nat) (xs:List UInt8):Int:=if headC xs≠0 then headC xs else if xs.length≠lenP (xs.getD 1 0) k t then 4 else if get4 ((xs.drop (xs.length - 4)).take 4)≠crcS (xs.take (xs.length - 4)) then 10 else if get4 ((xs.drop 2).take 4)≠D then 9 else 0
def pktM (xs:List UInt8):UInt8:=xs.getD 1 0
def pktN (xs:List UInt8):Nat:=get4 ((xs.drop 6).take 4)
def pktX (k:Nat) (xs:List UInt8):List UInt8:=rdX (xs.getD 1 0) ((xs.drop 10).take (widS (xs.getD 1 0) k))
def pktS (k:Nat) (xs:List UInt8):Nat:=rdS (xs.getD 1 0) ((xs.drop 10).take (widS (xs.getD 1 0) k))
def pktY (k t:Nat) (xs:List UInt8):List UInt8:=(xs.drop (10 + widS (xs.getD 1 0) k)).take t
theorem PRead_any (L t k D:Nat) (p:Option Addr) (n c:Nat) (xs:List UInt8) (w:World) (hP:POK L t k D) (hT:HalfT w) (h:Sl B8 w p n c xs) (hr:Room n) :
  Calls Tryz.prog 111 #[PVal L t k D,.slice p n c] w (if readC k t D xs = 0 then PRet w (pktM xs) D (pktN xs) (pktX k xs) (pktS k xs) (pktY k t xs) else PZero w (readC k t D xs)):=by
 have hl:=h.len
 by_cases hc:headC xs = 0
 ·by_cases hn:n = lenP (xs.getD 1 0) k t
  ·have hn4:14≤n:=by rw [hn];unfold lenP;omega
   obtain ⟨b,o,rfl,_⟩:=h.has (by omega)
   by_cases hs:get4 ((xs.drop (n - 4)).take 4) = crcS (xs.take (n - 4))
   ·by_cases ho:get4 ((xs.drop 2).take 4) = D
    ·have e:readC k t D xs = 0:=by unfold readC;rw [hl,if_neg (Classical.not_not.2 hc),if_neg (Classical.not_not.2 hn),if_neg (Classical.not_not.2 hs),if_neg (Classical.not_not.2 ho)]
     rw [e,if_pos rfl]
     exact PRead_ok L t k D b o n c xs w hP hT h hr hc (n - 4) hn (by omega) hs ho
    ·have e:readC k t D xs = 9:=by unfold readC;rw [hl,if_neg (Classical.not_not.2 hc),if_neg (Classical.not_not.2 hn),if_neg (Classical.not_not.2 hs),if_pos ho]
     rw [e,if_neg (by decide)]
     exact PRead_obj L t k D b o n c xs w hP hT h hr hc (n - 4) hn (by omega) hs ho
   ·have e:readC k t D xs = 10:=by unfold readC;rw [hl,if_neg (Classical.not_not.2 hc),if_neg (Classical.not_not.2 hn),if_pos hs]
    rw [e,if_neg (by decide)]
    exact PRead_sum L t k D b o n c xs w hP hT h hr hc (n - 4) hn (by omega) hs
  ·have e:readC k t D xs = 4:=by unfold readC;rw [hl,if_neg (Classical.not_not.2 hc),if_pos hn]
   rw [e,if_neg (by decide)]
   exact PRead_len L t k D p n c xs w hP h hr hc hn
 ·have e:readC k t D xs = headC xs:=by unfold readC;rw [if_pos hc]
  rw [e,if_neg hc]
  exact PRead_head L t k D p n c xs w hP h hr hc
theorem headC_cases (xs:List UInt8):headC xs = 0∨headC xs = 6∨headC xs = 7∨headC xs = 8:=by
 unfold headC
 split
 ·simp
 ·split
  ·simp
  ·rcases modeC_range (xs.getD 1 0) with h | h <;> rw [h] <;> simp
theorem readC_cases (k t D:Nat) (xs:List UInt8):readC k t D xs = 0∨readC k t D xs = 6∨readC k t D xs = 7∨readC k t D xs = 8∨readC k t D xs = 4∨readC k t D xs = 10∨readC k t D xs = 9:=by
 unfold readC
 split
 ·rename_i h
  rcases headC_cases xs with g | g | g | g
  ·exact absurd g h
  all_goals rw [g];simp
 ·split
  ·simp
  ·split
   ·simp
   ·split <;> simp
theorem read_fits {k t D:Nat} {xs:List UInt8} (h:readC k t D xs = 0):modeC (pktM xs) = 0∧(pktM xs = 0→(pktX k xs).length = k)∧(pktY k t xs).length = t:=by
 unfold readC at h
 split at h
 ·rename_i hc;exact absurd h hc
 ·rename_i hc
  have hc0:headC xs = 0:=by simpa using hc
  split at h
  ·cases h
  ·rename_i hn
   have hn':xs.length = 10 + widS (xs.getD 1 0) k + t + 4:=by simpa [lenP] using hn
   refine ⟨headC_mode hc0,fun h0=>?_,?_⟩
   ·unfold pktM at h0
    unfold pktX rdX
    rw [if_pos h0]
    have:widS (xs.getD 1 0) k = k:=by unfold widS;rw [if_pos h0]
    rw [this] at hn' ⊢
    simp;omega
   ·unfold pktY
    generalize widS (xs.getD 1 0) k = V at *
    rw [List.length_take,List.length_drop];omega
theorem info_eqrow:(Tryz.prog.info? 99).map (·.size) = some 2:=by kernel_rfl
theorem eqrow_ne:99≠5:=by decide
def EqRet (w:World) (v d:List UInt8) (e:Ending) (w':World):Prop :=
 ∃ q n c q2 n2 c2,e = .returned (.tuple #[.agg #[.slice q n c,.slice q2 n2 c2],.int .i64 0])∧Fresh 5 w.heap.size w' q n c v∧Fresh 5 w.heap.size w' q2 n2 c2 d∧Below w.heap.size w w'
set_option maxRecDepth 100000 in
set_option maxHeartbeats 2000000 in
theorem PEquation_ok (L t k D n:Nat) (m:UInt8) (p:Option Addr) (j c s:Nat) (q:Option Addr) (d:Nat) (xs ys:List UInt8) (w:World) (hP:POK L t k D) (hm:modeC m = 0) (hj:m = 0→j = k) (hr:Room j) (h1:Sl B8 w p j c xs) (h2:Sl B8 w q t d ys) :
  Calls Tryz.prog 63 #[PkVal m D n m p j c s q t d,PVal L t k D] w (EqRet w (vecS m xs s k) ys):=by
 have HF:Hid (∀ w,Calls Tryz.prog 112 #[PkVal m D n m p j c s q t d,PVal L t k D] w fun e w'=>e = .returned (.int .i64 0)∧Below w.heap.size w w'):=fun w=>PFits_ok L t k D n m p j c s q d w hP hm hj
 have hsc:srcC m j k = 0:=by
  unfold srcC
  by_cases h0:m = 0
  ·rw [if_pos h0,if_pos (hj h0)]
  ·rw [if_neg h0,hm]
 have HS:Hid (∀ w,Sl B8 w p j c xs→Calls Tryz.prog 97 #[SVal m p j c s,.int .i64 (k:Nat)] w (SRet w (vecS m xs s k) 0)):=fun w h=>by have:=SVector_any m p j c s k xs hP.k1 hP.k2 w h hr;rw [hsc,if_pos rfl] at this;exact this
 have HV:Hid (Room (vecS m xs s k).length):=by
  show _≤_
  have:=hP.k2
  unfold vecS
  split
  ·rw [h1.len];exact hr
  ·rw [mixRow_len];omega
 have HRt:Hid (Room t):=by have:=hP.t2;show t≤140737488355328;omega
 have H1:=Lib.hid h1
 have H2:=Lib.hid h2
 obtain ⟨V,hV⟩:∃ V,vecS m xs s k = V:=⟨_,rfl⟩
 rw [hV] at HS HV ⊢
 clear hP hm hj hr h1 h2 hsc hV
 go_enter Tryz.func63,Tryz.ntmps63
 go_wp2_with fail
 refine Calls.mono (HF.out _) ?_
 rintro e w1 ⟨rfl,hb⟩
 obtain ⟨hb1,h1,h2,h3,hs⟩:=three_of hb
 have HB:=Lib.hid hb1
 obtain ⟨c0,c1,c2,c3,c4,c5,c6⟩:=cells_seven h1
 obtain ⟨d0,d1,d2,d3⟩:=cells_four h2
 clear hb hb1
 go_wp2_with fail
 refine Calls.mono (HS.out _ (H1.out.keep HB.out)) ?_
 rintro e w2 ⟨q1,n1,k1,rfl,hq,hb⟩
 have h1':=(hb.block _ (by omega)).trans h1
 have h3':=(hb.block _ (by omega)).trans h3
 have hs2:=hb.size
 have HB2:=Lib.hid (bl HB.out hb HB.out.size)
 have HQ:=Lib.hid hq
 have HV':Hid (Room n1):=by rw [← HQ.out.len];exact HV.out
 clear hb hq h1 h2 h3 c0 c1 c2 c3 c4 c5 c6 d0 d1 d2 d3
 obtain ⟨c0,c1,c2,c3,c4,c5,c6⟩:=cells_seven h1'
 go_wp2_with fail
 refine Calls.mono (Of_any _ _ _ _ _ _ _ _ _ HQ.out (H2.out.keep HB2.out) HV'.out HRt.out) ?_
 rintro e w3 ⟨q5,m5,g5,q6,m6,g6,e5,e6,rfl,o5,o6,hb⟩
 have h3:=(hb.block _ (by omega)).trans h3'
 have HB3:=Lib.hid (bl HB2.out hb HB2.out.size)
 have F5:=Lib.hid ((Fresh.of_owns o5).mono HB2.out.size)
 have F6:=Lib.hid ((Fresh.of_owns o6).mono HB2.out.size)
 clear hb e5 e6 o5 o6 h1' h3' c0 c1 c2 c3 c4 c5 c6
 go_wp2_with (refine wpList_store_row (o:=⟨none,.store 99 (.tmp 4) (.tmp 31),_,_,_,_⟩) rfl 99 (.tmp 4) (.tmp 31) rfl (w.heap.size + 2) #[.slice q5 m5 g5,.slice q6 m6 g6] rfl rfl _ _ h3 info_eqrow rfl (by simp [Value.oneCell']) ?_)
 refine bodyPost_ret (res_ct rfl _ _ _ 99 #[.slice q5 m5 g5,.slice q6 m6 g6] (0,0) _ (.int .i64 0) rfl (hrs h3) rfl Tryz.underlying99 rfl info_eqrow) rfl ?_
 exact ⟨q5,m5,g5,q6,m6,g6,rfl,F5.out.row h3 eqrow_ne,F6.out.row h3 eqrow_ne,below_row HB3.out (by omega)⟩
end Go.Proofs.YtccaiiigdfieoaaGreatDoor
namespace Go.Proofs.YtccaiiigdfieoaaGreatDoor
open Go.RowKit Go.By Go.Maps
abbrev GVal (L t k D:Nat) (M:Value):Value:=.agg #[.int .i64 (L:Nat),.int .i64 (t:Nat),.int .i64 (k:Nat),.int .u32 (D:Nat),M]
theorem info_gate:(Tryz.prog.info? 111).map (·.size) = some 5:=by kernel_rfl
set_option maxRecDepth 100000 in
set_option maxHeartbeats 1000000 in
theorem GNew_ok (L t k D:Nat) (w:World) (hP:POK L t k D) :
  Calls Tryz.prog 60 #[PVal L t k D] w fun e w'=>e = .returned (.tuple #[GVal L t k D (.map none),.int .i64 0])∧Below w.heap.size w w':=by
 have HK:Hid (∀ w,Calls Tryz.prog 79 #[PVal L t k D] w fun e w'=>e = .returned (.int .i64 0)∧Below w.heap.size w w'):=PCheck_ok hP
 clear hP
 go_enter Tryz.func60,Tryz.ntmps60
 go_wp2_with fail
 refine Calls.mono (HK.out _) ?_
 rintro e w1 ⟨rfl,hb⟩
 obtain ⟨hb1,h1,h2,hs⟩:=two_of hb
 have HB:=Lib.hid hb1
 obtain ⟨c0,c1,c2,c3⟩:=cells_four h1
 clear hb hb1
 go_wp2_with (refine wpList_store_row (o:=⟨none,.store 111 (.tmp 2) (.tmp 12),_,_,_,_⟩) rfl 111 (.tmp 2) (.tmp 12) rfl (w.heap.size + 1) #[.int .i64 (L:Nat),.int .i64 (t:Nat),.int .i64 (k:Nat),.int .u32 (D:Nat),.map none] rfl rfl _ _ h2 info_gate rfl (by simp [Value.oneCell']) ?_)
 refine bodyPost_ret (res_ct rfl _ _ _ 111 #[.int .i64 (L:Nat),.int .i64 (t:Nat),.int .i64 (k:Nat),.int .u32 (D:Nat),.map none] (0,0) _ (.int .i64 0) rfl (hrs h2) rfl Tryz.underlying111 rfl info_gate) rfl ?_
 exact ⟨rfl,below_row HB.out (by omega)⟩
def getN (C:DataW Unit) (x:Int):Int:=match C.atKey (.int .i64 x) (.lit (.int .i64 0)) with
 | .lit (.int _ c)=>c
 | _=>0
structure CntM (w:World) (M:Value) (N:Nat) (C:DataW Unit):Prop where
 at_:(M = .map none∧C = .map [])∨∃ b,M = .map (some b)∧w.ownsMap Tryz.prog 35 (plainElem Tryz.prog 3) b N C
 small:∀ x,0≤getN C x∧getN C x≤N
theorem CntM.keep {w w':World} {M:Value} {N:Nat} {C:DataW Unit} (h:CntM w M N C) (hb:Below w.heap.size w w'):CntM w' M N C:=by
 refine ⟨?_,h.small⟩
 rcases h.at_ with h1 | ⟨b,e,ho⟩
 ·exact .inl h1
 ·refine .inr ⟨b,e,?_⟩
  have hlt:=ho.lt
  obtain ⟨es,clock,h1,F,hs,hD⟩:=ho
  exact ⟨es,clock,(hb.block _ hlt).trans h1,F,hs,hD⟩
theorem keyedG:Keyed Tryz.prog 35:=int_keyed Tryz.underlying35
theorem CntM.none (w:World) (N:Nat):CntM w (.map none) N (.map []):=⟨.inl ⟨rfl,rfl⟩,fun x=>by have:getN (.map []) x = 0:=rfl;rw [this];omega⟩
end Go.Proofs.YtccaiiigdfieoaaGreatDoor
