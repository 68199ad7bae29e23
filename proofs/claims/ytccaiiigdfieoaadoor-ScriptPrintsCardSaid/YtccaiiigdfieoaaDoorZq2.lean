/- DERIVED: THE SHELF's CONTRACTS AT THIS DUMP, IN PLAIN WORDS (tools/lay-plain.mjs out of 'TrydShelf.lean', which tools/lay-shelf.mjs wrote): THE SAME DECLARATIONS UNDER THE SAME NAMES: 'import', 'namespace', 'open', 'def', 'theorem' AND NOTHING ELSE: no command of the shelf's: FOR A HAND-IN. Each laying: the table of numbers ('.._ren') and one theorem, a field a fact of the dump's own or the kernel's comparison; each contract: ONE APPLICATION. Chapter 26: readBytes. The library: FormatUint of base 10; Itoa; Join. The library: ParseUint of base 10, of 31 and of 32 bits, of texts of digits alone. The library's SplitN at a blank; strconv.ParseUint; the plan's number. The library: ParseUint of base 10, of 64 bits, of texts of digits alone. Chapter 26: readNumber. The library's Split, Cut, CutSuffix at a sign. Commands in memory. Chapter 26: read. Chapter 26, the reference: words. Chapter 26, the reference: Read. Chapter 26: Parse. Chapter 26, the reference: Parse. Chapter 26, the law: are commands the same? strings.Builder: WriteString, WriteByte, String. -/
import Derived.Test.YtccaiiigdfieoaaDoorZq1
import Derived.Shelf.Strings.Builder1
import Derived.Shelf.Small.Strs
import Derived.Shelf.Strings.BuilderF
import Derived.Shelf.Strings.BuilderK
import Derived.Shelf.Utf8.RuneCount
import Derived.Shelf.Strconv.Itoa0
import Derived.Shelf.Strconv.Itoa1
import Derived.Shelf.LaysM
import Derived.Shelf.Strconv.Itoa2
import Derived.Shelf.Strconv.Itoa3
import Derived.Shelf.Strconv.Clone
import Derived.Shelf.Strconv.SyntaxError
import Derived.Shelf.LaysC
import Derived.Shelf.Strconv.ToError
import Derived.Shelf.Strconv.Lower
import Derived.Shelf.Strconv.ParseUint10
import Derived.Shelf.Strconv.ParseUint10Empty
import Derived.Shelf.Strconv.ParseUint10Any
import Derived.Shelf.Strconv.RangeError
import Derived.Shelf.Strconv.ToErrorRange
import Derived.Shelf.Strconv.ParseUintEmpty
import Derived.Shelf.Strconv.ParseUint10b64
import Derived.Shelf.Strconv.ParseUint10b32
import Derived.Shelf.Strconv.ParseUint10b16
import Derived.Shelf.Strconv.ParseUint10b8
import Derived.Shelf.Strconv.ParseUint10At
import Derived.Ground.MpProg
import Derived.Shelf.Pu.ParseUintPublic10
import Derived.Shelf.Pu.ErrVarParseUint
import Derived.Shelf.Strings.Search1
import Derived.Shelf.Strings.Search2
import Derived.Shelf.Strings.Search3
import Derived.Shelf.Strings.Cut
import Derived.Shelf.Strings.Count
import Derived.Shelf.Strings.Shaped
import Derived.Shelf.Strings.Split
import Derived.Shelf.Strings.SplitShaped
import Derived.Shelf.Unicode.Decode
import Derived.Shelf.Strings.RuneCount
import Derived.Shelf.Strings.Explode
import Derived.Shelf.Bits.Mul64
import Derived.Shelf.Unicode.DecodeSlow
import Derived.Shelf.Unicode.DecodeAny
import Derived.Shelf.Strings.BuilderCap
import Derived.Test.YtccaiiigdfieoaaDoorProg
import Derived.Lib.ItoaMem
import Derived.Lib.Join
import Derived.BigCall
import Derived.BigGuard
import Derived.Lib.AtoiAllMem
import Derived.Lib.ConvBytes
import Derived.Lib.Walk
import Derived.Laws.Strings3
import Derived.Laws.Closers25
import Derived.Laws.Closers25b
import Derived.Lib.Split
import Derived.Lib.SplitLaws
import Derived.Laws.RangeString
import Derived.Laws.RangeAny
import Derived.Lib.CountLaws
import Derived.Deep.DeepCutAuto
namespace Go.Proofs
open Go.Shelf
def Tryd.lays170_ren : Go.Shelf.Ren := ⟨fun | 170 => 23 | n => n, fun | 70 => 57 | 3 => 3 | 0 => 0 | 72 => 59 | 37 => 35 | 5 => 5 | n => n, fun | n => n⟩
theorem Tryd.lays170 : Go.Proofs.Lays.n170 Tryd.prog Tryd.lays170_ren := {
  mixed := by kernel_rfl
  f170 := Tryd.func23.trans (congrArg some (by kernel_rfl))
  t0 := Tryd.underlying0
  a0 := Tryd.isAgg0
  z0 := Tryd.sizeOf0
  v0 := Tryd.zeroValue0
  t3 := Tryd.underlying3
  a3 := Tryd.isAgg3
  z3 := Tryd.sizeOf3
  v3 := Tryd.zeroValue3
  t37 := Tryd.underlying35
  a37 := Tryd.isAgg35
  z37 := Tryd.sizeOf35
  v37 := Tryd.zeroValue35
  t70 := Tryd.underlying57
  a70 := Tryd.isAgg57
  z70 := Tryd.sizeOf57
  v70 := Tryd.zeroValue57
  t72 := Tryd.underlying59
  a72 := Tryd.isAgg59
  z72 := Tryd.sizeOf59
  v72 := Tryd.zeroValue59 }
open Go.RowKit in
/-- (*strings.Builder).Len: "Len returns the number of accumulated bytes; b.Len() == len(b.String()).": the world is as it was. (LAID: no walk: one application.) -/
theorem Tryd.Builder_Len (B b : Nat) (bs : List Value) (w : World) (h : Lib.IsBuilder 59 5 B b bs w) :
    Calls Tryd.prog 23 #[.pointer (some ⟨b, 0, none⟩)] w fun e w' => e = .returned (.int .i64 bs.length) ∧ w' = w := Any.Builder_Len Tryd.lays170 B b bs w h
def Tryd.lays169_ren : Go.Shelf.Ren := ⟨fun | 169 => 24 | n => n, fun | 70 => 57 | 9 => 9 | 0 => 0 | 72 => 59 | 37 => 35 | 127 => 85 | 3 => 3 | 5 => 5 | n => n, fun | n => n⟩
theorem Tryd.lays169 : Go.Proofs.Lays.n169 Tryd.prog Tryd.lays169_ren := {
  mixed := by kernel_rfl
  f169 := Tryd.func24.trans (congrArg some (by kernel_rfl))
  t0 := Tryd.underlying0
  a0 := Tryd.isAgg0
  z0 := Tryd.sizeOf0
  v0 := Tryd.zeroValue0
  t3 := Tryd.underlying3
  a3 := Tryd.isAgg3
  z3 := Tryd.sizeOf3
  v3 := Tryd.zeroValue3
  t9 := Tryd.underlying9
  a9 := Tryd.isAgg9
  z9 := Tryd.sizeOf9
  v9 := Tryd.zeroValue9
  t37 := Tryd.underlying35
  a37 := Tryd.isAgg35
  z37 := Tryd.sizeOf35
  v37 := Tryd.zeroValue35
  t70 := Tryd.underlying57
  a70 := Tryd.isAgg57
  z70 := Tryd.sizeOf57
  v70 := Tryd.zeroValue57
  t72 := Tryd.underlying59
  a72 := Tryd.isAgg59
  z72 := Tryd.sizeOf59
  v72 := Tryd.zeroValue59
  t127 := Tryd.underlying85
  a127 := Tryd.isAgg85
  z127 := Tryd.sizeOf85
  v127 := Tryd.zeroValue85 }
theorem Tryd.Builder_Extra_169 : Builder.Extra Tryd.prog Tryd.lays169_ren := {
  sizeBuilder := by kernel_rfl
  liesBuilder := by kernel_rfl
  t5 := Tryd.underlying5
  a5 := Tryd.isAgg5
  z5 := Tryd.sizeOf5
  v5 := Tryd.zeroValue5
  infoByte := by kernel_rfl
  cellsByte := by kernel_rfl
  sizeByte := by kernel_rfl
  neB5 := by decide }
open Go.RowKit in
/-- (*strings.Builder).String: "String returns the accumulated string.": WHATEVER THE BUILDER HOLDS. (LAID: no walk: one application.) -/
theorem Tryd.Builder_String_any (B b : Nat) (l : List UInt8) (w : World) (h : Lib.IsBuilder 59 5 B b (Lib.byteCells l) w) (hBw : B ≤ w.heap.size) :
    Calls Tryd.prog 24 #[.pointer (some ⟨b, 0, none⟩)] w fun e w' => e = .returned (.string ⟨l.toArray⟩) ∧ Below B w w' := Any.Builder_String_any Tryd.lays169 Tryd.Builder_Extra_169 B b l w h hBw
def Tryd.lays137_ren : Go.Shelf.Ren := ⟨fun | 137 => 48 | 217 => 52 | 266 => 65 | n => n, fun | 9 => 9 | 5 => 5 | 3 => 3 | n => n, fun | n => n⟩
theorem Tryd.lays137 : Go.Proofs.Lays.n137 Tryd.prog Tryd.lays137_ren := {
  mixed := by kernel_rfl
  f137 := Tryd.func48.trans (congrArg some (by kernel_rfl))
  f217 := Tryd.func52.trans (congrArg some (by kernel_rfl))
  f266 := Tryd.func65.trans (congrArg some (by kernel_rfl))
  t3 := Tryd.underlying3
  a3 := Tryd.isAgg3
  z3 := Tryd.sizeOf3
  v3 := Tryd.zeroValue3
  t5 := Tryd.underlying5
  a5 := Tryd.isAgg5
  z5 := Tryd.sizeOf5
  v5 := Tryd.zeroValue5
  t9 := Tryd.underlying9
  a9 := Tryd.isAgg9
  z9 := Tryd.sizeOf9
  v9 := Tryd.zeroValue9 }
open Go.RowKit in
/-- strings.IndexByte: "IndexByte returns the index of the first instance of c in s, or -1 if c is not present in s.": IT RETURNS 'Lib.indexByte s c'; the world is as it was. (LAID: no walk: one application.) -/
theorem Tryd.strings_IndexByte (s : ByteArray) (c : Int) (w : World) :
    Calls Tryd.prog 48 #[.string s, .int .u8 c] w fun e w' => e = .returned (.int .i64 (Lib.indexByte s.data.toList c.toNat.toUInt8)) ∧ w' = w := Any.strings_IndexByte Tryd.lays137 s c w
def Tryd.lays283_ren : Go.Shelf.Ren := ⟨fun | 283 => 61 | n => n, fun | 3 => 3 | 9 => 9 | 4 => 4 | n => n, fun | n => n⟩
theorem Tryd.lays283 : Go.Proofs.Lays.n283 Tryd.prog Tryd.lays283_ren := {
  mixed := by kernel_rfl
  f283 := Tryd.func61.trans (congrArg some (by kernel_rfl))
  t3 := Tryd.underlying3
  a3 := Tryd.isAgg3
  z3 := Tryd.sizeOf3
  v3 := Tryd.zeroValue3
  t4 := Tryd.underlying4
  a4 := Tryd.isAgg4
  z4 := Tryd.sizeOf4
  v4 := Tryd.zeroValue4
  t9 := Tryd.underlying9
  a9 := Tryd.isAgg9
  z9 := Tryd.sizeOf9
  v9 := Tryd.zeroValue9 }
open Go.Lib in
/-- internal/strconv.small: "small returns the string for an i with 0 <= i < nSmalls.": i's decimal numeral. The world is as it was. (LAID: no walk: one application.) -/
theorem Tryd.internal_strconv_small (i : Nat) (h : i < 100) (w : World) :
    Calls Tryd.prog 61 #[.int .i64 i] w fun e w' => e = .returned (.string ⟨(Lib.decDigits i).toArray⟩) ∧ w' = w := Any.internal_strconv_small Tryd.lays283 i h w
def Tryd.laysM284_ren : Go.Shelf.Ren := ⟨fun | 284 => 62 | 129 => 77 | 317 => 76 | 318 => 78 | n => n, fun | 53 => 48 | 3 => 3 | 212 => 120 | 0 => 0 | 4 => 4 | 46 => 72 | 5 => 5 | 9 => 9 | n => n, fun | 17 => 1 | n => n⟩
theorem Tryd.laysM284 : Go.Proofs.LaysM.n284 Tryd.prog Tryd.laysM284_ren := {
  mixed := by kernel_rfl
  f129 := Tryd.func77.trans (congrArg some (by kernel_rfl))
  f284 := Tryd.func62.trans (congrArg some (by kernel_rfl))
  f317 := Tryd.func76.trans (congrArg some (by kernel_rfl))
  f318 := Tryd.func78.trans (congrArg some (by kernel_rfl))
  t0 := Tryd.underlying0
  a0 := Tryd.isAgg0
  z0 := Tryd.sizeOf0
  v0 := Tryd.zeroValue0
  t3 := Tryd.underlying3
  a3 := Tryd.isAgg3
  z3 := Tryd.sizeOf3
  v3 := Tryd.zeroValue3
  t4 := Tryd.underlying4
  a4 := Tryd.isAgg4
  z4 := Tryd.sizeOf4
  v4 := Tryd.zeroValue4
  t5 := Tryd.underlying5
  a5 := Tryd.isAgg5
  z5 := Tryd.sizeOf5
  v5 := Tryd.zeroValue5
  t9 := Tryd.underlying9
  a9 := Tryd.isAgg9
  z9 := Tryd.sizeOf9
  v9 := Tryd.zeroValue9
  t46 := Tryd.underlying72
  a46 := Tryd.isAgg72
  z46 := Tryd.sizeOf72
  v46 := Tryd.zeroValue72
  t53 := Tryd.underlying48
  a53 := Tryd.isAgg48
  z53 := Tryd.sizeOf48
  v53 := Tryd.zeroValue48
  t212 := Tryd.underlying120
  a212 := Tryd.isAgg120
  z212 := Tryd.sizeOf120
  v212 := Tryd.zeroValue120
  g17 := by kernel_rfl
  i0 := by kernel_rfl
  i3 := by kernel_rfl
  i4 := by kernel_rfl
  i5 := by kernel_rfl
  i9 := by kernel_rfl
  i46 := by kernel_rfl
  i53 := by kernel_rfl
  i212 := by kernel_rfl
  m17 := by kernel_rfl }
open Go.Lib in
/-- internal/strconv.numDigits, at a d that is not 0: THE NUMBER OF d's DECIMAL DIGITS. The world is as it was. (LAID: no walk: one application.) -/
theorem Tryd.internal_strconv_numDigits (u : Nat) (h1 : 1 ≤ u) (h2 : u < 18446744073709551616) (w : World) (htab : Lib.TabIs Tryd.prog w "internal/strconv.uint64pow10" .u64 Lib.pow10Tab) :
    Calls Tryd.prog 62 #[.int .u64 u] w fun e w' => e = .returned (.int .i64 (Lib.nDigits u)) ∧ w' = w := Any.internal_strconv_numDigits Tryd.laysM284 u h1 h2 w htab
def Tryd.lays285_ren : Go.Shelf.Ren := ⟨fun | 285 => 63 | n => n, fun | 37 => 35 | 53 => 48 | 3 => 3 | 4 => 4 | 51 => 87 | 9 => 9 | 5 => 5 | 0 => 0 | n => n, fun | n => n⟩
theorem Tryd.lays285 : Go.Proofs.Lays.n285 Tryd.prog Tryd.lays285_ren := {
  mixed := by kernel_rfl
  f285 := Tryd.func63.trans (congrArg some (by kernel_rfl))
  t0 := Tryd.underlying0
  a0 := Tryd.isAgg0
  z0 := Tryd.sizeOf0
  v0 := Tryd.zeroValue0
  t3 := Tryd.underlying3
  a3 := Tryd.isAgg3
  z3 := Tryd.sizeOf3
  v3 := Tryd.zeroValue3
  t4 := Tryd.underlying4
  a4 := Tryd.isAgg4
  z4 := Tryd.sizeOf4
  v4 := Tryd.zeroValue4
  t5 := Tryd.underlying5
  a5 := Tryd.isAgg5
  z5 := Tryd.sizeOf5
  v5 := Tryd.zeroValue5
  t9 := Tryd.underlying9
  a9 := Tryd.isAgg9
  z9 := Tryd.sizeOf9
  v9 := Tryd.zeroValue9
  t37 := Tryd.underlying35
  a37 := Tryd.isAgg35
  z37 := Tryd.sizeOf35
  v37 := Tryd.zeroValue35
  t51 := Tryd.underlying87
  a51 := Tryd.isAgg87
  z51 := Tryd.sizeOf87
  v51 := Tryd.zeroValue87
  t53 := Tryd.underlying48
  a53 := Tryd.isAgg48
  z53 := Tryd.sizeOf48
  v53 := Tryd.zeroValue48 }
open Go.RowKit Go.Sort Go.Lib in
/-- internal/strconv.formatBase10: "formatBase10 formats the decimal representation of u into a. The caller is responsible for ensuring that a is big enough to hold u. If a is too big, leading zeros will be filled in as needed.": THE ROW HOLDS u's DIGITS ('FmtInv .. 0 ..': every place t holds 'dg u (len - 1 - t)'); all else is as it was but for the count of draws. (LAID: no walk: one application.) -/
theorem Tryd.internal_strconv_formatBase10 (blk off cap : Nat) (u : Nat) (d : Array UInt8) (w : World) (hH : Holds (fun (b : UInt8) => Value.int .u8 (b.toNat : Int)) w blk off d) (hu : u < 10 ^ d.size) (hu64 : u < 18446744073709551616) (hsz : d.size < 4611686018427387904) :
    Calls Tryd.prog 63 #[.slice (some ⟨blk, off, none⟩) d.size cap, .int .u64 u] w fun e w' =>
      e = .returned (.tuple #[]) ∧ ∃ (n v' : Nat) (dk : Array UInt8), w' = (putRow (fun (b : UInt8) => Value.int .u8 (b.toNat : Int)) w blk off dk).drewN n ∧ FmtInv d.size u 0 v' dk := Any.internal_strconv_formatBase10 Tryd.lays285 blk off cap u d w hH hu hu64 hsz
def Tryd.laysC245_ren : Go.Shelf.Ren := ⟨fun | 245 => 60 | 279 => 72 | 280 => 73 | 281 => 74 | 282 => 75 | 316 => 82 | 171 => 84 | 205 => 83 | 243 => 87 | 246 => 88 | 283 => 61 | 284 => 62 | 285 => 63 | 286 => 64 | 129 => 77 | 317 => 76 | 318 => 78 | 319 => 79 | 320 => 80 | 337 => 85 | 338 => 86 | n => n, fun | 9 => 9 | 3 => 3 | 75 => 61 | 167 => 115 | 4 => 4 | 168 => 116 | 210 => 126 | 37 => 35 | 0 => 0 | 127 => 85 | 145 => 135 | 143 => 133 | 2 => 2 | 171 => 106 | 53 => 48 | 5 => 5 | 173 => 109 | 212 => 120 | 51 => 87 | 20 => 20 | 213 => 121 | 46 => 72 | 232 => 136 | 233 => 137 | 80 => 64 | n => n, fun | 15 => 2 | 16 => 3 | 17 => 1 | 18 => 6 | 19 => 7 | n => n⟩
theorem Tryd.laysC245 : Go.Proofs.LaysC.n245 Tryd.prog Tryd.laysC245_ren := {
  mixed := by kernel_rfl
  f129 := Tryd.func77.trans (congrArg some (by kernel_rfl))
  f171 := Tryd.func84.trans (congrArg some (by kernel_rfl))
  f205 := Tryd.func83.trans (congrArg some (by kernel_rfl))
  f243 := Tryd.func87.trans (congrArg some (by kernel_rfl))
  f245 := Tryd.func60.trans (congrArg some (by kernel_rfl))
  f246 := Tryd.func88.trans (congrArg some (by kernel_rfl))
  f279 := Tryd.func72.trans (congrArg some (by kernel_rfl))
  f280 := Tryd.func73.trans (congrArg some (by kernel_rfl))
  f281 := Tryd.func74.trans (congrArg some (by kernel_rfl))
  f282 := Tryd.func75.trans (congrArg some (by kernel_rfl))
  f283 := Tryd.func61.trans (congrArg some (by kernel_rfl))
  f284 := Tryd.func62.trans (congrArg some (by kernel_rfl))
  f285 := Tryd.func63.trans (congrArg some (by kernel_rfl))
  f286 := Tryd.func64.trans (congrArg some (by kernel_rfl))
  f316 := Tryd.func82.trans (congrArg some (by kernel_rfl))
  f317 := Tryd.func76.trans (congrArg some (by kernel_rfl))
  f318 := Tryd.func78.trans (congrArg some (by kernel_rfl))
  f319 := Tryd.func79.trans (congrArg some (by kernel_rfl))
  f320 := Tryd.func80.trans (congrArg some (by kernel_rfl))
  f337 := Tryd.func85.trans (congrArg some (by kernel_rfl))
  f338 := Tryd.func86.trans (congrArg some (by kernel_rfl))
  t0 := Tryd.underlying0
  a0 := Tryd.isAgg0
  z0 := Tryd.sizeOf0
  v0 := Tryd.zeroValue0
  t2 := Tryd.underlying2
  a2 := Tryd.isAgg2
  z2 := Tryd.sizeOf2
  v2 := Tryd.zeroValue2
  t3 := Tryd.underlying3
  a3 := Tryd.isAgg3
  z3 := Tryd.sizeOf3
  v3 := Tryd.zeroValue3
  t4 := Tryd.underlying4
  a4 := Tryd.isAgg4
  z4 := Tryd.sizeOf4
  v4 := Tryd.zeroValue4
  t5 := Tryd.underlying5
  a5 := Tryd.isAgg5
  z5 := Tryd.sizeOf5
  v5 := Tryd.zeroValue5
  t9 := Tryd.underlying9
  a9 := Tryd.isAgg9
  z9 := Tryd.sizeOf9
  v9 := Tryd.zeroValue9
  t20 := Tryd.underlying20
  a20 := Tryd.isAgg20
  z20 := Tryd.sizeOf20
  v20 := Tryd.zeroValue20
  t37 := Tryd.underlying35
  a37 := Tryd.isAgg35
  z37 := Tryd.sizeOf35
  v37 := Tryd.zeroValue35
  t46 := Tryd.underlying72
  a46 := Tryd.isAgg72
  z46 := Tryd.sizeOf72
  v46 := Tryd.zeroValue72
  t51 := Tryd.underlying87
  a51 := Tryd.isAgg87
  z51 := Tryd.sizeOf87
  v51 := Tryd.zeroValue87
  t53 := Tryd.underlying48
  a53 := Tryd.isAgg48
  z53 := Tryd.sizeOf48
  v53 := Tryd.zeroValue48
  t75 := Tryd.underlying61
  a75 := Tryd.isAgg61
  z75 := Tryd.sizeOf61
  v75 := Tryd.zeroValue61
  t127 := Tryd.underlying85
  a127 := Tryd.isAgg85
  z127 := Tryd.sizeOf85
  v127 := Tryd.zeroValue85
  t143 := Tryd.underlying133
  a143 := Tryd.isAgg133
  z143 := Tryd.sizeOf133
  v143 := Tryd.zeroValue133
  t145 := Tryd.underlying135
  a145 := Tryd.isAgg135
  z145 := Tryd.sizeOf135
  v145 := Tryd.zeroValue135
  t167 := Tryd.underlying115
  a167 := Tryd.isAgg115
  z167 := Tryd.sizeOf115
  v167 := Tryd.zeroValue115
  t168 := Tryd.underlying116
  a168 := Tryd.isAgg116
  z168 := Tryd.sizeOf116
  v168 := Tryd.zeroValue116
  t171 := Tryd.underlying106
  a171 := Tryd.isAgg106
  z171 := Tryd.sizeOf106
  v171 := Tryd.zeroValue106
  t173 := Tryd.underlying109
  a173 := Tryd.isAgg109
  z173 := Tryd.sizeOf109
  v173 := Tryd.zeroValue109
  t210 := Tryd.underlying126
  a210 := Tryd.isAgg126
  z210 := Tryd.sizeOf126
  v210 := Tryd.zeroValue126
  t212 := Tryd.underlying120
  a212 := Tryd.isAgg120
  z212 := Tryd.sizeOf120
  v212 := Tryd.zeroValue120
  t213 := Tryd.underlying121
  a213 := Tryd.isAgg121
  z213 := Tryd.sizeOf121
  t232 := Tryd.underlying136
  a232 := Tryd.isAgg136
  z232 := Tryd.sizeOf136
  v232 := Tryd.zeroValue136
  t233 := Tryd.underlying137
  a233 := Tryd.isAgg137
  z233 := Tryd.sizeOf137
  v233 := Tryd.zeroValue137
  g15 := by kernel_rfl
  g16 := by kernel_rfl
  g17 := by kernel_rfl
  g18 := by kernel_rfl
  g19 := by kernel_rfl
  t80 := Tryd.underlying64
  a80 := Tryd.isAgg64
  z80 := Tryd.sizeOf64
  v80 := Tryd.zeroValue64
  i0 := by kernel_rfl
  i2 := by kernel_rfl
  i3 := by kernel_rfl
  i4 := by kernel_rfl
  i5 := by kernel_rfl
  i9 := by kernel_rfl
  i20 := by kernel_rfl
  i37 := by kernel_rfl
  i46 := by kernel_rfl
  i51 := by kernel_rfl
  i53 := by kernel_rfl
  i75 := by kernel_rfl
  i80 := by kernel_rfl
  i127 := by kernel_rfl
  i143 := by kernel_rfl
  i145 := by kernel_rfl
  i167 := by kernel_rfl
  i168 := by kernel_rfl
  i171 := by kernel_rfl
  i173 := by kernel_rfl
  i210 := by kernel_rfl
  i212 := by kernel_rfl
  i232 := by kernel_rfl
  i233 := by kernel_rfl
  m15 := by kernel_rfl
  m16 := by kernel_rfl
  m17 := by kernel_rfl
  m18 := by kernel_rfl
  m19 := by kernel_rfl
  c0 := by kernel_rfl
  c2 := by kernel_rfl
  c3 := by kernel_rfl
  c4 := by kernel_rfl
  c5 := by kernel_rfl
  c9 := by kernel_rfl
  c20 := by kernel_rfl
  c37 := by kernel_rfl
  c46 := by kernel_rfl
  c51 := by kernel_rfl
  c53 := by kernel_rfl
  c75 := by kernel_rfl
  c80 := by kernel_rfl
  c127 := by kernel_rfl
  c143 := by kernel_rfl
  c145 := by kernel_rfl
  c167 := by kernel_rfl
  c168 := by kernel_rfl
  c171 := by kernel_rfl
  c173 := by kernel_rfl
  c210 := by kernel_rfl
  c212 := by kernel_rfl
  c213 := by kernel_rfl
  c232 := by kernel_rfl
  c233 := by kernel_rfl }
open Go.RowKit in
/-- strconv.toError, at the inner package's ErrSyntax: 'syntaxError(fn, s)' as an error: A *NumError IN A NEW BLOCK. (LAID: no walk: one application.) -/
theorem Tryd.strconv_toError_syntax (fn s : ByteArray) (base bits : Int) (ev : Value) (w : World) (hlim : s.size ≤ 281474976710656) (hv : w.cell? ⟨2, 0, none⟩ = some ev) (hev : ev = .nilIface ∨ ∃ te pe, ev = .iface te pe) :
    Calls Tryd.prog 60 #[.string fn, .string s, .int .i64 base, .int .i64 bits, .iface 115 (.int .i64 2)] w fun e w' => ∃ N, e = .returned (.iface 116 (.pointer (some ⟨N, 0, none⟩))) ∧ w.heap.size ≤ N ∧ w'.heap[N]? = some (.cells #[.string fn, .string s, ev] 126 (0, 0)) ∧ Below w.heap.size w w' := Any.strconv_toError_syntax Tryd.laysC245 fn s base bits ev w hlim hv hev
open Go.RowKit in
/-- strconv.toError, at the inner package's ErrRange: 'rangeError(fn, s)' as an error: A *NumError IN A NEW BLOCK. (LAID: no walk: one application.) -/
theorem Tryd.strconv_toError_range (fn s : ByteArray) (base bits : Int) (ev : Value) (w : World) (hlim : s.size ≤ 281474976710656) (hv : w.cell? ⟨3, 0, none⟩ = some ev) (hev : ev = .nilIface ∨ ∃ te pe, ev = .iface te pe) :
    Calls Tryd.prog 60 #[.string fn, .string s, .int .i64 base, .int .i64 bits, .iface 115 (.int .i64 1)] w fun e w' => ∃ N, e = .returned (.iface 116 (.pointer (some ⟨N, 0, none⟩))) ∧ w.heap.size ≤ N ∧ w'.heap[N]? = some (.cells #[.string fn, .string s, ev] 126 (0, 0)) ∧ Below w.heap.size w w' := Any.strconv_toError_range Tryd.laysC245 fn s base bits ev w hlim hv hev
def Tryd.lays145_ren : Go.Shelf.Ren := ⟨fun | 145 => 17 | 220 => 29 | 219 => 43 | 217 => 52 | 225 => 53 | 224 => 54 | 267 => 55 | 266 => 65 | 314 => 66 | n => n, fun | 9 => 9 | 4 => 4 | 59 => 50 | 3 => 3 | 5 => 5 | 46 => 72 | 146 => 88 | 51 => 87 | n => n, fun | 1 => 0 | n => n⟩
theorem Tryd.lays145 : Go.Proofs.Lays.n145 Tryd.prog Tryd.lays145_ren := {
  mixed := by kernel_rfl
  f145 := Tryd.func17.trans (congrArg some (by kernel_rfl))
  f217 := Tryd.func52.trans (congrArg some (by kernel_rfl))
  f219 := Tryd.func43.trans (congrArg some (by kernel_rfl))
  f220 := Tryd.func29.trans (congrArg some (by kernel_rfl))
  f224 := Tryd.func54.trans (congrArg some (by kernel_rfl))
  f225 := Tryd.func53.trans (congrArg some (by kernel_rfl))
  f266 := Tryd.func65.trans (congrArg some (by kernel_rfl))
  f267 := Tryd.func55.trans (congrArg some (by kernel_rfl))
  f314 := Tryd.func66.trans (congrArg some (by kernel_rfl))
  t3 := Tryd.underlying3
  a3 := Tryd.isAgg3
  z3 := Tryd.sizeOf3
  v3 := Tryd.zeroValue3
  t4 := Tryd.underlying4
  a4 := Tryd.isAgg4
  z4 := Tryd.sizeOf4
  v4 := Tryd.zeroValue4
  t5 := Tryd.underlying5
  a5 := Tryd.isAgg5
  z5 := Tryd.sizeOf5
  v5 := Tryd.zeroValue5
  t9 := Tryd.underlying9
  a9 := Tryd.isAgg9
  z9 := Tryd.sizeOf9
  v9 := Tryd.zeroValue9
  t46 := Tryd.underlying72
  a46 := Tryd.isAgg72
  z46 := Tryd.sizeOf72
  v46 := Tryd.zeroValue72
  t51 := Tryd.underlying87
  a51 := Tryd.isAgg87
  z51 := Tryd.sizeOf87
  v51 := Tryd.zeroValue87
  t59 := Tryd.underlying50
  a59 := Tryd.isAgg50
  z59 := Tryd.sizeOf50
  v59 := Tryd.zeroValue50
  t146 := Tryd.underlying88
  a146 := Tryd.isAgg88
  z146 := Tryd.sizeOf88
  v146 := Tryd.zeroValue88
  g1 := by kernel_rfl }
open Go.RowKit Go.Lib in
/-- strings.Cut: "Cut slices s around the first instance of sep, returning the text before and after sep. The found result reports whether sep appears in s. If sep does not appear in s, cut returns s, "", false.": IT RETURNS 'Lib.cut s sep'; the world is as it was but for the count of draws. (LAID: no walk: one application.) -/
theorem Tryd.strings_Cut (s sep : ByteArray) (m : Int) (w : World) (hs : s.size < 4294967281) (hm : w.cell? ⟨0, 0, none⟩ = some (.int .i64 m)) :
    Calls Tryd.prog 17 #[.string s, .string sep] w fun e w' => e = .returned (.tuple #[.string ⟨(Lib.cut s.data.toList sep.data.toList).1.toArray⟩, .string ⟨(Lib.cut s.data.toList sep.data.toList).2.1.toArray⟩, .bool (Lib.cut s.data.toList sep.data.toList).2.2]) ∧ ∃ n, w' = w.drewN n := Any.strings_Cut Tryd.lays145 s sep m w hs hm
def Tryd.lays146_ren : Go.Shelf.Ren := ⟨fun | 146 => 30 | 221 => 44 | 268 => 56 | 138 => 57 | 143 => 58 | 195 => 67 | 197 => 68 | 218 => 69 | 219 => 43 | 260 => 81 | 217 => 52 | 225 => 53 | 224 => 54 | 267 => 55 | 266 => 65 | 314 => 66 | n => n, fun | 9 => 9 | 31 => 42 | 3 => 3 | 4 => 4 | 0 => 0 | 105 => 113 | 21 => 21 | 5 => 5 | 46 => 72 | 119 => 129 | 139 => 132 | 138 => 131 | 146 => 88 | 51 => 87 | n => n, fun | 1 => 0 | 3 => 4 | 4 => 5 | n => n⟩
theorem Tryd.lays146 : Go.Proofs.Lays.n146 Tryd.prog Tryd.lays146_ren := {
  mixed := by kernel_rfl
  f138 := Tryd.func57.trans (congrArg some (by kernel_rfl))
  f143 := Tryd.func58.trans (congrArg some (by kernel_rfl))
  f146 := Tryd.func30.trans (congrArg some (by kernel_rfl))
  f195 := Tryd.func67.trans (congrArg some (by kernel_rfl))
  f197 := Tryd.func68.trans (congrArg some (by kernel_rfl))
  f217 := Tryd.func52.trans (congrArg some (by kernel_rfl))
  f218 := Tryd.func69.trans (congrArg some (by kernel_rfl))
  f219 := Tryd.func43.trans (congrArg some (by kernel_rfl))
  f221 := Tryd.func44.trans (congrArg some (by kernel_rfl))
  f224 := Tryd.func54.trans (congrArg some (by kernel_rfl))
  f225 := Tryd.func53.trans (congrArg some (by kernel_rfl))
  f260 := Tryd.func81.trans (congrArg some (by kernel_rfl))
  f266 := Tryd.func65.trans (congrArg some (by kernel_rfl))
  f267 := Tryd.func55.trans (congrArg some (by kernel_rfl))
  f268 := Tryd.func56.trans (congrArg some (by kernel_rfl))
  f314 := Tryd.func66.trans (congrArg some (by kernel_rfl))
  t0 := Tryd.underlying0
  a0 := Tryd.isAgg0
  z0 := Tryd.sizeOf0
  v0 := Tryd.zeroValue0
  t3 := Tryd.underlying3
  a3 := Tryd.isAgg3
  z3 := Tryd.sizeOf3
  v3 := Tryd.zeroValue3
  t4 := Tryd.underlying4
  a4 := Tryd.isAgg4
  z4 := Tryd.sizeOf4
  v4 := Tryd.zeroValue4
  t5 := Tryd.underlying5
  a5 := Tryd.isAgg5
  z5 := Tryd.sizeOf5
  v5 := Tryd.zeroValue5
  t9 := Tryd.underlying9
  a9 := Tryd.isAgg9
  z9 := Tryd.sizeOf9
  v9 := Tryd.zeroValue9
  t21 := Tryd.underlying21
  a21 := Tryd.isAgg21
  z21 := Tryd.sizeOf21
  v21 := Tryd.zeroValue21
  t31 := Tryd.underlying42
  a31 := Tryd.isAgg42
  z31 := Tryd.sizeOf42
  v31 := Tryd.zeroValue42
  t46 := Tryd.underlying72
  a46 := Tryd.isAgg72
  z46 := Tryd.sizeOf72
  v46 := Tryd.zeroValue72
  t51 := Tryd.underlying87
  a51 := Tryd.isAgg87
  z51 := Tryd.sizeOf87
  v51 := Tryd.zeroValue87
  t105 := Tryd.underlying113
  a105 := Tryd.isAgg113
  z105 := Tryd.sizeOf113
  v105 := Tryd.zeroValue113
  t119 := Tryd.underlying129
  a119 := Tryd.isAgg129
  z119 := Tryd.sizeOf129
  t138 := Tryd.underlying131
  a138 := Tryd.isAgg131
  z138 := Tryd.sizeOf131
  v138 := Tryd.zeroValue131
  t139 := Tryd.underlying132
  a139 := Tryd.isAgg132
  z139 := Tryd.sizeOf132
  v139 := Tryd.zeroValue132
  t146 := Tryd.underlying88
  a146 := Tryd.isAgg88
  z146 := Tryd.sizeOf88
  v146 := Tryd.zeroValue88
  g1 := by kernel_rfl
  g3 := by kernel_rfl
  g4 := by kernel_rfl }
open Go.RowKit Go.Lib in
/-- strings.Split. (LAID: no walk: one application.) -/
theorem Tryd.strings_Split (s sep : ByteArray) (m : Int) (w : World) (hs : s.size < 4294967281) (hm : w.cell? ⟨0, 0, none⟩ = some (.int .i64 m)) (h1 : 1 ≤ sep.size) :
    Calls Tryd.prog 30 #[.string s, .string sep] w fun e w' =>
      e = .returned (.slice (some ⟨w.heap.size, 0, none⟩) (Lib.countB s sep + 1) (Lib.countB s sep + 1)) ∧ w' = w.alloc (.cells ((Lib.splitB sep 0 (Lib.countB s sep) s).map Value.string).toArray 9) := Any.strings_Split Tryd.lays146 (by kernel_rfl) s sep m w hs hm h1
end Go.Proofs
namespace Go.Proofs.YtccaiiigdfieoaaDoor
open Go.RowKit Go.By
def digitsC : ByteArray := ⟨#[48, 49, 50, 51, 52, 53, 54, 55, 56, 57, 97, 98, 99, 100, 101, 102]⟩
def idxD (c : UInt8) : Int := if valD c < 16 then (valD c : Int) else -1
theorem idxD_eq (c : UInt8) : Lib.indexByte digitsC.data.toList c = idxD c := by
  have h : ∀ n : Fin 256, Lib.indexByte digitsC.data.toList (UInt8.ofNat n) = idxD (UInt8.ofNat n) := by decide +kernel
  have := h ⟨c.toNat, c.toNat_lt⟩
  simpa using this
theorem IndexD_any (c : UInt8) (w : World) : Calls Tryd.prog 48 #[.string ⟨#[48, 49, 50, 51, 52, 53, 54, 55, 56, 57, 97, 98, 99, 100, 101, 102]⟩, B8 c] w fun e w' => e = .returned (.int .i64 (idxD c)) ∧ w' = w := by
  have := Tryd.strings_IndexByte digitsC (c.toNat : Int) w
  rw [show ((c.toNat : Int)).toNat.toUInt8 = c by simp, idxD_eq] at this
  exact this
theorem hex_or {x y : Nat} (hx : x < 16) (hy : y < 16) : bits BinOp.or IntKind.i64 ((x : Int) * 16) (y : Int) % 256 = ((16 * x + y : Nat) : Int) := by
  have h : ∀ a b : Fin 16, bits BinOp.or IntKind.i64 ((a.1 : Int) * 16) (b.1 : Int) % 256 = ((16 * a.1 + b.1 : Nat) : Int) := by decide +kernel
  exact h ⟨x, hx⟩ ⟨y, hy⟩
set_option maxRecDepth 100000 in
set_option maxHeartbeats 2000000 in
theorem readBytes_any (l : List UInt8) (w : World) (hl : l.length ≤ 1000000) :
    Calls Tryd.prog 33 #[.string (strB l)] w (OptB w (bytesP l)) := by
  obtain ⟨i0, hi, hz0, hz1, hz2⟩ := info_parts info_u8
  obtain ⟨n, hn⟩ : ∃ n, n = l.length := ⟨_, rfl⟩
  have hsz : (strB l).size = n := by rw [strB_size, hn]
  have hemp := txt_emp l
  have hda : ((strB l).toList == [45]) = decide (l = [45]) := by have := txt_beq l [45]; rwa [strB_toList [45]] at this
  have hixk : Hid (∀ (k : Nat) (d : UInt8), l[k]? = some d → ∀ w, (Instr.index 9 (.string (strB l)) (.int .i64 (k : Int))).run Tryd.prog w = .ok (B8 d) w) := fun k d hd w => txt_idx _ Tryd.underlying9 hd _ _ rfl w
  obtain ⟨S, hS⟩ : ∃ S, S = strB l := ⟨_, rfl⟩
  rw [← hS] at hsz hixk hemp hda ⊢
  clear hS
  have hl' : n ≤ 1000000 := by omega
  have HV : Hid (∀ c w, Calls Tryd.prog 48 #[.string ⟨#[48, 49, 50, 51, 52, 53, 54, 55, 56, 57, 97, 98, 99, 100, 101, 102]⟩, B8 c] w fun e w' => e = .returned (.int .i64 (idxD c)) ∧ w' = w) := fun c w => IndexD_any c w
  have htm : ((n : Int)).tmod 2 = ((n % 2 : Nat) : Int) := by rw [Int.tmod_eq_emod_of_nonneg (by omega)]; omega
  by_cases hd0 : l = [45]
  · rw [decide_eq_true hd0] at hda
    have H0 : Hid (bytesP l = some []) := by show _ = _; unfold bytesP; rw [if_pos hd0]
    clear hd0 hn hixk hl hemp htm
    go_enter Tryd.func33, Tryd.ntmps33
    go_wp2
    go_ret2
    exact ⟨none, 0, 0, by rw [H0.out]; rfl, by rw [H0.out]; exact Fresh.none _ _ _, Below.refl _ _⟩
  rw [decide_eq_false hd0] at hda
  by_cases h0 : l = []
  · rw [decide_eq_true h0] at hemp
    have H0 : Hid (bytesP l = none) := by show _ = _; unfold bytesP; rw [if_neg hd0, if_pos h0]
    clear h0 hn hixk hl htm hd0
    go_enter Tryd.func33, Tryd.ntmps33
    go_wp2
    go_ret2
    exact OptB.no H0.out (Below.refl _ _)
  · rw [decide_eq_false h0] at hemp
    have HU : Hid (bytesP l = unhexP l) := by show _ = _; unfold bytesP; rw [if_neg hd0, if_neg h0]
    by_cases h1 : n % 2 = 1
    · have H0 : Hid (bytesP l = none) := HU.out.trans (unhexP_odd _ (Nat.le_refl _) (by omega))
      rw [h1] at htm
      clear h0 hn hixk hl h1 HU hd0
      go_enter Tryd.func33, Tryd.ntmps33
      go_wp2
      go_ret2
      exact OptB.no H0.out (Below.refl _ _)
    · have h2 : n % 2 = 0 := by omega
      rw [h2] at htm
      have HN := Lib.hid hn
      have H2 := Lib.hid h2
      clear h0 hn hl h1 h2 hd0
      go_enter Tryd.func33, Tryd.ntmps33
      go_wp2
      clear htm hda
      go_loopw [4, 5, 6, 7] (fun ov iv _ _ wr => ∃ (i m : Nat) (q : Option Addr) (c : Nat) (O : List UInt8), i ≤ n ∧ iv = .int .i64 i ∧ ov = .slice q m c ∧ m ≤ i ∧ Hid (i % 2 = 0) ∧ Hid (UnhexAt l i O) ∧ Hid (wr.ownsRow w.heap.size 5 1 (.slice q m c) m (O.map B8)) ∧ Hid (Below w.heap.size w wr)) (fun _ iv _ _ _ => n - (intOf iv).toNat)
      case atStart => exact ⟨0, 0, none, 0, [], by omega, rfl, rfl, by omega, rfl, UnhexAt.zero _, World.ownsRow_nil _ _ _ _, Below.refl _ _⟩
      case round =>
        obtain ⟨i, m, q, c, O, hi0, rfl, rfl, hm, HE, HAt, HO, HB⟩ := hrel
        by_cases hlt : i < n
        · have hi1 : i + 1 < n := by have := HE.out; have := H2.out; omega
          obtain ⟨a, ha⟩ : ∃ a, l[i]? = some a := ⟨_, List.getElem?_eq_getElem (by have := HN.out; omega)⟩
          obtain ⟨b, hb⟩ : ∃ b, l[i + 1]? = some b := ⟨_, List.getElem?_eq_getElem (by have := HN.out; omega)⟩
          have hixa := hixk.out i a ha
          have hixb := hixk.out (i + 1) b hb
          have e1 : ((i + 1 : Nat) : Int) = (i : Int) + 1 := by omega
          rw [e1] at hixb
          have hw1 : IntKind.i64.wrap ((i : Int) + 1) = (i : Int) + 1 := by rw [IntKind.wrap_i64]; omega
          have HLT := Lib.hid hlt
          have HI1 := Lib.hid hi1
          have hlti : (i : Int) < (n : Int) := by omega
          have hlti1 : (i : Int) + 1 < (n : Int) := by omega
          have HA := Lib.hid ha
          have HBb := Lib.hid hb
          clear ha hb hlt hi1 e1
          go_upto_region 9 with (fail)
          go_quiet ((go_at_call 48; exact Calls.quiet_of_same (HV.out _ _)))
          have BD : Hid (Below wr.heap.size wr (wr.drewN nq)) := below_drewN wr nq
          generalize wr.drewN nq = w1 at *
          have HB1 := Lib.hid (bl HB.out BD.out HB.out.size)
          have HO1 := Lib.hid (owns_keep HO.out BD.out)
          clear hixa hixb hw1 hlti hlti1 HB HO BD
          by_cases hv : valD a < 16 ∧ valD b < 16
          · obtain ⟨hva, hvb⟩ := hv
            have HAt2 := Lib.hid (HAt.out.next HA.out HBb.out hva hvb)
            obtain ⟨d, hd⟩ : ∃ d, d = UInt8.ofNat (16 * valD a + valD b) := ⟨_, rfl⟩
            rw [← hd] at HAt2
            rw [show idxD a = (valD a : Int) from if_pos hva, show idxD b = (valD b : Int) from if_pos hvb]
            have hor : bits BinOp.or IntKind.i64 ((valD a : Int) * 16) (valD b : Int) % 256 = (d.toNat : Int) := by rw [hex_or hva hvb, hd, UInt8.toNat_ofNat', Nat.mod_eq_of_lt (by omega)]
            have ga : ¬ (valD a : Int) < 0 := by omega
            have gb : ¬ (valD b : Int) < 0 := by omega
            have hOA : Hid (∀ o, (w1.alloc o).ownsRow w.heap.size 5 1 (.slice q m c) m (O.map B8)) := fun o => owns_keep HO1.out (al (Below.refl _ _) (Nat.le_refl _))
            have hszw := HB1.out.size
            clear hd HAt
            go_wp2_with (at_builtin; refine wpList_append_own _ rfl _ _ 35 rfl w.heap.size 5 i0 (.int .u8 0) 1 1 Tryd.underlying35 hi hz0 hz1 hz2 rfl (by omega) _ m (O.map B8) rfl (hOA.out _) ⟨w1.heap.size, 0, none⟩ 1 1 [B8 d] rfl rfl (one_cellI rfl) ?c2 ?c3 ?c4 ?c5 ?_)
            case c2 => first | rfl | (intro y hy; simp at hy; subst hy; rfl)
            case c3 => unfold maxLen; omega
            case c4 => omega
            case c5 => first | omega | (simp; omega)
            intro v' w' ho' hg' _
            obtain ⟨q', c', rfl⟩ := owns_shape ho'
            have FIN : Hid (w'.ownsRow w.heap.size 5 1 (.slice q' (m + 1) c') (m + 1) ((O ++ [d]).map B8) ∧ Below w.heap.size w w') := by
              refine ⟨?_, ?_⟩
              · rw [List.map_append]; exact ho'
              · exact (al HB1.out hszw).grown hg' (by simp; omega) (fun rr hrr => (HO1.out.lt rr hrr).1)
            clear ho' hg' HO1 HB1 hOA hor ga gb
            go_wp2
            go_roundw
            case rel => exact ⟨i + 2, m + 1, q', c', O ++ [d], by have := HI1.out; omega, by go_num, rfl, by omega, by have := HE.out; show _ = _; omega, HAt2.out, FIN.out.1, FIN.out.2⟩
            case measure => simp [intOf]; have := HI1.out; omega
          · have HR : Hid (bytesP l = none) := HU.out.trans (HAt.out.bad HA.out HBb.out hv)
            have HG : (idxD a < 0) ∨ (¬ idxD a < 0 ∧ idxD b < 0) := by
              unfold idxD
              by_cases g : valD a < 16
              · right; rw [if_pos g, if_neg (fun g2 => hv ⟨g, g2⟩)]; omega
              · left; rw [if_neg g]; omega
            clear hv HAt HO1
            rcases HG with ga | ⟨ga, gb⟩
            · go_wp2
              go_ret2
              exact OptB.no HR.out HB1.out
            · go_wp2
              go_ret2
              exact OptB.no HR.out HB1.out
        · obtain rfl : i = n := by omega
          have HR : Hid (bytesP l = some O) := HU.out.trans (HAt.out.done (by have := HN.out; omega))
          clear hlt HAt
          go_wp2
          go_ret2
          exact OptB.yes HR.out HO.out HB.out
end Go.Proofs.YtccaiiigdfieoaaDoor
namespace Go.By
open Go.RowKit
theorem below_growN (w : World) (k : Nat) (os : Array Obj) : Below w.heap.size w (Sort.grow (w.drewN k) os) :=
  ⟨rfl, rfl, rfl, by rw [Sort.size_grow]; simp, fun i hi => by
    show (Sort.grow (w.drewN k) os).heap[i]? = w.heap[i]?
    rw [Sort.heap_grow_old (w.drewN k) os (by simpa using hi)]; simp⟩
theorem fin_pos0 (w : World) (o : Obj) (dk : Array UInt8) (k : Nat) : ∃ os, (Sort.putRow (fun (b : UInt8) => Value.int .u8 (b.toNat : Int)) (w.alloc o) w.heap.size 0 dk).drewN k = Sort.grow (w.drewN k) os := by
  rw [Sort.alloc_eq_grow]
  obtain ⟨os', _, e⟩ := Sort.putRow_grow_new (fun (b : UInt8) => Value.int .u8 (b.toNat : Int)) w #[o] w.heap.size 0 dk (Nat.le_refl _)
  exact ⟨os', by rw [e]; rfl⟩
theorem holds_zero0 (w : World) (T : TypeId) (nd : Nat) (hs : nd ≤ 24) : Sort.Holds (fun (b : UInt8) => Value.int .u8 (b.toNat : Int)) (w.alloc (.cells Lib.zeros24 T)) w.heap.size 0 (Array.replicate nd (0 : UInt8)) := fun j hj => by
  have hj' : j < nd := by simpa using hj
  rw [cell_of_row _ _ _ _ _ _ (hnew rfl), Nat.zero_add, Lib.zeros24_at j (by omega)]
  have e : (Array.replicate nd (0 : UInt8))[j]! = 0 := by
    rw [getElem!_pos (Array.replicate nd (0 : UInt8)) j hj]; exact Array.getElem_replicate ..
  rw [e]
  exact ⟨rfl, frozen_of_row _ _ j _ _ (hnew rfl)⟩
end Go.By
namespace Go.Proofs.YtccaiiigdfieoaaDoor
open Go.RowKit Go.By
/-- the library's table of powers of ten -/
def Tab10 (w : World) : Prop := Lib.TabIs Tryd.prog w "internal/strconv.uint64pow10" .u64 Lib.pow10Tab
theorem Tab10.keep {w w' : World} (h : Tab10 w) (hb : Below w.heap.size w w') : Tab10 w' := by
  unfold Tab10 Lib.TabIs World.var? at *
  cases hg : Tryd.prog.globalNamed "internal/strconv.uint64pow10" with
  | none => rw [hg] at h; exact h
  | some g =>
    rw [hg] at h
    simp only [Option.bind_some] at h ⊢
    cases hh : w.heap[g]? with
    | none => rw [hh] at h; cases h
    | some o => rw [hb.block g (lt_of_block hh), hh]; rw [hh] at h; exact h
set_option maxRecDepth 100000 in
set_option maxHeartbeats 4000000 in
theorem FormatUint_in10 (u : Nat) (h : u < 18446744073709551616) (w : World) (hT : Tab10 w) :
    Calls Tryd.prog 51 #[.int .u64 u, .int .i64 10] w fun e w' => e = .returned (.string (strB (Lib.decDigits u))) ∧ Below w.heap.size w w' := by
  by_cases hs : u < 100
  · have hs' : (u : Int) < 100 := by omega
    go_enter Tryd.func51, Tryd.ntmps51
    go_wp2_with fail
    refine Calls.mono (Tryd.internal_strconv_small u hs _) ?_
    rintro e w' ⟨rfl, rfl⟩
    go_wp2
    go_ret
    exact ⟨rfl, Below.refl _ _⟩
  · have hu1 : 1 ≤ u := by omega
    have hs' : ¬ (u : Int) < 100 := by omega
    have hnd20 : Lib.nDigits u ≤ 20 := by have := Lib.numDigits_eq u hu1 h; split at this <;> omega
    have hal : Tryd.prog.arrayLen 106 = 24 := by simp [Program.arrayLen, Tryd.underlying106]
    have hsl1 : ∀ W, (Instr.sliceAt 106 (.pointer (some ⟨w.heap.size, 0, none⟩)) none (some (.int .i64 (Lib.nDigits u : Int))) none).run Tryd.prog W = .ok (.slice (some ⟨w.heap.size, 0, none⟩) (Lib.nDigits u) 24) W := fun W => by
      rw [run_sliceAt_array_h W 106 ⟨w.heap.size, 0, none⟩ (by simp [Program.arrayLen, Program.elem, Tryd.underlying106]) .i64 (Lib.nDigits u : Int) (by omega) (by rw [hal]; omega)]
      go_simp
    have hH0 := holds_zero0 w 106 (Lib.nDigits u) (by omega)
    have hfmt := Tryd.internal_strconv_formatBase10 w.heap.size 0 24 u (Array.replicate (Lib.nDigits u) 0) (w.alloc (.cells Lib.zeros24 106)) hH0 (by rw [Array.size_replicate]; exact Lib.lt_pow_nDigits u) h (by rw [Array.size_replicate]; omega)
    rw [Array.size_replicate] at hfmt
    have HH0 := Lib.hid hH0
    have HF := Lib.hid hfmt
    have HT := Lib.hid hT
    clear hH0 hal hfmt hT
    have hs2 : (100 : Int) ≤ (u : Int) := by omega
    clear hs' hs
    go_enter Tryd.func51, Tryd.ntmps51
    go_wp2_with fail
    refine Calls.mono (Tryd.internal_strconv_numDigits u hu1 h _ (Lib.tabIs_alloc HT.out _)) ?_
    rintro e w' ⟨rfl, rfl⟩
    go_wp2_with (first | simp only [hsl1])
    refine Calls.mono HF.out ?_
    rintro e w' ⟨rfl, k, v', dk, rfl, hF⟩
    have hcv : (convert 35 9 (.slice (some ⟨w.heap.size, 0, none⟩) (Lib.nDigits u) 24)).run Tryd.prog ((Sort.putRow (fun (b : UInt8) => Value.int .u8 (b.toNat : Int)) (w.alloc (.cells Lib.zeros24 106)) w.heap.size 0 dk).drewN k) = .ok (.string ⟨(Lib.decDigits u).toArray⟩) ((Sort.putRow (fun (b : UInt8) => Value.int .u8 (b.toNat : Int)) (w.alloc (.cells Lib.zeros24 106)) w.heap.size 0 dk).drewN k) := by
      have h := run_convert_bytes_back (P := Tryd.prog) ((Sort.putRow (fun (b : UInt8) => Value.int .u8 (b.toNat : Int)) (w.alloc (.cells Lib.zeros24 106)) w.heap.size 0 dk).drewN k) 35 9 5 ⟨w.heap.size, 0, none⟩ 24 (Lib.decDigits u) Tryd.underlying35 Tryd.underlying5 Tryd.underlying9 (fun j hj => by
        rw [Lib.row_is_numeral hF j hj, Lib.add_plain, World.cell?_drewN]
        exact Sort.cell?_putRow (fun (b : UInt8) => Value.int .u8 (b.toNat : Int)) _ w.heap.size 0 _ dk HH0.out (by rw [hF.size, Array.size_replicate]) j (by rw [hF.size]; rw [Lib.decDigits_length] at hj; exact hj))
      rw [Lib.decDigits_length] at h
      exact h
    go_wp2_with (first | simp only [hsl1] | simp only [hcv])
    go_ret
    obtain ⟨os, eo⟩ := fin_pos0 w (.cells Lib.zeros24 106) dk k
    exact ⟨rfl, by rw [eo]; exact below_growN _ _ _⟩
theorem FormatUint_10 (u : Nat) (h : u < 18446744073709551616) (w : World) (hT : Tab10 w) :
    Calls Tryd.prog 39 #[.int .u64 u, .int .i64 10] w fun e w' => e = .returned (.string (strB (Lib.decDigits u))) ∧ Below w.heap.size w w' := by
  have HF := Lib.hid (FormatUint_in10 u h w hT)
  clear h hT
  go_enter Tryd.func39, Tryd.ntmps39
  go_wp2_with fail
  refine Calls.mono HF.out ?_
  rintro e w' ⟨rfl, hb⟩
  have HB := Lib.hid hb; clear hb
  go_wp2
  go_ret
  exact ⟨rfl, HB.out⟩
end Go.Proofs.YtccaiiigdfieoaaDoor
namespace Go.By
open Go.RowKit
theorem decV_take {l : List UInt8} {k : Nat} {c : UInt8} (h : l[k]? = some c) : decV 0 (l.take (k + 1)) = 10 * decV 0 (l.take k) + (c.toNat - 48) := by
  rw [List.take_add_one, h, decV_append]; rfl
theorem decV_take_le (l : List UInt8) (k : Nat) : decV 0 (l.take k) ≤ decV 0 l := by
  conv => rhs; rw [← List.take_append_drop k l, decV_append]
  exact decV_le _ _
/-- what ParseUint answers -/
def puR (T : TypeId) (M : Nat) (l : List UInt8) : Value := if decV 0 l ≤ M then .tuple #[.int .u64 (decV 0 l : Nat), .nilIface] else .tuple #[.int .u64 (M : Nat), .iface T (.int .i64 1)]
end Go.By
namespace Go.Proofs.YtccaiiigdfieoaaDoor
open Go.RowKit Go.By
end Go.Proofs.YtccaiiigdfieoaaDoor
namespace Go.By
open Go.RowKit
/-- texts in a row -/
def StrRow (w : World) (b : Nat) (L : List (List UInt8)) : Prop := ∀ (i : Nat) (x : List UInt8), L[i]? = some x → w.cell? ⟨b, i, none⟩ = some (.string (strB x))
theorem StrRow.keep {w w' : World} {b : Nat} {L : List (List UInt8)} (h : StrRow w b L) (hb : Below w.heap.size w w') : StrRow w' b L := fun i x hx => (hb.cell (p := ⟨b, i, none⟩) (lt_of_cell (h i x hx))).trans (h i x hx)
end Go.By
namespace Go.Proofs.YtccaiiigdfieoaaDoor
open Go.RowKit Go.By
/-- the library's MaxLen holds some number -/
def MaxI (w : World) : Prop := ∃ m, w.cell? ⟨0, 0, none⟩ = some (.int .i64 m)
theorem MaxI.keep {w w' : World} (h : MaxI w) (hb : Below w.heap.size w w') : MaxI w' := by
  obtain ⟨m, hm⟩ := h
  exact ⟨m, (hb.cell (p := ⟨0, 0, none⟩) (lt_of_cell hm)).trans hm⟩
/-- the library's ErrRange is an error -/
def ErrI (w : World) : Prop := ∃ ev, w.cell? ⟨3, 0, none⟩ = some ev ∧ (ev = .nilIface ∨ ∃ te pe, ev = .iface te pe)
theorem ErrI.keep {w w' : World} (h : ErrI w) (hb : Below w.heap.size w w') : ErrI w' := by
  obtain ⟨m, hm, h2⟩ := h
  exact ⟨m, (hb.cell (p := ⟨3, 0, none⟩) (lt_of_cell hm)).trans hm, h2⟩
/-- what strconv.ParseUint answers: a number, and whether there's an error -/
def PuRes (M : Nat) (l : List UInt8) (v : Value) : Prop := (decV 0 l ≤ M ∧ v = .tuple #[.int .u64 (decV 0 l : Nat), .nilIface]) ∨ (¬ decV 0 l ≤ M ∧ ∃ t p, v = .tuple #[.int .u64 (M : Nat), .iface t p])
set_option maxHeartbeats 1000000 in
theorem ParseUint_of (l : List UInt8) (bs : Int) (M : Nat) (w : World) (hl : l.length ≤ 1000000) (hE : ErrI w)
    (hin : Calls Tryd.prog 59 #[.string (strB l), .int .i64 10, .int .i64 bs] w fun e w' => e = .returned (puR 115 M l) ∧ Below w.heap.size w w') :
    Calls Tryd.prog 47 #[.string (strB l), .int .i64 10, .int .i64 bs] w fun e w' => ∃ v, e = .returned v ∧ PuRes M l v ∧ Below w.heap.size w w' := by
  have HF := Lib.hid hin
  have HL : Hid ((strB l).size ≤ 281474976710656) := by show _ ≤ _; rw [strB_size]; omega
  have HE := Lib.hid hE
  clear hin hE hl
  obtain ⟨S, hS⟩ : ∃ S, S = strB l := ⟨_, rfl⟩
  rw [← hS] at HF HL ⊢
  clear hS
  by_cases h : decV 0 l ≤ M
  · have HR : Hid (PuRes M l (.tuple #[.int .u64 (decV 0 l : Nat), .nilIface])) := .inl ⟨h, rfl⟩
    have e : puR 115 M l = .tuple #[.int .u64 (decV 0 l : Nat), .nilIface] := if_pos h
    rw [e] at HF
    clear e h
    go_enter Tryd.func47, Tryd.ntmps47
    go_wp2_with fail
    refine Calls.mono HF.out ?_
    rintro e w' ⟨rfl, hb⟩
    have HB := Lib.hid hb; clear hb
    go_wp2
    go_ret2
    exact ⟨_, rfl, HR.out, HB.out⟩
  · have HR : Hid (∀ t p, PuRes M l (.tuple #[.int .u64 (M : Nat), .iface t p])) := fun t p => .inr ⟨h, t, p, rfl⟩
    have e : puR 115 M l = .tuple #[.int .u64 (M : Nat), .iface 115 (.int .i64 1)] := if_neg h
    rw [e] at HF
    clear e h
    go_enter Tryd.func47, Tryd.ntmps47
    go_wp2_with fail
    refine Calls.mono HF.out ?_
    rintro e w' ⟨rfl, hb⟩
    obtain ⟨ev, hv, hev⟩ := HE.out.keep hb
    have HB := Lib.hid hb; clear hb
    have HV := Lib.hid hv; have HEV := Lib.hid hev; clear hv hev
    go_wp2_with fail
    refine Calls.mono (Tryd.strconv_toError_range _ S 10 bs ev w' HL.out HV.out HEV.out) ?_
    rintro e w2 ⟨N, rfl, h1, h2, h3⟩
    have HB2 : Hid (Below w.heap.size w w2) := bl HB.out h3 HB.out.size
    clear h1 h2 h3
    go_wp2
    go_ret2
    exact ⟨_, rfl, HR.out _ _, HB2.out⟩
end Go.Proofs.YtccaiiigdfieoaaDoor
namespace Go.Proofs.YtccaiiigdfieoaaDoor
open Go.RowKit Go.By
set_option maxHeartbeats 8000000 in
set_option maxRecDepth 100000 in
theorem ParseUint_in64 (l : List UInt8) (hne : l ≠ []) (hl : l.length ≤ 1000000) (hx : ∀ c ∈ l, isDig c = true) (w : World) :
    Calls Tryd.prog 59 #[.string (strB l), .int .i64 10, .int .i64 64] w fun e w' => e = .returned (puR 115 18446744073709551615 l) ∧ Below w.heap.size w w' := by
  have hemp : (strB l).toList.isEmpty = false := by
    rw [← decide_eq_emptyBytes]
    exact decide_eq_false (fun h => hne (by have := congrArg (fun s : ByteArray => s.data.toList) h; simpa [strB_data] using this))
  have hcv := Lib.run_convert_string_bytes (P := Tryd.prog) w 9 35 5 (strB l) (u := .string) Tryd.underlying9 Tryd.underlying35 Tryd.underlying5
  have hB : ∀ j, j < (strB l).size → (Lib.bytesWorld w 5 (strB l)).cell? ⟨w.heap.size, j, none⟩ = some (.int .u8 ((strB l).data.toList.getD j 0).toNat) := fun j hj => Lib.bytesWorld_cell w 5 (strB l) j hj
  have HW : Hid (Below w.heap.size w (Lib.bytesWorld w 5 (strB l))) := ⟨rfl, rfl, rfl, by rw [Lib.bytesWorld_size]; omega, fun j hj => Lib.bytesWorld_at_old w 5 (strB l) j hj⟩
  obtain ⟨W1, hW1⟩ : ∃ W1, W1 = Lib.bytesWorld w 5 (strB l) := ⟨_, rfl⟩
  rw [← hW1] at hcv hB HW
  clear hW1
  rw [strB_data, strB_size] at hB
  obtain ⟨n, hn⟩ : ∃ n, l.length = n := ⟨_, rfl⟩
  have hsz : (strB l).size = n := by rw [strB_size, hn]
  rw [hn] at hB hl
  have HN := Lib.hid hn
  have HX := Lib.hid hx
  obtain ⟨S, hS⟩ : ∃ S, S = strB l := ⟨_, rfl⟩
  rw [← hS] at hemp hcv hsz ⊢
  clear hS hn hx hne
  have hmv : IntKind.u64.wrap (IntKind.u64.wrap 18446744073709551616 - 1) = 18446744073709551615 := by
    rw [IntKind.wrap_u64, IntKind.wrap_u64]
    decide
  go_enter Tryd.func59, Tryd.ntmps59
  go_wp2
  go_loop [12, 13, 101] (fun vu vn vi => ∃ (k : Nat) (a : Int), vu = .bool false ∧ vn = .int .u64 a ∧ vi = .int .i64 k ∧ k ≤ n ∧ 0 ≤ a ∧ a ≤ 18446744073709551615 ∧ Hid (a = (decV 0 (l.take k) : Nat)))
    (fun _ _ vi => n - (intOf vi).toNat)
  case atStart => exact ⟨0, 0, rfl, rfl, rfl, by omega, by omega, by omega, by show (0 : Int) = ((decV 0 (l.take 0) : Nat) : Int); rw [List.take_zero]; rfl⟩
  case round =>
    obtain ⟨k, a, rfl, rfl, rfl, hk, a0, a1, hh⟩ := hrel
    by_cases hkn : k < n
    · have hc := hB k hkn
      obtain ⟨c, hcl⟩ : ∃ c, l[k]? = some c := ⟨l[k]'(by have := HN.out; omega), List.getElem?_eq_getElem _⟩
      rw [List.getD_eq_getElem?_getD, hcl] at hc
      simp only [Option.getD_some] at hc
      obtain ⟨d0, d1⟩ := isDig_le (HX.out c (List.mem_of_getElem? hcl))
      have hstep : Hid (decV 0 (l.take (k + 1)) = 10 * decV 0 (l.take k) + (c.toNat - 48)) := decV_take hcl
      have hle : Hid (decV 0 (l.take (k + 1)) ≤ decV 0 l) := decV_take_le l (k + 1)
      have hc256 : c.toNat < 256 := c.toNat_lt
      clear hB hcl
      by_cases hM : a * 10 + ((c.toNat : Int) - 48) ≤ 18446744073709551615
      · have icut : a < 1844674407370955162 := by omega
        have iov : a * 10 + ((c.toNat : Int) - 48) < 18446744073709551616 := by omega
        have ilo : a * 10 ≤ a * 10 + ((c.toNat : Int) - 48) := by omega
        go_wp2
        refine ⟨⟨k + 1, a * 10 + ((c.toNat : Int) - 48), rfl, rfl, by go_num, by omega, by omega, by omega, by have h1 := hstep.out; have h2 := hh.out; show _ = _; omega⟩, by simp [intOf]; omega⟩
      · have HE : Hid (puR 115 18446744073709551615 l = .tuple #[.int .u64 (18446744073709551615 : Nat), .iface 115 (.int .i64 1)]) := by
          show _ = _
          unfold puR
          rw [if_neg (by have h1 := hstep.out; have h2 := hh.out; have h3 := hle.out; omega)]
        by_cases icut : a < 1844674407370955162
        · have hw : IntKind.u64.wrap (a * 10 + ((c.toNat : Int) - 48)) = a * 10 + ((c.toNat : Int) - 48) - 18446744073709551616 := by rw [IntKind.wrap_u64]; omega
          have ilo : a * 10 + ((c.toNat : Int) - 48) - 18446744073709551616 < a * 10 := by omega
          clear hM hstep hh hle
          go_wp2
          go_ret2
          exact ⟨by rw [HE.out]; rfl, HW.out⟩
        · have icut2 : 1844674407370955162 ≤ a := by omega
          clear hM hstep hh hle
          go_wp2
          go_ret2
          exact ⟨by rw [HE.out]; rfl, HW.out⟩
    · obtain rfl : k = n := by omega
      have HE : Hid (puR 115 18446744073709551615 l = .tuple #[.int .u64 a, .nilIface]) := by
        have := hh.out
        rw [List.take_of_length_le (by have := HN.out; omega)] at this
        show _ = _
        unfold puR
        rw [if_pos (by omega), ← this]
      clear hB hh hkn
      go_wp2
      go_ret2
      exact ⟨by rw [HE.out]; rfl, HW.out⟩
theorem ParseUint_64 (l : List UInt8) (hne : l ≠ []) (hl : l.length ≤ 1000000) (hx : ∀ c ∈ l, isDig c = true) (w : World) (hE : ErrI w) :
    Calls Tryd.prog 47 #[.string (strB l), .int .i64 10, .int .i64 64] w fun e w' => ∃ v, e = .returned v ∧ PuRes 18446744073709551615 l v ∧ Below w.heap.size w w' :=
  ParseUint_of l 64 18446744073709551615 w hl hE (ParseUint_in64 l hne hl hx w)
end Go.Proofs.YtccaiiigdfieoaaDoor
namespace Go.By
open Go.RowKit
theorem txt_get {l : List UInt8} {k : Nat} {c : UInt8} (h : l[k]? = some c) (hs : k < (strB l).size) : (strB l)[k]'hs = c := by
  have h3 : (strB l).data[k]? = some ((strB l)[k]'hs) := Array.getElem?_eq_getElem hs
  have h4 : (strB l).data[k]? = some c := by rw [← Array.getElem?_toList, strB_data]; exact h
  rw [h3] at h4; exact Option.some.inj h4
theorem txt_decode {l : List UInt8} {k : Nat} {c : UInt8} (h : l[k]? = some c) : (c.toNat < 128 → Utf8.decode (strB l) k = (c.toNat, 1)) ∧ (128 ≤ c.toNat → 128 ≤ (Utf8.decode (strB l) k).1) := by
  have hs : k < (strB l).size := by rw [strB_size]; exact (List.getElem?_eq_some_iff.1 h).1
  have hg := txt_get h hs
  constructor
  · intro hc
    have := decode_ascii (strB l) k hs (by rw [hg]; exact hc)
    rwa [hg] at this
  · intro hc
    exact (decode_high (strB l) k hs (by rw [hg]; exact hc)).1
theorem below_iter (w : World) (s : ByteArray) (k : Nat) : Below w.heap.size w (w.iter s k) := al (Below.refl _ _) (Nat.le_refl _)
end Go.By
namespace Go.Proofs.YtccaiiigdfieoaaDoor
open Go.RowKit Go.By
/-- the library's ErrSyntax is an error -/
def SynI (w : World) : Prop := ∃ ev, w.cell? ⟨2, 0, none⟩ = some ev ∧ (ev = .nilIface ∨ ∃ te pe, ev = .iface te pe)
theorem SynI.keep {w w' : World} (h : SynI w) (hb : Below w.heap.size w w') : SynI w' := by
  obtain ⟨m, hm, h2⟩ := h
  exact ⟨m, (hb.cell (p := ⟨2, 0, none⟩) (lt_of_cell hm)).trans hm, h2⟩
set_option maxRecDepth 100000 in
theorem ParseUint_in0 (w : World) : Calls Tryd.prog 59 #[.string ByteArray.empty, .int .i64 10, .int .i64 64] w fun e w' => e = .returned (.tuple #[.int .u64 0, .iface 115 (.int .i64 2)]) ∧ w = w' := by
  go_enter Tryd.func59, Tryd.ntmps59
  go_wp2
  go_ret2
  exact ⟨rfl, rfl⟩
set_option maxRecDepth 100000 in
theorem ParseUint_empty (w : World) (hS : SynI w) : Calls Tryd.prog 47 #[.string ByteArray.empty, .int .i64 10, .int .i64 64] w fun e w' => ∃ t p, e = .returned (.tuple #[.int .u64 0, .iface t p]) ∧ Below w.heap.size w w' := by
  obtain ⟨ev, hv, hev⟩ := hS
  have HT := Lib.hid (fun fn => Tryd.strconv_toError_syntax fn ByteArray.empty 10 64 ev w (by decide) hv hev)
  clear hv hev
  go_enter Tryd.func47, Tryd.ntmps47
  go_wp2_with fail
  refine Calls.mono (ParseUint_in0 w) ?_
  rintro e w' ⟨rfl, rfl⟩
  go_wp2_with fail
  refine Calls.mono (HT.out _) ?_
  rintro e w' ⟨N, rfl, -, -, hb⟩
  have HB := Lib.hid hb; clear hb
  go_wp2
  go_ret2
  exact ⟨_, _, rfl, HB.out⟩
set_option maxRecDepth 100000 in
set_option maxHeartbeats 4000000 in
theorem readNumber_any (l : List UInt8) (w : World) (hl : l.length ≤ 1000000) (hE : ErrI w) (hS : SynI w) :
    Calls Tryd.prog 32 #[.string (strB l)] w fun e w' => ∃ v, e = .returned v ∧ NumRes .u64 18446744073709551615 l v ∧ Below w.heap.size w w' := by
  obtain ⟨n, hn⟩ : ∃ n, n = l.length := ⟨_, rfl⟩
  have hsz : (strB l).size = n := by rw [strB_size, hn]
  by_cases hne : l = []
  · subst hne
    have H0 : Hid (numB 18446744073709551615 [] = none) := rfl
    have hn0 : n = 0 := hn
    subst hn0
    have HPU := Lib.hid (ParseUint_empty (w.iter ByteArray.empty 0) (hS.keep (below_iter _ _ _)))
    have he : strB [] = ByteArray.empty := rfl
    rw [he] at hsz ⊢
    have hnx : ∀ ty, (Instr.next (.pointer (some ⟨w.heap.size, 0, none⟩)) true ty).run Tryd.prog (w.iter ByteArray.empty 0) = _ := fun ty => run_next_end w ByteArray.empty 0 ty (by decide)
    clear hn hE hS he hsz
    go_enter Tryd.func32, Tryd.ntmps32
    go_wp2
    go_loopw [5] (fun _ wr => wr = w.iter ByteArray.empty 0) (fun _ _ => 0)
    case atStart => rfl
    case round =>
      subst hrel
      go_wp2_with fail
      refine Calls.mono HPU.out ?_
      rintro e w' ⟨t, p, rfl, hb⟩
      have HB := Lib.hid (bl (below_iter w ByteArray.empty 0) hb (by simp [World.iter])); clear hb
      go_wp2
      go_ret2
      exact ⟨_, rfl, NumRes.no H0.out 0, HB.out⟩
  have hn0 : 0 < n := by rw [hn]; exact List.length_pos_iff.2 hne
  obtain ⟨c0, hc0⟩ : ∃ c, l[0]? = some c := ⟨l[0]'(by omega), List.getElem?_eq_getElem _⟩
  have hix0 : ∀ w, (Instr.index 9 (.string (strB l)) (.int .i64 0)).run Tryd.prog w = .ok (B8 c0) w := fun w => txt_idx _ Tryd.underlying9 hc0 .i64 _ rfl w
  have hcs := head_cases hc0
  have HDC : Hid (∀ k c, l[k]? = some c → (c.toNat < 128 → Utf8.decode (strB l) k = (c.toNat, 1)) ∧ (128 ≤ c.toNat → 128 ≤ (Utf8.decode (strB l) k).1)) := fun k c h => txt_decode h
  have HPU : Hid (numG l = true → ∀ W, Below w.heap.size w W → Calls Tryd.prog 47 #[.string (strB l), .int .i64 10, .int .i64 64] W fun e w' => ∃ v, e = .returned v ∧ PuRes 18446744073709551615 l v ∧ Below W.heap.size W w') := fun hg W hb => ParseUint_64 l hne hl (numG_dig hg) W (hE.keep hb)
  have HN := Lib.hid hn
  have HE := Lib.hid hE
  obtain ⟨S, hS'⟩ : ∃ S, S = strB l := ⟨_, rfl⟩
  rw [← hS'] at hsz hix0 HDC HPU ⊢
  rw [← hn] at hl hcs
  clear hS' hn hc0 hne hE hS
  rcases hcs with ⟨e1, e2, e3⟩ | ⟨e2, e3⟩
  · have h8 : B8 c0 = .int .u8 48 := by rw [e1]; rfl
    rw [h8] at hix0
    have H0 : Hid (numB 18446744073709551615 l = none) := numB_none e3
    have h1n : (1 : Int) < (n : Int) := by omega
    clear e1 e2 e3 h8
    go_enter Tryd.func32, Tryd.ntmps32
    go_wp2_with (simp only [hix0])
    go_ret2
    exact ⟨_, rfl, NumRes.no H0.out 0, Below.refl _ _⟩
  · have HG := Lib.hid e3
    have hhx : (∃ v : Int, (∀ w, (Instr.index 9 (.string S) (.int .i64 0)).run Tryd.prog w = .ok (.int .u8 v) w) ∧ (v == 48) = false ∧ (1 : Int) < (n : Int)) ∨ ((∀ w, (Instr.index 9 (.string S) (.int .i64 0)).run Tryd.prog w = .ok (B8 c0) w) ∧ True ∧ ¬ (1 : Int) < (n : Int)) := by
      by_cases h1 : 1 < n
      · have hc : c0 ≠ 48 := by rcases e2 with h | h; exact h; omega
        exact .inl ⟨_, hix0, by rw [beq_eq_false_iff_ne]; intro e; exact hc (UInt8.toNat_inj.1 (by show c0.toNat = 48; omega)), by omega⟩
      · exact .inr ⟨hix0, trivial, by omega⟩
    clear e2 e3 hix0
    rcases hhx with ⟨v0, hix0, hv0, hv1⟩ | ⟨hix0, hv0, hv1⟩
    all_goals
      go_enter Tryd.func32, Tryd.ntmps32
      go_wp2_with (simp only [hix0])
      clear hix0 hv0 hv1
      go_loopw [5] (fun _ wr => ∃ k : Nat, wr = w.iter S k ∧ k ≤ n ∧ Hid (∀ (j : Nat) (d : UInt8), j < k → l[j]? = some d → isDig d = true)) (fun _ wr => n - wr.iterPos w.heap.size)
      case atStart => exact ⟨0, rfl, Nat.zero_le _, fun j d hj => absurd hj (Nat.not_lt_zero j)⟩
      case round =>
        obtain ⟨k, rfl, hk, hr⟩ := hrel
        by_cases hlt : k < n
        · obtain ⟨d, hd⟩ : ∃ d, l[k]? = some d := ⟨l[k]'(by have := HN.out; omega), List.getElem?_eq_getElem _⟩
          have hnx : ∀ ty, (Instr.next (.pointer (some ⟨w.heap.size, 0, none⟩)) true ty).run Tryd.prog (w.iter S k) = _ := fun ty => run_next_any w S k ty (by omega)
          obtain ⟨g1, g2⟩ := HDC.out k d hd
          have HD := Lib.hid hd
          by_cases hdg : isDig d = true
          · obtain ⟨d1, d2⟩ := isDig_le hdg
            rw [g1 (by omega)] at hnx
            have q1 : ¬ (d.toNat : Int) < 48 := by omega
            have q2 : ¬ (57 : Int) < (d.toNat : Int) := by omega
            have HQ := Lib.hid hdg
            clear g1 g2 hd hdg d1 d2
            go_wp2
            go_roundw
            case rel => exact ⟨k + 1, rfl, by omega, fun j d' hj hd' => by
              rcases Nat.lt_or_ge j k with h | h
              · exact hr.out j d' h hd'
              · obtain rfl : j = k := by omega
                have := HD.out
                rw [hd'] at this; cases this; exact HQ.out⟩
            case measure => simp [World.iterPos_iter]; omega
          · rw [Bool.not_eq_true] at hdg
            have H0 : Hid (numB 18446744073709551615 l = none) := numB_none (not_dig HD.out hdg)
            have hbig : (Utf8.decode S k).1 < 48 ∨ (48 ≤ (Utf8.decode S k).1 ∧ 57 < (Utf8.decode S k).1) := by
              unfold isDig at hdg
              simp at hdg
              by_cases h : d.toNat < 128
              · rw [g1 h]
                by_cases h4 : d.toNat < 48
                · exact .inl h4
                · exact .inr ⟨by omega, by have := hdg (by omega); show 57 < d.toNat; omega⟩
              · have := g2 (by omega)
                exact .inr ⟨by omega, by omega⟩
            have hle := decode_le S k
            obtain ⟨D, hD⟩ : ∃ D, D = (Utf8.decode S k).1 := ⟨_, rfl⟩
            rw [← hD] at hnx hbig hle
            clear g1 g2 hd hdg hD hr
            rcases hbig with hb | ⟨hb1, hb2⟩
            · have q1 : (D : Int) < 48 := by omega
              go_wp2
              go_ret2
              exact ⟨_, rfl, NumRes.no H0.out 0, below_iter _ _ _⟩
            · have q1 : ¬ (D : Int) < 48 := by omega
              have q2 : (57 : Int) < (D : Int) := by omega
              go_wp2
              go_ret2
              exact ⟨_, rfl, NumRes.no H0.out 0, below_iter _ _ _⟩
        · obtain rfl : k = n := by omega
          have hnx : ∀ ty, (Instr.next (.pointer (some ⟨w.heap.size, 0, none⟩)) true ty).run Tryd.prog (w.iter S k) = _ := fun ty => run_next_end w S k ty (by omega)
          have HD : Hid (numG l = true) := HG.out.trans (all_dig HN.out.symm hr.out)
          clear hr hlt
          go_wp2_with fail
          refine Calls.mono (HPU.out HD.out _ (below_iter _ _ _)) ?_
          rintro e w' ⟨v, rfl, hv, hb⟩
          have HB := Lib.hid (bl (below_iter w S k) hb (by simp [World.iter])); clear hb
          rcases hv with ⟨h1, rfl⟩ | ⟨h1, t, p, rfl⟩
          · have H1 : Hid (numB 18446744073709551615 l = some (decV 0 l)) := by
              show _ = _
              unfold numB; rw [if_pos ⟨HD.out, h1⟩]
            clear h1
            generalize decV 0 l = x at *
            go_wp2
            go_ret2
            exact ⟨_, rfl, NumRes.yes H1.out, HB.out⟩
          · have H1 : Hid (numB 18446744073709551615 l = none) := by
              show _ = _
              unfold numB; rw [if_neg (fun h => h1 h.2)]
            clear h1
            go_wp2
            go_ret2
            exact ⟨_, rfl, NumRes.no H1.out 0, HB.out⟩
end Go.Proofs.YtccaiiigdfieoaaDoor
namespace Go.By
open Go.RowKit Go.Proofs.YtccaiiigdfieoaaDoor
theorem spl_count (c : UInt8) : ∀ (m : Nat) (s : List UInt8), s.length ≤ m → spl c (Lib.count s [c]) s = splA c s
  | m, s, hm => by
    cases h : (cutW c s).2 with
    | none =>
      have e := (cutW_none h).2
      rw [Lib.count_miss e]
      show [s] = splA c s
      exact (spl_none h).symm
    | some r =>
      obtain ⟨i, e1, e2, e3, e4⟩ := cutW_some h
      have hl := cutW_len h
      cases m with
      | zero => omega
      | succ m =>
        rw [Lib.count_hit (by simp) e1, show ([c] : List UInt8).length = 1 from rfl, e3, Nat.add_comm, spl_some h, spl_count c m r (by omega)]
        unfold splA
        obtain ⟨k, hk⟩ : ∃ k, s.length = k + 1 := ⟨s.length - 1, by omega⟩
        rw [hk, spl_some h, spl_more (k := k) (by omega)]; rfl
theorem splitB_splC (c : UInt8) (l : List UInt8) (k : Nat) : Lib.splitB ⟨#[c]⟩ 0 k (strB l) = (spl c k l).map strB := by
  have h := Lib.splitB_data ⟨#[c]⟩ 0 k (strB l)
  rw [strB_data] at h
  have h2 : Lib.splitK [c] 0 k l = spl c k l := splitK_spl c k l
  have h3 : ((⟨#[c]⟩ : ByteArray).data.toList) = [c] := rfl
  rw [h3, h2] at h
  have h4 := congrArg (List.map strB) h
  rw [List.map_map] at h4
  rw [← h4]
  conv => lhs; rw [← List.map_id (Lib.splitB ⟨#[c]⟩ 0 k (strB l))]
  apply List.map_congr_left
  intro x _
  exact strB_of x
theorem spl_shortC (c : UInt8) : ∀ (k : Nat) (l x : List UInt8), x ∈ spl c k l → x.length ≤ l.length
  | 0, l, x, h => by
    have : x = l := by simpa [spl] using h
    rw [this]; exact Nat.le_refl _
  | k + 1, l, x, h => by
    cases hc : (cutW c l).2 with
    | none =>
      rw [spl_none hc] at h
      rw [List.mem_singleton.1 h]; exact Nat.le_refl _
    | some r =>
      rw [spl_some hc] at h
      obtain ⟨i, _, e2, e3, e4⟩ := cutW_some hc
      rcases List.mem_cons.1 h with rfl | h
      · rw [← e2, List.length_take]; omega
      · have := spl_shortC c k r x h
        have := cutW_len hc
        omega
theorem splA_len (c : UInt8) (s : List UInt8) : (splA c s).length ≤ s.length + 1 := (spl_len c s.length s).2
theorem cut_cutW (c : UInt8) : ∀ s : List UInt8, Lib.cut s [c] = ((cutW c s).1, (cutW c s).2.getD [], (cutW c s).2.isSome) := fun s => by
  cases h : (cutW c s).2 with
  | none =>
    obtain ⟨e1, e2⟩ := cutW_none h
    unfold Lib.cut
    rw [e2]
    simp [e1]
  | some r =>
    obtain ⟨i, e1, e2, e3, e4⟩ := cutW_some h
    unfold Lib.cut
    rw [e1]
    have hi : ¬ ((i : Int) == -1) = true := fun e => by have := beq_iff_eq.1 e; omega
    simp [e2, e3]
    try omega
end Go.By
namespace Go.Proofs.YtccaiiigdfieoaaDoor
open Go.RowKit Go.By
theorem Split_any (c : UInt8) (l : List UInt8) (w : World) (hl : l.length ≤ 1000000) (hM : MaxI w) :
    Calls Tryd.prog 30 #[.string (strB l), .string ⟨#[c]⟩] w fun e w' => e = .returned (.slice (some ⟨w.heap.size, 0, none⟩) (splA c l).length (splA c l).length) ∧ StrRow w' w.heap.size (splA c l) ∧ Below w.heap.size w w' := by
  obtain ⟨m, hm⟩ := hM
  have hc : Lib.countB (strB l) ⟨#[c]⟩ = Lib.count l [c] := by show Lib.count _ _ = _; rw [strB_data]
  have hs : Lib.splitB ⟨#[c]⟩ 0 (Lib.countB (strB l) ⟨#[c]⟩) (strB l) = (splA c l).map strB := by
    rw [splitB_splC, hc, spl_count c _ l (Nat.le_refl _)]
  have hn : Lib.countB (strB l) ⟨#[c]⟩ + 1 = (splA c l).length := by
    have := Lib.splitB_all ⟨#[c]⟩ (Nat.le_refl 1) 0 _ (strB l) rfl
    rw [hs, List.length_map] at this
    exact this.symm
  refine (Tryd.strings_Split (strB l) ⟨#[c]⟩ m w (by rw [strB_size]; omega) hm (Nat.le_refl 1)).mono ?_
  rintro e w' ⟨rfl, rfl⟩
  rw [hs, hn]
  refine ⟨rfl, fun i x hx => ?_, al (Below.refl _ _) (Nat.le_refl _)⟩
  rw [cell_of_row _ _ _ _ _ _ (hnew rfl), List.getElem?_toArray, List.getElem?_map, List.getElem?_map, hx]; rfl
theorem Cut_any (c : UInt8) (l : List UInt8) (w : World) (hl : l.length ≤ 1000000) (hM : MaxI w) :
    Calls Tryd.prog 17 #[.string (strB l), .string ⟨#[c]⟩] w fun e w' => e = .returned (.tuple #[.string (strB (cutW c l).1), .string (strB ((cutW c l).2.getD [])), .bool (cutW c l).2.isSome]) ∧ Below w.heap.size w w' := by
  obtain ⟨m, hm⟩ := hM
  refine (Tryd.strings_Cut (strB l) ⟨#[c]⟩ m w (by rw [strB_size]; omega) hm).mono ?_
  rintro e w' ⟨rfl, n, rfl⟩
  rw [strB_data, show ((⟨#[c]⟩ : ByteArray).data.toList) = [c] from rfl, cut_cutW]
  exact ⟨rfl, below_drewN _ _⟩
end Go.Proofs.YtccaiiigdfieoaaDoor
namespace Go.By
open Go.RowKit Go.Proofs.YtccaiiigdfieoaaDoor
def encU (x : Nat) : Value := .int .u64 (x : Int)
def fl3 (vs : List (Value × Value × Value)) : List Value := vs.flatMap fun u => [u.1, u.2.1, u.2.2]
theorem fl3_append (a b : List (Value × Value × Value)) : fl3 (a ++ b) = fl3 a ++ fl3 b := by simp [fl3]
theorem fl3_length : ∀ vs : List (Value × Value × Value), (fl3 vs).length = vs.length * 3
  | [] => rfl
  | u :: l => by
    show ([u.1, u.2.1, u.2.2] ++ fl3 l).length = _
    rw [List.length_append, fl3_length l, List.length_cons]; simp; omega
theorem fl3_at : ∀ {vs : List (Value × Value × Value)} {i : Nat} {u : Value × Value × Value}, vs[i]? = some u → (fl3 vs)[i * 3]? = some u.1 ∧ (fl3 vs)[i * 3 + 1]? = some u.2.1 ∧ (fl3 vs)[i * 3 + 2]? = some u.2.2
  | [], i, u, h => by simp at h
  | x :: l, 0, u, h => by simp at h; subst h; exact ⟨rfl, rfl, rfl⟩
  | x :: l, i + 1, u, h => by
    have ih := fl3_at (vs := l) (i := i) (u := u) (by simpa using h)
    have e : ∀ j, (fl3 (x :: l))[(i + 1) * 3 + j]? = (fl3 l)[i * 3 + j]? := fun j => by
      show ([x.1, x.2.1, x.2.2] ++ fl3 l)[(i + 1) * 3 + j]? = _
      rw [List.getElem?_append_right (by simp; omega)]
      congr 1
      simp; omega
    exact ⟨(e 0).trans ih.1, (e 1).trans ih.2.1, (e 2).trans ih.2.2⟩
/-- a slice of three-celled rows, cell by cell -/
structure Rw3 (w : World) (p : Option Addr) (n c : Nat) (vs : List (Value × Value × Value)) : Prop where
  len : vs.length = n
  le : n ≤ c
  max : c ≤ maxLen
  nil : p = none → n = 0 ∧ c = 0
  cell : ∀ (j : Nat) (u : Value), (fl3 vs)[j]? = some u → ∃ b o, p = some ⟨b, o, none⟩ ∧ w.cell? ⟨b, o + j, none⟩ = some u
theorem Rw3.of_owns {w : World} {base T n c : Nat} {q : Option Addr} {vs : List (Value × Value × Value)} (h : w.ownsRow base T 3 (.slice q n c) n (fl3 vs)) : Rw3 w q n c vs := by
  have hl : vs.length = n := by have := h.1; rw [fl3_length] at this; omega
  rcases h.2 with ⟨e1, e2⟩ | ⟨g, cap, cur, e1, _, _, h3, h4, _⟩
  · cases e1
    exact ⟨hl, Nat.le_of_eq e2, by simp [maxLen], fun _ => ⟨e2, rfl⟩, fun j u hj => (by have := (List.getElem?_eq_some_iff.1 hj).1; rw [fl3_length] at this; omega)⟩
  · cases e1
    refine ⟨hl, h3, h4, fun e => (by cases e), fun j u hj => ⟨g, 0, rfl, ?_⟩⟩
    have := (List.getElem?_eq_some_iff.1 hj).1
    rw [fl3_length] at this
    rw [Nat.zero_add, h.cellAt _ (by omega)]; exact hj
theorem owns_block_ne {w : World} {base e s n : Nat} {v : Value} {ys : List Value} (ho : w.ownsRow base e s v n ys) {b T' : Nat} {cs : Array Value} {fr : Nat × Nat} (hb : w.heap[b]? = some (.cells cs T' fr)) (hne : T' ≠ e) : v.ownBlock ≠ some b := by
  intro e1
  rcases ho.2 with ⟨rfl, _⟩ | ⟨g, cap, cur, rfl, _, hh, _⟩
  · simp [Value.ownBlock] at e1
  · simp [Value.ownBlock] at e1
    subst e1
    rw [hh] at hb
    injection hb with hb
    injection hb with _ hb _
    exact hne hb.symm
theorem Fresh.cellI {T T' B g i n c : Nat} {w : World} {q : Option Addr} {xs : List UInt8} {old : Array Value} {fr : Nat × Nat} {v : Value} (h : Fresh T B w q n c xs) (hg : w.heap[g]? = some (.cells old T' fr)) (hne : T' ≠ T) : Fresh T B (w.setCell ⟨g, i, Option.none⟩ v) q n c xs := by
  have hd : ∀ a, q = some a → a.block ≠ g := fun a ha e => by
    obtain ⟨c2, f2, e2⟩ := h.ty a ha
    rw [e, hg] at e2
    injection e2 with e2
    injection e2 with _ e3 _
    exact hne e3
  exact ⟨⟨h.sl.len, h.sl.le, h.sl.max, h.sl.nil, fun j hj => by
    obtain ⟨b, o, e, hc⟩ := h.sl.rs j hj
    exact ⟨b, o, e, (World.cell?_of_block (a := ⟨b, o + j, Option.none⟩) (Below.heap_setCell _ _ _ _ (hd _ e))).trans hc⟩⟩, h.new, fun a ha => by obtain ⟨c2, f2, e2⟩ := h.ty a ha; exact ⟨c2, f2, (Below.heap_setCell _ _ _ _ (hd a ha)).trans e2⟩⟩
theorem owns_setRow {w : World} {base e s n : Nat} {v : Value} {ys : List Value} (ho : w.ownsRow base e s v n ys) {b T' : Nat} {cs cs' : Array Value} {fr : Nat × Nat} (hb : w.heap[b]? = some (.cells cs T' fr)) (hne : T' ≠ e) : (w.setRow b cs').ownsRow base e s v n ys := by
  have h := owns_block_ne ho hb hne
  refine ⟨ho.1, ?_⟩
  rcases ho.2 with g | ⟨g, cap, cur, rfl, g2, g3, g4⟩
  · exact .inl g
  · refine .inr ⟨g, cap, cur, rfl, g2, ?_, g4⟩
    exact hro g3 (fun e1 => h (by simp [Value.ownBlock, e1]))
/-- a block of another element type stays as an owned slice grows -/
theorem grown_other {w w' : World} {base e s n : Nat} {v : Value} {ys : List Value} (ho : w.ownsRow base e s v n ys) (hg : w.grownBy w' v.ownBlock) {b T' : Nat} {cs : Array Value} {fr : Nat × Nat} (hb : w.heap[b]? = some (.cells cs T' fr)) (hne : T' ≠ e) : w'.heap[b]? = some (.cells cs T' fr) := by
  refine (hg.block b (Array.getElem?_eq_some_iff.1 hb).1 ?_).trans hb
  intro e1
  rcases ho.2 with ⟨rfl, _⟩ | ⟨g, cap, cur, rfl, _, hh, _⟩
  · simp [Value.ownBlock] at e1
  · simp [Value.ownBlock] at e1
    subst e1
    rw [hh] at hb
    injection hb with hb
    injection hb with _ hb _
    exact hne hb.symm
end Go.By
namespace Go.Proofs.YtccaiiigdfieoaaDoor
open Go.RowKit Go.By
/-- the cells of a command in new memory -/
def CmdV (B : Nat) (w : World) (u : Value × Value × Value) (c : Cmd) : Prop :=
  u.1 = .string (strB c.word) ∧ (∃ q n k, u.2.1 = .slice q n k ∧ w.ownsRow B 48 1 (.slice q n k) n (c.nums.map encU)) ∧ ∃ q n k, u.2.2 = .slice q n k ∧ Fresh 5 B w q n k c.bytes
theorem CmdV.keep {B : Nat} {w w' : World} {u : Value × Value × Value} {c : Cmd} (h : CmdV B w u c) (hb : Below w.heap.size w w') : CmdV B w' u c := by
  obtain ⟨h1, ⟨q, n, k, e1, h2⟩, q', n', k', e2, h3⟩ := h
  exact ⟨h1, ⟨q, n, k, e1, owns_keep h2 hb⟩, q', n', k', e2, h3.keep hb⟩
theorem CmdV.mono {B B' : Nat} {w : World} {u : Value × Value × Value} {c : Cmd} (h : CmdV B w u c) (hB : B' ≤ B) : CmdV B' w u c := by
  obtain ⟨h1, ⟨q, n, k, e1, h2⟩, q', n', k', e2, h3⟩ := h
  exact ⟨h1, ⟨q, n, k, e1, owns_mono h2 hB⟩, q', n', k', e2, h3.mono hB⟩
theorem CmdV.same {B T : Nat} {w w' : World} {u : Value × Value × Value} {c : Cmd} (h : CmdV B w u c) (hs : w.heap.size ≤ w'.heap.size) (hp : ∀ (b T' : Nat) (cs : Array Value) (fr : Nat × Nat), w.heap[b]? = some (.cells cs T' fr) → T' ≠ T → w'.heap[b]? = w.heap[b]?) (h8 : 5 ≠ T) (h64 : 48 ≠ T) : CmdV B w' u c := by
  obtain ⟨h1, ⟨q, n, k, e1, h2⟩, q', n', k', e2, h3⟩ := h
  refine ⟨h1, ⟨q, n, k, e1, ?_⟩, q', n', k', e2, ?_⟩
  · refine ⟨h2.1, ?_⟩
    rcases h2.2 with g | ⟨g, cap, cur, g1, g2, g3, g4⟩
    · exact .inl g
    · exact .inr ⟨g, cap, cur, g1, g2, (hp _ _ _ _ g3 h64).trans g3, g4⟩
  · have hd : ∀ a, q' = some a → w'.heap[a.block]? = w.heap[a.block]? := fun a ha => by
      obtain ⟨cs, fr, e⟩ := h3.ty a ha; exact hp _ _ cs fr e h8
    refine ⟨⟨h3.sl.len, h3.sl.le, h3.sl.max, h3.sl.nil, fun i hi => ?_⟩, h3.new, fun a ha => ?_⟩
    · obtain ⟨b, o, e, hc⟩ := h3.sl.rs i hi
      exact ⟨b, o, e, (World.cell?_of_block (a := ⟨b, o + i, none⟩) (show w'.heap[b]? = w.heap[b]? from hd ⟨b, o, none⟩ e)).trans hc⟩
    · obtain ⟨cs, fr, e⟩ := h3.ty a ha
      exact ⟨cs, fr, (hd a ha).trans e⟩
/-- commands in a row that the call made -/
def CmdsF (T : TypeId) (B : Nat) (w : World) (v : Value) (n : Nat) (cs : List Cmd) : Prop :=
  ∃ vs, w.ownsRow B T 3 v n (fl3 vs) ∧ vs.length = n ∧ cs.length = n ∧ ∀ (j : Nat) (u : Value × Value × Value), vs[j]? = some u → ∃ c, cs[j]? = some c ∧ CmdV B w u c
theorem CmdsF.nil (T : TypeId) (B : Nat) (w : World) : CmdsF T B w (.slice none 0 0) 0 [] := ⟨[], World.ownsRow_nil _ _ _ _, rfl, rfl, fun j u h => by simp at h⟩
theorem CmdsF.keep {T : TypeId} {B n : Nat} {w w' : World} {v : Value} {cs : List Cmd} (h : CmdsF T B w v n cs) (hb : Below w.heap.size w w') : CmdsF T B w' v n cs := by
  obtain ⟨vs, o, l1, l2, r⟩ := h
  exact ⟨vs, owns_keepv o hb, l1, l2, fun j u hj => by obtain ⟨c, hc, g⟩ := r j u hj; exact ⟨c, hc, g.keep hb⟩⟩
theorem CmdsF.len {T : TypeId} {B n : Nat} {w : World} {v : Value} {cs : List Cmd} (h : CmdsF T B w v n cs) : cs.length = n := by obtain ⟨_, _, _, h, _⟩ := h; exact h
theorem CmdsF.shape {T : TypeId} {B n : Nat} {w : World} {v : Value} {cs : List Cmd} (h : CmdsF T B w v n cs) : ∃ q c, v = .slice q n c := by obtain ⟨_, o, _⟩ := h; exact owns_shape o
theorem CmdsF.push {T : TypeId} {B n : Nat} {w w' : World} {v v' : Value} {cs : List Cmd} {c : Cmd} {u : Value × Value × Value} {vs : List (Value × Value × Value)} (ho : w'.ownsRow B T 3 v' (n + 1) (fl3 vs ++ [u.1, u.2.1, u.2.2])) (hvl : vs.length = n) (hl : cs.length = n)
    (hr : ∀ (j : Nat) (u : Value × Value × Value), vs[j]? = some u → ∃ c, cs[j]? = some c ∧ CmdV B w' u c) (hu : CmdV B w' u c) : CmdsF T B w' v' (n + 1) (cs ++ [c]) := by
  refine ⟨vs ++ [u], by rw [fl3_append]; exact ho, by simp [hvl], by simp [hl], fun j x hj => ?_⟩
  rcases Nat.lt_or_ge j vs.length with g | g
  · rw [List.getElem?_append_left g] at hj
    obtain ⟨c', hc', h'⟩ := hr j x hj
    exact ⟨c', by rw [List.getElem?_append_left (by omega)]; exact hc', h'⟩
  · have hj0 : j = vs.length := by have := (List.getElem?_eq_some_iff.1 hj).1; simp at this; omega
    subst hj0
    simp at hj
    subst hj
    exact ⟨c, by rw [List.getElem?_append_right (by omega), show vs.length - cs.length = 0 by omega]; rfl, hu⟩
theorem CmdsF.pushG {T : TypeId} {B n : Nat} {w w' : World} {v v' : Value} {cs : List Cmd} {c : Cmd} {u : Value × Value × Value} {vs : List (Value × Value × Value)} (o : w.ownsRow B T 3 v n (fl3 vs)) (hg : w.grownBy w' v.ownBlock) (ho : w'.ownsRow B T 3 v' (n + 1) (fl3 vs ++ [u.1, u.2.1, u.2.2])) (hvl : vs.length = n) (hl : cs.length = n)
    (hr : ∀ (j : Nat) (u : Value × Value × Value), vs[j]? = some u → ∃ c, cs[j]? = some c ∧ CmdV B w u c) (hu : CmdV B w u c) (h8 : 5 ≠ T) (h64 : 48 ≠ T) : CmdsF T B w' v' (n + 1) (cs ++ [c]) := by
  have hp : ∀ (b T' : Nat) (cs : Array Value) (fr : Nat × Nat), w.heap[b]? = some (.cells cs T' fr) → T' ≠ T → w'.heap[b]? = w.heap[b]? := fun b T' cs fr hb hne => (grown_other o hg hb hne).trans hb.symm
  exact CmdsF.push (w := w) (v := v) ho hvl hl (fun j u hj => by obtain ⟨c, hc, g⟩ := hr j u hj; exact ⟨c, hc, g.same hg.size hp h8 h64⟩) (hu.same hg.size hp h8 h64)
/-- commands in a row, that read -/
structure CmdS (w : World) (q : Option Addr) (n c : Nat) (cs : List Cmd) : Prop where
  len : cs.length = n
  le : n ≤ c
  max : c ≤ maxLen
  nil : q = none → n = 0 ∧ c = 0
  row : ∀ (k : Nat) (x : Cmd), cs[k]? = some x → ∃ b o q1 n1 c1 q2 n2 c2, q = some ⟨b, o, none⟩ ∧ w.cell? ⟨b, o + k * 3, none⟩ = some (.string (strB x.word)) ∧ w.cell? ⟨b, o + k * 3 + 1, none⟩ = some (.slice q1 n1 c1) ∧ w.cell? ⟨b, o + k * 3 + 2, none⟩ = some (.slice q2 n2 c2) ∧ Sl encU w q1 n1 c1 x.nums ∧ Sl B8 w q2 n2 c2 x.bytes
theorem CmdsF.cmdS {T : TypeId} {B n c : Nat} {w : World} {q : Option Addr} {cs : List Cmd} (h : CmdsF T B w (.slice q n c) n cs) : CmdS w q n c cs := by
  obtain ⟨vs, o, l1, l2, r⟩ := h
  have hv := Rw3.of_owns o
  refine ⟨l2, hv.le, hv.max, hv.nil, fun k x hx => ?_⟩
  have hk : k < n := by have := (List.getElem?_eq_some_iff.1 hx).1; omega
  have hvk : vs[k]? = some vs[k] := List.getElem?_eq_getElem (by omega)
  obtain ⟨c', hc', g1, ⟨q1, n1, c1, e1, g2⟩, q2, n2, c2, e2, g3⟩ := r k _ hvk
  rw [hx] at hc'; cases hc'
  obtain ⟨f0, f1, f2⟩ := fl3_at hvk
  obtain ⟨b, oo, e, k0⟩ := hv.cell _ _ f0
  obtain ⟨b', oo', e', k1⟩ := hv.cell _ _ f1
  rw [e] at e'; cases e'
  obtain ⟨b', oo', e', k2⟩ := hv.cell _ _ f2
  rw [e] at e'; cases e'
  exact ⟨b, oo, q1, n1, c1, q2, n2, c2, e, by rw [k0, g1], by rw [← e1]; exact k1, by rw [← e2]; exact k2, Sl.of_owns g2, g3.sl⟩
theorem CmdS.keep {w w' : World} {q : Option Addr} {n c : Nat} {cs : List Cmd} (h : CmdS w q n c cs) (hb : Below w.heap.size w w') : CmdS w' q n c cs := by
  refine ⟨h.len, h.le, h.max, h.nil, fun k x hx => ?_⟩
  obtain ⟨b, o, q1, n1, c1, q2, n2, c2, e, g0, g1, g2, s1, s2⟩ := h.row k x hx
  exact ⟨b, o, q1, n1, c1, q2, n2, c2, e, (hb.cell (p := ⟨b, o + k * 3, none⟩) (lt_of_cell g0)).trans g0, (hb.cell (p := ⟨b, o + k * 3 + 1, none⟩) (lt_of_cell g1)).trans g1, (hb.cell (p := ⟨b, o + k * 3 + 2, none⟩) (lt_of_cell g2)).trans g2, s1.keep hb, s2.keep hb⟩
end Go.Proofs.YtccaiiigdfieoaaDoor
namespace Go.Proofs.YtccaiiigdfieoaaDoor
open Go.RowKit Go.By
theorem numsP_app : ∀ {a b : List (List UInt8)} {X : List Nat}, numsP a = some X → numsP (a ++ b) = (numsP b).map (X ++ ·)
  | [], b, X, h => by cases h; simp
  | x :: a, b, X, h => by
    rw [numsP_cons] at h
    obtain ⟨y, hy, h2⟩ := Option.bind_eq_some_iff.1 h
    obtain ⟨ys, hys, rfl⟩ := Option.map_eq_some_iff.1 h2
    rw [List.cons_append, numsP_cons, hy, Option.bind_some, numsP_app hys, Option.map_map]; rfl
theorem numsP_step {W : List (List UInt8)} {i : Nat} {a : List UInt8} {X : List Nat} {x : Nat} (h : numsP (W.take i) = some X) (ha : W[i]? = some a) (hx : numB 18446744073709551615 a = some x) : numsP (W.take (i + 1)) = some (X ++ [x]) := by
  rw [List.take_add_one, ha, Option.toList_some, numsP_app h, numsP_cons, hx]; rfl
theorem numsP_bad {W : List (List UInt8)} {i : Nat} {a : List UInt8} {X : List Nat} (h : numsP (W.take i) = some X) (ha : W[i]? = some a) (hx : numB 18446744073709551615 a = none) : numsP W = none := by
  have e : W = W.take i ++ W.drop i := (List.take_append_drop i W).symm
  obtain ⟨h1, e1⟩ := List.getElem?_eq_some_iff.1 ha
  rw [e, numsP_app h, List.drop_eq_getElem_cons h1, e1, numsP_cons, hx]; rfl
theorem readP_none {l : List UInt8} (h : formsL.find? (isW ((splA 32 l).getD 0 [])) = none) : readP l = (20, noCmd) := by
  have e : formS ((partsP l).getD 0 []) = none := by unfold formS; rw [show (formsL.find? fun f => decide (f.1 = (partsP l).getD 0 [])) = formsL.find? (isW ((splA 32 l).getD 0 [])) from rfl, h]; rfl
  unfold readP; rw [e]
theorem readP_some {l : List UInt8} {x : List UInt8} {k : Nat} {b : Bool} (h : formsL.find? (isW ((splA 32 l).getD 0 [])) = some (x, k, b)) : x = (splA 32 l).getD 0 [] ∧ k ≤ 3 ∧ formS ((partsP l).getD 0 []) = some (k, b) := by
  have h1 := List.find?_some h
  have h2 := List.mem_of_find?_eq_some h
  have e : formS ((partsP l).getD 0 []) = some (k, b) := by unfold formS; rw [show (formsL.find? fun f => decide (f.1 = (partsP l).getD 0 [])) = formsL.find? (isW ((splA 32 l).getD 0 [])) from rfl, h]; rfl
  exact ⟨of_decide_eq_true h1, (forms_plain _ h2).2.1, e⟩
section
variable {l : List UInt8} {k : Nat} {b : Bool} (e : formS ((partsP l).getD 0 []) = some (k, b))
include e
theorem readP_len (h : (splA 32 l).length ≠ 1 + k + b.toNat) : readP l = (14, noCmd) := by
  have h' : (partsP l).length ≠ 1 + k + b.toNat := h
  unfold readP; rw [e]; simp only; rw [if_pos h']
theorem readP_nums (h : (splA 32 l).length = 1 + k + b.toNat) (hn : numsP (((splA 32 l).drop 1).take k) = none) : readP l = (14, noCmd) := by
  have h' : ¬ (partsP l).length ≠ 1 + k + b.toNat := fun g => g h
  have hn' : numsP (((partsP l).drop 1).take k) = none := hn
  unfold readP; rw [e]; simp only; rw [if_neg h', hn']
theorem readP_plain {ns : List Nat} (h : (splA 32 l).length = 1 + k + b.toNat) (hn : numsP (((splA 32 l).drop 1).take k) = some ns) (hb : b = false) : readP l = (0, ⟨(splA 32 l).getD 0 [], ns, []⟩) := by
  have h' : ¬ (partsP l).length ≠ 1 + k + b.toNat := fun g => g h
  have hn' : numsP (((partsP l).drop 1).take k) = some ns := hn
  unfold readP; rw [e]; simp only; rw [if_neg h', hn']
  subst hb; rfl
theorem readP_bad {ns : List Nat} (h : (splA 32 l).length = 1 + k + b.toNat) (hn : numsP (((splA 32 l).drop 1).take k) = some ns) (hb : b = true) (hy : bytesP ((splA 32 l).getD (k + 1) []) = none) : readP l = (14, noCmd) := by
  have h' : ¬ (partsP l).length ≠ 1 + k + b.toNat := fun g => g h
  have hn' : numsP (((partsP l).drop 1).take k) = some ns := hn
  have hy' : bytesP ((partsP l).getD (k + 1) []) = none := hy
  unfold readP; rw [e]; simp only; rw [if_neg h', hn']; simp only; rw [if_pos hb, hy']
theorem readP_full {ns : List Nat} {m : List UInt8} (h : (splA 32 l).length = 1 + k + b.toNat) (hn : numsP (((splA 32 l).drop 1).take k) = some ns) (hb : b = true) (hy : bytesP ((splA 32 l).getD (k + 1) []) = some m) : readP l = (0, ⟨(splA 32 l).getD 0 [], ns, m⟩) := by
  have h' : ¬ (partsP l).length ≠ 1 + k + b.toNat := fun g => g h
  have hn' : numsP (((partsP l).drop 1).take k) = some ns := hn
  have hy' : bytesP ((partsP l).getD (k + 1) []) = some m := hy
  unfold readP; rw [e]; simp only; rw [if_neg h', hn']; simp only; rw [if_pos hb, hy']; rfl
end
/-- what read answers -/
def RdR (w : World) (r : Int × Cmd) (e : Ending) (w' : World) : Prop := ∃ v1 v2 v3, e = .returned (.tuple #[.agg #[v1, v2, v3], .int .i64 r.1]) ∧ CmdV w.heap.size w' (v1, v2, v3) r.2 ∧ Below w.heap.size w w'
theorem info_cmd : (Tryd.prog.info? 37).map (·.size) = some 3 := by kernel_rfl
theorem info_u64 : (Tryd.prog.info? 48).map (fun i => (i.zero, i.size, i.bytes)) = some (some (.int .u64 0), 1, 8) := by kernel_rfl
theorem CmdV.no (B : Nat) (w : World) : CmdV B w (.string (strB []), .slice none 0 0, .slice none 0 0) noCmd := ⟨rfl, ⟨none, 0, 0, rfl, World.ownsRow_nil _ _ _ _⟩, none, 0, 0, rfl, Fresh.none _ _ _⟩
set_option maxRecDepth 100000 in
set_option maxHeartbeats 4000000 in
theorem read_none (l : List UInt8) (w : World) (hl : l.length ≤ 1000000) (hM : MaxI w) (hf : formsL.find? (isW ((splA 32 l).getD 0 [])) = none) :
    Calls Tryd.prog 18 #[.string (strB l)] w (RdR w (readP l)) := by
  rw [readP_none hf]
  have HSp : Hid (∀ W, Below w.heap.size w W → Calls Tryd.prog 30 #[.string (strB l), .string ⟨#[32]⟩] W fun e w' => ∃ b, e = .returned (.slice (some ⟨b, 0, none⟩) (splA 32 l).length (splA 32 l).length) ∧ W.heap.size ≤ b ∧ StrRow w' b (splA 32 l) ∧ Below W.heap.size W w') := fun W hb => (Split_any 32 l W hl (hM.keep hb)).mono fun e w' ⟨h1, h2, h3⟩ => ⟨_, h1, Nat.le_refl _, h2, h3⟩
  have HFd : Hid (∀ W, Calls Tryd.prog 31 #[.string (strB ((splA 32 l).getD 0 []))] W fun e w' => e = .returned (.tuple #[.agg #[.string (strB []), .int .i64 0, .bool false], .bool false]) ∧ Below W.heap.size W w') := fun W => by
    have := find_any ((splA 32 l).getD 0 []) W
    unfold findV at this
    rwa [hf] at this
  obtain ⟨x, hx⟩ : ∃ x, (splA 32 l)[0]? = some x := ⟨_, List.getElem?_eq_getElem (List.length_pos_iff.2 (splA_ne 32 l))⟩
  have e0 : (splA 32 l).getD 0 [] = x := by rw [List.getD_eq_getElem?_getD, hx]; rfl
  rw [e0] at HFd
  have hn1 : 1 ≤ (splA 32 l).length := List.length_pos_iff.2 (splA_ne 32 l)
  have hn2 := splA_len 32 l
  have HX := Lib.hid hx
  obtain ⟨P, hP⟩ : ∃ P, P = splA 32 l := ⟨_, rfl⟩
  obtain ⟨S, hS⟩ : ∃ S, S = strB l := ⟨_, rfl⟩
  rw [← hP] at HX hn1 hn2 HSp
  rw [← hS] at HSp ⊢
  obtain ⟨n, hn⟩ : ∃ n, n = P.length := ⟨_, rfl⟩
  rw [← hn] at hn1 hn2 HSp
  clear hf hM hP hS hx e0
  have hn1' : (0 : Int) < (n : Int) := by omega
  clear hn
  go_enter Tryd.func18, Tryd.ntmps18
  go_wp2_with fail
  refine Calls.mono (HSp.out _ (al (Below.refl _ _) (Nat.le_refl _))) ?_
  rintro e w1 ⟨gs, rfl, hgs, hr, hb⟩
  obtain ⟨hb1, k1, hs1⟩ := one_of hb
  have HB1 := Lib.hid hb1
  have hc0 := hr 0 x HX.out
  clear hr hb hb1
  go_wp2_with fail
  refine Calls.mono (HFd.out _) ?_
  rintro e w2 ⟨rfl, hb⟩
  have HB2 := Lib.hid (bl HB1.out hb HB1.out.size)
  have k2 := (hb.block _ (lt_of_block k1)).trans k1
  clear hb hc0 k1 HB1
  go_wp2_with (refine wpList_store_row (o := ⟨none, .store 37 (.tmp 2) (.tmp 24), _, _, _, _⟩) rfl 37 (.tmp 2) (.tmp 24) rfl w.heap.size #[.string (strB []), .slice none 0 0, .slice none 0 0] rfl rfl _ _ (hal k2) info_cmd rfl (by simp [Value.oneCell']) ?_)
  refine bodyPost_ret (res_ct rfl _ _ _ 37 #[.string (strB []), .slice none 0 0, .slice none 0 0] (0, 0) _ (.int .i64 20) rfl (hrs (hal k2)) rfl Tryd.underlying37 rfl info_cmd) rfl ?_
  exact ⟨_, _, _, rfl, CmdV.no _ _, below_row (al HB2.out HB2.out.size) (Nat.le_refl _)⟩
theorem find_form {x : List UInt8} {f : List UInt8 × Nat × Bool} (hf : formsL.find? (isW x) = some f) (W : World) : Calls Tryd.prog 31 #[.string (strB x)] W fun e w' => e = .returned (.tuple #[.agg #[.string (strB f.1), .int .i64 (f.2.1 : Nat), .bool f.2.2], .bool true]) ∧ Below W.heap.size W w' := by
  have := find_any x W
  unfold findV at this
  rwa [hf] at this
set_option maxRecDepth 100000 in
set_option maxHeartbeats 8000000 in
theorem read_long (l : List UInt8) (k : Nat) (w : World) (hl : l.length ≤ 1000000) (hM : MaxI w) (hE : ErrI w) (hS : SynI w) (hf : formsL.find? (isW ((splA 32 l).getD 0 [])) = some ((splA 32 l).getD 0 [], k, true)) :
    Calls Tryd.prog 18 #[.string (strB l)] w (RdR w (readP l)) := by
  obtain ⟨u0, hu, hu0, hu1, hu2⟩ := info_parts info_u64
  obtain ⟨_, hk3, hfS⟩ := readP_some hf
  have HFS := Lib.hid hfS
  have HSp : Hid (∀ W, Below w.heap.size w W → Calls Tryd.prog 30 #[.string (strB l), .string ⟨#[32]⟩] W fun e w' => ∃ b, e = .returned (.slice (some ⟨b, 0, none⟩) (splA 32 l).length (splA 32 l).length) ∧ W.heap.size ≤ b ∧ StrRow w' b (splA 32 l) ∧ Below W.heap.size W w') := fun W hb => (Split_any 32 l W hl (hM.keep hb)).mono fun e w' ⟨h1, h2, h3⟩ => ⟨_, h1, Nat.le_refl _, h2, h3⟩
  have HFd := Lib.hid (fun W => find_form hf W)
  obtain ⟨x, hx⟩ : ∃ x, (splA 32 l)[0]? = some x := ⟨_, List.getElem?_eq_getElem (List.length_pos_iff.2 (splA_ne 32 l))⟩
  have e0 : (splA 32 l).getD 0 [] = x := by rw [List.getD_eq_getElem?_getD, hx]; rfl
  simp only [e0] at HFd
  have E0 := Lib.hid e0
  have hn1 : 1 ≤ (splA 32 l).length := List.length_pos_iff.2 (splA_ne 32 l)
  have hn2 := splA_len 32 l
  have HX := Lib.hid hx
  have HE := Lib.hid hE
  have HS := Lib.hid hS
  obtain ⟨S, hS'⟩ : ∃ S, S = strB l := ⟨_, rfl⟩
  rw [← hS'] at HSp ⊢
  obtain ⟨n, hn⟩ : ∃ n, n = (splA 32 l).length := ⟨_, rfl⟩
  have HN := Lib.hid hn
  rw [← hn] at hn1 hn2 HSp
  obtain ⟨X, hX⟩ : ∃ X, X = strB x := ⟨_, rfl⟩
  rw [← hX] at HFd
  have HXX := Lib.hid hX
  clear hf hM hS' hx e0 hfS hn hE hS hX
  have hn1' : (0 : Int) < (n : Int) := by omega
  obtain ⟨R, hR⟩ : ∃ R, R = readP l := ⟨_, rfl⟩
  rw [← hR]
  have HR := Lib.hid hR
  clear hR
  by_cases hw : n = k + 2
  · have hne : ((n : Int) != 1 + (k : Int) + 1) = false := by rw [bne_eq_false_iff_eq]; omega
    have hle : 1 + (k : Int) ≤ (n : Int) := by omega
    have hcap : ¬ n = 1 := by omega
    have hcap2 : ¬ 1 = n := by omega
    have HW := Lib.hid hw
    have e44 : 1 + k - 1 = k := by omega
    have E44 := Lib.hid e44
    clear hw e44
    go_enter Tryd.func18, Tryd.ntmps18
    go_wp2_with fail
    refine Calls.mono (HSp.out _ (al (Below.refl _ _) (Nat.le_refl _))) ?_
    rintro e w1 ⟨gs, rfl, hgs, hr, hb⟩
    obtain ⟨hb1, k1, hs1⟩ := one_of hb
    have HB1 := Lib.hid hb1
    have HRW := Lib.hid hr
    have hc0 := hr 0 x HX.out
    rw [← HXX.out] at hc0
    clear hr hb hb1
    go_wp2_with fail
    refine Calls.mono (HFd.out _) ?_
    rintro e w2 ⟨rfl, hb⟩
    have HB2 := Lib.hid (bl HB1.out hb HB1.out.size)
    have k2 := (hb.block _ (lt_of_block k1)).trans k1
    have HRW2 := Lib.hid (HRW.out.keep hb)
    clear hb hc0 k1 HB1 HRW
    go_wp2
    have k5 : ((w2.alloc (.cells #[.string X, .int .i64 (k : Nat), .bool true] 69 (0, 0))).alloc (.cells #[.string X, .slice none 0 0, .slice none 0 0] 37 (0, 0))).heap[w2.heap.size]? = some (.cells #[.string X, .int .i64 (k : Nat), .bool true] 69 (0, 0)) := hal (hnew rfl)
    have k8 : ((w2.alloc (.cells #[.string X, .int .i64 (k : Nat), .bool true] 69 (0, 0))).alloc (.cells #[.string X, .slice none 0 0, .slice none 0 0] 37 (0, 0))).heap[w2.heap.size + 1]? = some (.cells #[.string X, .slice none 0 0, .slice none 0 0] 37 (0, 0)) := hnew (by simp)
    have k2' := hal (o := (.cells #[.string X, .slice none 0 0, .slice none 0 0] 37 (0, 0))) (hal (o := (.cells #[.string X, .int .i64 (k : Nat), .bool true] 69 (0, 0))) k2)
    have BW : Hid (Below w.heap.size w ((w2.alloc (.cells #[.string X, .int .i64 (k : Nat), .bool true] 69 (0, 0))).alloc (.cells #[.string X, .slice none 0 0, .slice none 0 0] 37 (0, 0)))) := al (al HB2.out HB2.out.size) (by have := HB2.out.size; simp; omega)
    have RW : Hid (StrRow ((w2.alloc (.cells #[.string X, .int .i64 (k : Nat), .bool true] 69 (0, 0))).alloc (.cells #[.string X, .slice none 0 0, .slice none 0 0] 37 (0, 0))) gs (splA 32 l)) := HRW2.out.keep (al (al (Below.refl _ _) (Nat.le_refl _)) (by simp))
    obtain ⟨g5, hg5⟩ : ∃ g5, g5 = w2.heap.size := ⟨_, rfl⟩
    obtain ⟨g8, hg8⟩ : ∃ g8, g8 = g5 + 1 := ⟨_, rfl⟩
    have hgl : w.heap.size < g8 ∧ g5 < g8 ∧ gs < g8 := by have h1 := lt_of_block k2; have h2 := HB2.out.size; have h3 : gs < w2.heap.size := lt_of_cell (HRW2.out 0 x HX.out); omega
    rw [← hg5] at k5 k8 ⊢
    rw [← hg8] at k8 ⊢
    try rw [E44.out]
    generalize (w2.alloc (.cells #[.string X, .int .i64 (k : Nat), .bool true] 69 (0, 0))).alloc (.cells #[.string X, .slice none 0 0, .slice none 0 0] 37 (0, 0)) = w3 at *
    clear HB2 HRW2 k2 hg5 hg8 HSp HFd hs1 hgs
    have K5 := Lib.hid k5
    have K8 := Lib.hid k8
    have K2 := Lib.hid k2'
    have HGL := Lib.hid hgl
    clear k5 k8 k2' hgl hne hle hcap hcap2
    go_loopw [10, 11, 12, 46] (fun _ _ _ iv wr => ∃ (i : Nat) (q : Option Addr) (c : Nat) (ns : List Nat), i ≤ k ∧ iv = .int .i64 i ∧ Hid (numsP (((splA 32 l).drop 1).take i) = some ns) ∧ Hid (wr.ownsRow g8 48 1 (.slice q i c) i (ns.map encU)) ∧ Hid (wr.heap[g8]? = some (.cells #[.string X, .slice q i c, .slice none 0 0] 37 (0, 0))) ∧ Hid (wr.heap[g5]? = some (.cells #[.string X, .int .i64 (k : Nat), .bool true] 69 (0, 0))) ∧ Hid (wr.heap[w.heap.size]? = some (.cells #[.string (strB []), .slice none 0 0, .slice none 0 0] 37 (0, 0))) ∧ Hid (StrRow wr gs (splA 32 l)) ∧ Hid (Below w.heap.size w wr)) (fun _ _ _ iv _ => k - (intOf iv).toNat)
    case atStart => exact ⟨0, none, 0, [], Nat.zero_le _, rfl, rfl, World.ownsRow_nil _ _ _ _, K8.out, K5.out, K2.out, RW.out, BW.out⟩
    case round =>
      obtain ⟨i, q, c, ns, hik, rfl, HNs, HO, H8, H5, H2, HRr, HBr⟩ := hrel
      clear K5 K8 K2 RW BW
      by_cases hlt : i < k
      · obtain ⟨a, ha⟩ : ∃ a, (splA 32 l)[1 + i]? = some a := ⟨_, List.getElem?_eq_getElem (by have := HN.out; have := HW.out; omega)⟩
        have ca := HRr.out (1 + i) a ha
        have hai : (((splA 32 l).drop 1))[i]? = some a := by rw [List.getElem?_drop]; exact ha
        have hal2 : a.length ≤ 1000000 := Nat.le_trans (spl_shortC _ _ _ _ (List.mem_of_getElem? ha)) hl
        have HRN := Lib.hid (readNumber_any a wr hal2 (HE.out.keep HBr.out) (HS.out.keep HBr.out))
        obtain ⟨A, hA⟩ : ∃ A, A = strB a := ⟨_, rfl⟩
        rw [← hA] at ca HRN
        have hlt' : (i : Int) < (k : Int) := by omega
        have HA := Lib.hid hai
        have HLT := Lib.hid hlt
        clear ha hai hal2 hA hlt
        go_wp2_with fail
        refine Calls.mono HRN.out ?_
        rintro e w4 ⟨v, rfl, ⟨y, rfl, hy⟩, hb⟩
        have HB4 := Lib.hid (bl HBr.out hb HBr.out.size)
        have HO4 := Lib.hid (owns_keep HO.out hb)
        have H84 := Lib.hid ((hb.block _ (lt_of_block H8.out)).trans H8.out)
        have H54 := Lib.hid ((hb.block _ (lt_of_block H5.out)).trans H5.out)
        have H24 := Lib.hid ((hb.block _ (lt_of_block H2.out)).trans H2.out)
        have HR4 := Lib.hid (HRr.out.keep hb)
        clear hb ca HRN HO H8 H5 H2 HRr HBr
        cases hnb : numB 18446744073709551615 a with
        | none =>
          have HRes : Hid (R = (14, noCmd)) := HR.out.trans (readP_nums HFS.out (by have := HN.out; have := HW.out; show _ = 1 + k + 1; omega) (numsP_bad (i := i) (a := a) (X := ns) (by rw [List.take_take, Nat.min_eq_left (by have := HLT.out; omega)]; exact HNs.out) (by rw [List.getElem?_take, if_pos HLT.out]; exact HA.out) hnb))
          have H22 := H24.out
          clear hnb hy HNs HO4 H84 H54 HR4 H24
          go_wp2_with (refine wpList_store_row (o := ⟨none, .store 37 (.tmp 2) (.tmp 57), _, _, _, _⟩) rfl 37 (.tmp 2) (.tmp 57) rfl w.heap.size #[.string (strB []), .slice none 0 0, .slice none 0 0] rfl rfl _ _ H22 info_cmd rfl (by simp [Value.oneCell']) ?_)
          refine bodyPost_ret (res_ct rfl _ _ _ 37 #[.string (strB []), .slice none 0 0, .slice none 0 0] (0, 0) _ (.int .i64 14) rfl (hrs H22) rfl Tryd.underlying37 rfl info_cmd) rfl ?_
          exact ⟨_, _, _, by rw [HRes.out], by rw [HRes.out]; exact CmdV.no _ _, below_row HB4.out (Nat.le_refl _)⟩
        | some z =>
          obtain rfl : y = z := hy z hnb
          have HNB := Lib.hid hnb
          obtain ⟨c0, c1, c2⟩ := cells_three H84.out
          have z1 := frozen_of_row _ _ 1 _ _ H84.out
          have hOA : Hid (∀ o, (w4.alloc o).ownsRow g8 48 1 (.slice q i c) i (ns.map encU)) := fun o => owns_keep HO4.out (al (Below.refl _ _) (Nat.le_refl _))
          have hszw := HB4.out.size
          clear hnb hy
          go_wp2_with (at_builtin; go_loud (refine wpList_append_own _ rfl _ _ 34 rfl g8 48 u0 (.int .u64 0) 1 8 Tryd.underlying34 hu hu0 hu1 hu2 rfl (by omega) _ i (ns.map encU) rfl (hOA.out _) ⟨w4.heap.size, 0, none⟩ 1 1 [encU y] rfl rfl (one_cellI rfl) ?c2 ?c3 ?c4 ?c5 ?_))
          case c2 => first | rfl | (intro y hy; simp at hy; subst hy; rfl)
          case c3 => unfold maxLen; omega
          case c4 => omega
          case c5 => have := lt_of_block H84.out; first | omega | (simp; omega)
          intro v' w' ho' hg' _
          obtain ⟨q', c', rfl⟩ := owns_shape ho'
          have H8' := grown_other (hOA.out _) hg' (hal H84.out) (by decide)
          have BG : Hid (Below g8 w4 w') := (al (Below.refl _ _) (Nat.le_of_lt (lt_of_block H84.out))).grown hg' (by have := lt_of_block H84.out; simp; omega) (fun rr hrr => (HO4.out.lt rr hrr).1)
          have HO5 : Hid (w'.ownsRow g8 48 1 (.slice q' (i + 1) c') (i + 1) ((ns ++ [y]).map encU)) := by
            show World.ownsRow _ _ _ _ _ _ _
            rw [List.map_append]; exact ho'
          have HNs5 := Lib.hid (numsP_step HNs.out HA.out HNB.out)
          obtain ⟨d0, d1, d2⟩ := cells_three H8'
          have z1 := frozen_of_row _ _ 1 _ _ H8'
          have HH8 := Lib.hid H8'
          clear ho' hg' c0 c1 c2 hOA HO4 HNs HA HNB H8'
          go_wp2
          have BF : Hid (Below g8 w4 (w'.setCell ⟨g8, 1, none⟩ (.slice q' (i + 1) c'))) := (BG.out).setCell (Nat.le_refl _) _
          go_roundw
          case rel => exact ⟨i + 1, q', c', ns ++ [y], HLT.out, by go_num, HNs5.out, ownsRow_setCell_other HO5.out (owns_block_ne HO5.out HH8.out (by decide)) _, hss HH8.out, (BF.out.block _ HGL.out.2.1).trans H54.out, (BF.out.block _ HGL.out.1).trans H24.out, fun j z hj => (BF.out.cell (p := ⟨gs, j, none⟩) HGL.out.2.2).trans (HR4.out j z hj), HB4.out.trans (BF.out.mono (by have := HGL.out; omega))⟩
          case measure => simp [intOf]; have := HLT.out; omega
      · obtain rfl : i = k := by omega
        obtain ⟨a, ha⟩ : ∃ a, (splA 32 l)[1 + i]? = some a := ⟨_, List.getElem?_eq_getElem (by have := HN.out; have := HW.out; omega)⟩
        have ca := HRr.out (1 + i) a ha
        have hal2 : a.length ≤ 1000000 := Nat.le_trans (spl_shortC _ _ _ _ (List.mem_of_getElem? ha)) hl
        have HRB := Lib.hid (readBytes_any a wr hal2)
        have HNF : Hid (numsP (((splA 32 l).drop 1).take i) = some ns) := HNs.out
        have HA : Hid ((splA 32 l).getD (i + 1) [] = a) := by show _ = _; rw [List.getD_eq_getElem?_getD, Nat.add_comm, ha]; rfl
        obtain ⟨A, hA⟩ : ∃ A, A = strB a := ⟨_, rfl⟩
        rw [← hA] at ca HRB
        have hin : (i : Int) + 1 < (n : Int) := by have := HW.out; omega
        obtain ⟨d0, d1, d2⟩ := cells_three H5.out
        clear ha hal2 hA hlt HNs
        go_wp2_with fail
        refine Calls.mono HRB.out ?_
        rintro e w4 ⟨q2, n2, c2, rfl, hfr, hb⟩
        have HB4 := Lib.hid (bl HBr.out hb HBr.out.size)
        have HO4 := Lib.hid (owns_keep HO.out hb)
        have H84 := Lib.hid ((hb.block _ (lt_of_block H8.out)).trans H8.out)
        have H24 := Lib.hid ((hb.block _ (lt_of_block H2.out)).trans H2.out)
        have HF4 := Lib.hid (hfr.mono HBr.out.size)
        have b0 := cell_of_row _ _ 2 _ _ _ H84.out
        have z2 := frozen_of_row _ _ 2 _ _ H84.out
        clear hb hfr ca HRB HO H8 H5 H2 HRr HBr d0 d1 d2
        have hgs := Lib.hid (show Below g8 w4 (w4.setCell ⟨g8, 2, none⟩ (.slice q2 n2 c2)) from (Below.refl g8 w4).setCell (Nat.le_refl g8) _)
        have H85 : Hid ((w4.setCell ⟨g8, 2, none⟩ (.slice q2 n2 c2)).heap[g8]? = some (.cells #[.string X, .slice q i c, .slice q2 n2 c2] 37 (0, 0))) := hss H84.out
        have H25 := Lib.hid ((hgs.out.block _ HGL.out.1).trans H24.out)
        have HO5 : Hid ((w4.setCell ⟨g8, 2, none⟩ (.slice q2 n2 c2)).ownsRow g8 48 1 (.slice q i c) i (ns.map encU)) := ownsRow_setCell_other HO4.out (owns_block_ne HO4.out H84.out (by decide)) _
        have HF5 := Lib.hid (HF4.out.cellI (v := .slice q2 n2 c2) (i := 2) H84.out (by decide))
        have HB5 := Lib.hid (HB4.out.trans (hgs.out.mono (by have := HGL.out; omega)))
        cases hy : bytesP a with
        | none =>
          have HRes : Hid (R = (14, noCmd)) := HR.out.trans (readP_bad HFS.out (by have := HN.out; have := HW.out; show _ = 1 + i + 1; omega) HNF.out rfl (by rw [HA.out]; exact hy))
          clear hy
          go_upto_region 21 with (fail)
          generalize w4.setCell ⟨g8, 2, none⟩ (.slice q2 n2 c2) = w5 at *
          clear b0 z2 HB4 HO4 H84 H24 HF4 hgs
          have H26 := H25.out
          go_wp2_with (refine wpList_store_row (o := ⟨none, .store 37 (.tmp 2) (.tmp 79), _, _, _, _⟩) rfl 37 (.tmp 2) (.tmp 79) rfl w.heap.size #[.string (strB []), .slice none 0 0, .slice none 0 0] rfl rfl _ _ H26 info_cmd rfl (by simp [Value.oneCell']) ?_)
          refine bodyPost_ret (res_ct rfl _ _ _ 37 #[.string (strB []), .slice none 0 0, .slice none 0 0] (0, 0) _ (.int .i64 14) rfl (hrs H26) rfl Tryd.underlying37 rfl info_cmd) rfl ?_
          exact ⟨_, _, _, by rw [HRes.out], by rw [HRes.out]; exact CmdV.no _ _, below_row HB5.out (Nat.le_refl _)⟩
        | some m =>
          have HRes : Hid (R = (0, ⟨x, ns, m⟩)) := by
            have := HR.out.trans (readP_full HFS.out (by have := HN.out; have := HW.out; show _ = 1 + i + 1; omega) HNF.out rfl (by rw [HA.out]; exact hy))
            rw [E0.out] at this
            exact this
          rw [hy] at HF5 HF4
          clear hy
          go_upto_region 21 with (fail)
          generalize w4.setCell ⟨g8, 2, none⟩ (.slice q2 n2 c2) = w5 at *
          clear b0 z2 HB4 HO4 H84 H24 HF4 hgs
          have H26 := H25.out
          obtain ⟨d0, d1, d2⟩ := cells_three H85.out
          go_wp2_with (refine wpList_store_row (o := ⟨none, .store 37 (.tmp 2) (.tmp 80), _, _, _, _⟩) rfl 37 (.tmp 2) (.tmp 80) rfl w.heap.size #[.string X, .slice q i c, .slice q2 n2 c2] rfl rfl _ _ H26 info_cmd rfl (by simp [Value.oneCell']) ?_)
          refine bodyPost_ret (res_ct rfl _ _ _ 37 #[.string X, .slice q i c, .slice q2 n2 c2] (0, 0) _ (.int .i64 0) rfl (hrs H26) rfl Tryd.underlying37 rfl info_cmd) rfl ?_
          refine ⟨_, _, _, by rw [HRes.out], ?_, below_row HB5.out (Nat.le_refl _)⟩
          rw [HRes.out]
          refine ⟨by rw [HXX.out], ⟨q, i, c, rfl, ?_⟩, q2, n2, c2, rfl, HF5.out.row H26 (by decide)⟩
          exact owns_mono (owns_setRow HO5.out H26 (by decide)) (Nat.le_of_lt HGL.out.1)
  · have hne : ((n : Int) != 1 + (k : Int) + 1) = true := bne_iff_ne.2 (by omega)
    have HRes : Hid (R = (14, noCmd)) := HR.out.trans (readP_len HFS.out (by have := HN.out; show _ ≠ 1 + k + 1; omega))
    clear hw
    go_enter Tryd.func18, Tryd.ntmps18
    go_wp2_with fail
    refine Calls.mono (HSp.out _ (al (Below.refl _ _) (Nat.le_refl _))) ?_
    rintro e w1 ⟨gs, rfl, hgs, hr, hb⟩
    obtain ⟨hb1, k1, hs1⟩ := one_of hb
    have HB1 := Lib.hid hb1
    have hc0 := hr 0 x HX.out
    rw [← HXX.out] at hc0
    clear hr hb hb1
    go_wp2_with fail
    refine Calls.mono (HFd.out _) ?_
    rintro e w2 ⟨rfl, hb⟩
    have HB2 := Lib.hid (bl HB1.out hb HB1.out.size)
    have k2 := (hb.block _ (lt_of_block k1)).trans k1
    clear hb hc0 k1 HB1
    have K3 := hal (o := (.cells #[.string X, .int .i64 (k : Nat), .bool true] 69 (0, 0))) k2
    go_wp2_with (refine wpList_store_row (o := ⟨none, .store 37 (.tmp 2) (.tmp 36), _, _, _, _⟩) rfl 37 (.tmp 2) (.tmp 36) rfl w.heap.size #[.string (strB []), .slice none 0 0, .slice none 0 0] rfl rfl _ _ K3 info_cmd rfl (by simp [Value.oneCell']) ?_)
    refine bodyPost_ret (res_ct rfl _ _ _ 37 #[.string (strB []), .slice none 0 0, .slice none 0 0] (0, 0) _ (.int .i64 14) rfl (hrs K3) rfl Tryd.underlying37 rfl info_cmd) rfl ?_
    exact ⟨_, _, _, by rw [HRes.out], by rw [HRes.out]; exact CmdV.no _ _, below_row (al HB2.out HB2.out.size) (Nat.le_refl _)⟩
set_option maxRecDepth 100000 in
set_option maxHeartbeats 4000000 in
theorem read_zero (l : List UInt8) (w : World) (hl : l.length ≤ 1000000) (S X : ByteArray) (x : List UInt8) (R : Int × Cmd) (HFS : Hid (formS ((partsP l).getD 0 []) = some (0, false))) (HR : Hid (R = readP l)) (HX : Hid ((splA 32 l)[0]? = some x)) (HN : Hid (1 = (splA 32 l).length)) (HXX : Hid (X = strB x)) (E0 : Hid ((splA 32 l).getD 0 [] = x))
    (HSp : Hid (∀ W, Below w.heap.size w W → Calls Tryd.prog 30 #[.string S, .string ⟨#[32]⟩] W fun e w' => ∃ b, e = .returned (.slice (some ⟨b, 0, none⟩) 1 1) ∧ W.heap.size ≤ b ∧ StrRow w' b (splA 32 l) ∧ Below W.heap.size W w'))
    (HFd : Hid (∀ W, Calls Tryd.prog 31 #[.string X] W fun e w' => e = .returned (.tuple #[.agg #[.string X, .int .i64 ((0 : Nat) : Int), .bool false], .bool true]) ∧ Below W.heap.size W w')) :
    Calls Tryd.prog 18 #[.string S] w (RdR w R) := by
  have HRes : Hid (R = (0, ⟨x, [], []⟩)) := by
    have := HR.out.trans (readP_plain (ns := []) HFS.out (by have := HN.out; show _ = 1 + 0 + 0; omega) rfl rfl)
    rw [E0.out] at this
    exact this
  clear HFS HR
  go_enter Tryd.func18, Tryd.ntmps18
  go_wp2_with fail
  refine Calls.mono (HSp.out _ (al (Below.refl _ _) (Nat.le_refl _))) ?_
  rintro e w1 ⟨gs, rfl, hgs, hr, hb⟩
  obtain ⟨hb1, k1, hs1⟩ := one_of hb
  have HB1 := Lib.hid hb1
  have hc0 := hr 0 x HX.out
  rw [← HXX.out] at hc0
  clear hr hb hb1
  go_wp2_with fail
  refine Calls.mono (HFd.out _) ?_
  rintro e w2 ⟨rfl, hb⟩
  have HB2 := Lib.hid (bl HB1.out hb HB1.out.size)
  have k2 := (hb.block _ (lt_of_block k1)).trans k1
  clear hb hc0 k1 HB1
  go_wp2
  have k8 : ((w2.alloc (.cells #[.string X, .int .i64 0, .bool false] 69 (0, 0))).alloc (.cells #[.string X, .slice none 0 0, .slice none 0 0] 37 (0, 0))).heap[w2.heap.size + 1]? = some (.cells #[.string X, .slice none 0 0, .slice none 0 0] 37 (0, 0)) := hnew (by simp)
  have k5 : ((w2.alloc (.cells #[.string X, .int .i64 0, .bool false] 69 (0, 0))).alloc (.cells #[.string X, .slice none 0 0, .slice none 0 0] 37 (0, 0))).heap[w2.heap.size]? = some (.cells #[.string X, .int .i64 0, .bool false] 69 (0, 0)) := hal (hnew rfl)
  have k2' := hal (o := (.cells #[.string X, .slice none 0 0, .slice none 0 0] 37 (0, 0))) (hal (o := (.cells #[.string X, .int .i64 0, .bool false] 69 (0, 0))) k2)
  have BW : Hid (Below w.heap.size w ((w2.alloc (.cells #[.string X, .int .i64 0, .bool false] 69 (0, 0))).alloc (.cells #[.string X, .slice none 0 0, .slice none 0 0] 37 (0, 0)))) := al (al HB2.out HB2.out.size) (by have := HB2.out.size; simp; omega)
  generalize (w2.alloc (.cells #[.string X, .int .i64 0, .bool false] 69 (0, 0))).alloc (.cells #[.string X, .slice none 0 0, .slice none 0 0] 37 (0, 0)) = w3 at *
  clear HB2 k2 HSp HFd hs1 hgs
  go_loopw [46] (fun iv wr => iv = .int .i64 0 ∧ wr = w3) (fun _ _ => 0)
  case atStart => exact ⟨rfl, rfl⟩
  case round =>
    obtain ⟨rfl, rfl⟩ := hrel
    obtain ⟨d0, d1, d2⟩ := cells_three k8
    obtain ⟨f0, f1, f2⟩ := cells_three k5
    go_wp2_with (refine wpList_store_row (o := ⟨none, .store 37 (.tmp 2) (.tmp 80), _, _, _, _⟩) rfl 37 (.tmp 2) (.tmp 80) rfl w.heap.size #[.string X, .slice none 0 0, .slice none 0 0] rfl rfl _ _ k2' info_cmd rfl (by simp [Value.oneCell']) ?_)
    refine bodyPost_ret (res_ct rfl _ _ _ 37 #[.string X, .slice none 0 0, .slice none 0 0] (0, 0) _ (.int .i64 0) rfl (hrs k2') rfl Tryd.underlying37 rfl info_cmd) rfl ?_
    refine ⟨_, _, _, by rw [HRes.out], ?_, below_row BW.out (Nat.le_refl _)⟩
    rw [HRes.out]
    exact ⟨by rw [HXX.out], ⟨none, 0, 0, rfl, World.ownsRow_nil _ _ _ _⟩, none, 0, 0, rfl, Fresh.none _ _ _⟩
set_option maxRecDepth 100000 in
set_option maxHeartbeats 8000000 in
theorem read_short (l : List UInt8) (k : Nat) (w : World) (hl : l.length ≤ 1000000) (hM : MaxI w) (hE : ErrI w) (hS : SynI w) (hf : formsL.find? (isW ((splA 32 l).getD 0 [])) = some ((splA 32 l).getD 0 [], k, false)) :
    Calls Tryd.prog 18 #[.string (strB l)] w (RdR w (readP l)) := by
  obtain ⟨u0, hu, hu0, hu1, hu2⟩ := info_parts info_u64
  obtain ⟨_, hk3, hfS⟩ := readP_some hf
  have HFS := Lib.hid hfS
  have HSp : Hid (∀ W, Below w.heap.size w W → Calls Tryd.prog 30 #[.string (strB l), .string ⟨#[32]⟩] W fun e w' => ∃ b, e = .returned (.slice (some ⟨b, 0, none⟩) (splA 32 l).length (splA 32 l).length) ∧ W.heap.size ≤ b ∧ StrRow w' b (splA 32 l) ∧ Below W.heap.size W w') := fun W hb => (Split_any 32 l W hl (hM.keep hb)).mono fun e w' ⟨h1, h2, h3⟩ => ⟨_, h1, Nat.le_refl _, h2, h3⟩
  have HFd := Lib.hid (fun W => find_form hf W)
  obtain ⟨x, hx⟩ : ∃ x, (splA 32 l)[0]? = some x := ⟨_, List.getElem?_eq_getElem (List.length_pos_iff.2 (splA_ne 32 l))⟩
  have e0 : (splA 32 l).getD 0 [] = x := by rw [List.getD_eq_getElem?_getD, hx]; rfl
  simp only [e0] at HFd
  have E0 := Lib.hid e0
  have hn1 : 1 ≤ (splA 32 l).length := List.length_pos_iff.2 (splA_ne 32 l)
  have hn2 := splA_len 32 l
  have HX := Lib.hid hx
  have HE := Lib.hid hE
  have HS := Lib.hid hS
  obtain ⟨S, hS'⟩ : ∃ S, S = strB l := ⟨_, rfl⟩
  rw [← hS'] at HSp ⊢
  obtain ⟨n, hn⟩ : ∃ n, n = (splA 32 l).length := ⟨_, rfl⟩
  have HN := Lib.hid hn
  rw [← hn] at hn1 hn2 HSp
  obtain ⟨X, hX⟩ : ∃ X, X = strB x := ⟨_, rfl⟩
  rw [← hX] at HFd
  have HXX := Lib.hid hX
  clear hf hM hS' hx e0 hfS hn hE hS hX
  have hn1' : (0 : Int) < (n : Int) := by omega
  obtain ⟨R, hR⟩ : ∃ R, R = readP l := ⟨_, rfl⟩
  rw [← hR]
  have HR := Lib.hid hR
  clear hR
  by_cases hw : n = k + 1
  · have hne : ((n : Int) != 1 + (k : Int)) = false := by rw [bne_eq_false_iff_eq]; omega
    have hle : 1 + (k : Int) ≤ (n : Int) := by omega
    rcases Nat.eq_zero_or_pos k with hk0 | hk0
    · subst hk0
      obtain rfl : n = 1 := by omega
      have HFa := HFS; have HRa := HR; have HXa := HX; have HSpa := HSp; have HFda := HFd
      exact read_zero l w hl S X x R HFa HRa HXa HN HXX E0 HSpa HFda
    have hcap : ¬ n = 1 := by omega
    have hcap2 : ¬ 1 = n := by omega
    have HW := Lib.hid hw
    have e44 : 1 + k - 1 = k := by omega
    have E44 := Lib.hid e44
    clear hw e44
    go_enter Tryd.func18, Tryd.ntmps18
    go_wp2_with fail
    refine Calls.mono (HSp.out _ (al (Below.refl _ _) (Nat.le_refl _))) ?_
    rintro e w1 ⟨gs, rfl, hgs, hr, hb⟩
    obtain ⟨hb1, k1, hs1⟩ := one_of hb
    have HB1 := Lib.hid hb1
    have HRW := Lib.hid hr
    have hc0 := hr 0 x HX.out
    rw [← HXX.out] at hc0
    clear hr hb hb1
    go_wp2_with fail
    refine Calls.mono (HFd.out _) ?_
    rintro e w2 ⟨rfl, hb⟩
    have HB2 := Lib.hid (bl HB1.out hb HB1.out.size)
    have k2 := (hb.block _ (lt_of_block k1)).trans k1
    have HRW2 := Lib.hid (HRW.out.keep hb)
    clear hb hc0 k1 HB1 HRW
    go_wp2
    have k5 : ((w2.alloc (.cells #[.string X, .int .i64 (k : Nat), .bool false] 69 (0, 0))).alloc (.cells #[.string X, .slice none 0 0, .slice none 0 0] 37 (0, 0))).heap[w2.heap.size]? = some (.cells #[.string X, .int .i64 (k : Nat), .bool false] 69 (0, 0)) := hal (hnew rfl)
    have k8 : ((w2.alloc (.cells #[.string X, .int .i64 (k : Nat), .bool false] 69 (0, 0))).alloc (.cells #[.string X, .slice none 0 0, .slice none 0 0] 37 (0, 0))).heap[w2.heap.size + 1]? = some (.cells #[.string X, .slice none 0 0, .slice none 0 0] 37 (0, 0)) := hnew (by simp)
    have k2' := hal (o := (.cells #[.string X, .slice none 0 0, .slice none 0 0] 37 (0, 0))) (hal (o := (.cells #[.string X, .int .i64 (k : Nat), .bool false] 69 (0, 0))) k2)
    have BW : Hid (Below w.heap.size w ((w2.alloc (.cells #[.string X, .int .i64 (k : Nat), .bool false] 69 (0, 0))).alloc (.cells #[.string X, .slice none 0 0, .slice none 0 0] 37 (0, 0)))) := al (al HB2.out HB2.out.size) (by have := HB2.out.size; simp; omega)
    have RW : Hid (StrRow ((w2.alloc (.cells #[.string X, .int .i64 (k : Nat), .bool false] 69 (0, 0))).alloc (.cells #[.string X, .slice none 0 0, .slice none 0 0] 37 (0, 0))) gs (splA 32 l)) := HRW2.out.keep (al (al (Below.refl _ _) (Nat.le_refl _)) (by simp))
    obtain ⟨g5, hg5⟩ : ∃ g5, g5 = w2.heap.size := ⟨_, rfl⟩
    obtain ⟨g8, hg8⟩ : ∃ g8, g8 = g5 + 1 := ⟨_, rfl⟩
    have hgl : w.heap.size < g8 ∧ g5 < g8 ∧ gs < g8 := by have h1 := lt_of_block k2; have h2 := HB2.out.size; have h3 : gs < w2.heap.size := lt_of_cell (HRW2.out 0 x HX.out); omega
    rw [← hg5] at k5 k8 ⊢
    rw [← hg8] at k8 ⊢
    try rw [E44.out]
    generalize (w2.alloc (.cells #[.string X, .int .i64 (k : Nat), .bool false] 69 (0, 0))).alloc (.cells #[.string X, .slice none 0 0, .slice none 0 0] 37 (0, 0)) = w3 at *
    clear HB2 HRW2 k2 hg5 hg8 HSp HFd hs1 hgs
    have K5 := Lib.hid k5
    have K8 := Lib.hid k8
    have K2 := Lib.hid k2'
    have HGL := Lib.hid hgl
    clear k5 k8 k2' hgl hne hle hcap hcap2
    go_loopw [10, 11, 12, 46] (fun _ _ _ iv wr => ∃ (i : Nat) (q : Option Addr) (c : Nat) (ns : List Nat), i ≤ k ∧ iv = .int .i64 i ∧ Hid (numsP (((splA 32 l).drop 1).take i) = some ns) ∧ Hid (wr.ownsRow g8 48 1 (.slice q i c) i (ns.map encU)) ∧ Hid (wr.heap[g8]? = some (.cells #[.string X, .slice q i c, .slice none 0 0] 37 (0, 0))) ∧ Hid (wr.heap[g5]? = some (.cells #[.string X, .int .i64 (k : Nat), .bool false] 69 (0, 0))) ∧ Hid (wr.heap[w.heap.size]? = some (.cells #[.string (strB []), .slice none 0 0, .slice none 0 0] 37 (0, 0))) ∧ Hid (StrRow wr gs (splA 32 l)) ∧ Hid (Below w.heap.size w wr)) (fun _ _ _ iv _ => k - (intOf iv).toNat)
    case atStart => exact ⟨0, none, 0, [], Nat.zero_le _, rfl, rfl, World.ownsRow_nil _ _ _ _, K8.out, K5.out, K2.out, RW.out, BW.out⟩
    case round =>
      obtain ⟨i, q, c, ns, hik, rfl, HNs, HO, H8, H5, H2, HRr, HBr⟩ := hrel
      clear K5 K8 K2 RW BW
      by_cases hlt : i < k
      · obtain ⟨a, ha⟩ : ∃ a, (splA 32 l)[1 + i]? = some a := ⟨_, List.getElem?_eq_getElem (by have := HN.out; have := HW.out; omega)⟩
        have ca := HRr.out (1 + i) a ha
        have hai : (((splA 32 l).drop 1))[i]? = some a := by rw [List.getElem?_drop]; exact ha
        have hal2 : a.length ≤ 1000000 := Nat.le_trans (spl_shortC _ _ _ _ (List.mem_of_getElem? ha)) hl
        have HRN := Lib.hid (readNumber_any a wr hal2 (HE.out.keep HBr.out) (HS.out.keep HBr.out))
        obtain ⟨A, hA⟩ : ∃ A, A = strB a := ⟨_, rfl⟩
        rw [← hA] at ca HRN
        have hlt' : (i : Int) < (k : Int) := by omega
        have HA := Lib.hid hai
        have HLT := Lib.hid hlt
        clear ha hai hal2 hA hlt
        go_wp2_with fail
        refine Calls.mono HRN.out ?_
        rintro e w4 ⟨v, rfl, ⟨y, rfl, hy⟩, hb⟩
        have HB4 := Lib.hid (bl HBr.out hb HBr.out.size)
        have HO4 := Lib.hid (owns_keep HO.out hb)
        have H84 := Lib.hid ((hb.block _ (lt_of_block H8.out)).trans H8.out)
        have H54 := Lib.hid ((hb.block _ (lt_of_block H5.out)).trans H5.out)
        have H24 := Lib.hid ((hb.block _ (lt_of_block H2.out)).trans H2.out)
        have HR4 := Lib.hid (HRr.out.keep hb)
        clear hb ca HRN HO H8 H5 H2 HRr HBr
        cases hnb : numB 18446744073709551615 a with
        | none =>
          have HRes : Hid (R = (14, noCmd)) := HR.out.trans (readP_nums HFS.out (by have := HN.out; have := HW.out; show _ = 1 + k + 0; omega) (numsP_bad (i := i) (a := a) (X := ns) (by rw [List.take_take, Nat.min_eq_left (by have := HLT.out; omega)]; exact HNs.out) (by rw [List.getElem?_take, if_pos HLT.out]; exact HA.out) hnb))
          have H22 := H24.out
          clear hnb hy HNs HO4 H84 H54 HR4 H24
          go_wp2_with (refine wpList_store_row (o := ⟨none, .store 37 (.tmp 2) (.tmp 57), _, _, _, _⟩) rfl 37 (.tmp 2) (.tmp 57) rfl w.heap.size #[.string (strB []), .slice none 0 0, .slice none 0 0] rfl rfl _ _ H22 info_cmd rfl (by simp [Value.oneCell']) ?_)
          refine bodyPost_ret (res_ct rfl _ _ _ 37 #[.string (strB []), .slice none 0 0, .slice none 0 0] (0, 0) _ (.int .i64 14) rfl (hrs H22) rfl Tryd.underlying37 rfl info_cmd) rfl ?_
          exact ⟨_, _, _, by rw [HRes.out], by rw [HRes.out]; exact CmdV.no _ _, below_row HB4.out (Nat.le_refl _)⟩
        | some z =>
          obtain rfl : y = z := hy z hnb
          have HNB := Lib.hid hnb
          obtain ⟨c0, c1, c2⟩ := cells_three H84.out
          have z1 := frozen_of_row _ _ 1 _ _ H84.out
          have hOA : Hid (∀ o, (w4.alloc o).ownsRow g8 48 1 (.slice q i c) i (ns.map encU)) := fun o => owns_keep HO4.out (al (Below.refl _ _) (Nat.le_refl _))
          have hszw := HB4.out.size
          clear hnb hy
          go_wp2_with (at_builtin; go_loud (refine wpList_append_own _ rfl _ _ 34 rfl g8 48 u0 (.int .u64 0) 1 8 Tryd.underlying34 hu hu0 hu1 hu2 rfl (by omega) _ i (ns.map encU) rfl (hOA.out _) ⟨w4.heap.size, 0, none⟩ 1 1 [encU y] rfl rfl (one_cellI rfl) ?c2 ?c3 ?c4 ?c5 ?_))
          case c2 => first | rfl | (intro y hy; simp at hy; subst hy; rfl)
          case c3 => unfold maxLen; omega
          case c4 => omega
          case c5 => have := lt_of_block H84.out; first | omega | (simp; omega)
          intro v' w' ho' hg' _
          obtain ⟨q', c', rfl⟩ := owns_shape ho'
          have H8' := grown_other (hOA.out _) hg' (hal H84.out) (by decide)
          have BG : Hid (Below g8 w4 w') := (al (Below.refl _ _) (Nat.le_of_lt (lt_of_block H84.out))).grown hg' (by have := lt_of_block H84.out; simp; omega) (fun rr hrr => (HO4.out.lt rr hrr).1)
          have HO5 : Hid (w'.ownsRow g8 48 1 (.slice q' (i + 1) c') (i + 1) ((ns ++ [y]).map encU)) := by
            show World.ownsRow _ _ _ _ _ _ _
            rw [List.map_append]; exact ho'
          have HNs5 := Lib.hid (numsP_step HNs.out HA.out HNB.out)
          obtain ⟨d0, d1, d2⟩ := cells_three H8'
          have z1 := frozen_of_row _ _ 1 _ _ H8'
          have HH8 := Lib.hid H8'
          clear ho' hg' c0 c1 c2 hOA HO4 HNs HA HNB H8'
          go_wp2
          have BF : Hid (Below g8 w4 (w'.setCell ⟨g8, 1, none⟩ (.slice q' (i + 1) c'))) := (BG.out).setCell (Nat.le_refl _) _
          go_roundw
          case rel => exact ⟨i + 1, q', c', ns ++ [y], HLT.out, by go_num, HNs5.out, ownsRow_setCell_other HO5.out (owns_block_ne HO5.out HH8.out (by decide)) _, hss HH8.out, (BF.out.block _ HGL.out.2.1).trans H54.out, (BF.out.block _ HGL.out.1).trans H24.out, fun j z hj => (BF.out.cell (p := ⟨gs, j, none⟩) HGL.out.2.2).trans (HR4.out j z hj), HB4.out.trans (BF.out.mono (by have := HGL.out; omega))⟩
          case measure => simp [intOf]; have := HLT.out; omega
      · obtain rfl : i = k := by omega
        have HRes : Hid (R = (0, ⟨x, ns, []⟩)) := by
          have := HR.out.trans (readP_plain HFS.out (by have := HN.out; have := HW.out; show _ = 1 + i + 0; omega) HNs.out rfl)
          rw [E0.out] at this
          exact this
        have H26 := H2.out
        obtain ⟨d0, d1, d2⟩ := cells_three H8.out
        obtain ⟨f0, f1, f2⟩ := cells_three H5.out
        clear hlt HNs
        go_wp2_with (refine wpList_store_row (o := ⟨none, .store 37 (.tmp 2) (.tmp 80), _, _, _, _⟩) rfl 37 (.tmp 2) (.tmp 80) rfl w.heap.size #[.string X, .slice q i c, .slice none 0 0] rfl rfl _ _ H26 info_cmd rfl (by simp [Value.oneCell']) ?_)
        refine bodyPost_ret (res_ct rfl _ _ _ 37 #[.string X, .slice q i c, .slice none 0 0] (0, 0) _ (.int .i64 0) rfl (hrs H26) rfl Tryd.underlying37 rfl info_cmd) rfl ?_
        refine ⟨_, _, _, by rw [HRes.out], ?_, below_row HBr.out (Nat.le_refl _)⟩
        rw [HRes.out]
        refine ⟨by rw [HXX.out], ⟨q, i, c, rfl, ?_⟩, none, 0, 0, rfl, Fresh.none _ _ _⟩
        exact owns_mono (owns_setRow HO.out H26 (by decide)) (Nat.le_of_lt HGL.out.1)
  · have hne : ((n : Int) != 1 + (k : Int)) = true := bne_iff_ne.2 (by omega)
    have HRes : Hid (R = (14, noCmd)) := HR.out.trans (readP_len HFS.out (by have := HN.out; show _ ≠ 1 + k + 0; omega))
    clear hw
    go_enter Tryd.func18, Tryd.ntmps18
    go_wp2_with fail
    refine Calls.mono (HSp.out _ (al (Below.refl _ _) (Nat.le_refl _))) ?_
    rintro e w1 ⟨gs, rfl, hgs, hr, hb⟩
    obtain ⟨hb1, k1, hs1⟩ := one_of hb
    have HB1 := Lib.hid hb1
    have hc0 := hr 0 x HX.out
    rw [← HXX.out] at hc0
    clear hr hb hb1
    go_wp2_with fail
    refine Calls.mono (HFd.out _) ?_
    rintro e w2 ⟨rfl, hb⟩
    have HB2 := Lib.hid (bl HB1.out hb HB1.out.size)
    have k2 := (hb.block _ (lt_of_block k1)).trans k1
    clear hb hc0 k1 HB1
    have K3 := hal (o := (.cells #[.string X, .int .i64 (k : Nat), .bool false] 69 (0, 0))) k2
    go_wp2_with (refine wpList_store_row (o := ⟨none, .store 37 (.tmp 2) (.tmp 36), _, _, _, _⟩) rfl 37 (.tmp 2) (.tmp 36) rfl w.heap.size #[.string (strB []), .slice none 0 0, .slice none 0 0] rfl rfl _ _ K3 info_cmd rfl (by simp [Value.oneCell']) ?_)
    refine bodyPost_ret (res_ct rfl _ _ _ 37 #[.string (strB []), .slice none 0 0, .slice none 0 0] (0, 0) _ (.int .i64 14) rfl (hrs K3) rfl Tryd.underlying37 rfl info_cmd) rfl ?_
    exact ⟨_, _, _, by rw [HRes.out], by rw [HRes.out]; exact CmdV.no _ _, below_row (al HB2.out HB2.out.size) (Nat.le_refl _)⟩
theorem read_any (l : List UInt8) (w : World) (hl : l.length ≤ 1000000) (hM : MaxI w) (hE : ErrI w) (hS : SynI w) : Calls Tryd.prog 18 #[.string (strB l)] w (RdR w (readP l)) := by
  cases hf : formsL.find? (isW ((splA 32 l).getD 0 [])) with
  | none => exact read_none l w hl hM hf
  | some f =>
    obtain ⟨x, k, b⟩ := f
    have hx := (readP_some hf).1
    subst hx
    cases b with
    | true => exact read_long l k w hl hM hE hS hf
    | false => exact read_short l k w hl hM hE hS hf
end Go.Proofs.YtccaiiigdfieoaaDoor
namespace Go.By
open Go.RowKit Go.Proofs.YtccaiiigdfieoaaDoor
end Go.By
namespace Go.Proofs.YtccaiiigdfieoaaDoor
open Go.RowKit Go.By
end Go.Proofs.YtccaiiigdfieoaaDoor
namespace Go.Proofs.YtccaiiigdfieoaaDoor
open Go.RowKit Go.By
end Go.Proofs.YtccaiiigdfieoaaDoor
namespace Go.Proofs.YtccaiiigdfieoaaDoor
open Go.RowKit Go.By
/-- what a script says, or why not -/
def scriptL (s : List UInt8) : List Cmd × Nat × Int := if 65536 < s.length then ([], 0, 16) else scriptP s
/-- what Parse answers -/
def PrsR (T : TypeId) (w : World) (R : List Cmd × Nat × Int) (e : Ending) (w' : World) : Prop := ∃ q m c, e = .returned (.tuple #[.slice q m c, .int .i64 (R.2.1 : Nat), .int .i64 R.2.2]) ∧ CmdsF T w.heap.size w' (.slice q m c) m R.1 ∧ Below w.heap.size w w'
theorem PrsR.no {T : TypeId} {w w' : World} {R : List Cmd × Nat × Int} {n : Nat} {e : Int} (h : R = ([], n, e)) (hb : Below w.heap.size w w') : PrsR T w R (.returned (.tuple #[.slice none 0 0, .int .i64 (n : Nat), .int .i64 e])) w' := by
  subst h; exact ⟨none, 0, 0, rfl, CmdsF.nil _ _ _, hb⟩
theorem info_cmd3 : (Tryd.prog.info? 37).map (fun i => (i.zero, i.size, i.bytes)) = some (some (.agg #[.string ⟨#[]⟩, .slice none 0 0, .slice none 0 0]), 3, 64) := by kernel_rfl
theorem code_cases (s : List UInt8) : (readP s).1 = 0 ∨ ((readP s).1 == 0) = false ∧ ((readP s).1 != 0) = true := by
  by_cases h : (readP s).1 = 0
  · exact .inl h
  · exact .inr ⟨beq_eq_false_iff_ne.2 h, bne_iff_ne.2 h⟩
theorem cut_short {c : UInt8} {r : List UInt8} : (cutW c r).1.length ≤ r.length := by
  cases h : (cutW c r).2 with
  | none => rw [(cutW_none h).1]; exact Nat.le_refl _
  | some r' => obtain ⟨i, _, e2, _, _⟩ := cutW_some h; rw [← e2, List.length_take]; omega
set_option maxRecDepth 100000 in
set_option maxHeartbeats 8000000 in
theorem Parse_any (l : List UInt8) (w : World) (hl : l.length ≤ 1000000) (hM : MaxI w) (hE : ErrI w) (hS : SynI w) :
    Calls Tryd.prog 7 #[.string (strB l)] w (PrsR 37 w (scriptL l)) := by
  obtain ⟨i0, hi0, hz0, hz1, hz2⟩ := info_parts info_cmd3
  obtain ⟨n, hn⟩ : ∃ n, n = l.length := ⟨_, rfl⟩
  have hsz : (strB l).size = n := by rw [strB_size, hn]
  have HN := Lib.hid hn
  by_cases hbig : 65536 < n
  · have HR : Hid (scriptL l = ([], 0, 16)) := if_pos (by omega)
    rw [HR.out]
    have hb : (65536 : Int) < (n : Int) := by omega
    have hnb : n ≤ 1000000 := by omega
    generalize strB l = S at *
    clear hn hM hE hS hbig HR hl
    go_enter Tryd.func7, Tryd.ntmps7
    go_wp2
    go_ret3
    exact PrsR.no rfl (Below.refl _ _)
  have HR : Hid (scriptL l = scriptP l) := if_neg (by omega)
  rw [HR.out]
  obtain ⟨R, hR⟩ : ∃ R, R = scriptP l := ⟨_, rfl⟩
  rw [← hR]
  have HRD : Hid (∀ s W, s.length ≤ l.length → Below w.heap.size w W → Calls Tryd.prog 18 #[.string (strB s)] W (RdR W (readP s))) := fun s W hs hb => read_any s W (by omega) (hM.keep hb) (hE.keep hb) (hS.keep hb)
  have HCT : Hid (∀ s W, s.length ≤ l.length → Below w.heap.size w W → Calls Tryd.prog 17 #[.string (strB s), .string ⟨#[10]⟩] W _) := fun s W hs hb => Cut_any 10 s W (by omega) (hM.keep hb)
  have H0 : Hid (SrAt l R 1 l []) := by rw [hR]; exact SrAt.zero l
  have hb : ¬ (65536 : Int) < (n : Int) := by omega
  have hnb : n ≤ 65536 := by omega
  clear hn hM hE hS hbig HR hR hl
  go_enter Tryd.func7, Tryd.ntmps7
  go_wp2
  go_loopw [0, 5, 6, 7, 8, 9, 10, 11] (fun rv lv nv _ _ _ _ _ wr => ∃ (r : List UInt8) (acc : List Cmd) (k m c : Nat) (q : Option Addr), rv = .string (strB r) ∧ lv = .slice q m c ∧ nv = .int .i64 (k : Nat) ∧ k ≤ 65537 ∧ m ≤ 65536 ∧ Hid (SrAt l R k r acc) ∧ Hid (CmdsF 37 w.heap.size wr (.slice q m c) m acc) ∧ Hid (Below w.heap.size w wr)) (fun rv _ _ _ _ _ _ _ _ => match rv with | .string s => s.size | _ => 0)
  case atStart => exact ⟨l, [], 1, 0, 0, none, rfl, rfl, rfl, by omega, by omega, H0.out, CmdsF.nil _ _ _, Below.refl _ _⟩
  case round =>
    obtain ⟨r, acc, k, m, c, q, rfl, rfl, rfl, hk, hm, HA, HC, HB⟩ := hrel
    clear H0
    have hemp := txt_emp r
    by_cases hr : r = []
    · rw [decide_eq_true hr] at hemp
      have HRes : Hid (R = (acc, 0, 0)) := by have := HA.out; rw [hr] at this; exact this.done
      clear hr HA
      go_wp2
      go_ret3
      exact ⟨q, m, c, by rw [HRes.out]; rfl, by rw [HRes.out]; exact HC.out, HB.out⟩
    · rw [decide_eq_false hr] at hemp
      have hrl := HA.out.1
      have HCt := Lib.hid (HCT.out r wr hrl HB.out)
      have HLs : Hid (r.length ≤ l.length) := hrl
      have HRN := Lib.hid hr
      have HC0 := Lib.hid (code_cases (cutW 10 r).1)
      have HRd : Hid (∀ W, Below w.heap.size w W → Calls Tryd.prog 18 #[.string (strB (cutW 10 r).1)] W (RdR W (readP (cutW 10 r).1))) := fun W hb => HRD.out _ W (Nat.le_trans cut_short hrl) hb
      clear hr hrl
      go_wp2_with fail
      refine Calls.mono HCt.out ?_
      rintro e w1 ⟨rfl, hb1⟩
      have HB1 := Lib.hid (bl HB.out hb1 HB.out.size)
      have HC1 := Lib.hid (HC.out.keep hb1)
      clear hb1 HCt HB HC
      go_wp2_with fail
      refine Calls.mono (HRd.out w1 HB1.out) ?_
      rintro e w2 ⟨v1, v2, v3, rfl, hcv, hb2⟩
      obtain ⟨e1, ⟨q1, n1, c1, e2, o1⟩, q2, n2, c2, e3, f2⟩ := hcv
      have e1' : v1 = .string (strB (readP (cutW 10 r).1).2.word) := e1
      have e2' : v2 = .slice q1 n1 c1 := e2
      have e3' : v3 = .slice q2 n2 c2 := e3
      subst e1' e2' e3'
      have HB2 := Lib.hid (bl HB1.out hb2 HB1.out.size)
      have HC2 := Lib.hid (HC1.out.keep hb2)
      have HV2 : Hid (CmdV w1.heap.size w2 (.string (strB (readP (cutW 10 r).1).2.word), .slice q1 n1 c1, .slice q2 n2 c2) (readP (cutW 10 r).1).2) := ⟨rfl, ⟨q1, n1, c1, rfl, o1⟩, q2, n2, c2, rfl, f2⟩
      clear hb2 e1 e2 e3 o1 f2 HC1 HRd
      generalize hW : strB (readP (cutW 10 r).1).2.word = W0 at *
      have HW := Lib.hid hW
      clear hW
      rcases HC0.out with hz | ⟨hz1, hz2'⟩
      · have HZ := Lib.hid hz
        rw [hz]
        cases hct : (cutW 10 r).2 with
        | none =>
          have HRes : Hid (R = ([], k, 14)) := by
            have := HA.out.end_ HRN.out hct
            rw [if_pos hz] at this
            exact this
          simp only [Option.isSome_none]
          clear hct hz HA
          go_wp2
          go_ret3
          exact PrsR.no HRes.out (al HB2.out HB2.out.size)
        | some r' =>
          have HA2 := Lib.hid (HA.out.next HRN.out hct hz)
          have hln : r'.length < r.length := by have := cutW_len hct; omega
          have hk2 : Hid (k + 1 ≤ 65537 ∧ m + 1 ≤ 65536) := by
            have h1 := HA2.out.2.1; have h2 := HA2.out.2.2.1; have h3 := HC2.out.len; have h4 := HN.out
            simp at h1
            exact ⟨by omega, by omega⟩
          simp only [Option.isSome_some, Option.getD_some]
          obtain ⟨vs, ho, hvl, hcl, hvr⟩ := HC2.out
          have ba : Below w2.heap.size w2 (w2.alloc (.cells #[.string W0, .slice q1 n1 c1, .slice q2 n2 c2] 37 (0, 0))) := al (Below.refl _ _) (Nat.le_refl _)
          have hOA : Hid (∀ o, ((w2.alloc (.cells #[.string W0, .slice q1 n1 c1, .slice q2 n2 c2] 37 (0, 0))).alloc o).ownsRow w.heap.size 37 3 (.slice q m c) m (fl3 vs)) := fun o => owns_keep ho (al ba (by simp))
          have HVR : Hid (∀ o, ∀ (j : Nat) (u : Value × Value × Value), vs[j]? = some u → ∃ c, acc[j]? = some c ∧ CmdV w.heap.size ((w2.alloc (.cells #[.string W0, .slice q1 n1 c1, .slice q2 n2 c2] 37 (0, 0))).alloc o) u c) := fun o j u hj => by obtain ⟨c', hc', g⟩ := hvr j u hj; exact ⟨c', hc', g.keep (al ba (by simp))⟩
          have HVU : Hid (∀ o, CmdV w.heap.size ((w2.alloc (.cells #[.string W0, .slice q1 n1 c1, .slice q2 n2 c2] 37 (0, 0))).alloc o) (.string W0, .slice q1 n1 c1, .slice q2 n2 c2) (readP (cutW 10 r).1).2) := fun o => (HV2.out.keep (al ba (by simp))).mono HB1.out.size
          have HVL := Lib.hid (And.intro hvl hcl)
          have hszw := HB2.out.size
          have HLN := Lib.hid hln
          clear hct hz HA HC2 ho hvl hcl hvr ba hln HV2
          go_wp2_with (at_builtin; refine wpList_append_own _ rfl _ _ 23 rfl w.heap.size 37 i0 _ 3 64 Tryd.underlying23 hi0 hz0 hz1 hz2 rfl (by omega) _ m (fl3 vs) rfl (hOA.out _) ⟨w2.heap.size + 1, 0, none⟩ 1 1 [.string W0, .slice q1 n1 c1, .slice q2 n2 c2] rfl rfl ?c1 ?c2 ?c3 ?c4 ?c5 ?_)
          case c1 =>
            intro j' y hj'
            rw [Addr.add_lit, Nat.zero_add, cell_of_row _ _ j' _ _ _ (hnew (by simp))]
            match j' with
            | 0 => simpa using hj'
            | 1 => simpa using hj'
            | 2 => simpa using hj'
            | j' + 3 => simp at hj'
          case c2 => intro y hy; simp at hy; rcases hy with rfl | rfl | rfl <;> rfl
          case c3 => unfold maxLen; omega
          case c4 => omega
          case c5 => simp; omega
          intro v' w' ho' hg' _
          obtain ⟨q', c', rfl⟩ := owns_shape ho'
          have HC3 : Hid (CmdsF 37 w.heap.size w' (.slice q' (m + 1) c') (m + 1) (acc ++ [(readP (cutW 10 r).1).2])) := CmdsF.pushG (hOA.out _) hg' ho' HVL.out.1 HVL.out.2 (HVR.out _) (HVU.out _) (by decide) (by decide)
          have HB3 : Hid (Below w.heap.size w w') := (al (al HB2.out hszw) (by simp; omega)).grown hg' (by simp; omega) (fun rr hrr => ((hOA.out (.cells #[] 0 (0, 0))).lt rr hrr).1)
          have hk3 := hk2.out.1
          have hm3 := hk2.out.2
          clear ho' hg' hOA HVR HVU HVL hszw hk2
          go_wp2
          go_roundw
          case rel => exact ⟨r', _, k + 1, m + 1, c', q', rfl, rfl, by go_num, hk3, hm3, HA2.out, HC3.out, HB3.out⟩
          case measure => show (strB r').size < (strB r).size; rw [strB_size, strB_size]; exact HLN.out
      · have hct : (cutW 10 r).2 = none ∨ ∃ r', (cutW 10 r).2 = some r' := by cases (cutW 10 r).2 with
          | none => exact .inl rfl
          | some r' => exact .inr ⟨r', rfl⟩
        have HRes : Hid (R = ([], k, (readP (cutW 10 r).1).1)) := by
          rcases hct with h | ⟨r', h⟩
          · have := HA.out.end_ HRN.out h
            rw [if_neg (bne_iff_ne.1 hz2')] at this
            exact this
          · exact HA.out.bad HRN.out h (bne_iff_ne.1 hz2')
        generalize (readP (cutW 10 r).1).1 = code at *
        clear hct HA
        go_wp2
        go_ret3
        exact PrsR.no HRes.out (al HB2.out HB2.out.size)
end Go.Proofs.YtccaiiigdfieoaaDoor
namespace Go.Proofs.YtccaiiigdfieoaaDoor
open Go.RowKit Go.By
theorem info_rcmd3 : (Tryd.prog.info? 40).map (fun i => (i.zero, i.size, i.bytes)) = some (some (.agg #[.string ⟨#[]⟩, .slice none 0 0, .slice none 0 0]), 3, 64) := by kernel_rfl
end Go.Proofs.YtccaiiigdfieoaaDoor
namespace Go.Proofs.YtccaiiigdfieoaaDoor
open Go.RowKit Go.By
theorem drI {α : Type} {enc : α → Value} {w : World} {p : Option Addr} {n c : Nat} {xs : List α} (h : Sl enc w p n c xs) (q : Nat) : Sl enc (w.drewN q) p n c xs := h.keep (below_drewN _ _)
set_option maxRecDepth 100000 in
set_option maxHeartbeats 1000000 in
theorem EqU_d (p1 p2 : Option Addr) (n1 n2 c1 c2 : Nat) (xs : List Nat) (w : World) (h1 : Sl encU w p1 n1 c1 xs) (h2 : Sl encU w p2 n2 c2 xs) :
    Calls Tryd.prog 15 #[.slice p1 n1 c1, .slice p2 n2 c2] w fun e w' => e = .returned (.bool true) ∧ ∃ m, w' = w.drewN m := by
  obtain rfl : n1 = n2 := by rw [← h1.len, ← h2.len]
  have H1 := Lib.hid h1; have H2 := Lib.hid h2
  have hnb := h1.bound
  clear h1 h2
  go_enter Tryd.func15, Tryd.ntmps15
  go_wp2
  go_loopw [13] (fun iv wr => ∃ j q : Nat, j ≤ n1 ∧ iv = .int .i64 (j : Nat) ∧ wr = w.drewN q) (fun iv _ => n1 - (intOf iv).toNat)
  case atStart => exact ⟨0, 0, Nat.zero_le _, rfl, rfl⟩
  case round =>
    obtain ⟨j, q, hj, rfl, rfl⟩ := hrel
    by_cases hlt : j < n1
    · obtain ⟨b1, o1, x1, rfl, hc1, hx1⟩ := H1.out.at j hlt
      obtain ⟨b2, o2, x2, rfl, hc2, hx2⟩ := H2.out.at j hlt
      obtain rfl : x1 = x2 := by have := hx1.out; rw [hx2.out] at this; exact (Option.some.inj this).symm
      have hlt' : (j : Int) < (n1 : Int) := by omega
      have HLT := Lib.hid hlt
      unfold encU at hc1 hc2
      clear hlt hx1 hx2
      go_wp2
      go_quiet (fail)
      rw [World.drewN_drewN]
      go_wp2
      go_roundw
      case rel => exact ⟨j + 1, _, by have := HLT.out; omega, by go_num, rfl⟩
      case measure => simp [intOf]; have := HLT.out; omega
    · obtain rfl : j = n1 := by omega
      clear hlt
      go_wp2
      go_ret
      exact ⟨rfl, _, rfl⟩
theorem SameB_q (p1 p2 : Option Addr) (n1 n2 c1 c2 : Nat) (xs : List UInt8) (w : World) (h1 : Sl B8 w p1 n1 c1 xs) (h2 : Sl B8 w p2 n2 c2 xs) :
    Calls Tryd.prog 16 #[.slice p1 n1 c1, .slice p2 n2 c2] w fun e w' => e = .returned (.bool true) ∧ ∃ m, w' = w.drewN m :=
  (Same_d p1 p2 n1 n2 c1 c2 xs xs w h1 h2).mono fun e w' ⟨he, hq⟩ => ⟨by rw [he, decide_eq_true rfl], hq⟩
set_option maxRecDepth 100000 in
set_option maxHeartbeats 4000000 in
theorem Same26_yes (p1 p2 : Option Addr) (n1 n2 c1 c2 : Nat) (cs : List Cmd) (w : World) (h1 : CmdS w p1 n1 c1 cs) (h2 : CmdS w p2 n2 c2 cs) :
    Calls Tryd.prog 9 #[.slice p1 n1 c1, .slice p2 n2 c2] w fun e w' => e = .returned (.bool true) ∧ ∃ m, w' = w.drewN m := by
  obtain rfl : n1 = n2 := by rw [← h1.len, ← h2.len]
  have H1 := Lib.hid h1; have H2 := Lib.hid h2
  have hnb : n1 ≤ 9223372036854775807 := by have g1 := h1.le; have g2 := h1.max; unfold maxLen at g2; omega
  clear h1 h2
  go_enter Tryd.func9, Tryd.ntmps9
  go_wp2
  go_loopw [13] (fun iv wr => ∃ j q : Nat, j ≤ n1 ∧ iv = .int .i64 (j : Nat) ∧ wr = w.drewN q) (fun iv _ => n1 - (intOf iv).toNat)
  case atStart => exact ⟨0, 0, Nat.zero_le _, rfl, rfl⟩
  case round =>
    obtain ⟨j, q, hj, rfl, rfl⟩ := hrel
    by_cases hlt : j < n1
    · obtain ⟨x, hx⟩ : ∃ x, cs[j]? = some x := ⟨_, List.getElem?_eq_getElem (by rw [H1.out.len]; exact hlt)⟩
      obtain ⟨b, o, q1, m1, k1, q2, m2, k2, rfl, d0, d1, d2, s1, s2⟩ := H1.out.row j x hx
      obtain ⟨b', o', q3, m3, k3, q4, m4, k4, rfl, f0, f1, f2, s3, s4⟩ := H2.out.row j x hx
      have CE : Hid (∀ q', Calls Tryd.prog 15 #[.slice q1 m1 k1, .slice q3 m3 k3] (w.drewN (q + q')) fun e w'' => e = .returned (.bool true) ∧ ∃ m, w'' = w.drewN (q + m)) := fun q' => by
        have := EqU_d q1 q3 m1 m3 k1 k3 x.nums ((w.drewN q).drewN q') (drI (drI s1 q) q') (drI (drI s3 q) q')
        rw [World.drewN_drewN] at this
        refine this.mono ?_
        rintro e w'' ⟨he, m, hm⟩
        exact ⟨he, q' + m, by rw [hm, World.drewN_drewN, Nat.add_assoc]⟩
      have CS : Hid (∀ q', Calls Tryd.prog 16 #[.slice q2 m2 k2, .slice q4 m4 k4] (w.drewN (q + q')) fun e w'' => e = .returned (.bool true) ∧ ∃ m, w'' = w.drewN (q + m)) := fun q' => by
        have := SameB_q q2 q4 m2 m4 k2 k4 x.bytes ((w.drewN q).drewN q') (drI (drI s2 q) q') (drI (drI s4 q) q')
        rw [World.drewN_drewN] at this
        refine this.mono ?_
        rintro e w'' ⟨he, m, hm⟩
        exact ⟨he, q' + m, by rw [hm, World.drewN_drewN, Nat.add_assoc]⟩
      have hxx : ((strB x.word).toList != (strB x.word).toList) = false := by simp
      have hlt' : (j : Int) < (n1 : Int) := by omega
      have HLT := Lib.hid hlt
      generalize strB x.word = W0 at *
      clear hlt hx s1 s2 s3 s4
      go_wp2
      go_quiet ((first | (go_at_call 15; exact CE.out _) | (go_at_call 16; exact CS.out _)))
      go_wp2
      go_roundw
      case rel => exact ⟨j + 1, _, by have := HLT.out; omega, by go_num, rfl⟩
      case measure => simp [intOf]; have := HLT.out; omega
    · obtain rfl : j = n1 := by omega
      clear hlt
      go_wp2
      go_ret
      exact ⟨rfl, _, rfl⟩
end Go.Proofs.YtccaiiigdfieoaaDoor
namespace Go.Proofs.YtccaiiigdfieoaaDoor
open Go.RowKit Go.By
def wbRen : Go.Shelf.Ren := ⟨fun | 166 => 21 | 167 => 38 | 240 => 37 | 276 => 50 | n => n, fun | 0 => 0 | 3 => 3 | 4 => 4 | 5 => 5 | 9 => 9 | 20 => 20 | 37 => 35 | 70 => 57 | 72 => 59 | 75 => 61 | 164 => 100 | 80 => 64 | n => n, fun n => n⟩
theorem wbLays166 : Go.Proofs.Lays.n166 Tryd.prog wbRen :=
  { mixed := by kernel_rfl
    f166 := Tryd.func21.trans (congrArg some (by kernel_rfl))
    f240 := Tryd.func37.trans (congrArg some (by kernel_rfl))
    f276 := Tryd.func50.trans (congrArg some (by kernel_rfl))
    t0 := Tryd.underlying0
    a0 := Tryd.isAgg0
    z0 := Tryd.sizeOf0
    v0 := Tryd.zeroValue0
    t3 := Tryd.underlying3
    a3 := Tryd.isAgg3
    z3 := Tryd.sizeOf3
    v3 := Tryd.zeroValue3
    t4 := Tryd.underlying4
    a4 := Tryd.isAgg4
    z4 := Tryd.sizeOf4
    v4 := Tryd.zeroValue4
    t9 := Tryd.underlying9
    a9 := Tryd.isAgg9
    z9 := Tryd.sizeOf9
    v9 := Tryd.zeroValue9
    t20 := Tryd.underlying20
    a20 := Tryd.isAgg20
    z20 := Tryd.sizeOf20
    v20 := Tryd.zeroValue20
    t37 := Tryd.underlying35
    a37 := Tryd.isAgg35
    z37 := Tryd.sizeOf35
    v37 := Tryd.zeroValue35
    t70 := Tryd.underlying57
    a70 := Tryd.isAgg57
    z70 := Tryd.sizeOf57
    v70 := Tryd.zeroValue57
    t72 := Tryd.underlying59
    a72 := Tryd.isAgg59
    z72 := Tryd.sizeOf59
    v72 := Tryd.zeroValue59
    t75 := Tryd.underlying61
    a75 := Tryd.isAgg61
    z75 := Tryd.sizeOf61
    v75 := Tryd.zeroValue61
    t164 := Tryd.underlying100
    a164 := Tryd.isAgg100
    z164 := Tryd.sizeOf100
    v164 := Tryd.zeroValue100 }
theorem wbLays167 : Go.Proofs.Lays.n167 Tryd.prog wbRen :=
  { mixed := by kernel_rfl
    f167 := Tryd.func38.trans (congrArg some (by kernel_rfl))
    f240 := Tryd.func37.trans (congrArg some (by kernel_rfl))
    f276 := Tryd.func50.trans (congrArg some (by kernel_rfl))
    t0 := Tryd.underlying0
    a0 := Tryd.isAgg0
    z0 := Tryd.sizeOf0
    v0 := Tryd.zeroValue0
    t4 := Tryd.underlying4
    a4 := Tryd.isAgg4
    z4 := Tryd.sizeOf4
    v4 := Tryd.zeroValue4
    t5 := Tryd.underlying5
    a5 := Tryd.isAgg5
    z5 := Tryd.sizeOf5
    v5 := Tryd.zeroValue5
    t9 := Tryd.underlying9
    a9 := Tryd.isAgg9
    z9 := Tryd.sizeOf9
    v9 := Tryd.zeroValue9
    t20 := Tryd.underlying20
    a20 := Tryd.isAgg20
    z20 := Tryd.sizeOf20
    v20 := Tryd.zeroValue20
    t37 := Tryd.underlying35
    a37 := Tryd.isAgg35
    z37 := Tryd.sizeOf35
    v37 := Tryd.zeroValue35
    t70 := Tryd.underlying57
    a70 := Tryd.isAgg57
    z70 := Tryd.sizeOf57
    v70 := Tryd.zeroValue57
    t72 := Tryd.underlying59
    a72 := Tryd.isAgg59
    z72 := Tryd.sizeOf59
    v72 := Tryd.zeroValue59
    t75 := Tryd.underlying61
    a75 := Tryd.isAgg61
    z75 := Tryd.sizeOf61
    v75 := Tryd.zeroValue61
    t164 := Tryd.underlying100
    a164 := Tryd.isAgg100
    z164 := Tryd.sizeOf100
    v164 := Tryd.zeroValue100 }
theorem wbExtra : Builder.Extra Tryd.prog wbRen := {
  sizeBuilder := by kernel_rfl
  liesBuilder := by kernel_rfl
  t5 := Tryd.underlying5
  a5 := Tryd.isAgg5
  z5 := Tryd.sizeOf5
  v5 := Tryd.zeroValue5
  infoByte := by kernel_rfl
  cellsByte := by kernel_rfl
  sizeByte := by kernel_rfl
  neB5 := by decide }
theorem WriteS_b (B b : Nat) (t s : List UInt8) (w : World) (h : Lib.IsBuilder 59 5 B b (Lib.byteCells t) w) (hlen : t.length + s.length ≤ 100000000) (hBw : B ≤ w.heap.size) :
    Calls Tryd.prog 21 #[.pointer (some ⟨b, 0, none⟩), .string (strB s)] w fun e w' => e = .returned (.tuple #[.int .i64 s.length, .nilIface]) ∧ Lib.BuilderAt 59 5 B b (.pointer (some ⟨b, 0, none⟩)) (Lib.byteCells (t ++ s)) w' ∧ Below B w w' := by
  have := Any.Builder_WriteString (ρ := wbRen) wbLays166 wbExtra B b (Lib.byteCells t) (strB s) w h (by rw [Lib.byteCells_length, strB_size]; omega) hBw
  refine Calls.mono this ?_
  rintro e w' ⟨rfl, h1, h2⟩
  rw [strB_cells, bytes_append] at h1
  rw [strB_size]
  exact ⟨rfl, h1, h2⟩
theorem WriteB_b (B b : Nat) (t : List UInt8) (x : UInt8) (w : World) (h : Lib.IsBuilder 59 5 B b (Lib.byteCells t) w) (hlen : t.length + 1 ≤ 100000000) (hBw : B ≤ w.heap.size) :
    Calls Tryd.prog 38 #[.pointer (some ⟨b, 0, none⟩), B8 x] w fun e w' => e = .returned .nilIface ∧ Lib.BuilderAt 59 5 B b (.pointer (some ⟨b, 0, none⟩)) (Lib.byteCells (t ++ [x])) w' ∧ Below B w w' := by
  have := Any.Builder_WriteByte (ρ := wbRen) wbLays167 wbExtra B b (Lib.byteCells t) x.toNat w h (by rw [Lib.byteCells_length]; omega) hBw
  refine Calls.mono this ?_
  rintro e w' ⟨rfl, h1, h2⟩
  refine ⟨rfl, ?_, h2⟩
  rw [← bytes_append]
  exact h1
theorem StringB_b (B b : Nat) (t : List UInt8) (w : World) (h : Lib.IsBuilder 59 5 B b (Lib.byteCells t) w) (hBw : B ≤ w.heap.size) :
    Calls Tryd.prog 24 #[.pointer (some ⟨b, 0, none⟩)] w fun e w' => e = .returned (.string (strB t)) ∧ Below B w w' := Tryd.Builder_String_any B b t w h hBw
theorem LenB_b (B b : Nat) (t : List UInt8) (w : World) (h : Lib.IsBuilder 59 5 B b (Lib.byteCells t) w) :
    Calls Tryd.prog 23 #[.pointer (some ⟨b, 0, none⟩)] w fun e w' => e = .returned (.int .i64 (t.length : Nat)) ∧ w = w' := Calls.mono (Tryd.Builder_Len B b (Lib.byteCells t) w h) fun e w' ⟨h1, h2⟩ => ⟨by rw [h1, Lib.byteCells_length], h2.symm⟩
end Go.Proofs.YtccaiiigdfieoaaDoor
