/- DERIVED: THE SHELF's CONTRACTS AT THIS DUMP, IN PLAIN WORDS (tools/lay-plain.mjs out of 'TrydShelf.lean', which tools/lay-shelf.mjs wrote): THE SAME DECLARATIONS UNDER THE SAME NAMES: 'import', 'namespace', 'open', 'def', 'theorem' AND NOTHING ELSE: no command of the shelf's: FOR A HAND-IN. Each laying: the table of numbers ('.._ren') and one theorem, a field a fact of the dump's own or the kernel's comparison; each contract: ONE APPLICATION. Numbers: Len, Cmp; the library's sums and products of words. The library: FormatUint of base 16. Texts as lists of bytes; builders. Numbers: plus. Numbers: times. Numbers: Add of any. Numbers: Mul of any; Pow. Numbers: Text. The library: ParseUint of base 16, of texts that are numbers of at most sixteen letters. Numbers: Parse. The reference's numbers: Trim, Text. Numbers: Pow, Sub. -/
import Derived.Test.YtbfmdfbnhakolaaDoorZo6
import Derived.Shelf.Strings.Builder1
import Derived.Shelf.Strings.Builder2
import Derived.Shelf.Strings.BuilderF
import Derived.Shelf.Strings.BuilderK
import Derived.Shelf.Strings.Builder2Cap
import Derived.Shelf.Strconv.Itoa0
import Derived.Shelf.Strconv.Itoa1
import Derived.Shelf.LaysM
import Derived.Shelf.Strconv.Itoa2
import Derived.Shelf.Strings.Prefix
import Derived.Shelf.Bits.Mul64
import Derived.Shelf.Strings.Repeat
import Derived.Shelf.Strings.BuilderCap
import Derived.Test.YtbfmdfbnhakolaaDoorProg
import Derived.Shelf.Spec.BitsCarry
import Derived.Lib.ItoaWalk
import Derived.Laws.IdiomStrings
import Derived.Lib.Strings
import Derived.Lib.UnsafeStr
import Derived.Lib.AppendStr
import Derived.Lib.Builder
import Derived.OwnWalk
import Derived.Lib.AtoiAllMem
import Derived.Lib.ConvBytes
import Derived.Lib.Walk
import Derived.Laws.Strings3
import Derived.Laws.Closers25
import Derived.Laws.Closers25b
import Derived.BigCall
import Derived.BigGuard
import Derived.Laws.Concat
namespace Go.Proofs
open Go.Shelf
def Tryd.lays170_ren : Go.Shelf.Ren := ⟨fun | 170 => 87 | n => n, fun | 70 => 93 | 3 => 3 | 0 => 0 | 72 => 95 | 37 => 24 | 5 => 5 | n => n, fun | n => n⟩
theorem Tryd.lays170 : Go.Proofs.Lays.n170 Tryd.prog Tryd.lays170_ren := {
  mixed := by kernel_rfl
  f170 := Tryd.func87.trans (congrArg some (by kernel_rfl))
  t0 := Tryd.underlying0
  a0 := Tryd.isAgg0
  z0 := Tryd.sizeOf0
  v0 := Tryd.zeroValue0
  t3 := Tryd.underlying3
  a3 := Tryd.isAgg3
  z3 := Tryd.sizeOf3
  v3 := Tryd.zeroValue3
  t37 := Tryd.underlying24
  a37 := Tryd.isAgg24
  z37 := Tryd.sizeOf24
  v37 := Tryd.zeroValue24
  t70 := Tryd.underlying93
  a70 := Tryd.isAgg93
  z70 := Tryd.sizeOf93
  v70 := Tryd.zeroValue93
  t72 := Tryd.underlying95
  a72 := Tryd.isAgg95
  z72 := Tryd.sizeOf95
  v72 := Tryd.zeroValue95 }
open Go.RowKit in
/-- (*strings.Builder).Len: "Len returns the number of accumulated bytes; b.Len() == len(b.String()).": the world is as it was. (LAID: no walk: one application.) -/
theorem Tryd.Builder_Len (B b : Nat) (bs : List Value) (w : World) (h : Lib.IsBuilder 95 5 B b bs w) :
    Calls Tryd.prog 87 #[.pointer (some ⟨b, 0, none⟩)] w fun e w' => e = .returned (.int .i64 bs.length) ∧ w' = w := Any.Builder_Len Tryd.lays170 B b bs w h
def Tryd.lays169_ren : Go.Shelf.Ren := ⟨fun | 169 => 60 | n => n, fun | 70 => 93 | 9 => 9 | 0 => 0 | 72 => 95 | 37 => 24 | 127 => 129 | 3 => 3 | 5 => 5 | n => n, fun | n => n⟩
theorem Tryd.lays169 : Go.Proofs.Lays.n169 Tryd.prog Tryd.lays169_ren := {
  mixed := by kernel_rfl
  f169 := Tryd.func60.trans (congrArg some (by kernel_rfl))
  t0 := Tryd.underlying0
  a0 := Tryd.isAgg0
  z0 := Tryd.sizeOf0
  v0 := Tryd.zeroValue0
  t3 := Tryd.underlying3
  a3 := Tryd.isAgg3
  z3 := Tryd.sizeOf3
  v3 := Tryd.zeroValue3
  t9 := Tryd.underlying9
  a9 := Tryd.isAgg9
  z9 := Tryd.sizeOf9
  v9 := Tryd.zeroValue9
  t37 := Tryd.underlying24
  a37 := Tryd.isAgg24
  z37 := Tryd.sizeOf24
  v37 := Tryd.zeroValue24
  t70 := Tryd.underlying93
  a70 := Tryd.isAgg93
  z70 := Tryd.sizeOf93
  v70 := Tryd.zeroValue93
  t72 := Tryd.underlying95
  a72 := Tryd.isAgg95
  z72 := Tryd.sizeOf95
  v72 := Tryd.zeroValue95
  t127 := Tryd.underlying129
  a127 := Tryd.isAgg129
  z127 := Tryd.sizeOf129
  v127 := Tryd.zeroValue129 }
theorem Tryd.Builder_Extra_169 : Builder.Extra Tryd.prog Tryd.lays169_ren := {
  sizeBuilder := by kernel_rfl
  liesBuilder := by kernel_rfl
  t5 := Tryd.underlying5
  a5 := Tryd.isAgg5
  z5 := Tryd.sizeOf5
  v5 := Tryd.zeroValue5
  infoByte := by kernel_rfl
  cellsByte := by kernel_rfl
  sizeByte := by kernel_rfl
  neB5 := by decide }
open Go.RowKit in
/-- (*strings.Builder).String: "String returns the accumulated string.": OF A BUILDER THAT HOLDS AT LEAST ONE BYTE. ✋ THE MODEL FREEZES THOSE BYTES IN THE BUFFER (unsafe.String): a later write INTO them ends the model's run without an answer; a later append BEHIND them goes on. The statement's order of evaluation is drawn: one draw. (LAID: no walk: one application.) -/
theorem Tryd.Builder_String (B b : Nat) (l : List UInt8) (w : World) (h : Lib.IsBuilder 95 5 B b (Lib.byteCells l) w) (h0 : l ≠ []) :
    Calls Tryd.prog 60 #[.pointer (some ⟨b, 0, none⟩)] w fun e w' => e = .returned (.string ⟨l.toArray⟩) ∧ Below B w w' := Any.Builder_String Tryd.lays169 Tryd.Builder_Extra_169 B b l w h h0
open Go.RowKit in
/-- (*strings.Builder).String OF A BUILDER THAT HOLDS NO BYTE: the empty string. (Its buffer is nil, or a row of which it has taken nothing yet; where that row has NO capacity the model lays one new block for unsafe.SliceData's 'some address'.) One draw. (LAID: no walk: one application.) -/
theorem Tryd.Builder_String_empty (B b : Nat) (w : World) (h : Lib.IsBuilder 95 5 B b [] w) (hBw : B ≤ w.heap.size) :
    Calls Tryd.prog 60 #[.pointer (some ⟨b, 0, none⟩)] w fun e w' => e = .returned (.string ⟨#[]⟩) ∧ Below B w w' := Any.Builder_String_empty Tryd.lays169 Tryd.Builder_Extra_169 B b w h hBw
open Go.RowKit in
/-- (*strings.Builder).String: "String returns the accumulated string.": WHATEVER THE BUILDER HOLDS. (LAID: no walk: one application.) -/
theorem Tryd.Builder_String_any (B b : Nat) (l : List UInt8) (w : World) (h : Lib.IsBuilder 95 5 B b (Lib.byteCells l) w) (hBw : B ≤ w.heap.size) :
    Calls Tryd.prog 60 #[.pointer (some ⟨b, 0, none⟩)] w fun e w' => e = .returned (.string ⟨l.toArray⟩) ∧ Below B w w' := Any.Builder_String_any Tryd.lays169 Tryd.Builder_Extra_169 B b l w h hBw
def Tryd.lays241_ren : Go.Shelf.Ren := ⟨fun | 241 => 109 | 277 => 121 | n => n, fun | 70 => 93 | 3 => 3 | 0 => 0 | 72 => 95 | 37 => 24 | 5 => 5 | n => n, fun | n => n⟩
theorem Tryd.lays241 : Go.Proofs.Lays.n241 Tryd.prog Tryd.lays241_ren := {
  mixed := by kernel_rfl
  f241 := Tryd.func109.trans (congrArg some (by kernel_rfl))
  f277 := Tryd.func121.trans (congrArg some (by kernel_rfl))
  t0 := Tryd.underlying0
  a0 := Tryd.isAgg0
  z0 := Tryd.sizeOf0
  v0 := Tryd.zeroValue0
  t3 := Tryd.underlying3
  a3 := Tryd.isAgg3
  z3 := Tryd.sizeOf3
  v3 := Tryd.zeroValue3
  t37 := Tryd.underlying24
  a37 := Tryd.isAgg24
  z37 := Tryd.sizeOf24
  v37 := Tryd.zeroValue24
  t70 := Tryd.underlying93
  a70 := Tryd.isAgg93
  z70 := Tryd.sizeOf93
  v70 := Tryd.zeroValue93
  t72 := Tryd.underlying95
  a72 := Tryd.isAgg95
  z72 := Tryd.sizeOf95
  v72 := Tryd.zeroValue95 }
theorem Tryd.Builder_Extra_241 : Builder.Extra Tryd.prog Tryd.lays241_ren := {
  sizeBuilder := by kernel_rfl
  liesBuilder := by kernel_rfl
  t5 := Tryd.underlying5
  a5 := Tryd.isAgg5
  z5 := Tryd.sizeOf5
  v5 := Tryd.zeroValue5
  infoByte := by kernel_rfl
  cellsByte := by kernel_rfl
  sizeByte := by kernel_rfl
  neB5 := by decide }
open Go.RowKit in
/-- (*strings.Builder).grow (no doc but "grow copies the buffer to a new, larger buffer so that there are at least n bytes of capacity beyond len(b.buf)."): AT A BUILDER WITHOUT A BUFFER: a new row of whatever bytes for its buffer, none of them its own yet. Three draws. (LAID: no walk: one application.) -/
theorem Tryd.Builder_grow_fresh (B b n : Nat) (w : World) (hB : B ≤ b) (hbk : w.heap[b]? = some (.cells #[.pointer (some ⟨b, 0, none⟩), .slice none 0 0] 95 (0, 0))) (hBw : B ≤ w.heap.size) (hn : n ≤ 281474976710656) :
    Calls Tryd.prog 109 #[.pointer (some ⟨b, 0, none⟩), .int .i64 n] w fun e w' => e = .returned (.tuple #[]) ∧ (Lib.BuilderAt 95 5 B b (.pointer (some ⟨b, 0, none⟩)) [] w' ∧ Below B w w') := Any.Builder_grow_fresh Tryd.lays241 Tryd.Builder_Extra_241 B b n w hB hbk hBw hn
def Tryd.lays165_ren : Go.Shelf.Ren := ⟨fun | 165 => 86 | 240 => 82 | 241 => 109 | 276 => 102 | 277 => 121 | n => n, fun | 70 => 93 | 3 => 3 | 0 => 0 | 4 => 4 | 9 => 9 | 20 => 20 | 72 => 95 | 37 => 24 | 164 => 143 | 5 => 5 | n => n, fun | n => n⟩
theorem Tryd.lays165 : Go.Proofs.Lays.n165 Tryd.prog Tryd.lays165_ren := {
  mixed := by kernel_rfl
  f165 := Tryd.func86.trans (congrArg some (by kernel_rfl))
  f240 := Tryd.func82.trans (congrArg some (by kernel_rfl))
  f241 := Tryd.func109.trans (congrArg some (by kernel_rfl))
  f276 := Tryd.func102.trans (congrArg some (by kernel_rfl))
  f277 := Tryd.func121.trans (congrArg some (by kernel_rfl))
  t0 := Tryd.underlying0
  a0 := Tryd.isAgg0
  z0 := Tryd.sizeOf0
  v0 := Tryd.zeroValue0
  t3 := Tryd.underlying3
  a3 := Tryd.isAgg3
  z3 := Tryd.sizeOf3
  v3 := Tryd.zeroValue3
  t4 := Tryd.underlying4
  a4 := Tryd.isAgg4
  z4 := Tryd.sizeOf4
  v4 := Tryd.zeroValue4
  t9 := Tryd.underlying9
  a9 := Tryd.isAgg9
  z9 := Tryd.sizeOf9
  v9 := Tryd.zeroValue9
  t20 := Tryd.underlying20
  a20 := Tryd.isAgg20
  z20 := Tryd.sizeOf20
  v20 := Tryd.zeroValue20
  t37 := Tryd.underlying24
  a37 := Tryd.isAgg24
  z37 := Tryd.sizeOf24
  v37 := Tryd.zeroValue24
  t70 := Tryd.underlying93
  a70 := Tryd.isAgg93
  z70 := Tryd.sizeOf93
  v70 := Tryd.zeroValue93
  t72 := Tryd.underlying95
  a72 := Tryd.isAgg95
  z72 := Tryd.sizeOf95
  v72 := Tryd.zeroValue95
  t164 := Tryd.underlying143
  a164 := Tryd.isAgg143
  z164 := Tryd.sizeOf143
  v164 := Tryd.zeroValue143 }
theorem Tryd.Builder_Extra_165 : Builder.Extra Tryd.prog Tryd.lays165_ren := {
  sizeBuilder := by kernel_rfl
  liesBuilder := by kernel_rfl
  t5 := Tryd.underlying5
  a5 := Tryd.isAgg5
  z5 := Tryd.sizeOf5
  v5 := Tryd.zeroValue5
  infoByte := by kernel_rfl
  cellsByte := by kernel_rfl
  sizeByte := by kernel_rfl
  neB5 := by decide }
open Go.RowKit in
/-- (*strings.Builder).Grow AT A BUILDER THAT HAS NOT BEEN WRITTEN ('var b strings.Builder; b.Grow(n)'): "Grow grows b's capacity, if necessary, to guarantee space for another n bytes.": it holds no byte behind it as before it. (LAID: no walk: one application.) -/
theorem Tryd.Builder_Grow_fresh (B b n : Nat) (w : World) (hB : B ≤ b) (hbk : w.heap[b]? = some (.cells #[.pointer none, .slice none 0 0] 95 (0, 0))) (hBw : B ≤ w.heap.size) (hn : n ≤ 281474976710656) :
    Calls Tryd.prog 86 #[.pointer (some ⟨b, 0, none⟩), .int .i64 n] w fun e w' => e = .returned (.tuple #[]) ∧ (Lib.BuilderAt 95 5 B b (.pointer (some ⟨b, 0, none⟩)) [] w' ∧ Below B w w') := Any.Builder_Grow_fresh Tryd.lays165 Tryd.Builder_Extra_165 B b n w hB hbk hBw hn
open Go.RowKit in
/-- (*strings.Builder).Len: "Len returns the number of accumulated bytes; b.Len() == len(b.String()).": the world is as it was. (THE FORM '_f': 'Lib.IsBuilderF'.) (LAID: no walk: one application.) -/
theorem Tryd.Builder_Len_f (B b : Nat) (bs : List Value) (w : World) (h : Lib.IsBuilderF 95 5 B b bs w) :
    Calls Tryd.prog 87 #[.pointer (some ⟨b, 0, none⟩)] w fun e w' => e = .returned (.int .i64 bs.length) ∧ w' = w := Any.Builder_Len_f Tryd.lays170 B b bs w h
open Go.RowKit in
/-- (*strings.Builder).String: "String returns the accumulated string.": OF A BUILDER THAT HOLDS AT LEAST ONE BYTE. ✋ THE MODEL FREEZES THOSE BYTES IN THE BUFFER (unsafe.String): a later write INTO them ends the model's run without an answer; a later append BEHIND them goes on. The statement's order of evaluation is drawn: one draw. THE FORM '_f': IT SAYS BESIDES THAT THE BUILDER IS A BUILDER STILL ('Lib.IsBuilderF', the same bytes): SO IT CAN BE WRITTEN ON: 'b.WriteString(b.String()[:k])'. (LAID: no walk: one application.) -/
theorem Tryd.Builder_String_f (B b : Nat) (l : List UInt8) (w : World) (h : Lib.IsBuilderF 95 5 B b (Lib.byteCells l) w) (h0 : l ≠ []) :
    Calls Tryd.prog 60 #[.pointer (some ⟨b, 0, none⟩)] w fun e w' => e = .returned (.string ⟨l.toArray⟩) ∧ (Lib.IsBuilderF 95 5 B b (Lib.byteCells l) w' ∧ Below B w w') := Any.Builder_String_f Tryd.lays169 Tryd.Builder_Extra_169 B b l w h h0
open Go.RowKit in
/-- (*strings.Builder).String OF A BUILDER THAT HOLDS NO BYTE: the empty string; THE FORM '_f': a builder still. (LAID: no walk: one application.) -/
theorem Tryd.Builder_String_empty_f (B b : Nat) (w : World) (h : Lib.IsBuilderF 95 5 B b [] w) (hBw : B ≤ w.heap.size) :
    Calls Tryd.prog 60 #[.pointer (some ⟨b, 0, none⟩)] w fun e w' => e = .returned (.string ⟨#[]⟩) ∧ (Lib.IsBuilderF 95 5 B b [] w' ∧ Below B w w') := Any.Builder_String_empty_f Tryd.lays169 Tryd.Builder_Extra_169 B b w h hBw
open Go.RowKit in
/-- (*strings.Builder).String: "String returns the accumulated string.": WHATEVER THE BUILDER HOLDS; THE FORM '_f': OF A BUILDER THAT MAY HAVE BEEN READ BEFORE; AND IT IS A BUILDER STILL, holding the same bytes: it can be written on. (LAID: no walk: one application.) -/
theorem Tryd.Builder_String_any_f (B b : Nat) (l : List UInt8) (w : World) (h : Lib.IsBuilderF 95 5 B b (Lib.byteCells l) w) (hBw : B ≤ w.heap.size) :
    Calls Tryd.prog 60 #[.pointer (some ⟨b, 0, none⟩)] w fun e w' => e = .returned (.string ⟨l.toArray⟩) ∧ (Lib.IsBuilderF 95 5 B b (Lib.byteCells l) w' ∧ Below B w w') := Any.Builder_String_any_f Tryd.lays169 Tryd.Builder_Extra_169 B b l w h hBw
open Go.RowKit in
/-- (*strings.Builder).String: "String returns the accumulated string.": OF A BUILDER THAT HOLDS AT LEAST ONE BYTE. ✋ THE MODEL FREEZES THOSE BYTES IN THE BUFFER (unsafe.String): a later write INTO them ends the model's run without an answer; a later append BEHIND them goes on. The statement's order of evaluation is drawn: one draw. THE FORM '_k': OVER 'Lib.IsBuilderF' (a builder that 'String()' may have read), AND WITH THE FRAME THAT REACHES ABOVE THE BUILDER: 'Lib.OthersKept': every block that is not b and is no row of uint8's stands as it stood: the iterator of a range among them. (LAID: no walk: one application.) -/
theorem Tryd.Builder_String_k (B b : Nat) (l : List UInt8) (w : World) (h : Lib.IsBuilderF 95 5 B b (Lib.byteCells l) w) (h0 : l ≠ []) :
    Calls Tryd.prog 60 #[.pointer (some ⟨b, 0, none⟩)] w fun e w' => e = .returned (.string ⟨l.toArray⟩) ∧ (Lib.IsBuilderF 95 5 B b (Lib.byteCells l) w' ∧ Below B w w' ∧ Lib.OthersKept 5 (some b) w w') := Any.Builder_String_k Tryd.lays169 Tryd.Builder_Extra_169 B b l w h h0
open Go.RowKit in
/-- (*strings.Builder).String OF A BUILDER THAT HOLDS NO BYTE: the empty string; THE FORM '_k': OVER 'Lib.IsBuilderF' (a builder that 'String()' may have read), AND WITH THE FRAME THAT REACHES ABOVE THE BUILDER: 'Lib.OthersKept': every block that is not b and is no row of uint8's stands as it stood: the iterator of a range among them. (LAID: no walk: one application.) -/
theorem Tryd.Builder_String_empty_k (B b : Nat) (w : World) (h : Lib.IsBuilderF 95 5 B b [] w) (hBw : B ≤ w.heap.size) :
    Calls Tryd.prog 60 #[.pointer (some ⟨b, 0, none⟩)] w fun e w' => e = .returned (.string ⟨#[]⟩) ∧ (Lib.IsBuilderF 95 5 B b [] w' ∧ Below B w w' ∧ Lib.OthersKept 5 (some b) w w') := Any.Builder_String_empty_k Tryd.lays169 Tryd.Builder_Extra_169 B b w h hBw
open Go.RowKit in
/-- (*strings.Builder).String: "String returns the accumulated string.": WHATEVER THE BUILDER HOLDS; THE FORM '_k': OVER 'Lib.IsBuilderF' (a builder that 'String()' may have read), AND WITH THE FRAME THAT REACHES ABOVE THE BUILDER: 'Lib.OthersKept': every block that is not b and is no row of uint8's stands as it stood: the iterator of a range among them. (LAID: no walk: one application.) -/
theorem Tryd.Builder_String_any_k (B b : Nat) (l : List UInt8) (w : World) (h : Lib.IsBuilderF 95 5 B b (Lib.byteCells l) w) (hBw : B ≤ w.heap.size) :
    Calls Tryd.prog 60 #[.pointer (some ⟨b, 0, none⟩)] w fun e w' => e = .returned (.string ⟨l.toArray⟩) ∧ (Lib.IsBuilderF 95 5 B b (Lib.byteCells l) w' ∧ Below B w w' ∧ Lib.OthersKept 5 (some b) w w') := Any.Builder_String_any_k Tryd.lays169 Tryd.Builder_Extra_169 B b l w h hBw
open Go.RowKit in
/-- (*strings.Builder).grow (no doc but "grow copies the buffer to a new, larger buffer so that there are at least n bytes of capacity beyond len(b.buf)."): AT A BUILDER WITHOUT A BUFFER: a new row of whatever bytes for its buffer, none of them its own yet. Three draws. (LAID: no walk: one application.) -/
theorem Tryd.Builder_grow_fresh_cap (B b n : Nat) (w : World) (hB : B ≤ b) (hbk : w.heap[b]? = some (.cells #[.pointer (some ⟨b, 0, none⟩), .slice none 0 0] 95 (0, 0))) (hBw : B ≤ w.heap.size) (hn : n ≤ 281474976710656) :
    Calls Tryd.prog 109 #[.pointer (some ⟨b, 0, none⟩), .int .i64 n] w fun e w' => e = .returned (.tuple #[]) ∧ (Lib.BuilderAt 95 5 B b (.pointer (some ⟨b, 0, none⟩)) [] w' ∧ Below B w w') ∧ ∃ p cap, w'.cell? ⟨b, 1, none⟩ = some (.slice p 0 cap) ∧ n ≤ cap := Any.Builder_grow_fresh_cap Tryd.lays241 Tryd.Builder_Extra_241 B b n w hB hbk hBw hn
open Go.RowKit in
/-- (*strings.Builder).Grow AT A BUILDER THAT HAS NOT BEEN WRITTEN ('var b strings.Builder; b.Grow(n)'): "Grow grows b's capacity, if necessary, to guarantee space for another n bytes.": it holds no byte behind it as before it. (LAID: no walk: one application.) -/
theorem Tryd.Builder_Grow_fresh_cap (B b n : Nat) (w : World) (hB : B ≤ b) (hbk : w.heap[b]? = some (.cells #[.pointer none, .slice none 0 0] 95 (0, 0))) (hBw : B ≤ w.heap.size) (hn : n ≤ 281474976710656) :
    Calls Tryd.prog 86 #[.pointer (some ⟨b, 0, none⟩), .int .i64 n] w fun e w' => e = .returned (.tuple #[]) ∧ (Lib.BuilderAt 95 5 B b (.pointer (some ⟨b, 0, none⟩)) [] w' ∧ Below B w w') ∧ ∃ p cap, w'.cell? ⟨b, 1, none⟩ = some (.slice p 0 cap) ∧ n ≤ cap := Any.Builder_Grow_fresh_cap Tryd.lays165 Tryd.Builder_Extra_165 B b n w hB hbk hBw hn
def Tryd.lays129_ren : Go.Shelf.Ren := ⟨fun | 129 => 45 | n => n, fun | 53 => 34 | 3 => 3 | 4 => 4 | 46 => 117 | 5 => 5 | 9 => 9 | n => n, fun | n => n⟩
theorem Tryd.lays129 : Go.Proofs.Lays.n129 Tryd.prog Tryd.lays129_ren := {
  mixed := by kernel_rfl
  f129 := Tryd.func45.trans (congrArg some (by kernel_rfl))
  t3 := Tryd.underlying3
  a3 := Tryd.isAgg3
  z3 := Tryd.sizeOf3
  v3 := Tryd.zeroValue3
  t4 := Tryd.underlying4
  a4 := Tryd.isAgg4
  z4 := Tryd.sizeOf4
  v4 := Tryd.zeroValue4
  t5 := Tryd.underlying5
  a5 := Tryd.isAgg5
  z5 := Tryd.sizeOf5
  v5 := Tryd.zeroValue5
  t9 := Tryd.underlying9
  a9 := Tryd.isAgg9
  z9 := Tryd.sizeOf9
  v9 := Tryd.zeroValue9
  t46 := Tryd.underlying117
  a46 := Tryd.isAgg117
  z46 := Tryd.sizeOf117
  v46 := Tryd.zeroValue117
  t53 := Tryd.underlying34
  a53 := Tryd.isAgg34
  z53 := Tryd.sizeOf34
  v53 := Tryd.zeroValue34 }
/-- bits.Len64: "Len64 returns the minimum number of bits required to represent x; the result is 0 for x == 0.": IT RETURNS 'Lib.bitLen x'; the world is as it was. ('h0', 'h1': x is a uint64.) (LAID: no walk: one application.) -/
theorem Tryd.bits_Len64 (x : Int) (w : World) (h0 : 0 ≤ x) (h1 : x ≤ 18446744073709551615) :
    Calls Tryd.prog 45 #[.int .u64 x] w fun e w' => e = .returned (.int .i64 (Lib.bitLen x.toNat)) ∧ w' = w := Any.bits_Len64 Tryd.lays129 x w h0 h1
def Tryd.lays317_ren : Go.Shelf.Ren := ⟨fun | 317 => 117 | n => n, fun | 3 => 3 | 46 => 117 | n => n, fun | n => n⟩
theorem Tryd.lays317 : Go.Proofs.Lays.n317 Tryd.prog Tryd.lays317_ren := {
  mixed := by kernel_rfl
  f317 := Tryd.func117.trans (congrArg some (by kernel_rfl))
  t3 := Tryd.underlying3
  a3 := Tryd.isAgg3
  z3 := Tryd.sizeOf3
  v3 := Tryd.zeroValue3
  t46 := Tryd.underlying117
  a46 := Tryd.isAgg117
  z46 := Tryd.sizeOf117
  v46 := Tryd.zeroValue117 }
open Go.Lib in
/-- internal/strconv.log10Pow2: "log10Pow2(x) returns ⌊log₁₀ 2**x⌋ = ⌊x * log₁₀ 2⌋.": '(x * 78913) >> 18', at an x up to 64 (a length in bits). The world is as it was. (LAID: no walk: one application.) -/
theorem Tryd.internal_strconv_log10Pow2 (x : Nat) (h : x ≤ 64) (w : World) :
    Calls Tryd.prog 117 #[.int .i64 x] w fun e w' => e = .returned (.int .i64 (Lib.l10 x)) ∧ w' = w := Any.internal_strconv_log10Pow2 Tryd.lays317 x h w
def Tryd.lays318_ren : Go.Shelf.Ren := ⟨fun | 318 => 118 | n => n, fun | 3 => 3 | 4 => 4 | n => n, fun | n => n⟩
theorem Tryd.lays318 : Go.Proofs.Lays.n318 Tryd.prog Tryd.lays318_ren := {
  mixed := by kernel_rfl
  f318 := Tryd.func118.trans (congrArg some (by kernel_rfl))
  t3 := Tryd.underlying3
  a3 := Tryd.isAgg3
  z3 := Tryd.sizeOf3
  v3 := Tryd.zeroValue3
  t4 := Tryd.underlying4
  a4 := Tryd.isAgg4
  z4 := Tryd.sizeOf4
  v4 := Tryd.zeroValue4 }
open Go.Lib in
/-- internal/strconv.bool2: "bool2 converts b to an integer: 1 for true, 0 for false." The world is as it was. (LAID: no walk: one application.) -/
theorem Tryd.internal_strconv_bool2_int (b : Bool) (w : World) :
    Calls Tryd.prog 118 #[.bool b] w fun e w' => e = .returned (.int .i64 (if b then 1 else 0)) ∧ w' = w := Any.internal_strconv_bool2_int Tryd.lays318 b w
def Tryd.lays283_ren : Go.Shelf.Ren := ⟨fun | 283 => 103 | n => n, fun | 3 => 3 | 9 => 9 | 4 => 4 | n => n, fun | n => n⟩
theorem Tryd.lays283 : Go.Proofs.Lays.n283 Tryd.prog Tryd.lays283_ren := {
  mixed := by kernel_rfl
  f283 := Tryd.func103.trans (congrArg some (by kernel_rfl))
  t3 := Tryd.underlying3
  a3 := Tryd.isAgg3
  z3 := Tryd.sizeOf3
  v3 := Tryd.zeroValue3
  t4 := Tryd.underlying4
  a4 := Tryd.isAgg4
  z4 := Tryd.sizeOf4
  v4 := Tryd.zeroValue4
  t9 := Tryd.underlying9
  a9 := Tryd.isAgg9
  z9 := Tryd.sizeOf9
  v9 := Tryd.zeroValue9 }
open Go.Lib in
/-- internal/strconv.small: "small returns the string for an i with 0 <= i < nSmalls.": i's decimal numeral. The world is as it was. (LAID: no walk: one application.) -/
theorem Tryd.internal_strconv_small (i : Nat) (h : i < 100) (w : World) :
    Calls Tryd.prog 103 #[.int .i64 i] w fun e w' => e = .returned (.string ⟨(Lib.decDigits i).toArray⟩) ∧ w' = w := Any.internal_strconv_small Tryd.lays283 i h w
def Tryd.laysM284_ren : Go.Shelf.Ren := ⟨fun | 284 => 104 | 129 => 45 | 317 => 117 | 318 => 118 | n => n, fun | 53 => 34 | 3 => 3 | 212 => 160 | 0 => 0 | 4 => 4 | 46 => 117 | 5 => 5 | 9 => 9 | n => n, fun | 17 => 0 | n => n⟩
theorem Tryd.laysM284 : Go.Proofs.LaysM.n284 Tryd.prog Tryd.laysM284_ren := {
  mixed := by kernel_rfl
  f129 := Tryd.func45.trans (congrArg some (by kernel_rfl))
  f284 := Tryd.func104.trans (congrArg some (by kernel_rfl))
  f317 := Tryd.func117.trans (congrArg some (by kernel_rfl))
  f318 := Tryd.func118.trans (congrArg some (by kernel_rfl))
  t0 := Tryd.underlying0
  a0 := Tryd.isAgg0
  z0 := Tryd.sizeOf0
  v0 := Tryd.zeroValue0
  t3 := Tryd.underlying3
  a3 := Tryd.isAgg3
  z3 := Tryd.sizeOf3
  v3 := Tryd.zeroValue3
  t4 := Tryd.underlying4
  a4 := Tryd.isAgg4
  z4 := Tryd.sizeOf4
  v4 := Tryd.zeroValue4
  t5 := Tryd.underlying5
  a5 := Tryd.isAgg5
  z5 := Tryd.sizeOf5
  v5 := Tryd.zeroValue5
  t9 := Tryd.underlying9
  a9 := Tryd.isAgg9
  z9 := Tryd.sizeOf9
  v9 := Tryd.zeroValue9
  t46 := Tryd.underlying117
  a46 := Tryd.isAgg117
  z46 := Tryd.sizeOf117
  v46 := Tryd.zeroValue117
  t53 := Tryd.underlying34
  a53 := Tryd.isAgg34
  z53 := Tryd.sizeOf34
  v53 := Tryd.zeroValue34
  t212 := Tryd.underlying160
  a212 := Tryd.isAgg160
  z212 := Tryd.sizeOf160
  v212 := Tryd.zeroValue160
  g17 := by kernel_rfl
  i0 := by kernel_rfl
  i3 := by kernel_rfl
  i4 := by kernel_rfl
  i5 := by kernel_rfl
  i9 := by kernel_rfl
  i46 := by kernel_rfl
  i53 := by kernel_rfl
  i212 := by kernel_rfl
  m17 := by kernel_rfl }
open Go.Lib in
/-- internal/strconv.numDigits, at a d that is not 0: THE NUMBER OF d's DECIMAL DIGITS. The world is as it was. (LAID: no walk: one application.) -/
theorem Tryd.internal_strconv_numDigits (u : Nat) (h1 : 1 ≤ u) (h2 : u < 18446744073709551616) (w : World) (htab : Lib.TabIs Tryd.prog w "internal/strconv.uint64pow10" .u64 Lib.pow10Tab) :
    Calls Tryd.prog 104 #[.int .u64 u] w fun e w' => e = .returned (.int .i64 (Lib.nDigits u)) ∧ w' = w := Any.internal_strconv_numDigits Tryd.laysM284 u h1 h2 w htab
def Tryd.lays285_ren : Go.Shelf.Ren := ⟨fun | 285 => 105 | n => n, fun | 37 => 24 | 53 => 34 | 3 => 3 | 4 => 4 | 51 => 150 | 9 => 9 | 5 => 5 | 0 => 0 | n => n, fun | n => n⟩
theorem Tryd.lays285 : Go.Proofs.Lays.n285 Tryd.prog Tryd.lays285_ren := {
  mixed := by kernel_rfl
  f285 := Tryd.func105.trans (congrArg some (by kernel_rfl))
  t0 := Tryd.underlying0
  a0 := Tryd.isAgg0
  z0 := Tryd.sizeOf0
  v0 := Tryd.zeroValue0
  t3 := Tryd.underlying3
  a3 := Tryd.isAgg3
  z3 := Tryd.sizeOf3
  v3 := Tryd.zeroValue3
  t4 := Tryd.underlying4
  a4 := Tryd.isAgg4
  z4 := Tryd.sizeOf4
  v4 := Tryd.zeroValue4
  t5 := Tryd.underlying5
  a5 := Tryd.isAgg5
  z5 := Tryd.sizeOf5
  v5 := Tryd.zeroValue5
  t9 := Tryd.underlying9
  a9 := Tryd.isAgg9
  z9 := Tryd.sizeOf9
  v9 := Tryd.zeroValue9
  t37 := Tryd.underlying24
  a37 := Tryd.isAgg24
  z37 := Tryd.sizeOf24
  v37 := Tryd.zeroValue24
  t51 := Tryd.underlying150
  a51 := Tryd.isAgg150
  z51 := Tryd.sizeOf150
  v51 := Tryd.zeroValue150
  t53 := Tryd.underlying34
  a53 := Tryd.isAgg34
  z53 := Tryd.sizeOf34
  v53 := Tryd.zeroValue34 }
open Go.RowKit Go.Sort Go.Lib in
/-- internal/strconv.formatBase10: "formatBase10 formats the decimal representation of u into a. The caller is responsible for ensuring that a is big enough to hold u. If a is too big, leading zeros will be filled in as needed.": THE ROW HOLDS u's DIGITS ('FmtInv .. 0 ..': every place t holds 'dg u (len - 1 - t)'); all else is as it was but for the count of draws. (LAID: no walk: one application.) -/
theorem Tryd.internal_strconv_formatBase10 (blk off cap : Nat) (u : Nat) (d : Array UInt8) (w : World) (hH : Holds (fun (b : UInt8) => Value.int .u8 (b.toNat : Int)) w blk off d) (hu : u < 10 ^ d.size) (hu64 : u < 18446744073709551616) (hsz : d.size < 4611686018427387904) :
    Calls Tryd.prog 105 #[.slice (some ⟨blk, off, none⟩) d.size cap, .int .u64 u] w fun e w' =>
      e = .returned (.tuple #[]) ∧ ∃ (n v' : Nat) (dk : Array UInt8), w' = (putRow (fun (b : UInt8) => Value.int .u8 (b.toNat : Int)) w blk off dk).drewN n ∧ FmtInv d.size u 0 v' dk := Any.internal_strconv_formatBase10 Tryd.lays285 blk off cap u d w hH hu hu64 hsz
def Tryd.lays206_ren : Go.Shelf.Ren := ⟨fun | 206 => 108 | n => n, fun | 9 => 9 | 4 => 4 | 3 => 3 | n => n, fun | n => n⟩
theorem Tryd.lays206 : Go.Proofs.Lays.n206 Tryd.prog Tryd.lays206_ren := {
  mixed := by kernel_rfl
  f206 := Tryd.func108.trans (congrArg some (by kernel_rfl))
  t3 := Tryd.underlying3
  a3 := Tryd.isAgg3
  z3 := Tryd.sizeOf3
  v3 := Tryd.zeroValue3
  t4 := Tryd.underlying4
  a4 := Tryd.isAgg4
  z4 := Tryd.sizeOf4
  v4 := Tryd.zeroValue4
  t9 := Tryd.underlying9
  a9 := Tryd.isAgg9
  z9 := Tryd.sizeOf9
  v9 := Tryd.zeroValue9 }
open Go.RowKit Go.Lib in
/-- internal/stringslite.HasPrefix (what strings.HasPrefix calls). (LAID: no walk: one application.) -/
theorem Tryd.stringslite_HasPrefix (s p : ByteArray) (w : World) :
    Calls Tryd.prog 108 #[.string s, .string p] w fun e w' => e = .returned (.bool (Lib.hasPrefix s.data.toList p.data.toList)) ∧ w' = w := Any.stringslite_HasPrefix Tryd.lays206 s p w
def Tryd.lays99_ren : Go.Shelf.Ren := ⟨fun | 99 => 85 | 206 => 108 | n => n, fun | 9 => 9 | 4 => 4 | 3 => 3 | n => n, fun | n => n⟩
theorem Tryd.lays99 : Go.Proofs.Lays.n99 Tryd.prog Tryd.lays99_ren := {
  mixed := by kernel_rfl
  f99 := Tryd.func85.trans (congrArg some (by kernel_rfl))
  f206 := Tryd.func108.trans (congrArg some (by kernel_rfl))
  t3 := Tryd.underlying3
  a3 := Tryd.isAgg3
  z3 := Tryd.sizeOf3
  v3 := Tryd.zeroValue3
  t4 := Tryd.underlying4
  a4 := Tryd.isAgg4
  z4 := Tryd.sizeOf4
  v4 := Tryd.zeroValue4
  t9 := Tryd.underlying9
  a9 := Tryd.isAgg9
  z9 := Tryd.sizeOf9
  v9 := Tryd.zeroValue9 }
open Go.RowKit Go.Lib in
/-- strings.HasPrefix: "HasPrefix reports whether the string s begins with prefix.": IT RETURNS 'Lib.hasPrefix s prefix'; the world is as it was. (LAID: no walk: one application.) -/
theorem Tryd.strings_HasPrefix (s p : ByteArray) (w : World) :
    Calls Tryd.prog 85 #[.string s, .string p] w fun e w' => e = .returned (.bool (Lib.hasPrefix s.data.toList p.data.toList)) ∧ w' = w := Any.strings_HasPrefix Tryd.lays99 s p w
def Tryd.lays264_ren : Go.Shelf.Ren := ⟨fun | 264 => 65 | n => n, fun | 53 => 34 | 46 => 117 | n => n, fun | n => n⟩
theorem Tryd.lays264 : Go.Proofs.Lays.n264 Tryd.prog Tryd.lays264_ren := {
  mixed := by kernel_rfl
  f264 := Tryd.func65.trans (congrArg some (by kernel_rfl))
  t46 := Tryd.underlying117
  a46 := Tryd.isAgg117
  z46 := Tryd.sizeOf117
  v46 := Tryd.zeroValue117
  t53 := Tryd.underlying34
  a53 := Tryd.isAgg34
  z53 := Tryd.sizeOf34
  v53 := Tryd.zeroValue34 }
open Go.RowKit Go.Lib in
theorem Tryd.bits_Mul64 (x y : Nat) (hx : x < 18446744073709551616) (hy : y < 18446744073709551616) (w : World) :
    Calls Tryd.prog 65 #[.int .u64 x, .int .u64 y] w fun e w' => e = .returned (.tuple #[.int .u64 ((x * y / 18446744073709551616 : Nat) : Int), .int .u64 ((x * y % 18446744073709551616 : Nat) : Int)]) ∧ w' = w := Any.bits_Mul64 Tryd.lays264 x y hx hy w
def Tryd.lays212_ren : Go.Shelf.Ren := ⟨fun | 212 => 84 | 263 => 107 | 264 => 65 | n => n, fun | 46 => 117 | 51 => 150 | 146 => 151 | 53 => 34 | 148 => 105 | n => n, fun | n => n⟩
theorem Tryd.lays212 : Go.Proofs.Lays.n212 Tryd.prog Tryd.lays212_ren := {
  mixed := by kernel_rfl
  f212 := Tryd.func84.trans (congrArg some (by kernel_rfl))
  f263 := Tryd.func107.trans (congrArg some (by kernel_rfl))
  f264 := Tryd.func65.trans (congrArg some (by kernel_rfl))
  t46 := Tryd.underlying117
  a46 := Tryd.isAgg117
  z46 := Tryd.sizeOf117
  v46 := Tryd.zeroValue117
  t51 := Tryd.underlying150
  a51 := Tryd.isAgg150
  z51 := Tryd.sizeOf150
  v51 := Tryd.zeroValue150
  t53 := Tryd.underlying34
  a53 := Tryd.isAgg34
  z53 := Tryd.sizeOf34
  v53 := Tryd.zeroValue34
  t146 := Tryd.underlying151
  a146 := Tryd.isAgg151
  z146 := Tryd.sizeOf151
  v146 := Tryd.zeroValue151
  t148 := Tryd.underlying105
  a148 := Tryd.isAgg105
  z148 := Tryd.sizeOf105
  v148 := Tryd.zeroValue105 }
open Go.RowKit Go.Lib in
/-- math/bits.Mul: "Mul returns the full-width product of x and y": on a machine of 64 bits: Mul64's. (LAID: no walk: one application.) -/
theorem Tryd.bits_Mul (x y : Nat) (hx : x < 18446744073709551616) (hy : y < 18446744073709551616) (w : World) :
    Calls Tryd.prog 84 #[.int .u64 x, .int .u64 y] w fun e w' => e = .returned (.tuple #[.int .u64 ((x * y / 18446744073709551616 : Nat) : Int), .int .u64 ((x * y % 18446744073709551616 : Nat) : Int)]) ∧ w' = w := Any.bits_Mul Tryd.lays212 x y hx hy w
def Tryd.lays105_ren : Go.Shelf.Ren := ⟨fun | 105 => 59 | 212 => 84 | 99 => 85 | 165 => 86 | 166 => 57 | 170 => 87 | 169 => 60 | 263 => 107 | 264 => 65 | 206 => 108 | 240 => 82 | 241 => 109 | 276 => 102 | 277 => 121 | n => n, fun | 9 => 9 | 3 => 3 | 4 => 4 | 20 => 20 | 0 => 0 | 46 => 117 | 109 => 125 | 5 => 5 | 72 => 95 | 76 => 98 | 51 => 150 | 146 => 151 | 53 => 34 | 148 => 105 | 70 => 93 | 37 => 24 | 75 => 97 | 127 => 129 | 164 => 143 | 80 => 69 | n => n, fun | n => n⟩
theorem Tryd.lays105 : Go.Proofs.Lays.n105 Tryd.prog Tryd.lays105_ren := {
  mixed := by kernel_rfl
  f99 := Tryd.func85.trans (congrArg some (by kernel_rfl))
  f105 := Tryd.func59.trans (congrArg some (by kernel_rfl))
  f165 := Tryd.func86.trans (congrArg some (by kernel_rfl))
  f166 := Tryd.func57.trans (congrArg some (by kernel_rfl))
  f169 := Tryd.func60.trans (congrArg some (by kernel_rfl))
  f170 := Tryd.func87.trans (congrArg some (by kernel_rfl))
  f206 := Tryd.func108.trans (congrArg some (by kernel_rfl))
  f212 := Tryd.func84.trans (congrArg some (by kernel_rfl))
  f240 := Tryd.func82.trans (congrArg some (by kernel_rfl))
  f241 := Tryd.func109.trans (congrArg some (by kernel_rfl))
  f263 := Tryd.func107.trans (congrArg some (by kernel_rfl))
  f264 := Tryd.func65.trans (congrArg some (by kernel_rfl))
  f276 := Tryd.func102.trans (congrArg some (by kernel_rfl))
  f277 := Tryd.func121.trans (congrArg some (by kernel_rfl))
  t0 := Tryd.underlying0
  a0 := Tryd.isAgg0
  z0 := Tryd.sizeOf0
  v0 := Tryd.zeroValue0
  t3 := Tryd.underlying3
  a3 := Tryd.isAgg3
  z3 := Tryd.sizeOf3
  v3 := Tryd.zeroValue3
  t4 := Tryd.underlying4
  a4 := Tryd.isAgg4
  z4 := Tryd.sizeOf4
  v4 := Tryd.zeroValue4
  t5 := Tryd.underlying5
  a5 := Tryd.isAgg5
  z5 := Tryd.sizeOf5
  v5 := Tryd.zeroValue5
  t9 := Tryd.underlying9
  a9 := Tryd.isAgg9
  z9 := Tryd.sizeOf9
  v9 := Tryd.zeroValue9
  t20 := Tryd.underlying20
  a20 := Tryd.isAgg20
  z20 := Tryd.sizeOf20
  v20 := Tryd.zeroValue20
  t37 := Tryd.underlying24
  a37 := Tryd.isAgg24
  z37 := Tryd.sizeOf24
  v37 := Tryd.zeroValue24
  t46 := Tryd.underlying117
  a46 := Tryd.isAgg117
  z46 := Tryd.sizeOf117
  v46 := Tryd.zeroValue117
  t51 := Tryd.underlying150
  a51 := Tryd.isAgg150
  z51 := Tryd.sizeOf150
  v51 := Tryd.zeroValue150
  t53 := Tryd.underlying34
  a53 := Tryd.isAgg34
  z53 := Tryd.sizeOf34
  v53 := Tryd.zeroValue34
  t70 := Tryd.underlying93
  a70 := Tryd.isAgg93
  z70 := Tryd.sizeOf93
  v70 := Tryd.zeroValue93
  t72 := Tryd.underlying95
  a72 := Tryd.isAgg95
  z72 := Tryd.sizeOf95
  v72 := Tryd.zeroValue95
  t75 := Tryd.underlying97
  a75 := Tryd.isAgg97
  z75 := Tryd.sizeOf97
  v75 := Tryd.zeroValue97
  t76 := Tryd.underlying98
  a76 := Tryd.isAgg98
  z76 := Tryd.sizeOf98
  v76 := Tryd.zeroValue98
  t109 := Tryd.underlying125
  a109 := Tryd.isAgg125
  z109 := Tryd.sizeOf125
  v109 := Tryd.zeroValue125
  t127 := Tryd.underlying129
  a127 := Tryd.isAgg129
  z127 := Tryd.sizeOf129
  v127 := Tryd.zeroValue129
  t146 := Tryd.underlying151
  a146 := Tryd.isAgg151
  z146 := Tryd.sizeOf151
  v146 := Tryd.zeroValue151
  t148 := Tryd.underlying105
  a148 := Tryd.isAgg105
  z148 := Tryd.sizeOf105
  v148 := Tryd.zeroValue105
  t164 := Tryd.underlying143
  a164 := Tryd.isAgg143
  z164 := Tryd.sizeOf143
  v164 := Tryd.zeroValue143 }
theorem Tryd.Builder_Extra_105 : Builder.Extra Tryd.prog Tryd.lays105_ren := {
  sizeBuilder := by kernel_rfl
  liesBuilder := by kernel_rfl
  t5 := Tryd.underlying5
  a5 := Tryd.isAgg5
  z5 := Tryd.sizeOf5
  v5 := Tryd.zeroValue5
  infoByte := by kernel_rfl
  cellsByte := by kernel_rfl
  sizeByte := by kernel_rfl
  neB5 := by decide }
open Go.RowKit Go.Lib in
/-- THE MAIN CASE: at least two copies of a string that is not empty. (LAID: no walk: one application.) -/
theorem Tryd.strings_Repeat_main (s : ByteArray) (c : Nat) (w : World) (hc2 : 2 ≤ c) (hc : c ≤ 9223372036854775807) (hlen : s.size * c ≤ 140737488355328) (h0 : 0 < s.size) :
    Calls Tryd.prog 59 #[.string s, .int .i64 c] w fun e w' => e = .returned (.string ⟨(Lib.repeatL s.data.toList c).toArray⟩) ∧ Below w.heap.size w w' := Any.strings_Repeat_main Tryd.lays105 Tryd.Builder_Extra_105 s c w hc2 hc hlen h0
open Go.RowKit Go.Lib in
theorem Tryd.strings_Repeat_zero (s : ByteArray) (w : World) :
    Calls Tryd.prog 59 #[.string s, .int .i64 0] w fun e w' => e = .returned (.string ⟨#[]⟩) ∧ w' = w := Any.strings_Repeat_zero Tryd.lays105 s w
open Go.RowKit Go.Lib in
theorem Tryd.strings_Repeat_one (s : ByteArray) (w : World) :
    Calls Tryd.prog 59 #[.string s, .int .i64 1] w fun e w' => e = .returned (.string s) ∧ w' = w := Any.strings_Repeat_one Tryd.lays105 s w
open Go.RowKit Go.Lib in
/-- Copies of the empty string. (LAID: no walk: one application.) -/
theorem Tryd.strings_Repeat_empty (s : ByteArray) (c : Nat) (w : World) (hc2 : 2 ≤ c) (hc : c ≤ 9223372036854775807) (h0 : s.size = 0) :
    Calls Tryd.prog 59 #[.string s, .int .i64 c] w fun e w' => e = .returned (.string ⟨#[]⟩) ∧ w' = w := Any.strings_Repeat_empty Tryd.lays105 s c w hc2 hc h0
open Go.RowKit Go.Lib in
/-- count < 0: "It panics if count is negative". (LAID: no walk: one application.) -/
theorem Tryd.strings_Repeat_negative (s : ByteArray) (c : Int) (w : World) (hc : c < 0) :
    Calls Tryd.prog 59 #[.string s, .int .i64 c] w fun e w' => e = .panicked [{ v := repeatPanic Tryd.lays105_ren "strings: negative Repeat count", recovered := false }] ∧ w' = w := Any.strings_Repeat_negative Tryd.lays105 s c w hc
open Go.RowKit Go.Lib in
/-- len(s) * count is no int: ".. or if the result of (len(s) * count) overflows". (LAID: no walk: one application.) -/
theorem Tryd.strings_Repeat_overflow (s : ByteArray) (c : Nat) (w : World) (hc : c ≤ 9223372036854775807) (hs : s.size ≤ 9223372036854775807) (hbig : 9223372036854775807 < s.size * c) :
    Calls Tryd.prog 59 #[.string s, .int .i64 c] w fun e w' => e = .panicked [{ v := repeatPanic Tryd.lays105_ren "strings: Repeat output length overflow", recovered := false }] ∧ w' = w := Any.strings_Repeat_overflow Tryd.lays105 s c w hc hs hbig
open Go.RowKit Go.Lib in
/-- **strings.Repeat: count ≥ 0, the result within one allocation: count copies of s.** (LAID: no walk: one application.) -/
theorem Tryd.strings_Repeat (s : ByteArray) (c : Nat) (w : World) (hc : c ≤ 9223372036854775807) (hlen : s.size * c ≤ 140737488355328) :
    Calls Tryd.prog 59 #[.string s, .int .i64 c] w fun e w' => e = .returned (.string ⟨(Lib.repeatL s.data.toList c).toArray⟩) ∧ Below w.heap.size w w' := Any.strings_Repeat Tryd.lays105 Tryd.Builder_Extra_105 s c w hc hlen
end Go.Proofs
namespace Go.By
open Go.RowKit
/-- which is greater -/
def cmpN (M N : Nat) : Int := if M < N then -1 else if N < M then 1 else 0
theorem cmpN_lt {M N : Nat} (h : M < N) : cmpN M N = -1 := by unfold cmpN; rw [if_pos h]
theorem cmpN_gt {M N : Nat} (h : N < M) : cmpN M N = 1 := by unfold cmpN; rw [if_neg (by omega), if_pos h]
theorem cmpN_eq {M N : Nat} (h : M = N) : cmpN M N = 0 := by unfold cmpN; rw [if_neg (by omega), if_neg (by omega)]
theorem valW_shorter {xs ys : List UInt64} (h : NormW ys) (hl : xs.length < ys.length) : valW xs < valW ys :=
  val_len (by decide) (words_lt xs) (by
    rw [List.getLast?_map]
    cases e : ys.getLast? with
    | none => simp
    | some x =>
      intro hx
      have : x.toNat = 0 := by simpa using hx
      have : x = 0 := UInt64.toNat_inj.1 (by simpa using this)
      exact h (by rw [e, this])) (by simpa using hl)
theorem drop_cons {α : Type} {xs : List α} {j : Nat} {x : α} (h : xs[j]? = some x) : xs.drop j = x :: xs.drop (j + 1) := by
  obtain ⟨hj, e⟩ := List.getElem?_eq_some_iff.1 h
  rw [← e, List.getElem_cons_drop hj]
/-- the highest unlike word decides -/
theorem valW_top {xs ys : List UInt64} {j : Nat} {x y : UInt64} (hl : xs.length = ys.length) (hx : xs[j]? = some x) (hy : ys[j]? = some y) (hs : xs.drop (j + 1) = ys.drop (j + 1)) (h : x.toNat < y.toNat) : valW xs < valW ys := by
  have hj := (List.getElem?_eq_some_iff.1 hx).1
  have hj' := (List.getElem?_eq_some_iff.1 hy).1
  have e1 : xs = xs.take j ++ x :: xs.drop (j + 1) := by rw [← drop_cons hx, List.take_append_drop]
  have e2 : ys = ys.take j ++ y :: xs.drop (j + 1) := by rw [hs, ← drop_cons hy, List.take_append_drop]
  rw [e1, e2]
  unfold valW
  rw [List.map_append, List.map_append, List.map_cons, List.map_cons]
  refine val_top (by decide) (fun a ha => ?_) (by simp; omega) h
  exact words_lt (xs.take j) a ha
theorem W64_eq {n : Int} {x : UInt64} (h : n = (x.toNat : Int)) : Value.int .u64 n = W64 x := by rw [h]
theorem bdn {B : Nat} {a w : World} (h : Below B a w) {n : Nat} : Below B a (w.drewN n) := ⟨h.os, h.tape, h.output, h.size, h.block⟩
end Go.By
namespace Go.Proofs.YtbfmdfbnhakolaaDoor
open Go.RowKit Go.By
theorem Len_any (q : Option Addr) (n c N : Nat) (w : World) (h : Ws 34 w q n c N) :
    Calls Tryd.prog 22 #[.agg #[.slice q n c]] w fun e w' => e = .returned (.int .i64 (bytesN N).length) ∧ Below w.heap.size w w' := by
  obtain ⟨ws, hs, hnorm, rfl⟩ := h.ex
  have hle := h.le
  have hnc := hs.le
  have HB : Hid (∀ o, Below w.heap.size w (w.alloc o)) := fun o => al (Below.refl _ _) (Nat.le_refl _)
  rcases Nat.eq_zero_or_pos n with h0 | h0
  · subst h0
    have : ws = [] := List.eq_nil_of_length_eq_zero hs.len
    subst this
    clear h hs hnorm
    go_enter Tryd.func22, Tryd.ntmps22
    go_wp2
    go_ret
    exact ⟨by rw [show valW [] = 0 from rfl, bytesN_zero]; rfl, HB.out _⟩
  · obtain ⟨k, rfl⟩ : ∃ k, n = k + 1 := ⟨n - 1, by omega⟩
    obtain ⟨b, o, x, rfl, hc, hx⟩ := hs.at k (by omega)
    have hc' : ∀ ob, (w.alloc ob).cell? ⟨b, o + k, none⟩ = some (W64 x) := fun ob => (World.cell?_of_block (a := ⟨b, o + k, none⟩) (hal_eq (lt_of_cell hc))).trans hc
    obtain ⟨e1, e2, e3⟩ := normW_bytes hnorm hs.len hx.out
    have hx1 : (x.toNat : Int) ≤ 18446744073709551615 := by have := x.toNat_lt; omega
    obtain ⟨L, hL⟩ : ∃ L, L = Lib.bitLen x.toNat := ⟨_, rfl⟩
    rw [← hL] at e1 e2 e3
    have HL := Lib.hid hL
    have HE := Lib.hid e1
    clear h hs hnorm hc hL e1 h0 hx
    go_enter Tryd.func22, Tryd.ntmps22
    go_wp2_with fail
    refine Calls.mono (Tryd.bits_Len64 _ _ (Int.natCast_nonneg _) hx1) ?_
    rintro e w' ⟨rfl, rfl⟩
    rw [Int.toNat_natCast, ← HL.out]
    go_wp2
    go_ret
    refine ⟨?_, HB.out _⟩
    rw [bytesN_len, HE.out]
    exact congrArg (fun z => Ending.returned (Value.int .i64 z)) (by omega)
set_option maxRecDepth 100000 in
set_option maxHeartbeats 1000000 in
theorem Cmp_any (p q : Option Addr) (n c m d M N : Nat) (w : World) (h1 : Ws 34 w p n c M) (h2 : Ws 34 w q m d N) :
    Calls Tryd.prog 11 #[.agg #[.slice p n c], .agg #[.slice q m d]] w fun e w' => e = .returned (.int .i64 (cmpN M N)) ∧ Below w.heap.size w w' := by
  obtain ⟨xs, hs1, hn1, hv1⟩ := h1.ex
  obtain ⟨ys, hs2, hn2, hv2⟩ := h2.ex
  have hl1 := hs1.len; have hl2 := hs2.len
  have b1 := h1.le; have b2 := h2.le
  have HB : Hid (∀ o o2, Below w.heap.size w ((w.alloc o).alloc o2)) := fun o o2 => al (al (Below.refl _ _) (Nat.le_refl _)) (by simp)
  rcases Nat.lt_trichotomy n m with hlt | heq | hgt
  · have HC : Hid (cmpN M N = -1) := cmpN_lt (by rw [← hv1, ← hv2]; exact valW_shorter hn2 (by omega))
    have hnm : (n : Int) < (m : Int) := by omega
    clear h1 h2 hs1 hs2 hn1 hn2 hl1 hl2 hv1 hv2 hlt
    go_enter Tryd.func11, Tryd.ntmps11
    go_wp2
    go_ret
    exact ⟨by rw [HC.out]; rfl, HB.out _ _⟩
  · subst heq
    have H1 := Lib.hid hs1; have H2 := Lib.hid hs2
    have HV : Hid (valW xs = M ∧ valW ys = N) := ⟨hv1, hv2⟩
    have HLL : Hid (xs.length = n ∧ ys.length = n) := ⟨hl1, hl2⟩
    clear h1 h2 hs1 hs2 hn1 hn2 hv1 hv2 hl1 hl2
    obtain ⟨W, hW⟩ : ∃ W, W = (w.alloc (.cells #[.slice p n c] 29)).alloc (.cells #[.slice q n d] 29) := ⟨_, rfl⟩
    have hbW : Below w.heap.size w W := by rw [hW]; exact HB.out _ _
    have S1 : Hid (Sl W64 W p n c xs) := H1.out.keep hbW
    have S2 : Hid (Sl W64 W q n d ys) := H2.out.keep hbW
    have f1 : W.cell? ⟨w.heap.size, 0, none⟩ = some (.slice p n c) := by rw [hW]; exact cell_of_row _ _ 0 _ _ _ (hal (hnew rfl))
    have f2 : W.cell? ⟨w.heap.size + 1, 0, none⟩ = some (.slice q n d) := by rw [hW]; exact cell_of_row _ _ 0 _ _ _ (hnew (by simp))
    have HBW := Lib.hid hbW; clear hbW
    have HW := Lib.hid hW; clear hW
    go_enter Tryd.func11, Tryd.ntmps11
    go_wp2
    rw [← HW.out]
    go_loopw [25] (fun i wr => ∃ k u : Nat, k ≤ n ∧ i = .int .i64 k ∧ wr = W.drewN u ∧ Hid (xs.drop (n - k) = ys.drop (n - k))) (fun i _ => n - (intOf i).toNat)
    case atStart => exact ⟨0, 0, Nat.zero_le _, rfl, rfl, by show xs.drop _ = ys.drop _; rw [List.drop_of_length_le (by have := HLL.out.1; omega), List.drop_of_length_le (by have := HLL.out.2; omega)]⟩
    case round =>
      obtain ⟨k, u, hk, rfl, rfl, hj⟩ := hrel
      by_cases hlt : k < n
      · obtain ⟨j, hjk⟩ : ∃ j, n = j + k + 1 := ⟨n - 1 - k, by omega⟩
        obtain ⟨b, o, x, rfl, hc, hx⟩ := S1.out.at j (by omega)
        obtain ⟨b', o', y, rfl, hc', hy⟩ := S2.out.at j (by omega)
        have hidx : (n : Int) - 1 - (k : Int) = (j : Int) := by omega
        have hjn : (j : Int) < (n : Int) := by omega
        have hlt' : (k : Int) < (n : Int) := by omega
        have hj' : Hid (xs.drop (j + 1) = ys.drop (j + 1)) := by have := hj.out; rwa [show n - k = j + 1 by omega] at this
        rcases Nat.lt_trichotomy x.toNat y.toNat with h | h | h
        · have HC : Hid (cmpN M N = -1) := cmpN_lt (by rw [← HV.out.1, ← HV.out.2]; exact valW_top (HLL.out.1.trans HLL.out.2.symm) hx.out hy.out hj'.out h)
          have h' : (x.toNat : Int) < (y.toNat : Int) := by omega
          clear h hj hjk hlt
          go_wp2
          go_quiet (fail)
          go_wp2
          go_ret
          exact ⟨by rw [HC.out]; rfl, bdn HBW.out⟩
        · have HN : Hid (xs.drop j = ys.drop j) := by
            have : x = y := UInt64.toNat_inj.1 h
            show xs.drop j = ys.drop j
            rw [drop_cons hx.out, drop_cons hy.out, hj'.out, this]
          have h1 : ¬ (x.toNat : Int) < (y.toNat : Int) := by omega
          have h2 : ¬ (y.toNat : Int) < (x.toNat : Int) := by omega
          have HJ := Lib.hid hjk
          clear h hj hjk hlt
          go_wp2
          go_quiet (fail)
          go_wp2
          go_roundw
          case rel => exact ⟨k + 1, _, by have := HJ.out; omega, by go_num, rfl, by have := HN.out; rwa [show j = n - (k + 1) by have := HJ.out; omega] at this⟩
          case measure => simp [intOf]; have := HJ.out; omega
        · have HC : Hid (cmpN M N = 1) := cmpN_gt (by rw [← HV.out.1, ← HV.out.2]; exact valW_top (HLL.out.2.trans HLL.out.1.symm) hy.out hx.out hj'.out.symm h)
          have h1 : ¬ (x.toNat : Int) < (y.toNat : Int) := by omega
          have h2 : (y.toNat : Int) < (x.toNat : Int) := by omega
          clear h hj hjk hlt
          go_wp2
          go_quiet (fail)
          go_wp2
          go_ret
          exact ⟨by rw [HC.out]; rfl, bdn HBW.out⟩
      · have hkn : k = n := by omega
        subst hkn
        have HC : Hid (cmpN M N = 0) := cmpN_eq (by
          have := hj.out
          rw [Nat.sub_self, List.drop_zero, List.drop_zero] at this
          rw [← HV.out.1, ← HV.out.2, this])
        clear hlt hj
        go_wp2
        go_ret
        exact ⟨by rw [HC.out]; rfl, bdn HBW.out⟩
  · have HC : Hid (cmpN M N = 1) := cmpN_gt (by rw [← hv1, ← hv2]; exact valW_shorter hn1 (by omega))
    have hnm : ¬ (n : Int) < (m : Int) := by omega
    have hnm2 : (m : Int) < (n : Int) := by omega
    clear h1 h2 hs1 hs2 hn1 hn2 hl1 hl2 hv1 hv2 hgt
    go_enter Tryd.func11, Tryd.ntmps11
    go_wp2
    go_ret
    exact ⟨by rw [HC.out]; rfl, HB.out _ _⟩
theorem add64_run (x y c : Int) (hx : 0 ≤ x) (hy : 0 ≤ y) (hc0 : 0 ≤ c) (hc : c ≤ 1) (w : World) : (callFunc 64 #[.int .u64 x, .int .u64 y, .int .u64 c]).run Tryd.prog w =
    .ok (.value (.tuple #[.int .u64 ((x + y + c) % 18446744073709551616), .int .u64 ((x + y + c) / 18446744073709551616)])) w := by
  obtain ⟨x, rfl⟩ := Int.eq_ofNat_of_zero_le hx
  obtain ⟨y, rfl⟩ := Int.eq_ofNat_of_zero_le hy
  obtain ⟨c, rfl⟩ := Int.eq_ofNat_of_zero_le hc0
  rw [run_callFunc_extern Tryd.func64 (by kernel_rfl) (by kernel_rfl) (by kernel_rfl) (e := add64Entry) (by kernel_rfl), run_add64 x y c (by omega) (by omega) (by omega) (by omega)]
  simp only [Result.andThen]
/-- one word of a sum, its parts known -/
theorem add64_ex (x y c : Nat) (hc : c ≤ 1) (hx : x < 18446744073709551616) (hy : y < 18446744073709551616) : ∃ (s : UInt64) (c' : Nat), (∀ w, (callFunc 64 #[.int .u64 x, .int .u64 y, .int .u64 c]).run Tryd.prog w = .ok (.value (.tuple #[W64 s, .int .u64 c'])) w) ∧ c' ≤ 1 ∧ Hid (s.toNat = (x + y + c) % 18446744073709551616 ∧ c' = (x + y + c) / 18446744073709551616) := by
  have e : (UInt64.ofNat ((x + y + c) % 18446744073709551616)).toNat = (x + y + c) % 18446744073709551616 := by
    simp
  refine ⟨UInt64.ofNat ((x + y + c) % 18446744073709551616), (x + y + c) / 18446744073709551616, fun w => ?_, by omega, e, rfl⟩
  rw [add64_run _ _ _ (by omega) (by omega) (by omega) (by omega)]
  have e2 : W64 (UInt64.ofNat ((x + y + c) % 18446744073709551616)) = .int .u64 (((x + y + c) % 18446744073709551616 : Nat) : Int) := by show Value.int .u64 _ = _; rw [e]
  rw [e2]
  congr 5
end Go.Proofs.YtbfmdfbnhakolaaDoor
namespace Go.By
open Go.RowKit
theorem idx_hex {P : Program} (t : TypeId) (ht : P.underlying t = some .string) (z : Int) (d : Nat) (hz : z = (d : Int)) (hd : d < 16) (w : World) :
    (Instr.index t (.string Lib.digits36) (.int .u64 z)).run P w = .ok (B8 (hexc d)) w := by
  subst hz
  rw [run_index_string w t Lib.digits36 _ _ ht, dif_pos ⟨by omega, by rw [Lib.digits36_size]; omega⟩]
  have e : ((d : Int)).toNat = d := by omega
  simp only [e]
  have key : ∀ d : Fin 16, Lib.digits36.data.toList[d.val]? = some (hexc d.val) := by decide +kernel
  have k := key ⟨d, hd⟩
  have hsz : d < Lib.digits36.size := by rw [Lib.digits36_size]; omega
  have : Lib.digits36[d]'hsz = hexc d := by
    rw [Array.getElem?_toList] at k
    have h2 : Lib.digits36.data[d]? = some (Lib.digits36[d]'hsz) := Array.getElem?_eq_getElem hsz
    rw [h2] at k
    exact Option.some.inj k
  rw [this]
theorem hexText_small {u : Nat} (h : u < 16) : hexText u = [hexc u] := by
  unfold hexText
  by_cases h0 : u = 0
  · subst h0; rfl
  · rw [if_neg h0, digs_pos (by decide) (by omega), Nat.div_eq_of_lt h, digs_zero, Nat.mod_eq_of_lt h]; rfl
theorem hexText_big {u : Nat} (h : 16 ≤ u) : hexText u = hexText (u / 16) ++ [hexc (u % 16)] := by
  have h1 : u / 16 ≠ 0 := by omega
  unfold hexText
  rw [if_neg (by omega), if_neg h1, digs_pos (by decide) (by omega), List.reverse_cons, List.map_append]; rfl
theorem hexText_pos (u : Nat) : 1 ≤ (hexText u).length := by
  have := hexText_ne u
  cases h : hexText u with
  | nil => exact absurd h this
  | cons _ _ => simp
theorem wr_u64 (n : Int) (h0 : 0 ≤ n) (h1 : n < 2 ^ 64) : IntKind.u64.wrap n = n := by
  rw [IntKind.wrap_u64]
  have : (2 : Int) ^ 64 = 18446744073709551616 := by decide
  omega
theorem and15 (u : Nat) (h : u < 18446744073709551616) : bits .and .u64 (u : Int) 15 = ((u % 16 : Nat) : Int) := by
  have h1 := (bits_nat .u64 64 (by decide) wr_u64 u 15 (by simpa using h) (by decide)).1
  rw [show ((15 : Int)) = ((15 : Nat) : Int) from rfl, h1]
  congr 1
  exact Nat.and_two_pow_sub_one_eq_mod u 4
end Go.By
namespace Go.Proofs.YtbfmdfbnhakolaaDoor
open Go.RowKit Go.By
/-- the one cell of the table that is read -/
def Tab (w : World) : Prop := w.cell? ⟨3, 15, none⟩ = some (.int .u8 4)
theorem Tab.keep {w w' : World} (h : Tab w) (hb : Below w.heap.size w w') : Tab w' := (hb.cell (p := ⟨3, 15, none⟩) (lt_of_cell h)).trans h
theorem Tz64 (w : World) (h : Tab w) : Calls Tryd.prog 125 #[.int .u64 16] w fun e w' => e = .returned (.int .i64 4) ∧ w' = w := by
  have hc : w.cell? ⟨3, 15, none⟩ = some (.int .u8 4) := h
  have key : IntKind.u64.wrap (bits BinOp.and IntKind.u64 16 (IntKind.u64.wrap (-16)) * 285870213051353865) / 288230376151711744 = 15 := by decide
  clear h
  go_enter Tryd.func125, Tryd.ntmps125
  go_wp2_with (simp only [key])
  go_ret
  exact ⟨rfl, rfl⟩
theorem Tz (w : World) (h : Tab w) : Calls Tryd.prog 120 #[.int .u64 16] w fun e w' => e = .returned (.int .i64 4) ∧ w' = w := by
  go_enter Tryd.func120, Tryd.ntmps120
  go_wp2_with fail
  refine Calls.mono (Tz64 w h) ?_
  rintro e w' ⟨rfl, rfl⟩
  go_wp2
  go_ret
  exact ⟨rfl, rfl⟩
theorem Pow2 (w : World) : Calls Tryd.prog 119 #[.int .i64 16] w fun e w' => e = .returned (.bool true) ∧ w' = w := by
  have key : bits BinOp.and IntKind.i64 16 15 = 0 := by decide
  go_enter Tryd.func119, Tryd.ntmps119
  go_wp2_with (simp only [key])
  go_ret
  exact ⟨rfl, rfl⟩
set_option maxRecDepth 100000 in
set_option maxHeartbeats 4000000 in
theorem formatBits_16 (n : UInt64) (w : World) (hT : Tab w) :
    Calls Tryd.prog 106 #[.slice none 0 0, W64 n, .int .i64 16, .bool false, .bool false] w fun e w' => e = .returned (.tuple #[.slice none 0 0, .string ⟨(hexText n.toNat).toArray⟩]) ∧ Below w.heap.size w w' := by
  have hA : ∀ o, Below w.heap.size w (w.alloc o) := fun o => al (Below.refl _ _) (Nat.le_refl _)
  have T1 : Hid (∀ o, Tab (w.alloc o)) := fun o => hT.keep (hA o)
  have HA := Lib.hid hA; clear hA
  have hn16 : Hid ((hexText n.toNat).length ≤ 16) := (hex_pad (k := 16) (by decide) (by have := n.toNat_lt; simpa using this)).2
  go_enter Tryd.func106, Tryd.ntmps106
  go_name_bytes_deep 40 PM hPM
  clear hPM
  go_name_bytes_deep 30 DG hDG
  have eDG : DG = Lib.digits36 := by rw [← hDG]; decide +kernel
  subst eDG
  clear hDG
  go_wp2_with fail
  refine Calls.mono (Pow2 _) ?_
  rintro e w' ⟨rfl, rfl⟩
  go_wp2_with fail
  refine Calls.mono (Tz _ (T1.out _)) ?_
  rintro e w' ⟨rfl, rfl⟩
  go_wp2
  go_loopw [1, 13] (fun uv iv wr => ∃ (u i : Nat) (L : List UInt8) (C : Array Value), uv = .int .u64 u ∧ iv = .int .i64 i ∧ u < 18446744073709551616 ∧ Hid (L.length + i = 65 ∧ C.size = 65 ∧ C.toList.drop i = L.map B8 ∧ hexText n.toNat = hexText u ++ L) ∧ Hid (wr.heap[w.heap.size]? = some (.cells C 161 (0, 0))) ∧ Hid (Below w.heap.size w wr)) (fun uv _ _ => (intOf uv).toNat)
  case atStart =>
    have h65 : Tryd.zeroCells161.size = 65 := by kernel_rfl
    exact ⟨n.toNat, 65, [], Tryd.zeroCells161, rfl, rfl, n.toNat_lt, ⟨rfl, h65, List.drop_of_length_le (by simp [h65]), by simp⟩, hnew rfl, HA.out _⟩
  case round =>
    obtain ⟨u, i, L, C, rfl, rfl, hu, hL, hh, hB⟩ := hrel
    obtain ⟨j, rfl⟩ : ∃ j, i = j + 1 := ⟨i - 1, by
      have h1 := hL.out.1; have h2 := congrArg List.length hL.out.2.2.2; have h3 := hexText_pos u; have h4 := hn16.out
      rw [List.length_append] at h2; omega⟩
    have hj65 : (j : Int) < 65 := by have := hL.out.1; omega
    have hjn : j < C.size := by have := hL.out.1; have := hL.out.2.1; omega
    obtain ⟨z, hz⟩ : ∃ z, wr.cell? ⟨w.heap.size, j, none⟩ = some z := ⟨_, by rw [cell_of_row _ _ j _ _ _ hh.out, Array.getElem?_eq_getElem hjn]⟩
    have hzf : wr.frozen? ⟨w.heap.size, j, none⟩ = false := frozen_of_row _ _ j _ _ hh.out
    have fin : Hid (∀ c : UInt8, (C.setIfInBounds j (B8 c)).size = 65 ∧ (C.setIfInBounds j (B8 c)).toList.drop j = (c :: L).map B8) := fun c => by
      refine ⟨by rw [Array.size_setIfInBounds]; exact hL.out.2.1, ?_⟩
      rw [Array.toList_setIfInBounds, List.drop_eq_getElem_cons (by simpa using hjn)]
      rw [List.getElem_set_self, List.drop_set_of_lt (by omega), hL.out.2.2.1]; rfl
    clear hjn
    by_cases h16 : 16 ≤ u
    · have hd := and15 u hu
      have hx : ∀ w, (Instr.index 9 (.string Lib.digits36) (.int .u64 ((u % 16 : Nat) : Int))).run Tryd.prog w = .ok (B8 (hexc (u % 16))) w := fun w => idx_hex _ Tryd.underlying9 _ (u % 16) rfl (Nat.mod_lt _ (by decide)) w
      have h16' : (16 : Int) ≤ (u : Int) := by omega
      obtain ⟨m, hm⟩ : ∃ m, m = u % 16 := ⟨_, rfl⟩
      rw [← hm] at hd hx
      have F : Hid ((hexc m :: L).length + j = 65 ∧ hexText n.toNat = hexText (u / 16) ++ (hexc m :: L)) := ⟨by have := hL.out.1; rw [List.length_cons]; omega, by rw [hL.out.2.2.2, hexText_big h16, hm, List.append_assoc]; rfl⟩
      obtain ⟨C', hC'⟩ : ∃ C', C' = C.setIfInBounds j (B8 (hexc m)) := ⟨_, rfl⟩
      have F2 : Hid (C'.size = 65 ∧ C'.toList.drop j = (hexc m :: L).map B8 ∧ (wr.setCell ⟨w.heap.size, j, none⟩ (B8 (hexc m))).heap[w.heap.size]? = some (.cells C' 161 (0, 0)) ∧ Below w.heap.size w (wr.setCell ⟨w.heap.size, j, none⟩ (B8 (hexc m)))) := ⟨by rw [hC']; exact (fin.out _).1, by rw [hC']; exact (fin.out _).2, by rw [hC']; exact hss hh.out, hB.out.setCell (Nat.le_refl _) _⟩
      clear hL hh hB hm h16 hC' fin
      go_wp2_with (first | simp only [hd] | simp only [hx])
      go_roundw
      case rel => exact ⟨u / 16, j, _, _, by go_num, rfl, by omega, ⟨F.out.1, F2.out.1, F2.out.2.1, F.out.2⟩, F2.out.2.2.1, F2.out.2.2.2⟩
      case measure => simp [intOf]; omega
    · have hx : ∀ w, (Instr.index 9 (.string Lib.digits36) (.int .u64 (u : Int))).run Tryd.prog w = .ok (B8 (hexc u)) w := fun w => idx_hex _ Tryd.underlying9 _ u rfl (by omega) w
      have h16' : ¬ (16 : Int) ≤ (u : Int) := by omega
      have hText : Hid (hexText n.toNat = hexc u :: L) := by show _ = _; rw [hL.out.2.2.2, hexText_small (by omega)]; rfl
      have hlen : j + (L.length + 1) = 65 := by have := hL.out.1; omega
      obtain ⟨C', hC'⟩ : ∃ C', C' = C.setIfInBounds j (B8 (hexc u)) := ⟨_, rfl⟩
      have hal : Tryd.prog.arrayLen 161 = 65 := by simp [Program.arrayLen, Tryd.underlying161]
      have hsl : ∀ W, (Instr.sliceAt 161 (.pointer (some ⟨w.heap.size, 0, none⟩)) (some (.int .i64 (j : Int))) none none).run Tryd.prog W = .ok (.slice (some ⟨w.heap.size, j, none⟩) (hexc u :: L).length (65 - j)) W := fun W => by
        rw [run_sliceAt_array_l W 161 ⟨w.heap.size, 0, none⟩ (by simp [Program.arrayLen, Program.elem, Tryd.underlying161]) .i64 (j : Int) (by omega) (by rw [hal]; omega)]
        go_simp
        omega
      have hcv : (convert 24 9 (.slice (some ⟨w.heap.size, j, none⟩) (hexc u :: L).length (65 - j))).run Tryd.prog (wr.setCell ⟨w.heap.size, j, none⟩ (B8 (hexc u))) = .ok (.string ⟨(hexc u :: L).toArray⟩) (wr.setCell ⟨w.heap.size, j, none⟩ (B8 (hexc u))) :=
        run_convert_bytes_back _ 24 9 5 ⟨w.heap.size, j, none⟩ (65 - j) (hexc u :: L) Tryd.underlying24 Tryd.underlying5 Tryd.underlying9 (fun t ht => by
          rw [Addr.add_lit, cell_of_row _ _ _ _ _ _ (hss hh.out)]
          have h2 := (fin.out (hexc u)).2
          have h3 := congrArg (fun l => l[t]?) h2
          simp only [List.getElem?_drop, List.getElem?_map] at h3
          rw [Array.getElem?_toList] at h3
          rw [h3, List.getElem?_eq_getElem ht]; rfl)
      have F2 : Hid (Below w.heap.size w (wr.setCell ⟨w.heap.size, j, none⟩ (B8 (hexc u)))) := hB.out.setCell (Nat.le_refl _) _
      obtain ⟨m, hm⟩ : ∃ m, (hexc u :: L).length = m := ⟨_, rfl⟩
      rw [hm] at hsl hcv
      obtain ⟨Z, hZ⟩ : ∃ Z, (hexc u :: L).toArray = Z := ⟨_, rfl⟩
      rw [hZ] at hcv
      have HZ : Hid ((hexText n.toNat).toArray = Z) := by show _ = _; rw [hText.out]; exact hZ
      clear hL hh hB h16 hC' fin hal hlen hm hZ hText
      go_wp2_with (first | simp only [hx] | simp only [hsl] | simp only [hcv])
      go_ret2
      exact ⟨by rw [HZ.out]; rfl, F2.out⟩
theorem FormatUint_in (n : UInt64) (w : World) (hT : Tab w) :
    Calls Tryd.prog 83 #[W64 n, .int .i64 16] w fun e w' => e = .returned (.string ⟨(hexText n.toNat).toArray⟩) ∧ Below w.heap.size w w' := by
  obtain ⟨Z, hZ⟩ : ∃ Z, (hexText n.toNat).toArray = Z := ⟨_, rfl⟩
  have HF := formatBits_16 n w hT
  rw [hZ] at HF ⊢
  clear hZ
  have HF := Lib.hid HF
  go_enter Tryd.func83, Tryd.ntmps83
  go_wp2_with fail
  refine Calls.mono HF.out ?_
  rintro e w' ⟨rfl, hb⟩
  have HB := Lib.hid hb; clear hb
  go_wp2
  go_ret
  exact ⟨rfl, HB.out⟩
theorem FormatUint_16 (n : UInt64) (w : World) (hT : Tab w) :
    Calls Tryd.prog 58 #[W64 n, .int .i64 16] w fun e w' => e = .returned (.string ⟨(hexText n.toNat).toArray⟩) ∧ Below w.heap.size w w' := by
  have HF := FormatUint_in n w hT
  obtain ⟨Z, hZ⟩ : ∃ Z, (hexText n.toNat).toArray = Z := ⟨_, rfl⟩
  rw [hZ] at HF ⊢
  clear hZ
  have HF := Lib.hid HF
  go_enter Tryd.func58, Tryd.ntmps58
  go_wp2_with fail
  refine Calls.mono HF.out ?_
  rintro e w' ⟨rfl, hb⟩
  have HB := Lib.hid hb; clear hb
  go_wp2
  go_ret
  exact ⟨rfl, HB.out⟩
end Go.Proofs.YtbfmdfbnhakolaaDoor
namespace Go.By
open Go.RowKit
/-- bytes as a text -/
def strB (l : List UInt8) : ByteArray := ⟨l.toArray⟩
theorem strB_size (l : List UInt8) : (strB l).size = l.length := by simp [strB, ByteArray.size]
theorem strB_data (l : List UInt8) : (strB l).data.toList = l := by simp [strB]
theorem strB_cells (l : List UInt8) : Lib.strCells (strB l) = Lib.byteCells l := by rw [Lib.strCells_eq, strB_data]
theorem strB_inj {a b : List UInt8} (h : strB a = strB b) : a = b := by rw [← strB_data a, h, strB_data]
theorem strB_of (s : ByteArray) : s = strB s.data.toList := by cases s; simp [strB]
theorem BuilderAt.keep {T e : TypeId} {B b : Nat} {p : Value} {bs : List Value} {w w' : World} (h : Lib.BuilderAt T e B b p bs w) (hb : Below w.heap.size w w') : Lib.BuilderAt T e B b p bs w' := by
  obtain ⟨h1, v, h2, h3, h4⟩ := h
  obtain ⟨q, c, rfl⟩ := owns_shape h3
  exact ⟨h1, _, (hb.block _ (lt_of_block h2)).trans h2, owns_keep h3 hb, h4⟩
theorem bytes_append (a b : List UInt8) : Lib.byteCells a ++ Lib.byteCells b = Lib.byteCells (a ++ b) := by simp [Lib.byteCells]
theorem txt_app (a b : List UInt8) : strB a ++ strB b = strB (a ++ b) := by
  rw [strB_of (strB a ++ strB b)]
  congr 1
theorem txt_ext (l : List UInt8) (i j : Nat) : (strB l).extract i j = strB ((l.take j).drop i) := by
  rw [strB_of ((strB l).extract _ _)]
  rw [Lib.extract_data, strB_data]
  simp [List.extract_eq_take_drop, List.drop_take]
theorem txt_idx {P : Program} (t : TypeId) (ht : P.underlying t = some .string) {l : List UInt8} {k : Nat} {c : UInt8} (h : l[k]? = some c) (K : IntKind) (z : Int) (hz : z = (k : Int)) (w : World) :
    (Instr.index t (.string (strB l)) (.int K z)).run P w = .ok (B8 c) w := by
  subst hz
  have hk : k < l.length := (List.getElem?_eq_some_iff.1 h).1
  rw [run_index_string w t (strB l) _ _ ht, dif_pos ⟨by omega, by rw [strB_size]; omega⟩]
  have e : ((k : Int)).toNat = k := by omega
  simp only [e]
  have hsz : k < (strB l).size := by rw [strB_size]; exact hk
  have h2 : (strB l)[k]'hsz = c := by
    have h3 : (strB l).data[k]? = some ((strB l)[k]'hsz) := Array.getElem?_eq_getElem hsz
    have h4 : (strB l).data[k]? = some c := by rw [← Array.getElem?_toList, strB_data]; exact h
    rw [h3] at h4; exact Option.some.inj h4
  rw [h2]
theorem txt_emp (l : List UInt8) : (strB l).toList.isEmpty = decide (l = []) := by
  rw [← decide_eq_emptyBytes]
  by_cases h : l = []
  · subst h; rfl
  · have : ¬ strB l = ByteArray.empty := fun e => h (by have := congrArg (fun s : ByteArray => s.data.toList) e; simpa [strB_data] using this)
    rw [decide_eq_false h]; exact decide_eq_false this
end Go.By
namespace Go.By
open Go.RowKit
theorem valW_take {xs : List UInt64} {k : Nat} {x : UInt64} (h : xs[k]? = some x) : valW (xs.take (k + 1)) = valW (xs.take k) + 18446744073709551616 ^ k * x.toNat := by
  unfold valW
  rw [List.map_take, List.map_take]
  exact valD_take (by rw [List.getElem?_map, h]; rfl)
theorem valW_take_none {xs : List UInt64} {k : Nat} (h : xs.length ≤ k) : valW (xs.take (k + 1)) = valW (xs.take k) := by
  rw [List.take_of_length_le (by omega), List.take_of_length_le h]
theorem valW_take_all {xs : List UInt64} {k : Nat} (h : xs.length ≤ k) : valW (xs.take k) = valW xs := by rw [List.take_of_length_le h]
theorem valW_set_take {S : List UInt64} {k : Nat} {s : UInt64} (h : k < S.length) : valW ((S.set k s).take (k + 1)) = valW (S.take k) + 18446744073709551616 ^ k * s.toNat := by
  rw [valW_take (k := k) (x := s) (by rw [List.getElem?_set, if_pos rfl, if_pos h])]
  rw [List.take_set_of_le (Nat.le_refl k)]
theorem valW_zeros (k : Nat) : valW (List.replicate k 0) = 0 := by
  unfold valW
  rw [List.map_replicate]
  exact valD_zeros _ k
/-- words in new memory -/
def RetWs (T : TypeId) (w : World) (n N : Nat) (e : Ending) (w' : World) : Prop :=
  ∃ S : List UInt64, e = .returned (.slice (some ⟨w.heap.size, 0, none⟩) n n) ∧ w'.ownsRow w.heap.size T 1 (.slice (some ⟨w.heap.size, 0, none⟩) n n) n (S.map W64) ∧ valW S = N ∧ Below w.heap.size w w'
theorem lies_of_owns {w : World} {base T n c : Nat} {q : Option Addr} {ys : List Value} (h : w.ownsRow base T 1 (.slice q n c) n ys) : Lies T w q := by
  intro a ha
  rcases h.2 with ⟨h2, _⟩ | ⟨g, cap, cur, hv, hb, hg, _⟩
  · rw [ha] at h2; cases h2
  · obtain ⟨rfl, rfl⟩ : q = some ⟨g, 0, none⟩ ∧ c = cap := by simpa using hv
    obtain rfl := Option.some.inj ha
    exact ⟨_, _, hg⟩
end Go.By
namespace Go.Proofs.YtbfmdfbnhakolaaDoor
open Go.RowKit Go.By
set_option maxRecDepth 100000 in
set_option maxHeartbeats 1000000 in
theorem plus_any (p q : Option Addr) (n c m d : Nat) (xs ys : List UInt64) (w : World) (h1 : Sl W64 w p n c xs) (h2 : Sl W64 w q m d ys) (hm : m ≤ n) (hn : n ≤ 1000000) :
    Calls Tryd.prog 36 #[.slice p n c, .slice q m d] w (RetWs 34 w (n + 1) (valW xs + valW ys)) := by
  obtain ⟨i0, hi, hz0, hz1, hz2⟩ := info_parts info_u64
  have HM1 : Hid (n + 1 ≤ maxLen) := by show n + 1 ≤ maxLen; unfold maxLen; omega
  have HM2 : Hid (8 * (n + 1) ≤ 281474976710656) := by show 8 * (n + 1) ≤ _; omega
  have HL : Hid (xs.length = n ∧ ys.length = m) := ⟨h1.len, h2.len⟩
  have H1 := Lib.hid h1; have H2 := Lib.hid h2
  clear h1 h2
  go_enter Tryd.func36, Tryd.ntmps36
  go_wp2_with (at_make; refine wpList_make_full _ rfl _ _ 27 rfl w.heap.size 34 i0 (.int .u64 0) 1 Tryd.underlying27 hi hz0 hz1 .i64 .i64 _ _ (n + 1) rfl rfl (by simp) (by simp) (by rw [hz2]; exact HM2.out) HM1.out (Nat.le_refl _) ?_)
  intro w1 ho hg
  have HO : Hid (w1.ownsRow w.heap.size 34 1 (.slice (some ⟨w.heap.size, 0, none⟩) (n + 1) (n + 1)) (n + 1) ((List.replicate (n + 1) (0 : UInt64)).map W64)) := by
    have e : (madeCells #[Value.int .u64 0] (n + 1)).toList = (List.replicate (n + 1) (0 : UInt64)).map W64 := by rw [List.map_replicate]; exact toList_madeCells_one _ _
    show World.ownsRow _ _ _ _ _ _ _
    rw [← e]; simpa using ho
  have HB : Hid (Below w.heap.size w w1) := (Below.refl _ _).grown hg (Nat.le_refl _) (by simp)
  clear ho hg
  go_wp2
  go_loopw [6, 15] (fun cv i wr => ∃ (k cy : Nat) (S : List UInt64), k ≤ n ∧ cy ≤ 1 ∧ cv = .int .u64 cy ∧ i = .int .i64 k ∧ Hid (S.length = n + 1) ∧ Hid (wr.ownsRow w.heap.size 34 1 (.slice (some ⟨w.heap.size, 0, none⟩) (n + 1) (n + 1)) (n + 1) (S.map W64)) ∧ Hid (valW (S.take k) + 18446744073709551616 ^ k * cy = valW (xs.take k) + valW (ys.take k)) ∧ Hid (Below w.heap.size w wr)) (fun _ i _ => n - (intOf i).toNat)
  case atStart => exact ⟨0, 0, _, Nat.zero_le _, Nat.zero_le _, rfl, rfl, by simp [Hid], HO.out, by simp [Hid, valW, valD], HB.out⟩
  case round =>
    clear HO HB
    obtain ⟨k, cy, S, hk, hcy, rfl, rfl, hSl, hO, hV, hB⟩ := hrel
    by_cases hlt : k < n
    · obtain ⟨b, o, x, rfl, hc, hx⟩ := H1.out.at k hlt
      have hcx := (hB.out.cell (p := ⟨b, o + k, none⟩) (lt_of_cell hc)).trans hc
      have fin : Hid (∀ (s : UInt64) (c' : Nat), valW (S.take k) + 18446744073709551616 ^ k * s.toNat + 18446744073709551616 ^ (k + 1) * c' = valW (xs.take (k + 1)) + valW (ys.take (k + 1)) →
          (S.set k s).length = n + 1 ∧ (wr.setCell ⟨w.heap.size, k, none⟩ (W64 s)).ownsRow w.heap.size 34 1 (.slice (some ⟨w.heap.size, 0, none⟩) (n + 1) (n + 1)) (n + 1) ((S.set k s).map W64) ∧ valW ((S.set k s).take (k + 1)) + 18446744073709551616 ^ (k + 1) * c' = valW (xs.take (k + 1)) + valW (ys.take (k + 1)) ∧ Below w.heap.size w (wr.setCell ⟨w.heap.size, k, none⟩ (W64 s))) := fun s c' he => by
        refine ⟨by rw [List.length_set]; exact hSl.out, ?_, by rw [valW_set_take (by have := hSl.out; omega)]; exact he, hB.out.setCell (Nat.le_refl _) _⟩
        rw [List.map_set]
        exact (hO.out.stored k (W64 s)).1
      have z0 : ∃ v, wr.cell? ⟨w.heap.size, k, none⟩ = some v := ⟨_, by rw [hO.out.cellAt k (by omega), List.getElem?_eq_getElem (by rw [List.length_map, hSl.out]; omega)]⟩
      obtain ⟨z, hz⟩ := z0
      have hzf : wr.frozen? ⟨w.heap.size, k, none⟩ = false := hO.out.frozenAt _
      have hlt' : (k : Int) < (n : Int) := by omega
      have hltn : (k : Int) < (n : Int) + 1 := by omega
      have HB' := Lib.hid hB.out
      clear hc hO hSl hB
      by_cases hlm : k < m
      · obtain ⟨b', o', y, rfl, hcy', hy⟩ := H2.out.at k hlm
        have hcY := (HB'.out.cell (p := ⟨b', o' + k, none⟩) (lt_of_cell hcy')).trans hcy'
        obtain ⟨s, c', hrun, hc1, hsum⟩ := add64_ex x.toNat y.toNat cy hcy x.toNat_lt y.toNat_lt
        have F := Lib.hid (fin.out s c' (by
          rw [valW_take hx.out, valW_take hy.out]
          exact add_step hV.out hsum.out.1 hsum.out.2))
        have hlm' : (k : Int) < (m : Int) := by omega
        clear hcy' hlm hlt
        go_wp2_with (simp only [hrun])
        go_roundw
        case rel => exact ⟨k + 1, c', _, by omega, hc1, rfl, by go_num, F.out.1, F.out.2.1, F.out.2.2.1, F.out.2.2.2⟩
        case measure => simp [intOf]; omega
      · obtain ⟨s, c', hrun, hc1, hsum⟩ := add64_ex x.toNat 0 cy hcy x.toNat_lt (by decide)
        have F := Lib.hid (fin.out s c' (by
          rw [valW_take hx.out, valW_take_none (by have := HL.out.2; omega)]
          have := add_step (B := valW (ys.take k)) hV.out hsum.out.1 hsum.out.2
          rwa [Nat.mul_zero, Nat.add_zero] at this))
        have hlm' : ¬ (k : Int) < (m : Int) := by omega
        have hrun' : ∀ w, (callFunc 64 #[.int .u64 x.toNat, .int .u64 0, .int .u64 cy]).run Tryd.prog w = .ok (.value (.tuple #[W64 s, .int .u64 c'])) w := hrun
        clear hlm hlt hrun
        go_wp2_with (simp only [hrun'])
        go_roundw
        case rel => exact ⟨k + 1, c', _, by omega, hc1, rfl, by go_num, F.out.1, F.out.2.1, F.out.2.2.1, F.out.2.2.2⟩
        case measure => simp [intOf]; omega
    · obtain rfl : k = n := by omega
      have z0 : ∃ v, wr.cell? ⟨w.heap.size, k, none⟩ = some v := ⟨_, by rw [hO.out.cellAt k (by omega), List.getElem?_eq_getElem (by rw [List.length_map, hSl.out]; omega)]⟩
      obtain ⟨z, hz⟩ := z0
      have hzf : wr.frozen? ⟨w.heap.size, k, none⟩ = false := hO.out.frozenAt _
      have e : Hid (Value.int .u64 (cy : Int) = W64 (UInt64.ofNat cy) ∧ (UInt64.ofNat cy).toNat = cy) := by
        have : (UInt64.ofNat cy).toNat = cy := by simp; omega
        exact ⟨W64_eq (by rw [this]), this⟩
      have F : Hid ((wr.setCell ⟨w.heap.size, k, none⟩ (.int .u64 (cy : Int))).ownsRow w.heap.size 34 1 (.slice (some ⟨w.heap.size, 0, none⟩) (k + 1) (k + 1)) (k + 1) ((S.set k (UInt64.ofNat cy)).map W64) ∧ valW (S.set k (UInt64.ofNat cy)) = valW xs + valW ys ∧ Below w.heap.size w (wr.setCell ⟨w.heap.size, k, none⟩ (.int .u64 (cy : Int)))) := by
        refine ⟨?_, ?_, hB.out.setCell (Nat.le_refl _) _⟩
        · rw [List.map_set, ← e.out.1]
          exact (hO.out.stored k _).1
        · have h1 := valW_set_take (S := S) (k := k) (s := UInt64.ofNat cy) (by have := hSl.out; omega)
          rw [valW_take_all (by rw [List.length_set]; have := hSl.out; omega), e.out.2] at h1
          rw [h1, hV.out, valW_take_all (by have := HL.out.1; omega), valW_take_all (by have := HL.out.2; omega)]
      have hkn : (k : Int) < (k : Int) + 1 := by omega
      clear hO hSl hB hV e hlt
      go_wp2
      go_ret
      exact ⟨_, rfl, F.out.1, F.out.2.1, F.out.2.2⟩
end Go.Proofs.YtbfmdfbnhakolaaDoor
namespace Go.By
open Go.RowKit
theorem valW_set {S : List UInt64} {k : Nat} {s p : UInt64} (h : S[k]? = some p) : valW (S.set k s) + 18446744073709551616 ^ k * p.toNat = valW S + 18446744073709551616 ^ k * s.toNat := by
  unfold valW
  rw [List.map_set]
  exact valD_set _ _ _ _ (by rw [List.getElem?_map, h]; rfl)
theorem mul_parts {a y p c hi lo l1 c1 l2 c2 : Nat} (h0 : hi * 18446744073709551616 + lo = a * y) (h1 : l1 = (lo + p + 0) % 18446744073709551616) (g1 : c1 = (lo + p + 0) / 18446744073709551616) (h2 : l2 = (l1 + c + 0) % 18446744073709551616) (g2 : c2 = (l1 + c + 0) / 18446744073709551616) :
    l2 = (a * y + p + c) % 18446744073709551616 ∧ hi + c1 + c2 = (a * y + p + c) / 18446744073709551616 := by
  rw [← h0]; omega
end Go.By
namespace Go.Proofs.YtbfmdfbnhakolaaDoor
open Go.RowKit Go.By
theorem mul64_ex (x y : UInt64) : ∃ hi lo : UInt64, (∀ w, Calls Tryd.prog 65 #[W64 x, W64 y] w fun e w' => e = .returned (.tuple #[W64 hi, W64 lo]) ∧ w' = w) ∧ Hid (hi.toNat * 18446744073709551616 + lo.toNat = x.toNat * y.toNat) := by
  have hx := x.toNat_lt; have hy := y.toNat_lt
  have hxy : x.toNat * y.toNat < 18446744073709551616 * 18446744073709551616 := Nat.mul_lt_mul'' hx hy
  obtain ⟨z, hz⟩ : ∃ z, z = x.toNat * y.toNat := ⟨_, rfl⟩
  rw [← hz] at hxy ⊢
  have e1 : (UInt64.ofNat (z / 18446744073709551616)).toNat = z / 18446744073709551616 := by simp; omega
  have e2 : (UInt64.ofNat (z % 18446744073709551616)).toNat = z % 18446744073709551616 := by simp
  refine ⟨UInt64.ofNat (z / 18446744073709551616), UInt64.ofNat (z % 18446744073709551616), fun w => ?_, ?_⟩
  · refine (Tryd.bits_Mul64 x.toNat y.toNat hx hy w).mono ?_
    rintro e w' ⟨rfl, rfl⟩
    rw [← hz]
    exact ⟨by rw [← W64_eq (congrArg Int.ofNat e1.symm), ← W64_eq (congrArg Int.ofNat e2.symm)]; rfl, rfl⟩
  · show _ = z
    rw [e1, e2]; omega
set_option maxRecDepth 100000 in
set_option maxHeartbeats 2000000 in
theorem timesN_any (p q : Option Addr) (n c m d : Nat) (xs ys : List UInt64) (w : World) (h1 : Sl W64 w p n c xs) (h2 : Sl W64 w q m d ys) (hn : n ≤ 1000000) (hm : m ≤ 1000000) :
    Calls Tryd.prog 37 #[.slice p n c, .slice q m d] w (RetWs 34 w (n + m) (valW xs * valW ys)) := by
  obtain ⟨i0, hi, hz0, hz1, hz2⟩ := info_parts info_u64
  have HM1 : Hid (n + m ≤ maxLen) := by show n + m ≤ maxLen; unfold maxLen; omega
  have HM2 : Hid (8 * (n + m) ≤ 281474976710656) := by show 8 * (n + m) ≤ _; omega
  have HL : Hid (xs.length = n ∧ ys.length = m) := ⟨h1.len, h2.len⟩
  have H1 := Lib.hid h1; have H2 := Lib.hid h2
  clear h1 h2
  go_enter Tryd.func37, Tryd.ntmps37
  go_wp2_with (at_make; refine wpList_make_full _ rfl _ _ 27 rfl w.heap.size 34 i0 (.int .u64 0) 1 Tryd.underlying27 hi hz0 hz1 .i64 .i64 _ _ (n + m) rfl rfl (by simp) (by simp) (by rw [hz2]; exact HM2.out) HM1.out (Nat.le_refl _) ?_)
  intro w1 ho hg
  have HO : Hid (w1.ownsRow w.heap.size 34 1 (.slice (some ⟨w.heap.size, 0, none⟩) (n + m) (n + m)) (n + m) ((List.replicate (n + m) (0 : UInt64)).map W64)) := by
    have e : (madeCells #[Value.int .u64 0] (n + m)).toList = (List.replicate (n + m) (0 : UInt64)).map W64 := by rw [List.map_replicate]; exact toList_madeCells_one _ _
    show World.ownsRow _ _ _ _ _ _ _
    rw [← e]; simpa using ho
  have HB : Hid (Below w.heap.size w w1) := (Below.refl _ _).grown hg (Nat.le_refl _) (by simp)
  clear ho hg
  go_wp2
  go_loopw [20] (fun i wr => ∃ (k : Nat) (S : List UInt64), k ≤ n ∧ i = .int .i64 k ∧ Hid (S.length = n + m) ∧ Hid (wr.ownsRow w.heap.size 34 1 (.slice (some ⟨w.heap.size, 0, none⟩) (n + m) (n + m)) (n + m) (S.map W64)) ∧ Hid (valW S = valW (xs.take k) * valW ys) ∧ Hid (∀ j, k + m ≤ j → j < n + m → S[j]? = some 0) ∧ Hid (Below w.heap.size w wr)) (fun i _ => n - (intOf i).toNat)
  case atStart => exact ⟨0, _, Nat.zero_le _, rfl, by simp [Hid], HO.out, by show valW _ = valW (xs.take 0) * _; rw [valW_zeros, List.take_zero, show valW [] = 0 from rfl, Nat.zero_mul], fun j _ hj => List.getElem?_replicate_of_lt hj, HB.out⟩
  case round =>
    clear HO HB
    obtain ⟨k, S, hk, rfl, hSl, hO, hV, hZ, hB⟩ := hrel
    by_cases hlt : k < n
    · obtain ⟨b, o, x, rfl, hc, hx⟩ := H1.out.at k hlt
      have HC := Lib.hid hc
      obtain ⟨wo, hwo⟩ : ∃ wo : World, wo = wr := ⟨_, rfl⟩
      have hlt' : (k : Int) < (n : Int) := by omega
      have ST : Hid (S.length = n + m ∧ wr.ownsRow w.heap.size 34 1 (.slice (some ⟨w.heap.size, 0, none⟩) (n + m) (n + m)) (n + m) (S.map W64) ∧ valW S + 18446744073709551616 ^ (k + 0) * 0 = valW S + 18446744073709551616 ^ k * (x.toNat * valW (ys.take 0)) ∧ Below w.heap.size w wr) := ⟨hSl.out, hO.out, by rw [List.take_zero, show valW [] = 0 from rfl]; simp, hB.out⟩
      obtain ⟨V0, hV0⟩ : ∃ V0, V0 = valW S := ⟨_, rfl⟩
      have HV0 : Hid (V0 = valW (xs.take k) * valW ys) := hV0.trans hV.out
      have ST2 : Hid (∃ S' : List UInt64, S'.length = n + m ∧ wr.ownsRow w.heap.size 34 1 (.slice (some ⟨w.heap.size, 0, none⟩) (n + m) (n + m)) (n + m) (S'.map W64) ∧ valW S' + 18446744073709551616 ^ (k + 0) * 0 = V0 + 18446744073709551616 ^ k * (x.toNat * valW (ys.take 0)) ∧ (∀ j, k + m ≤ j → j < n + m → S'[j]? = some 0) ∧ Below w.heap.size w wr) := ⟨S, ST.out.1, ST.out.2.1, by rw [hV0]; exact ST.out.2.2.1, hZ.out, hB.out⟩
      clear hc hO hSl hB hV hZ ST hV0
      clear S
      go_wp2
      go_loopw [25, 7] (fun i cv wr => ∃ (j cy : Nat) (S : List UInt64), j ≤ m ∧ i = .int .i64 j ∧ cv = .int .u64 cy ∧ cy < 18446744073709551616 ∧ Hid (S.length = n + m) ∧ Hid (wr.ownsRow w.heap.size 34 1 (.slice (some ⟨w.heap.size, 0, none⟩) (n + m) (n + m)) (n + m) (S.map W64)) ∧ Hid (valW S + 18446744073709551616 ^ (k + j) * cy = V0 + 18446744073709551616 ^ k * (x.toNat * valW (ys.take j))) ∧ Hid (∀ j, k + m ≤ j → j < n + m → S[j]? = some 0) ∧ Hid (Below w.heap.size w wr)) (fun i _ _ => m - (intOf i).toNat)
      case atStart =>
        obtain ⟨S, g1, g2, g3, g4, g5⟩ := ST2.out
        exact ⟨0, 0, S, Nat.zero_le _, rfl, rfl, by decide, g1, g2, g3, g4, g5⟩
      case round =>
        clear ST2
        obtain ⟨j, cy, S, hj, rfl, rfl, hcy, hSl, hO, hV, hZ, hB⟩ := hrel
        by_cases hjm : j < m
        · obtain ⟨b', o', y, rfl, hcy2, hy⟩ := H2.out.at j hjm
          have cX := (hB.out.cell (p := ⟨b, o + k, none⟩) (lt_of_cell HC.out)).trans HC.out
          have cY := (hB.out.cell (p := ⟨b', o' + j, none⟩) (lt_of_cell hcy2)).trans hcy2
          obtain ⟨pr, hpr⟩ : ∃ pr, S[k + j]? = some pr := ⟨S[k + j]'(by rw [hSl.out]; omega), List.getElem?_eq_getElem _⟩
          have cP : wr.cell? ⟨w.heap.size, k + j, none⟩ = some (W64 pr) := by
            rw [hO.out.cellAt _ (by omega), List.getElem?_map, hpr]; rfl
          have zP : wr.frozen? ⟨w.heap.size, k + j, none⟩ = false := hO.out.frozenAt _
          obtain ⟨hi', lo, hmul, hml⟩ := mul64_ex x y
          obtain ⟨l1, c1, hr1, hc1, hs1⟩ := add64_ex lo.toNat pr.toNat 0 (by decide) lo.toNat_lt pr.toNat_lt
          obtain ⟨l2, c2, hr2, hc2, hs2⟩ := add64_ex l1.toNat cy 0 (by decide) l1.toNat_lt hcy
          obtain ⟨e1, e2⟩ := mul_parts hml.out hs1.out.1 hs1.out.2 hs2.out.1 hs2.out.2
          have hfit : hi'.toNat + c1 + c2 < 18446744073709551616 := by
            rw [e2]; exact mul_fits x.toNat_lt y.toNat_lt pr.toNat_lt hcy
          have hf1 : (hi'.toNat : Int) + (c1 : Int) < 18446744073709551616 := by omega
          have hf2 : (hi'.toNat : Int) + (c1 : Int) + (c2 : Int) < 18446744073709551616 := by omega
          have r1 : ∀ w, (callFunc 64 #[W64 lo, W64 pr, .int .u64 0]).run Tryd.prog w = .ok (.value (.tuple #[W64 l1, .int .u64 c1])) w := hr1
          have r2 : ∀ w, (callFunc 64 #[W64 l1, .int .u64 cy, .int .u64 0]).run Tryd.prog w = .ok (.value (.tuple #[W64 l2, .int .u64 c2])) w := hr2
          have F : Hid ((S.set (k + j) l2).length = n + m ∧ (∀ u, ((wr.drewN u).setCell ⟨w.heap.size, k + j, none⟩ (W64 l2)).ownsRow w.heap.size 34 1 (.slice (some ⟨w.heap.size, 0, none⟩) (n + m) (n + m)) (n + m) ((S.set (k + j) l2).map W64)) ∧ valW (S.set (k + j) l2) + 18446744073709551616 ^ (k + (j + 1)) * (hi'.toNat + c1 + c2) = V0 + 18446744073709551616 ^ k * (x.toNat * valW (ys.take (j + 1))) ∧ (∀ t, k + m ≤ t → t < n + m → (S.set (k + j) l2)[t]? = some 0) ∧ ∀ u, Below w.heap.size w ((wr.drewN u).setCell ⟨w.heap.size, k + j, none⟩ (W64 l2))) := by
            refine ⟨by rw [List.length_set]; exact hSl.out, fun u => ?_, ?_, fun t ht1 ht2 => by rw [List.getElem?_set, if_neg (by omega)]; exact hZ.out t ht1 ht2, fun u => (bdn hB.out).setCell (Nat.le_refl _) _⟩
            · rw [List.map_set]
              exact (World.ownsRow.stored (w := wr.drewN u) hO.out _ _).1
            · rw [valW_take hy.out]
              exact mul_step (b := 18446744073709551616) hV.out e1 e2 (valW_set hpr)
          have hjm' : (j : Int) < (m : Int) := by omega
          have hkj : (k : Int) + (j : Int) < (n : Int) + (m : Int) := by omega
          clear hcy2 hjm hlt hr1 hr2 e1 e2 hfit hml hs1 hs2 hpr hO hSl hV hZ hB
          go_wp2
          go_quiet ((go_at_call 65; exact Calls.quiet_of_same (hmul _)))
          go_wp2_with (first | simp only [r1] | simp only [r2])
          go_roundw
          case rel => exact ⟨j + 1, hi'.toNat + c1 + c2, _, by omega, by go_num, by go_num, by omega, F.out.1, F.out.2.1 _, F.out.2.2.1, F.out.2.2.2.1, F.out.2.2.2.2 _⟩
          case measure => simp [intOf]; omega
        · obtain rfl : j = m := by omega
          have hz0 := hZ.out (k + j) (by omega) (by omega)
          have cP : wr.cell? ⟨w.heap.size, k + j, none⟩ = some (W64 0) := by
            rw [hO.out.cellAt _ (by omega), List.getElem?_map, hz0]; rfl
          have zP : wr.frozen? ⟨w.heap.size, k + j, none⟩ = false := hO.out.frozenAt _
          have e : (UInt64.ofNat cy).toNat = cy := by simp; omega
          have e2 : Value.int .u64 (cy : Int) = W64 (UInt64.ofNat cy) := W64_eq (by rw [e])
          have F : Hid ((S.set (k + j) (UInt64.ofNat cy)).length = n + j ∧ (wr.setCell ⟨w.heap.size, k + j, none⟩ (.int .u64 (cy : Int))).ownsRow w.heap.size 34 1 (.slice (some ⟨w.heap.size, 0, none⟩) (n + j) (n + j)) (n + j) ((S.set (k + j) (UInt64.ofNat cy)).map W64) ∧ valW (S.set (k + j) (UInt64.ofNat cy)) = valW (xs.take (k + 1)) * valW ys ∧ (∀ t, k + 1 + j ≤ t → t < n + j → (S.set (k + j) (UInt64.ofNat cy))[t]? = some 0) ∧ Below w.heap.size w (wr.setCell ⟨w.heap.size, k + j, none⟩ (.int .u64 (cy : Int)))) := by
            refine ⟨by rw [List.length_set]; exact hSl.out, ?_, ?_, fun t ht1 ht2 => by rw [List.getElem?_set, if_neg (by omega)]; exact hZ.out t (by omega) ht2, hB.out.setCell (Nat.le_refl _) _⟩
            · rw [List.map_set, e2]
              exact (hO.out.stored _ _).1
            · rw [valW_take hx.out]
              have h1 := hV.out
              rw [valW_take_all (by have := HL.out.2; omega)] at h1
              have h2 := mul_row h1 (by have := valW_set (s := UInt64.ofNat cy) hz0; rw [e] at this; exact this)
              rw [h2, HV0.out]
              exact mul_next rfl
          have hkj : (k : Int) + (j : Int) < (n : Int) + (j : Int) := by omega
          clear hjm hlt hz0 e e2 hO hSl hV hZ hB
          go_wp2
          go_roundw
          case rel => exact ⟨k + 1, _, by omega, by go_num, F.out.1, F.out.2.1, F.out.2.2.1, F.out.2.2.2.1, F.out.2.2.2.2⟩
          case measure => simp [intOf]; omega
    · obtain rfl : k = n := by omega
      have F : Hid (wr.ownsRow w.heap.size 34 1 (.slice (some ⟨w.heap.size, 0, none⟩) (k + m) (k + m)) (k + m) (S.map W64) ∧ valW S = valW xs * valW ys ∧ Below w.heap.size w wr) := ⟨hO.out, by rw [hV.out, valW_take_all (by have := HL.out.1; omega)], hB.out⟩
      clear hO hSl hV hZ hB hlt
      go_wp2
      go_ret
      exact ⟨_, rfl, F.out.1, F.out.2.1, F.out.2.2⟩
end Go.Proofs.YtbfmdfbnhakolaaDoor
namespace Go.By
open Go.RowKit
/-- a slice of numbers -/
structure Nsl (T : TypeId) (w : World) (p : Option Addr) (n c : Nat) (Ns : List Nat) : Prop where
  len : Ns.length = n
  max : n ≤ 9223372036854775807
  elt : ∀ i N, Ns[i]? = some N → ∃ b o q m d, p = some ⟨b, o, none⟩ ∧ w.cell? ⟨b, o + i, none⟩ = some (.slice q m d) ∧ Ws T w q m d N
theorem Nsl.keep {T : TypeId} {w w' : World} {p : Option Addr} {n c : Nat} {Ns : List Nat} (h : Nsl T w p n c Ns) (hb : Below w.heap.size w w') : Nsl T w' p n c Ns :=
  ⟨h.len, h.max, fun i N hi => by
    obtain ⟨b, o, q, m, d, hp, hc, hw⟩ := h.elt i N hi
    exact ⟨b, o, q, m, d, hp, (hb.cell (p := ⟨b, o + i, none⟩) (lt_of_cell hc)).trans hc, hw.keep hb⟩⟩
theorem Nsl.two {T T' : TypeId} {w : World} {g : Nat} {fr : Nat × Nat} {q1 q2 : Option Addr} {n1 c1 n2 c2 M N : Nat} (hg : w.heap[g]? = some (.cells #[.slice q1 n1 c1, .slice q2 n2 c2] T' fr)) (h1 : Ws T w q1 n1 c1 M) (h2 : Ws T w q2 n2 c2 N) : Nsl T w (some ⟨g, 0, none⟩) 2 2 [M, N] :=
  ⟨rfl, by omega, fun i N' hi => by
    match i, hi with
    | 0, hi => simp at hi; subst hi; exact ⟨g, 0, q1, n1, c1, rfl, cell_of_row _ _ 0 _ _ _ hg, h1⟩
    | 1, hi => simp at hi; subst hi; exact ⟨g, 0, q2, n2, c2, rfl, cell_of_row _ _ 1 _ _ _ hg, h2⟩
    | j + 2, hi => simp at hi⟩
theorem Nsl.three {T T' : TypeId} {w : World} {g : Nat} {fr : Nat × Nat} {q1 q2 q3 : Option Addr} {n1 c1 n2 c2 n3 c3 M N K : Nat} (hg : w.heap[g]? = some (.cells #[.slice q1 n1 c1, .slice q2 n2 c2, .slice q3 n3 c3] T' fr)) (h1 : Ws T w q1 n1 c1 M) (h2 : Ws T w q2 n2 c2 N) (h3 : Ws T w q3 n3 c3 K) : Nsl T w (some ⟨g, 0, none⟩) 3 3 [M, N, K] :=
  ⟨rfl, by omega, fun i N' hi => by
    match i, hi with
    | 0, hi => simp at hi; subst hi; exact ⟨g, 0, q1, n1, c1, rfl, cell_of_row _ _ 0 _ _ _ hg, h1⟩
    | 1, hi => simp at hi; subst hi; exact ⟨g, 0, q2, n2, c2, rfl, cell_of_row _ _ 1 _ _ _ hg, h2⟩
    | 2, hi => simp at hi; subst hi; exact ⟨g, 0, q3, n3, c3, rfl, cell_of_row _ _ 2 _ _ _ hg, h3⟩
    | j + 3, hi => simp at hi⟩
theorem sum_take_succ {Ns : List Nat} {k N : Nat} (h : Ns[k]? = some N) : (Ns.take (k + 1)).sum = (Ns.take k).sum + N := by
  rw [List.take_add_one, h]; simp
theorem sum_take_le (Ns : List Nat) (k : Nat) : (Ns.take k).sum ≤ Ns.sum := by
  conv => rhs; rw [← List.take_append_drop k Ns]
  rw [List.sum_append]; omega
theorem One.later {w : World} {g : Nat} {v : Value} {T : TypeId} (h : w.heap[g]? = some (.cells #[v] T (0, 0))) (g' i : Nat) (u : Value) (hne : g ≠ g' := by simp) : (w.setCell ⟨g', i, none⟩ u).cell? ⟨g, 0, none⟩ = some v ∧ (w.setCell ⟨g', i, none⟩ u).frozen? ⟨g, 0, none⟩ = false :=
  ⟨cell_of_row _ _ 0 _ _ _ (hsc h hne), frozen_of_row _ _ _ _ _ (hsc h hne)⟩
/-- two calls: a sum (or product) of words, and what is made of it -/
theorem RetWs.sl {T : TypeId} {w w' : World} {n N : Nat} {e : Ending} (h : RetWs T w n N e w') : ∃ S : List UInt64, e = .returned (.slice (some ⟨w.heap.size, 0, none⟩) n n) ∧ Sl W64 w' (some ⟨w.heap.size, 0, none⟩) n n S ∧ Lies T w' (some ⟨w.heap.size, 0, none⟩) ∧ valW S = N ∧ Below w.heap.size w w' := by
  obtain ⟨S, he, ho, hv, hb⟩ := h
  exact ⟨S, he, Sl.of_owns ho, lies_of_owns ho, hv, hb⟩
end Go.By
namespace Go.Proofs.YtbfmdfbnhakolaaDoor
open Go.RowKit Go.By
/-- words, of which a number is made next -/
def RetThen (w : World) (N : Nat) (e : Ending) (w1 : World) : Prop :=
  ∃ g n, e = .returned (.slice (some ⟨g, 0, none⟩) n n) ∧ Below w.heap.size w w1 ∧ Hid (Calls Tryd.prog 33 #[.slice (some ⟨g, 0, none⟩) n n] w1 (RetMn 34 w1 N))
theorem plus_then (p q : Option Addr) (n c m d M N : Nat) (w : World) (h1 : Ws 34 w p n c M) (h2 : Ws 34 w q m d N) (hm : m ≤ n) :
    Calls Tryd.prog 36 #[.slice p n c, .slice q m d] w (RetThen w (M + N)) := by
  obtain ⟨xs, s1, n1, v1⟩ := h1.ex
  obtain ⟨ys, s2, n2, v2⟩ := h2.ex
  refine (plus_any p q n c m d xs ys w s1 s2 hm (by have := h1.le; omega)).mono ?_
  rintro e w1 hr
  obtain ⟨S, rfl, hs, hl, hv, hb⟩ := hr.sl
  refine ⟨_, _, rfl, hb, ?_⟩
  have := made_any _ _ _ S w1 hs hl
  rw [hv, v1, v2] at this
  exact this
theorem times_then (p q : Option Addr) (n c m d M N : Nat) (w : World) (h1 : Ws 34 w p n c M) (h2 : Ws 34 w q m d N) :
    Calls Tryd.prog 37 #[.slice p n c, .slice q m d] w (RetThen w (M * N)) := by
  obtain ⟨xs, s1, n1, v1⟩ := h1.ex
  obtain ⟨ys, s2, n2, v2⟩ := h2.ex
  refine (timesN_any p q n c m d xs ys w s1 s2 (by have := h1.le; omega) (by have := h2.le; omega)).mono ?_
  rintro e w1 hr
  obtain ⟨S, rfl, hs, hl, hv, hb⟩ := hr.sl
  refine ⟨_, _, rfl, hb, ?_⟩
  have := made_any _ _ _ S w1 hs hl
  rw [hv, v1, v2] at this
  exact this
set_option maxRecDepth 100000 in
set_option maxHeartbeats 2000000 in
theorem AddN_any (p : Option Addr) (k c : Nat) (Ns : List Nat) (w : World) (h : Nsl 34 w p k c Ns) :
    Calls Tryd.prog 13 #[.slice p k c] w (RetMn 34 w Ns.sum) := by
  have hinfo := info_nat
  have hkm := h.max
  have H := Lib.hid h; clear h
  have HB : Hid (∀ o o2, Below w.heap.size w ((w.alloc o).alloc o2)) := fun o o2 => al (al (Below.refl _ _) (Nat.le_refl _)) (by simp)
  go_enter Tryd.func13, Tryd.ntmps13
  go_wp2
  go_loopw [12] (fun i wr => ∃ (j : Nat) (q : Option Addr) (n d : Nat), j ≤ k ∧ i = .int .i64 j ∧ Hid (wr.heap[w.heap.size]? = some (.cells #[.slice none 0 0] 29 (0, 0))) ∧ Hid (wr.heap[w.heap.size + 1]? = some (.cells #[.slice q n d] 29 (0, 0))) ∧ Hid (Ws 34 wr q n d (Ns.take j).sum) ∧ Hid (Below w.heap.size w wr)) (fun i _ => k - (intOf i).toNat)
  case atStart => exact ⟨0, none, 0, 0, Nat.zero_le _, rfl, hal (hnew rfl), hnew (by simp), by show Ws _ _ _ _ _ (Ns.take 0).sum; rw [List.take_zero]; exact Ws.zero _ _, HB.out _ _⟩
  case round =>
    obtain ⟨j, q, n, d, hj, rfl, h0, h1, hw, hB⟩ := hrel
    obtain ⟨_, a1, a2, a3, a4⟩ := One.of h0.out
    obtain ⟨_, b1, b2, b3, b4⟩ := One.of h1.out
    have hsz := hB.out.size
    by_cases hlt : j < k
    · obtain ⟨N, hN⟩ : ∃ N, Ns[j]? = some N := ⟨Ns[j]'(by rw [H.out.len]; exact hlt), List.getElem?_eq_getElem _⟩
      obtain ⟨b, o, q2, m, d2, rfl, hc, hw2⟩ := H.out.elt j N hN
      have hcw := (hB.out.cell (p := ⟨b, o + j, none⟩) (lt_of_cell hc)).trans hc
      have hw2' : Hid (Ws 34 wr q2 m d2 N) := hw2.keep hB.out
      have hjk : (j : Int) < (k : Int) := by omega
      have HN := Lib.hid hN
      clear hc hw2 hN hlt
      by_cases hnm : n < m
      · have hnm' : (n : Int) < (m : Int) := by omega
        clear hnm
        go_wp2
        go_quiet (fail)
        go_wp2_with fail
        refine Calls.mono (plus_then _ _ _ _ _ _ _ _ _ (hw2'.out.keep (bdn (al (Below.refl _ _) (Nat.le_refl _)))) (hw.out.keep (bdn (al (Below.refl _ _) (Nat.le_refl _)))) (by omega)) ?_
        rintro e w4 ⟨g, nn, rfl, hb4, hmade⟩
        go_wp2_with fail
        refine Calls.mono hmade.out ?_
        rintro e w5 hr
        rw [Nat.add_comm] at hr
        have hb45 : Below wr.heap.size w4 w5 → Below wr.heap.size wr w5 := fun h => (bl (bdn (al (Below.refl _ _) (Nat.le_refl _))) hb4 (by simp)).trans h
        have hsz4 := hb4.size
        simp at hsz4
        rcases hr with ⟨hcap, q5, n5, c5, rfl, hw5, hb5⟩ | ⟨hcap, rfl, hb5⟩
        · have hb6 := hb45 (hb5.mono (by omega))
          have k0 : w5.heap[w.heap.size]? = some (.cells #[.slice none 0 0] 29 (0, 0)) := (hb6.block _ (blk_lt h0.out)).trans h0.out
          have k1 : w5.heap[w.heap.size + 1]? = some (.cells #[.slice q n d] 29 (0, 0)) := (hb6.block _ (blk_lt h1.out)).trans h1.out
          obtain ⟨_, x1, x2, x3, x4⟩ := One.of k1
          have F : Hid ((w5.setCell ⟨w.heap.size + 1, 0, none⟩ (.slice q5 n5 c5)).heap[w.heap.size]? = some (.cells #[.slice none 0 0] 29 (0, 0)) ∧ (w5.setCell ⟨w.heap.size + 1, 0, none⟩ (.slice q5 n5 c5)).heap[w.heap.size + 1]? = some (.cells #[.slice q5 n5 c5] 29 (0, 0)) ∧ Ws 34 (w5.setCell ⟨w.heap.size + 1, 0, none⟩ (.slice q5 n5 c5)) q5 n5 c5 (Ns.take (j + 1)).sum ∧ Below w.heap.size w (w5.setCell ⟨w.heap.size + 1, 0, none⟩ (.slice q5 n5 c5))) :=
            ⟨hsc k0 (by simp), hss k1, by rw [sum_take_succ HN.out]; exact hw5.set k1 (by decide), ((hB.out.trans (hb6.mono (by omega)))).setCell (by simp) _⟩
          clear hb6 hb5 hb4 hw5 k0 k1 hb45 hcap hmade
          go_wp2
          go_roundw
          case rel => exact ⟨j + 1, _, _, _, by omega, by go_num, F.out.1, F.out.2.1, F.out.2.2.1, F.out.2.2.2⟩
          case measure => simp [intOf]; omega
        · have hb6 := hb45 (hb5.mono (by omega))
          have k0 : w5.heap[w.heap.size]? = some (.cells #[.slice none 0 0] 29 (0, 0)) := (hb6.block _ (blk_lt h0.out)).trans h0.out
          have k1 : w5.heap[w.heap.size + 1]? = some (.cells #[.slice q n d] 29 (0, 0)) := (hb6.block _ (blk_lt h1.out)).trans h1.out
          obtain ⟨_, x1, x2, x3, x4⟩ := One.of k1
          obtain ⟨y1, y2⟩ := One.later k0 (w.heap.size + 1) 0 (.slice none 0 0)
          have K0 := Lib.hid (hsc k0 (show w.heap.size ≠ (⟨w.heap.size + 1, 0, none⟩ : Addr).block by simp) (v := .slice none 0 0))
          have F : Hid (capN ≤ Ns.sum ∧ Below w.heap.size w ((w5.setCell ⟨w.heap.size + 1, 0, none⟩ (.slice none 0 0)).setCell ⟨w.heap.size, 0, none⟩ (.slice none 0 0))) :=
            ⟨Nat.le_trans (by rw [← sum_take_succ HN.out] at hcap; exact hcap) (sum_take_le _ _), ((hB.out.trans (hb6.mono (by omega))).setCell (by simp) _).setCell (by simp) _⟩
          clear hb6 hb5 hb4 k0 k1 hb45 hcap hmade
          go_wp2
          exact bodyPost_ret (res_cell_tmp rfl _ _ _ 29 #[.slice none 0 0] (0, 0) _ (.int .i64 16) rfl (hss K0.out) rfl Tryd.underlying29 rfl hinfo) rfl (Or.inr ⟨F.out.1, rfl, F.out.2⟩)
      · have hnm' : ¬ (n : Int) < (m : Int) := by omega
        clear hnm
        go_wp2
        go_quiet (fail)
        go_wp2_with fail
        refine Calls.mono (plus_then _ _ _ _ _ _ _ _ _ (hw.out.keep (bdn (al (Below.refl _ _) (Nat.le_refl _)))) (hw2'.out.keep (bdn (al (Below.refl _ _) (Nat.le_refl _)))) (by omega)) ?_
        rintro e w4 ⟨g, nn, rfl, hb4, hmade⟩
        go_wp2_with fail
        refine Calls.mono hmade.out ?_
        rintro e w5 hr
        skip
        have hb45 : Below wr.heap.size w4 w5 → Below wr.heap.size wr w5 := fun h => (bl (bdn (al (Below.refl _ _) (Nat.le_refl _))) hb4 (by simp)).trans h
        have hsz4 := hb4.size
        simp at hsz4
        rcases hr with ⟨hcap, q5, n5, c5, rfl, hw5, hb5⟩ | ⟨hcap, rfl, hb5⟩
        · have hb6 := hb45 (hb5.mono (by omega))
          have k0 : w5.heap[w.heap.size]? = some (.cells #[.slice none 0 0] 29 (0, 0)) := (hb6.block _ (blk_lt h0.out)).trans h0.out
          have k1 : w5.heap[w.heap.size + 1]? = some (.cells #[.slice q n d] 29 (0, 0)) := (hb6.block _ (blk_lt h1.out)).trans h1.out
          obtain ⟨_, x1, x2, x3, x4⟩ := One.of k1
          have F : Hid ((w5.setCell ⟨w.heap.size + 1, 0, none⟩ (.slice q5 n5 c5)).heap[w.heap.size]? = some (.cells #[.slice none 0 0] 29 (0, 0)) ∧ (w5.setCell ⟨w.heap.size + 1, 0, none⟩ (.slice q5 n5 c5)).heap[w.heap.size + 1]? = some (.cells #[.slice q5 n5 c5] 29 (0, 0)) ∧ Ws 34 (w5.setCell ⟨w.heap.size + 1, 0, none⟩ (.slice q5 n5 c5)) q5 n5 c5 (Ns.take (j + 1)).sum ∧ Below w.heap.size w (w5.setCell ⟨w.heap.size + 1, 0, none⟩ (.slice q5 n5 c5))) :=
            ⟨hsc k0 (by simp), hss k1, by rw [sum_take_succ HN.out]; exact hw5.set k1 (by decide), ((hB.out.trans (hb6.mono (by omega)))).setCell (by simp) _⟩
          clear hb6 hb5 hb4 hw5 k0 k1 hb45 hcap hmade
          go_wp2
          go_roundw
          case rel => exact ⟨j + 1, _, _, _, by omega, by go_num, F.out.1, F.out.2.1, F.out.2.2.1, F.out.2.2.2⟩
          case measure => simp [intOf]; omega
        · have hb6 := hb45 (hb5.mono (by omega))
          have k0 : w5.heap[w.heap.size]? = some (.cells #[.slice none 0 0] 29 (0, 0)) := (hb6.block _ (blk_lt h0.out)).trans h0.out
          have k1 : w5.heap[w.heap.size + 1]? = some (.cells #[.slice q n d] 29 (0, 0)) := (hb6.block _ (blk_lt h1.out)).trans h1.out
          obtain ⟨_, x1, x2, x3, x4⟩ := One.of k1
          obtain ⟨y1, y2⟩ := One.later k0 (w.heap.size + 1) 0 (.slice none 0 0)
          have K0 := Lib.hid (hsc k0 (show w.heap.size ≠ (⟨w.heap.size + 1, 0, none⟩ : Addr).block by simp) (v := .slice none 0 0))
          have F : Hid (capN ≤ Ns.sum ∧ Below w.heap.size w ((w5.setCell ⟨w.heap.size + 1, 0, none⟩ (.slice none 0 0)).setCell ⟨w.heap.size, 0, none⟩ (.slice none 0 0))) :=
            ⟨Nat.le_trans (by rw [← sum_take_succ HN.out] at hcap; exact hcap) (sum_take_le _ _), ((hB.out.trans (hb6.mono (by omega))).setCell (by simp) _).setCell (by simp) _⟩
          clear hb6 hb5 hb4 k0 k1 hb45 hcap hmade
          go_wp2
          exact bodyPost_ret (res_cell_tmp rfl _ _ _ 29 #[.slice none 0 0] (0, 0) _ (.int .i64 16) rfl (hss K0.out) rfl Tryd.underlying29 rfl hinfo) rfl (Or.inr ⟨F.out.1, rfl, F.out.2⟩)
    · obtain rfl : j = k := by omega
      have F : Hid ((Ns.take j).sum = Ns.sum) := by show _ = _; rw [List.take_of_length_le (by have := H.out.len; omega)]
      rw [F.out] at hw
      have HWE : Hid (Ws 34 (wr.setCell ⟨w.heap.size, 0, none⟩ (.slice q n d)) q n d Ns.sum ∧ Ns.sum < capN ∧ Below w.heap.size w (wr.setCell ⟨w.heap.size, 0, none⟩ (.slice q n d))) := ⟨hw.out.set h0.out (by decide), hw.out.lt, hB.out.setCell (Nat.le_refl _) _⟩
      clear hw hlt
      go_wp2
      exact bodyPost_ret (res_cell_tmp rfl _ _ _ 29 #[.slice q n d] (0, 0) _ (.int .i64 0) rfl (hss h0.out) rfl Tryd.underlying29 rfl hinfo) rfl (Or.inl ⟨HWE.out.2.1, _, _, _, rfl, HWE.out.1, HWE.out.2.2⟩)
end Go.Proofs.YtbfmdfbnhakolaaDoor
namespace Go.By
open Go.RowKit
def mulL : List Nat → Nat
  | [] => 1
  | x :: xs => x * mulL xs
theorem mulL_snoc : ∀ (xs : List Nat) (x : Nat), mulL (xs ++ [x]) = mulL xs * x
  | [], x => by simp [mulL]
  | y :: ys, x => by show y * mulL (ys ++ [x]) = y * mulL ys * x; rw [mulL_snoc ys x, Nat.mul_assoc]
theorem mulL_take {Ns : List Nat} {k N : Nat} (h : Ns[k]? = some N) : mulL (Ns.take (k + 1)) = mulL (Ns.take k) * N := by
  rw [List.take_add_one, h]; exact mulL_snoc _ _
/-- a product, or that one on the way is too great -/
def RetP (T : TypeId) (w : World) (Ns : List Nat) (e : Ending) (w' : World) : Prop := ((∀ j, mulL (Ns.take j) < capN) ∧ RetN T w (mulL Ns) e w') ∨ ((∃ j, capN ≤ mulL (Ns.take j)) ∧ Ret0 w 16 e w')
end Go.By
namespace Go.Proofs.YtbfmdfbnhakolaaDoor
open Go.RowKit Go.By
theorem Of_one (W : World) : Calls Tryd.prog 10 #[.int .u64 1] W (RetN1 34 W 1) := OfN_any 1 W
set_option maxRecDepth 100000 in
set_option maxHeartbeats 2000000 in
theorem Mul_nat (p : Option Addr) (k c : Nat) (Ns : List Nat) (w : World) (h : Nsl 34 w p k c Ns) :
    Calls Tryd.prog 14 #[.slice p k c] w (RetP 34 w Ns) := by
  have hinfo := info_nat
  have hkm := h.max
  have H := Lib.hid h; clear h
  go_enter Tryd.func14, Tryd.ntmps14
  go_wp2_with fail
  refine Calls.mono (Of_one _) ?_
  rintro e w1 ⟨q1, n1, c1, rfl, hw1, hb1⟩
  have k0 : w1.heap[w.heap.size]? = some (.cells #[.slice none 0 0] 29 (0, 0)) := (hb1.block _ (by simp)).trans (hnew rfl)
  have HB : Hid (Below w.heap.size w w1) := bl (al (Below.refl _ _) (Nat.le_refl _)) hb1 (by simp)
  have K0 : Hid (∀ o, (w1.alloc o).heap[w.heap.size]? = some (.cells #[.slice none 0 0] 29 (0, 0))) := fun o => hal k0
  have HW1 : Hid (∀ o, Ws 34 (w1.alloc o) q1 n1 c1 1) := fun o => hw1.keep (al (Below.refl _ _) (Nat.le_refl _))
  have HG : Hid (w.heap.size ≠ w1.heap.size ∧ w.heap.size ≤ w1.heap.size) := ⟨by have := blk_lt k0; omega, by have := blk_lt k0; omega⟩
  clear k0 hw1 hb1
  go_wp2
  go_loopw [11] (fun i wr => ∃ (j : Nat) (q : Option Addr) (n d : Nat), j ≤ k ∧ i = .int .i64 j ∧ Hid (wr.heap[w.heap.size]? = some (.cells #[.slice none 0 0] 29 (0, 0))) ∧ Hid (wr.heap[w1.heap.size]? = some (.cells #[.slice q n d] 29 (0, 0))) ∧ Hid (Ws 34 wr q n d (mulL (Ns.take j))) ∧ Hid (∀ i, i ≤ j → mulL (Ns.take i) < capN) ∧ Hid (Below w.heap.size w wr)) (fun i _ => k - (intOf i).toNat)
  case atStart =>
    refine ⟨0, q1, n1, c1, Nat.zero_le _, rfl, K0.out _, hnew rfl, ?_, ?_, al HB.out HG.out.2⟩
    · show Ws _ _ _ _ _ (mulL (Ns.take 0))
      rw [List.take_zero]; exact HW1.out _
    · intro i hi
      obtain rfl : i = 0 := by omega
      rw [List.take_zero]; exact (HW1.out (.cells #[] 0)).lt
  case round =>
    obtain ⟨j, q, n, d, hj, rfl, h0, h1, hw, hcaps, hB⟩ := hrel
    obtain ⟨_, a1, a2, a3, a4⟩ := One.of h0.out
    obtain ⟨_, b1, b2, b3, b4⟩ := One.of h1.out
    have hsz := hB.out.size
    by_cases hlt : j < k
    · obtain ⟨N, hN⟩ : ∃ N, Ns[j]? = some N := ⟨Ns[j]'(by rw [H.out.len]; exact hlt), List.getElem?_eq_getElem _⟩
      obtain ⟨b, o, q2, m, d2, rfl, hc, hw2⟩ := H.out.elt j N hN
      have hcw := (hB.out.cell (p := ⟨b, o + j, none⟩) (lt_of_cell hc)).trans hc
      have hw2' : Hid (Ws 34 wr q2 m d2 N) := hw2.keep hB.out
      have hjk : (j : Int) < (k : Int) := by omega
      have HN := Lib.hid hN
      clear hc hw2 hN hlt
      go_wp2_with fail
      refine Calls.mono (times_then _ _ _ _ _ _ _ _ _ (hw.out.keep (al (Below.refl _ _) (Nat.le_refl _))) (hw2'.out.keep (al (Below.refl _ _) (Nat.le_refl _)))) ?_
      rintro e w4 ⟨g, nn, rfl, hb4, hmade⟩
      go_wp2_with fail
      refine Calls.mono hmade.out ?_
      rintro e w5 hr
      have hb45 : Below wr.heap.size w4 w5 → Below wr.heap.size wr w5 := fun h => (bl (al (Below.refl _ _) (Nat.le_refl _)) hb4 (by simp)).trans h
      have hsz4 := hb4.size
      simp at hsz4
      rcases hr with ⟨hcap, q5, n5, c5, rfl, hw5, hb5⟩ | ⟨hcap, rfl, hb5⟩
      · have hb6 := hb45 (hb5.mono (by omega))
        have k0 : w5.heap[w.heap.size]? = some (.cells #[.slice none 0 0] 29 (0, 0)) := (hb6.block _ (blk_lt h0.out)).trans h0.out
        have k1 : w5.heap[w1.heap.size]? = some (.cells #[.slice q n d] 29 (0, 0)) := (hb6.block _ (blk_lt h1.out)).trans h1.out
        obtain ⟨_, x1, x2, x3, x4⟩ := One.of k1
        have F : Hid ((w5.setCell ⟨w1.heap.size, 0, none⟩ (.slice q5 n5 c5)).heap[w.heap.size]? = some (.cells #[.slice none 0 0] 29 (0, 0)) ∧ (w5.setCell ⟨w1.heap.size, 0, none⟩ (.slice q5 n5 c5)).heap[w1.heap.size]? = some (.cells #[.slice q5 n5 c5] 29 (0, 0)) ∧ Ws 34 (w5.setCell ⟨w1.heap.size, 0, none⟩ (.slice q5 n5 c5)) q5 n5 c5 (mulL (Ns.take (j + 1))) ∧ (∀ i, i ≤ j + 1 → mulL (Ns.take i) < capN) ∧ Below w.heap.size w (w5.setCell ⟨w1.heap.size, 0, none⟩ (.slice q5 n5 c5))) :=
          ⟨hsc k0 HG.out.1, hss k1, by rw [mulL_take HN.out]; exact hw5.set k1 (by decide), fun i hi => by
            rcases Nat.lt_or_ge i (j + 1) with h | h
            · exact hcaps.out i (by omega)
            · obtain rfl : i = j + 1 := by omega
              rw [mulL_take HN.out]; exact hcap, ((hB.out.trans (hb6.mono (by omega)))).setCell HG.out.2 _⟩
        clear hb6 hb5 hb4 hw5 k0 k1 hb45 hcap hmade
        go_wp2
        go_roundw
        case rel => exact ⟨j + 1, _, _, _, by omega, by go_num, F.out.1, F.out.2.1, F.out.2.2.1, F.out.2.2.2.1, F.out.2.2.2.2⟩
        case measure => simp [intOf]; omega
      · have hb6 := hb45 (hb5.mono (by omega))
        have k0 : w5.heap[w.heap.size]? = some (.cells #[.slice none 0 0] 29 (0, 0)) := (hb6.block _ (blk_lt h0.out)).trans h0.out
        have k1 : w5.heap[w1.heap.size]? = some (.cells #[.slice q n d] 29 (0, 0)) := (hb6.block _ (blk_lt h1.out)).trans h1.out
        obtain ⟨_, x1, x2, x3, x4⟩ := One.of k1
        obtain ⟨y1, y2⟩ := One.later k0 w1.heap.size 0 (.slice none 0 0) HG.out.1
        have K0 := Lib.hid (hsc k0 (show w.heap.size ≠ (⟨w1.heap.size, 0, none⟩ : Addr).block from HG.out.1) (v := .slice none 0 0))
        have F : Hid (capN ≤ mulL (Ns.take (j + 1)) ∧ Below w.heap.size w ((w5.setCell ⟨w1.heap.size, 0, none⟩ (.slice none 0 0)).setCell ⟨w.heap.size, 0, none⟩ (.slice none 0 0))) :=
          ⟨by rw [mulL_take HN.out]; exact hcap, ((hB.out.trans (hb6.mono (by omega))).setCell HG.out.2 _).setCell (Nat.le_refl _) _⟩
        clear hb6 hb5 hb4 k0 k1 hb45 hcap hmade
        go_wp2
        exact bodyPost_ret (res_cell_tmp rfl _ _ _ 29 #[.slice none 0 0] (0, 0) _ (.int .i64 16) rfl (hss K0.out) rfl Tryd.underlying29 rfl hinfo) rfl (Or.inr ⟨⟨_, F.out.1⟩, rfl, F.out.2⟩)
    · obtain rfl : j = k := by omega
      have F : Hid (mulL (Ns.take j) = mulL Ns ∧ ∀ i, mulL (Ns.take i) < capN) := by
        have e : Ns.take j = Ns := List.take_of_length_le (by have := H.out.len; omega)
        refine ⟨by rw [e], fun i => ?_⟩
        rcases Nat.lt_or_ge i (j + 1) with h | h
        · exact hcaps.out i (by omega)
        · rw [List.take_of_length_le (by have := H.out.len; omega), ← e]; exact hcaps.out j (Nat.le_refl _)
      rw [F.out.1] at hw
      have HWE : Hid (Ws 34 (wr.setCell ⟨w.heap.size, 0, none⟩ (.slice q n d)) q n d (mulL Ns) ∧ (∀ i, mulL (Ns.take i) < capN) ∧ Below w.heap.size w (wr.setCell ⟨w.heap.size, 0, none⟩ (.slice q n d))) := ⟨hw.out.set h0.out (by decide), F.out.2, hB.out.setCell (Nat.le_refl _) _⟩
      clear hw hlt
      go_wp2
      exact bodyPost_ret (res_cell_tmp rfl _ _ _ 29 #[.slice q n d] (0, 0) _ (.int .i64 0) rfl (hss h0.out) rfl Tryd.underlying29 rfl hinfo) rfl (Or.inl ⟨HWE.out.2.1, _, _, _, rfl, HWE.out.1, HWE.out.2.2⟩)
end Go.Proofs.YtbfmdfbnhakolaaDoor
namespace Go.By
open Go.RowKit
theorem repeat48 : ∀ c, Lib.repeatL [48] c = List.replicate c 48
  | 0 => rfl
  | c + 1 => by rw [List.replicate_succ, ← repeat48 c]; rfl
theorem tLen {n k : Nat} (h : n < 16 ^ k) : (hexText n).length ≤ k + 1 := by
  rcases Nat.eq_zero_or_pos k with h0 | h0
  · subst h0
    have : n = 0 := by simpa using h
    subst this; simp [hexText]
  · have := hexText_len h0 h; omega
theorem wordsText {ws : List UInt64} : (hexText (valW ws)).length ≤ 16 * ws.length + 1 := by
  refine tLen ?_
  have := valW_lt ws
  rw [show (18446744073709551616 : Nat) = 16 ^ 16 from rfl, ← Nat.pow_mul] at this
  exact this
end Go.By
namespace Go.Proofs.YtbfmdfbnhakolaaDoor
open Go.RowKit Go.By
theorem FormatUint_s (n : UInt64) (w : World) (hT : Tab w) : Calls Tryd.prog 58 #[W64 n, .int .i64 16] w fun e w' => e = .returned (.string (strB (hexText n.toNat))) ∧ Below w.heap.size w w' := FormatUint_16 n w hT
theorem Write_s (B b : Nat) (t s : List UInt8) (w : World) (h : Lib.IsBuilder 95 5 B b (Lib.byteCells t) w) (hlen : t.length + s.length ≤ 100000000) (hBw : B ≤ w.heap.size) :
    Calls Tryd.prog 57 #[.pointer (some ⟨b, 0, none⟩), .string (strB s)] w fun e w' => e = .returned (.tuple #[.int .i64 s.length, .nilIface]) ∧ Lib.BuilderAt 95 5 B b (.pointer (some ⟨b, 0, none⟩)) (Lib.byteCells (t ++ s)) w' ∧ Below B w w' := by
  have := Any.Builder_WriteString (ρ := Tryd.lays105_ren) { Tryd.lays105 with } Tryd.Builder_Extra_105 B b (Lib.byteCells t) (strB s) w h (by rw [Lib.byteCells_length, strB_size]; omega) hBw
  refine Calls.mono this ?_
  rintro e w' ⟨rfl, h1, h2⟩
  rw [strB_cells, bytes_append] at h1
  rw [strB_size]
  exact ⟨rfl, h1, h2⟩
theorem String_s (B b : Nat) (t : List UInt8) (w : World) (h : Lib.IsBuilder 95 5 B b (Lib.byteCells t) w) (hBw : B ≤ w.heap.size) :
    Calls Tryd.prog 60 #[.pointer (some ⟨b, 0, none⟩)] w fun e w' => e = .returned (.string (strB t)) ∧ Below B w w' := Tryd.Builder_String_any B b t w h hBw
theorem Repeat_s (c : Nat) (w : World) (hc : c ≤ 1000) : Calls Tryd.prog 59 #[.string ⟨#[48]⟩, .int .i64 c] w fun e w' => e = .returned (.string (strB (List.replicate c 48))) ∧ Below w.heap.size w w' := by
  have := Tryd.strings_Repeat ⟨#[48]⟩ c w (by omega) (by show 1 * c ≤ _; omega)
  refine this.mono ?_
  rintro e w' ⟨rfl, h⟩
  exact ⟨by rw [show (⟨#[48]⟩ : ByteArray).data.toList = [48] from rfl, repeat48]; rfl, h⟩
set_option maxRecDepth 100000 in
set_option maxHeartbeats 2000000 in
theorem Text_nat (p : Option Addr) (n c N : Nat) (w : World) (h : Ws 34 w p n c N) (hT : Tab w) :
    Calls Tryd.prog 30 #[.agg #[.slice p n c]] w fun e w' => e = .returned (.string (strB (hexText N))) ∧ Below w.heap.size w w' := by
  obtain ⟨ws, hs, hnorm, rfl⟩ := h.ex
  have hle := h.le
  have hnc := hs.le
  have HB : Hid (∀ o, Below w.heap.size w (w.alloc o)) := fun o => al (Below.refl _ _) (Nat.le_refl _)
  rcases Nat.eq_zero_or_pos n with h0 | h0
  · subst h0
    have : ws = [] := List.eq_nil_of_length_eq_zero hs.len
    subst this
    clear h hs hnorm
    go_enter Tryd.func30, Tryd.ntmps30
    go_wp2
    go_ret
    exact ⟨by rw [show hexText (valW []) = [48] from rfl]; rfl, HB.out _⟩
  · obtain ⟨k, rfl⟩ : ∃ k, n = k + 1 := ⟨n - 1, by omega⟩
    obtain ⟨b, o, x, rfl, hc, hx⟩ := hs.at k (by omega)
    have hc2 : ∀ o1 o2, ((w.alloc o1).alloc o2).cell? ⟨b, o + k, none⟩ = some (W64 x) := fun o1 o2 => ((al (al (Below.refl _ _) (Nat.le_refl _)) (by simp) : Below w.heap.size w ((w.alloc o1).alloc o2)).cell (p := ⟨b, o + k, none⟩) (lt_of_cell hc)).trans hc
    obtain ⟨W, hW⟩ : ∃ W, W = (w.alloc (.cells #[.slice (some ⟨b, o, none⟩) (k + 1) c] 29)).alloc (.cells #[.pointer none, .slice none 0 0] 95) := ⟨_, rfl⟩
    have hbW : Below w.heap.size w W := by rw [hW]; exact al (al (Below.refl _ _) (Nat.le_refl _)) (by simp)
    have hszW : W.heap.size = w.heap.size + 2 := by rw [hW]; simp
    have t0 : W.heap[w.heap.size]? = some (.cells #[.slice (some ⟨b, o, none⟩) (k + 1) c] 29 (0, 0)) := by rw [hW]; exact hal (hnew rfl)
    have t1 : W.heap[w.heap.size + 1]? = some (.cells #[.pointer none, .slice none 0 0] 95 (0, 0)) := by rw [hW]; exact hnew (by simp)
    have hcW := (hbW.cell (p := ⟨b, o + k, none⟩) (lt_of_cell hc)).trans hc
    obtain ⟨_, a1, a2, a3, a4⟩ := One.of t0
    have HBd : Hid (Lib.IsBuilder 95 5 (w.heap.size + 1) (w.heap.size + 1) (Lib.byteCells []) W) := Or.inl ⟨Nat.le_refl _, _, t1, World.ownsRow_nil _ _ _ _, by simp [Value.ownBlock]⟩
    have HBW := Lib.hid hbW
    have HT : Hid (Tab W) := hT.keep hbW
    have HT0 := Lib.hid hT
    have HS := Lib.hid hs; have HN := Lib.hid hnorm
    have T0 := Lib.hid t0
    have HX := Lib.hid hx
    have hx16 : (hexText x.toNat).length ≤ 16 := (hex_pad (k := 16) (by decide) (by have := x.toNat_lt; simpa using this)).2
    have HX16 := Lib.hid hx16
    clear h hs hnorm hc hbW t0 t1 hT hx hx16
    go_enter Tryd.func30, Tryd.ntmps30
    go_wp2_with fail
    rw [← hW]
    clear hW
    refine Calls.mono (FormatUint_s x W HT.out) ?_
    rintro e w1 ⟨rfl, hb1⟩
    have hsz1 := hb1.size
    have HB1 := Lib.hid hb1
    clear hb1
    go_wp2_with fail
    refine Calls.mono (Write_s (w.heap.size + 1) (w.heap.size + 1) [] (hexText x.toNat) w1 (HBd.out.imp (fun h => BuilderAt.keep h HB1.out) (fun h => BuilderAt.keep h HB1.out)) (by have := HX16.out; simp; omega) (by omega)) ?_
    rintro e w2 ⟨rfl, hbd2, hb2⟩
    have HW2 : Hid (Lib.BuilderAt 95 5 (w.heap.size + 1) (w.heap.size + 1) (.pointer (some ⟨w.heap.size + 1, 0, none⟩)) (Lib.byteCells (hexText (valW (ws.drop k)))) w2) := by
      have e : valW (ws.drop k) = x.toNat := by
        rw [drop_cons HX.out, List.drop_of_length_le (by have := HS.out.len; omega), valW_one]
      show Lib.BuilderAt _ _ _ _ _ _ _
      rw [e]; exact hbd2
    have k0 : w2.heap[w.heap.size]? = some (.cells #[.slice (some ⟨b, o, none⟩) (k + 1) c] 29 (0, 0)) := (hb2.block _ (by omega)).trans ((HB1.out.block _ (blk_lt T0.out)).trans T0.out)
    have HB2 : Hid (Below w.heap.size w w2) := (HBW.out.trans (HB1.out.mono (by omega))).trans (hb2.mono (by omega))
    have hsz2 := hb2.size
    have K0 := Lib.hid k0
    clear hbd2 hb2 k0
    go_wp2
    go_loopw [22] (fun i wr => ∃ j : Nat, j ≤ k ∧ i = .int .i64 j ∧ Hid (Lib.BuilderAt 95 5 (w.heap.size + 1) (w.heap.size + 1) (.pointer (some ⟨w.heap.size + 1, 0, none⟩)) (Lib.byteCells (hexText (valW (ws.drop (k - j))))) wr) ∧ Hid (wr.heap[w.heap.size]? = some (.cells #[.slice (some ⟨b, o, none⟩) (k + 1) c] 29 (0, 0))) ∧ w.heap.size + 2 ≤ wr.heap.size ∧ Hid (Below w.heap.size w wr)) (fun i _ => k - (intOf i).toNat)
    case atStart => exact ⟨0, Nat.zero_le _, rfl, HW2.out, K0.out, by omega, HB2.out⟩
    case round =>
      clear HW2 K0 HB2
      obtain ⟨i, hik, rfl, hbd, h0, hszr, hB⟩ := hrel
      obtain ⟨_, a1, a2, a3, a4⟩ := One.of h0.out
      by_cases hlt : i < k
      · obtain ⟨j, hj⟩ : ∃ j, k = i + j + 1 := ⟨k - i - 1, by omega⟩
        obtain ⟨b', o', y, hp, hc, hy⟩ := HS.out.at j (by omega)
        cases hp
        have hcy := (hB.out.cell (p := ⟨b, o + j, none⟩) (lt_of_cell hc)).trans hc
        have hidx : (k : Int) + 1 - 2 - (i : Int) = (j : Int) := by omega
        have hik' : (i : Int) < (k : Int) := by omega
        have HJ := Lib.hid hj
        have hy16 : (hexText y.toNat).length ≤ 16 := (hex_pad (k := 16) (by decide) (by have := y.toNat_lt; simpa using this)).2
        obtain ⟨m, hm⟩ : ∃ m, (hexText y.toNat).length = m := ⟨_, rfl⟩
        have hsm : (strB (hexText y.toNat)).size = m := by rw [strB_size, hm]
        rw [hm] at hy16
        obtain ⟨r, hr⟩ : ∃ r, 16 - m = r := ⟨_, rfl⟩
        have hr16 : (16 : Int) - (m : Int) = (r : Int) := by omega
        have HR : Hid (r + m = 16) := by show _ = _; omega
        have HM := Lib.hid hm
        have HY := Lib.hid hy
        have hstep : Hid (hexText (valW (ws.drop j)) = hexText (valW (ws.drop (k - i))) ++ List.replicate r 48 ++ hexText y.toNat ∧ (hexText (valW (ws.drop (k - i)))).length ≤ 16 * 513) := by
          have e1 : k - i = j + 1 := by omega
          rw [e1]
          refine ⟨?_, ?_⟩
          · rw [valW_drop hy.out]
            have := (text_step (w := y.toNat) (n := valW (ws.drop (j + 1))) y.toNat_lt (HN.out.drop_pos (by have := HS.out.len; omega))).1
            rw [this, hm, hr, List.append_assoc]
          · have := wordsText (ws := ws.drop (j + 1))
            have h2 := HS.out.len
            rw [List.length_drop] at this
            omega
        have HTr : Hid (Tab wr) := HT0.out.keep hB.out
        obtain ⟨Z, hZ⟩ : ∃ Z, Z = hexText (valW (ws.drop (k - i))) := ⟨_, rfl⟩
        rw [← hZ] at hbd hstep
        obtain ⟨Y, hY⟩ : ∃ Y, Y = hexText y.toNat := ⟨_, rfl⟩
        rw [← hY] at hsm hstep HM
        have HF : Hid (Calls Tryd.prog 58 #[W64 y, .int .i64 16] wr fun e w' => e = .returned (.string (strB Y)) ∧ Below wr.heap.size wr w') := by rw [hY]; exact FormatUint_s y wr HTr.out
        have H0 := Lib.hid h0.out
        clear hc hlt hm hj hy hY hZ h0 hr
        go_wp2_with fail
        refine Calls.mono HF.out ?_
        rintro e w3 ⟨rfl, hb3⟩
        have B3 := Lib.hid hb3
        have hsz3 := hb3.size
        clear hb3
        go_wp2_with fail
        refine Calls.mono (Repeat_s r w3 (by have := HR.out; omega)) ?_
        rintro e w4 ⟨rfl, hb4⟩
        have B4 : Hid (Below wr.heap.size wr w4) := B3.out.trans (hb4.mono hsz3)
        have hsz4 := hb4.size
        clear hb4
        go_wp2_with fail
        refine Calls.mono (Write_s (w.heap.size + 1) (w.heap.size + 1) Z (List.replicate r 48) w4 (Or.inr (BuilderAt.keep hbd.out B4.out)) (by have := hstep.out.2; have := HR.out; rw [List.length_replicate]; omega) (by omega)) ?_
        rintro e w5 ⟨rfl, hbd5, hb5⟩
        have H5 := Lib.hid hbd5
        have B5 := Lib.hid hb5
        have hsz5 := hb5.size
        clear hbd5 hb5
        go_wp2_with fail
        refine Calls.mono (Write_s (w.heap.size + 1) (w.heap.size + 1) (Z ++ List.replicate r 48) Y w5 (Or.inr H5.out) (by have := hstep.out.2; have := HM.out; have := HR.out; rw [List.length_append, List.length_replicate]; omega) (by omega)) ?_
        rintro e w6 ⟨rfl, hbd6, hb6⟩
        have hsz6 := hb6.size
        have F : Hid (Lib.BuilderAt 95 5 (w.heap.size + 1) (w.heap.size + 1) (.pointer (some ⟨w.heap.size + 1, 0, none⟩)) (Lib.byteCells (hexText (valW (ws.drop (k - (i + 1)))))) w6 ∧ w6.heap[w.heap.size]? = some (.cells #[.slice (some ⟨b, o, none⟩) (k + 1) c] 29 (0, 0)) ∧ Below w.heap.size w w6) := by
          refine ⟨?_, ?_, ?_⟩
          · rw [show k - (i + 1) = j by have := HJ.out; omega, hstep.out.1]; exact hbd6
          · exact (hb6.block _ (by omega)).trans ((B5.out.block _ (by omega)).trans ((B4.out.block _ (by omega)).trans H0.out))
          · exact (((hB.out.trans (B4.out.mono (by omega))).trans (B5.out.mono (by omega))).trans (hb6.mono (by omega)))
        clear hbd6 hb6
        go_wp2
        go_roundw
        case rel => exact ⟨i + 1, by have := HJ.out; omega, by go_num, F.out.1, F.out.2.1, by omega, F.out.2.2⟩
        case measure => simp [intOf]; have := HJ.out; omega
      · obtain rfl : i = k := by omega
        have F : Hid (Lib.BuilderAt 95 5 (w.heap.size + 1) (w.heap.size + 1) (.pointer (some ⟨w.heap.size + 1, 0, none⟩)) (Lib.byteCells (hexText (valW ws))) wr) := by
          have := hbd.out
          rw [Nat.sub_self, List.drop_zero] at this
          exact this
        clear hlt hbd
        go_wp2_with fail
        refine Calls.mono (String_s (w.heap.size + 1) (w.heap.size + 1) (hexText (valW ws)) wr (Or.inr F.out) (by omega)) ?_
        rintro e w6 ⟨rfl, hb6⟩
        have F2 : Hid (Below w.heap.size w w6) := hB.out.trans (hb6.mono (by omega))
        clear hb6
        go_wp2
        go_ret
        exact ⟨rfl, F2.out⟩
end Go.Proofs.YtbfmdfbnhakolaaDoor
namespace Go.By
open Go.RowKit
theorem low_or : ∀ x : Fin 256, 97 ≤ x.val → x.val ≤ 102 → bits .or .u8 (x.val : Int) 32 = (x.val : Int) := by decide +kernel
theorem valT_take {l : List UInt8} {k : Nat} {c : UInt8} (h : l[k]? = some c) : valT (l.take (k + 1)) = hexd c + 16 * valT (l.take k) := by
  rw [List.take_add_one, h]; exact valT_snoc _ _
theorem isHex_iff {c : UInt8} : isHex c = true ↔ (48 ≤ c.toNat ∧ c.toNat ≤ 57) ∨ (97 ≤ c.toNat ∧ c.toNat ≤ 102) := by
  unfold isHex; rw [Bool.or_eq_true, decide_eq_true_eq, decide_eq_true_eq]
end Go.By
namespace Go.Proofs.YtbfmdfbnhakolaaDoor
open Go.RowKit Go.By
end Go.Proofs.YtbfmdfbnhakolaaDoor
namespace Go.By
open Go.RowKit
theorem idx_strB {P : Program} (t : TypeId) (ht : P.underlying t = some .string) {l : List UInt8} {k : Nat} {c : UInt8} (h : l[k]? = some c) (K : IntKind) (z : Int) (hz : z = (k : Int)) (w : World) :
    (Instr.index t (.string (strB l)) (.int K z)).run P w = .ok (B8 c) w := by
  subst hz
  obtain ⟨hk, e⟩ := List.getElem?_eq_some_iff.1 h
  rw [run_index_string w t (strB l) _ _ ht, dif_pos ⟨by omega, by rw [strB_size]; omega⟩]
  have e1 : ((k : Int)).toNat = k := by omega
  simp only [e1]
  have hsz : k < (strB l).size := by rw [strB_size]; exact hk
  have h2 : (strB l).data[k]? = some ((strB l)[k]'hsz) := Array.getElem?_eq_getElem hsz
  rw [← Array.getElem?_toList, strB_data, h] at h2
  rw [← Option.some.inj h2]
theorem extract_strB (l : List UInt8) (i j : Nat) : (strB l).extract i j = strB ((l.take j).drop i) := by
  rw [strB_of ((strB l).extract _ _)]
  congr 1
  rw [Lib.extract_data, strB_data]
  simp [List.extract_eq_take_drop, List.drop_take]
theorem empty_strB {l : List UInt8} : (strB l).toList.isEmpty = l.isEmpty := by
  rw [← decide_eq_emptyBytes]
  cases l with
  | nil => exact decide_eq_true rfl
  | cons c r => exact decide_eq_false (fun h => by have := congrArg (fun s : ByteArray => s.data.toList) h; rw [show (strB (c :: r)).data.toList = c :: r from strB_data _] at this; cases this)
/-- is a text a number's? -/
def goodT (l : List UInt8) : Bool := match l with
  | [] => false
  | c :: r => (decide (c ≠ 48) || r.isEmpty) && (c :: r).all isHex
theorem one_cell {w : World} {v : Value} {T g : Nat} (hg : g = w.heap.size) : ∀ (j : Nat) (u : Value), [v][j]? = some u → (w.alloc (.cells #[v] T)).cell? ((⟨g, 0, none⟩ : Addr).add j) = some u := by
  intro j u hj
  rw [Addr.add_lit, Nat.zero_add, cell_of_row _ _ j _ _ _ (hnew hg)]
  match j with
  | 0 => simpa using hj
  | j + 1 => simp at hj
end Go.By
namespace Go.Proofs.YtbfmdfbnhakolaaDoor
open Go.RowKit Go.By
/-- what Parse says of a text whose beginning is in order -/
def RetT (w : World) (l : List UInt8) (e : Ending) (w' : World) : Prop := (l.all isHex = true ∧ RetN 34 w (valT l) e w') ∨ (l.all isHex = false ∧ Ret0 w 14 e w')
/-- what Parse says of any text that isn't too long -/
def RetParse (w : World) (l : List UInt8) (e : Ending) (w' : World) : Prop := (goodT l = true ∧ RetN 34 w (valT l) e w') ∨ (goodT l = false ∧ Ret0 w 14 e w')
theorem goodT_hexText (n : Nat) : goodT (hexText n) = true := by
  cases h : hexText n with
  | nil => exact absurd h (hexText_ne n)
  | cons c r =>
    show ((decide (c ≠ 48) || r.isEmpty) && (c :: r).all isHex) = true
    have h1 : (c :: r).all isHex = true := by rw [← h, List.all_eq_true]; exact hexText_hex n
    rw [h1, Bool.and_true]
    rcases hexText_head h with hc | hr
    · rw [decide_eq_true hc]; rfl
    · rw [hr]; simp
end Go.Proofs.YtbfmdfbnhakolaaDoor
namespace Go.By
open Go.RowKit
theorem strB_append (a b : List UInt8) : strB a ++ strB b = strB (a ++ b) := by
  rw [strB_of (strB a ++ strB b)]
  congr 1
/-- bytes that read as a list, where they were, or a part of them -/
def RetTr (w : World) (xs : List UInt8) (e : Ending) (w' : World) : Prop := ∃ q n c, e = .returned (.slice q n c) ∧ Sl B8 w q n c xs ∧ w = w'
theorem nibs_snoc : ∀ (ys : List Nat) (y : Nat), nibs (ys ++ [y]) = nibs ys ++ [y % 16, y / 16]
  | [], y => rfl
  | z :: zs, y => by show z % 16 :: z / 16 :: nibs (zs ++ [y]) = _; rw [nibs_snoc zs y]; rfl
/-- the letters of bytes, the highest first -/
def nibT (xs : List UInt8) : List UInt8 := (nibs (xs.map UInt8.toNat)).reverse.map hexc
theorem nibT_take {xs : List UInt8} {k : Nat} {x : UInt8} (h : xs[k]? = some x) : nibT (xs.take (k + 1)) = hexc (x.toNat / 16) :: hexc (x.toNat % 16) :: nibT (xs.take k) := by
  unfold nibT
  rw [List.take_add_one, h, List.map_append, show List.map UInt8.toNat (some x).toList = [x.toNat] from rfl, nibs_snoc, List.reverse_append, List.map_append]; rfl
theorem nibs_len : ∀ (ys : List Nat), (nibs ys).length = 2 * ys.length
  | [] => rfl
  | z :: zs => by show (nibs zs).length + 1 + 1 = 2 * (zs.length + 1); rw [nibs_len zs]; omega
theorem nibT_len (xs : List UInt8) : (nibT xs).length = 2 * xs.length := by unfold nibT; rw [List.length_map, List.length_reverse, nibs_len, List.length_map]
theorem nibT_text (xs : List UInt8) : (if strip0 (nibT xs) = [] then [48] else strip0 (nibT xs)) = hexText (valB xs) := by
  have := strip_hex (xs := nibs (xs.map UInt8.toNat)) (nibs_lt (bytes_lt xs))
  rw [valD_nibs] at this
  exact this
theorem hexc_lo {d : Nat} (h : d < 10) : (hexc d).toNat = 48 + d := by
  have : ∀ d : Fin 10, (hexc d.val).toNat = 48 + d.val := by decide
  exact this ⟨d, h⟩
theorem hexc_hi {d : Nat} (h : 10 ≤ d) (h2 : d < 16) : (hexc d).toNat = 87 + d := by
  have : ∀ d : Fin 16, 10 ≤ d.val → (hexc d.val).toNat = 87 + d.val := by decide
  exact this ⟨d, h2⟩ h
theorem strip0_step {c : UInt8} {r : List UInt8} (h : r ≠ []) (hc : c = 48) : strip0 (c :: r) = strip0 r := by
  cases r with
  | nil => exact absurd rfl h
  | cons y l => show (if c = 48 then strip0 (y :: l) else _) = _; rw [if_pos hc]
theorem strip0_stop {l : List UInt8} (h : l = [] ∨ (∃ c, l = [c]) ∨ ∃ c r, l = c :: r ∧ c ≠ 48) : strip0 l = l := by
  rcases h with rfl | ⟨c, rfl⟩ | ⟨c, r, rfl, h⟩
  · rfl
  · rfl
  · exact strip0_head h
end Go.By
namespace Go.Proofs.YtbfmdfbnhakolaaDoor
open Go.RowKit Go.By
set_option maxRecDepth 100000 in
set_option maxHeartbeats 1000000 in
theorem Trim_ref (q : Option Addr) (n c : Nat) (xs : List UInt8) (w : World) (h : Sl B8 w q n c xs) :
    Calls Tryd.prog 49 #[.slice q n c] w (RetTr w (bytesN (valB xs))) := by
  have hn := h.bound
  have hnc := h.le
  have H := Lib.hid h; clear h
  go_enter Tryd.func49, Tryd.ntmps49
  go_wp2
  go_loop [0] (fun v => ∃ k : Nat, k ≤ n ∧ v = .slice q k c ∧ Hid (valB (xs.take k) = valB xs)) (fun v => match v with | .slice _ k _ => k | _ => 0)
  case atStart => exact ⟨n, Nat.le_refl _, rfl, by show valB (xs.take n) = valB xs; rw [← H.out.len, List.take_length]⟩
  case round =>
    obtain ⟨k, hk, rfl, hr⟩ := hrel
    by_cases hk0 : k = 0
    · subst hk0
      have HE : Hid (Sl B8 w q 0 c (bytesN (valB xs))) := by
        have h1 := H.out.front (k := 0) (Nat.zero_le _)
        have h2 := hr.out
        rw [List.take_zero] at h1 h2
        rw [← h2, show valB [] = 0 from rfl, bytesN_zero]; exact h1
      go_wp2
      go_ret
      exact ⟨_, _, _, rfl, HE.out, rfl⟩
    · obtain ⟨j, rfl⟩ : ∃ j, k = j + 1 := ⟨k - 1, by omega⟩
      obtain ⟨b, o, x, rfl, hc, hx⟩ := H.out.at j (by omega)
      by_cases hx0 : x.toNat = 0
      · have HV : Hid (valB (xs.take j) = valB xs) := (valB_take_zero hx.out hx0).symm.trans hr.out
        rw [show B8 x = .int .u8 0 by show Value.int .u8 (x.toNat : Int) = _; rw [hx0]; rfl] at hc
        have hjc : j ≤ c := by omega
        clear hx0 hk0
        go_wp2
        go_round
        case rel => exact ⟨j, by omega, rfl, HV⟩
        case measure => simp
      · have HE : Hid (Sl B8 w (some ⟨b, o, none⟩) (j + 1) c (bytesN (valB xs))) := by
          have h1 := H.out.front hk
          rw [← hr.out, bytesN_take hx.out hx0]; exact h1
        have hx1 : ((x.toNat : Int) == 0) = false := by simpa using hx0
        clear hx0 hk0
        go_wp2
        go_ret
        exact ⟨_, _, _, rfl, HE.out, rfl⟩
set_option maxRecDepth 100000 in
set_option maxHeartbeats 4000000 in
theorem Text_ref (q : Option Addr) (n c : Nat) (xs : List UInt8) (w : World) (h : Sl B8 w q n c xs) (hn : n ≤ 1000000) :
    Calls Tryd.prog 48 #[.slice q n c] w fun e w' => e = .returned (.string (strB (hexText (valB xs)))) ∧ Below w.heap.size w w' := by
  have H := Lib.hid h; clear h
  have hcv : ∀ (W : World) (z : UInt8), (convert 24 9 (.slice (some ⟨W.heap.size, 0, none⟩) 1 1)).run Tryd.prog (W.alloc (.cells #[B8 z] 5)) = .ok (.string (strB [z])) (W.alloc (.cells #[B8 z] 5)) := fun W z =>
    run_convert_bytes_back _ 24 9 5 ⟨W.heap.size, 0, none⟩ 1 [z] Tryd.underlying24 Tryd.underlying5 Tryd.underlying9 (fun t ht => by
      have : t = 0 := by simp at ht; exact ht
      subst this
      rw [Addr.add_lit, cell_of_row _ _ _ _ _ _ (hnew rfl)]; rfl)
  go_enter Tryd.func48, Tryd.ntmps48
  go_wp2
  go_loopw [3, 4] (fun sv iv wr => ∃ (k : Nat) (L : List UInt8), k ≤ n ∧ iv = .int .i64 k ∧ sv = .string (strB L) ∧ Hid (L = nibT (xs.take k)) ∧ Hid (Below w.heap.size w wr)) (fun _ iv _ => n - (intOf iv).toNat)
  case atStart => exact ⟨0, [], Nat.zero_le _, rfl, rfl, rfl, Below.refl _ _⟩
  case round =>
    obtain ⟨k, L, hk, rfl, rfl, hL, hB⟩ := hrel
    by_cases hlt : k < n
    · obtain ⟨b, o, x, rfl, hc, hx⟩ := H.out.at k hlt
      have HC := Lib.hid hc
      have hLl : Hid (L.length ≤ 2000000) := by show _ ≤ _; rw [hL.out, nibT_len, List.length_take]; omega
      have hx256 := x.toNat_lt
      have hlt' : (k : Int) < (n : Int) := by omega
      obtain ⟨wo, hwo⟩ : ∃ wo : World, wo = wr := ⟨_, rfl⟩
      have HBo : Hid (Below w.heap.size w wr) := hB.out
      clear hc hlt hB
      go_wp2
      go_loopw [3, 5] (fun sv jv wr => ∃ (j : Nat) (M : List UInt8), j ≤ 2 ∧ jv = .int .i64 j ∧ sv = .string (strB M) ∧ Hid (M = ([hexc (x.toNat / 16), hexc (x.toNat % 16)].drop (2 - j)) ++ L) ∧ Hid (Below w.heap.size w wr)) (fun _ jv _ => 2 - (intOf jv).toNat)
      case atStart => exact ⟨0, L, by omega, rfl, rfl, rfl, HBo.out⟩
      case round =>
        obtain ⟨j, M, hj, rfl, rfl, hM, hB⟩ := hrel
        have cX := (hB.out.cell (p := ⟨b, o + k, none⟩) (lt_of_cell HC.out)).trans HC.out
        have hMl : M.length ≤ 3000000 := by
          rw [hM.out, List.length_append, List.length_drop]
          have := hLl.out
          simp; omega
        have hadd : ∀ (z : UInt8) (W : World), (Op.stringOp .add (strB [z]) (strB M)).run Tryd.prog W = .ok (.string (strB (z :: M))) W := fun z W => by
          rw [run_string_add_sum W _ _ (by rw [strB_size, strB_size]; simp; omega), strB_append]; rfl
        have hBA : Hid (∀ o, Below w.heap.size w (wr.alloc o)) := fun o => al hB.out hB.out.size
        obtain rfl | rfl | rfl : j = 0 ∨ j = 1 ∨ j = 2 := by omega
        · obtain ⟨d, hd⟩ : ∃ d, d = x.toNat % 16 := ⟨_, rfl⟩
          have hdi : (x.toNat : Int) % 16 = (d : Int) := by omega
          have HM : Hid (hexc d :: M = ([hexc (x.toNat / 16), hexc (x.toNat % 16)].drop (2 - 1)) ++ L) := by show _ = _; rw [hM.out, hd]; rfl
          have hd16 : d < 16 := by omega
          clear hM hB hMl hd
          by_cases h10 : d < 10
          · have hv : (48 : Int) + (d : Int) = ((hexc d).toNat : Int) := by rw [hexc_lo h10]; omega
            have h10' : (d : Int) < 10 := by omega
            clear h10
            go_wp2_with (first | simp only [hv, hcv] | simp only [hadd])
            go_roundw
            case rel => exact ⟨1, hexc d :: M, by omega, rfl, rfl, HM.out, hBA.out _⟩
            case measure => simp [intOf]
          · have hv : (97 : Int) + (d : Int) - 10 = ((hexc d).toNat : Int) := by rw [hexc_hi (by omega) hd16]; omega
            have h10' : ¬ (d : Int) < 10 := by omega
            clear h10
            go_wp2_with (first | simp only [hv, hcv] | simp only [hadd])
            go_roundw
            case rel => exact ⟨1, hexc d :: M, by omega, rfl, rfl, HM.out, hBA.out _⟩
            case measure => simp [intOf]
        · obtain ⟨d, hd⟩ : ∃ d, d = x.toNat / 16 := ⟨_, rfl⟩
          have hdi : (x.toNat : Int) / 16 = (d : Int) := by omega
          have HM : Hid (hexc d :: M = ([hexc (x.toNat / 16), hexc (x.toNat % 16)].drop (2 - 2)) ++ L) := by show _ = _; rw [hM.out, hd]; rfl
          have hd16 : d < 16 := by omega
          clear hM hB hMl hd
          by_cases h10 : d < 10
          · have hv : (48 : Int) + (d : Int) = ((hexc d).toNat : Int) := by rw [hexc_lo h10]; omega
            have h10' : (d : Int) < 10 := by omega
            clear h10
            go_wp2_with (first | simp only [hv, hcv] | simp only [hadd])
            go_roundw
            case rel => exact ⟨2, hexc d :: M, by omega, rfl, rfl, HM.out, hBA.out _⟩
            case measure => simp [intOf]
          · have hv : (97 : Int) + (d : Int) - 10 = ((hexc d).toNat : Int) := by rw [hexc_hi (by omega) hd16]; omega
            have h10' : ¬ (d : Int) < 10 := by omega
            clear h10
            go_wp2_with (first | simp only [hv, hcv] | simp only [hadd])
            go_roundw
            case rel => exact ⟨2, hexc d :: M, by omega, rfl, rfl, HM.out, hBA.out _⟩
            case measure => simp [intOf]
        · have HM : Hid (M = nibT (xs.take (k + 1))) := by
            show _ = _
            rw [hM.out, nibT_take hx.out, hL.out]; rfl
          have HB2 := Lib.hid hB.out
          clear hM hB hMl hadd
          go_wp2
          go_roundw
          case rel => exact ⟨k + 1, M, by omega, by go_num, rfl, HM.out, HB2.out⟩
          case measure => simp [intOf]; omega
    · obtain rfl : k = n := by omega
      have HL : Hid (L = nibT xs) := by
        have := hL.out
        rw [List.take_of_length_le (by have := H.out.len; omega)] at this
        exact this
      have HLl : Hid (L.length ≤ 2000000) := by show _ ≤ _; rw [hL.out, nibT_len, List.length_take]; omega
      have HB2 := Lib.hid hB.out
      clear hlt hL hB hcv
      obtain ⟨wo, hwo⟩ : ∃ wo : World, wo = wr := ⟨_, rfl⟩
      go_wp2
      go_loop [3] (fun v => ∃ M : List UInt8, v = .string (strB M) ∧ Hid (strip0 M = strip0 (nibT xs) ∧ M.length ≤ 2000000)) (fun v => match v with | .string s => s.size | _ => 0)
      case atStart => exact ⟨L, rfl, by rw [HL.out], HLl.out⟩
      case round =>
        obtain ⟨M, rfl, hM⟩ := hrel
        have hne := empty_strB (l := M)
        have hsz := strB_size M
        match M, hM with
        | [], hM =>
          have hE : Hid (hexText (valB xs) = [48]) := by
            show _ = _
            rw [← nibT_text, ← hM.out.1]; rfl
          have hsz' : (strB []).size = 0 := hsz
          have hne' : (strB []).toList.isEmpty = true := hne
          obtain ⟨S, hS⟩ : ∃ S, S = strB [] := ⟨_, rfl⟩
          rw [← hS] at hsz' hne' ⊢
          clear hne hsz hS
          go_wp2
          go_ret
          exact ⟨by rw [hE.out]; rfl, HB2.out⟩
        | [z], hM =>
          have hE : Hid (strB (hexText (valB xs)) = strB [z]) := by
            show _ = _
            rw [← nibT_text, ← hM.out.1]; rfl
          have hsz' : (strB [z]).size = 1 := hsz
          have hne' : (strB [z]).toList.isEmpty = false := hne
          obtain ⟨S, hS⟩ : ∃ S, S = strB [z] := ⟨_, rfl⟩
          rw [← hS] at hsz' hne' hE ⊢
          clear hne hsz hS
          go_wp2
          go_ret
          exact ⟨by rw [hE.out]; rfl, HB2.out⟩
        | z :: y :: r, hM =>
          have hix : ∀ w, (Instr.index 9 (.string (strB (z :: y :: r))) (.int .i64 0)).run Tryd.prog w = .ok (B8 z) w := fun w => idx_strB _ Tryd.underlying9 (k := 0) rfl _ _ rfl w
          have hlen : (1 : Int) < ((z :: y :: r).length : Nat) := by simp; omega
          have hne' : (strB (z :: y :: r)).toList.isEmpty = false := hne
          have hex : (strB (z :: y :: r)).extract 1 (strB (z :: y :: r)).size = strB (y :: r) := by
            rw [extract_strB, strB_size, List.take_length]; rfl
          obtain ⟨m, hm⟩ : ∃ m, (z :: y :: r).length = m := ⟨_, rfl⟩
          have hmm : Hid (m = (y :: r).length + 1 ∧ m ≤ 2000000) := ⟨by rw [← hm]; rfl, by rw [← hm]; exact hM.out.2⟩
          rw [hm] at hsz hlen
          by_cases hz : z = 48
          · have HM : Hid (strip0 (y :: r) = strip0 (nibT xs) ∧ (y :: r).length ≤ 2000000) := ⟨by rw [← hM.out.1, strip0_step (by simp) hz], by have := hmm.out; omega⟩
            rw [show B8 z = .int .u8 48 by rw [hz]; rfl] at hix
            have hsz2 := strB_size (y :: r)
            have HS2 := Lib.hid hsz2
            have HSZ := Lib.hid hsz
            clear hM hz hm hne
            obtain ⟨S, hS⟩ : ∃ S, S = strB (z :: y :: r) := ⟨_, rfl⟩
            rw [← hS] at hix hsz hne' hex HSZ ⊢
            obtain ⟨S2, hS2⟩ : ∃ S2, S2 = strB (y :: r) := ⟨_, rfl⟩
            rw [← hS2] at hex hsz2 HS2
            have HS := Lib.hid hS2
            clear hS hS2 hsz2
            have hexm : S.extract 1 m = S2 := by rw [← HSZ.out]; exact hex
            have HEX := Lib.hid hexm
            clear hexm hex
            go_wp2_with (simp only [hix])
            exact ⟨⟨y :: r, by rw [HEX.out, HS.out], HM.out⟩, by show (S.extract 1 m).size < S.size; rw [HEX.out, HS2.out, HSZ.out]; have := hmm.out; omega⟩
          · have hE : Hid (strB (hexText (valB xs)) = strB (z :: y :: r)) := by
              show _ = _
              rw [← nibT_text, ← hM.out.1, strip0_head hz, if_neg (by simp)]
            have hz1 : ((z.toNat : Int) == 48) = false := by
              have : z.toNat ≠ 48 := fun e => hz (UInt8.toNat_inj.1 (by simpa using e))
              rw [beq_eq_false_iff_ne]; omega
            obtain ⟨S, hS⟩ : ∃ S, S = strB (z :: y :: r) := ⟨_, rfl⟩
            rw [← hS] at hix hsz hne' hE ⊢
            clear hM hz hm hne hex hS
            go_wp2_with (simp only [hix])
            go_ret
            exact ⟨by rw [hE.out]; rfl, HB2.out⟩
end Go.Proofs.YtbfmdfbnhakolaaDoor
namespace Go.By
open Go.RowKit
theorem one_cap : 1 < capN := Nat.lt_of_lt_of_le (show 1 < powW 1 by decide) (powW_mono (show 1 ≤ 512 by decide))
theorem RetP.two {T : TypeId} {w w' : World} {M N : Nat} {e : Ending} (h : RetP T w [M, N] e w') (hM : M < capN) : RetMn T w (M * N) e w' := by
  have e2 : mulL [M, N] = M * N := by simp [mulL]
  rcases h with ⟨h1, h2⟩ | ⟨⟨j, hj⟩, h2⟩
  · have := h1 2
    rw [show [M, N].take 2 = [M, N] from rfl, e2] at this
    rw [e2] at h2
    exact Or.inl ⟨this, h2⟩
  · refine Or.inr ⟨?_, h2⟩
    match j, hj with
    | 0, hj => have := one_cap; rw [show mulL ([M, N].take 0) = 1 from rfl] at hj; omega
    | 1, hj => rw [show mulL ([M, N].take 1) = M * 1 from rfl] at hj; omega
    | j + 2, hj => rw [List.take_of_length_le (by simp), e2] at hj; exact hj
theorem RetP.three {T : TypeId} {w w' : World} {M N K : Nat} {e : Ending} (h : RetP T w [M, N, K] e w') (hM : M < capN) (h2 : M * N < capN) (h3 : M * N * K < capN) : RetN T w (M * N * K) e w' := by
  have e3 : mulL [M, N, K] = M * N * K := by simp [mulL, Nat.mul_assoc]
  rcases h with ⟨_, h⟩ | ⟨⟨j, hj⟩, _⟩
  · rwa [e3] at h
  · exfalso
    match j, hj with
    | 0, hj => have := one_cap; rw [show mulL ([M, N, K].take 0) = 1 from rfl] at hj; omega
    | 1, hj => rw [show mulL ([M, N, K].take 1) = M * 1 from rfl] at hj; omega
    | 2, hj => rw [show mulL ([M, N, K].take 2) = M * (N * 1) from rfl, Nat.mul_one] at hj; omega
    | j + 3, hj => rw [List.take_of_length_le (by simp), e3] at hj; omega
/-- a power, or that one on the way is too great -/
def RetW (T : TypeId) (w : World) (N k : Nat) (e : Ending) (w' : World) : Prop := ((∀ j, j ≤ k → N ^ j < capN) ∧ RetN T w (N ^ k) e w') ∨ ((∃ j, j ≤ k ∧ capN ≤ N ^ j) ∧ Ret0 w 16 e w')
end Go.By
namespace Go.Proofs.YtbfmdfbnhakolaaDoor
open Go.RowKit Go.By
set_option maxRecDepth 100000 in
set_option maxHeartbeats 1000000 in
theorem Pow_bad (q : Option Addr) (n c : Nat) (k : Int) (w : World) (hk : k < 0 ∨ 65536 < k) :
    Calls Tryd.prog 44 #[.agg #[.slice q n c], .int .i64 k] w (Ret0 w 2) := by
  have hinfo := info_nat
  have HB : Hid (∀ o o2, Below w.heap.size w ((w.alloc o).alloc o2)) := fun o o2 => al (al (Below.refl _ _) (Nat.le_refl _)) (by simp)
  have HX : Hid (∀ o o2, ((w.alloc o).alloc o2).heap[w.heap.size + 1]? = some o2) := fun o o2 => hnew (by simp)
  rcases hk with h | h
  · go_enter Tryd.func44, Tryd.ntmps44
    go_wp2
    exact bodyPost_ret (res_cell_tmp rfl _ _ _ 29 #[.slice none 0 0] (0, 0) _ (.int .i64 2) rfl (HX.out _ _) rfl Tryd.underlying29 rfl hinfo) rfl ⟨rfl, HB.out _ _⟩
  · have h0 : ¬ k < 0 := by omega
    go_enter Tryd.func44, Tryd.ntmps44
    go_wp2
    exact bodyPost_ret (res_cell_tmp rfl _ _ _ 29 #[.slice none 0 0] (0, 0) _ (.int .i64 2) rfl (HX.out _ _) rfl Tryd.underlying29 rfl hinfo) rfl ⟨rfl, HB.out _ _⟩
set_option maxRecDepth 100000 in
set_option maxHeartbeats 2000000 in
theorem Pow_any (p : Option Addr) (m c N k : Nat) (w : World) (h : Ws 34 w p m c N) (hk : k ≤ 65536) :
    Calls Tryd.prog 44 #[.agg #[.slice p m c], .int .i64 k] w (RetW 34 w N k) := by
  have hinfo := info_nat
  have H := Lib.hid h; clear h
  have hk1 : ¬ (k : Int) < 0 := by omega
  have hk2 : ¬ (65536 : Int) < (k : Int) := by omega
  go_enter Tryd.func44, Tryd.ntmps44
  go_wp2_with fail
  refine Calls.mono (Of_one _) ?_
  rintro e w1 ⟨q1, n1, c1, rfl, hw1, hb1⟩
  have k0 : w1.heap[w.heap.size + 1]? = some (.cells #[.slice none 0 0] 29 (0, 0)) := (hb1.block _ (by simp)).trans (hnew (by simp))
  have k2 : w1.heap[w.heap.size]? = some (.cells #[.slice p m c] 29 (0, 0)) := (hb1.block _ (by simp <;> omega)).trans (hal (hnew rfl))
  have HB : Hid (Below w.heap.size w w1) := bl (al (al (Below.refl _ _) (Nat.le_refl _)) (by simp)) hb1 (by simp <;> omega)
  have K0 : Hid (∀ o, (w1.alloc o).heap[w.heap.size + 1]? = some (.cells #[.slice none 0 0] 29 (0, 0)) ∧ (w1.alloc o).heap[w.heap.size]? = some (.cells #[.slice p m c] 29 (0, 0))) := fun o => ⟨hal k0, hal k2⟩
  have HW1 : Hid (∀ o, Ws 34 (w1.alloc o) q1 n1 c1 1) := fun o => hw1.keep (al (Below.refl _ _) (Nat.le_refl _))
  have HG : Hid (w.heap.size + 1 < w1.heap.size) := by have := blk_lt k0; exact this
  clear k0 k2 hw1 hb1
  go_wp2
  go_loopw [17] (fun i wr => ∃ (j : Nat) (q : Option Addr) (n d : Nat), j ≤ k ∧ i = .int .i64 j ∧ Hid (wr.heap[w.heap.size + 1]? = some (.cells #[.slice none 0 0] 29 (0, 0)) ∧ wr.heap[w.heap.size]? = some (.cells #[.slice p m c] 29 (0, 0))) ∧ Hid (wr.heap[w1.heap.size]? = some (.cells #[.slice q n d] 29 (0, 0))) ∧ Hid (Ws 34 wr q n d (N ^ j)) ∧ Hid (∀ i, i ≤ j → N ^ i < capN) ∧ Hid (Below w.heap.size w wr)) (fun i _ => k - (intOf i).toNat)
  case atStart =>
    refine ⟨0, q1, n1, c1, Nat.zero_le _, rfl, K0.out _, hnew rfl, ?_, ?_, al HB.out (by have := HG.out; omega)⟩
    · show Ws _ _ _ _ _ (N ^ 0)
      exact HW1.out _
    · intro i hi
      obtain rfl : i = 0 := by omega
      exact one_cap
  case round =>
    obtain ⟨j, q, n, d, hj, rfl, h0, h1, hw, hcaps, hB⟩ := hrel
    obtain ⟨_, a1, a2, a3, a4⟩ := One.of h0.out.1
    obtain ⟨_, d1, d2, d3, d4⟩ := One.of h0.out.2
    obtain ⟨_, b1, b2, b3, b4⟩ := One.of h1.out
    have hsz := hB.out.size
    by_cases hlt : j < k
    · have hjk : (j : Int) < (k : Int) := by omega
      clear hlt
      go_wp2_with fail
      refine Calls.mono (Mul_nat _ _ _ _ _ (Nsl.two (hnew rfl) (hw.out.keep (al (Below.refl _ _) (Nat.le_refl _))) ((H.out.keep hB.out).keep (al (Below.refl _ _) (Nat.le_refl _))))) ?_
      rintro e w5 hr0
      have hr := hr0.two (hcaps.out j (Nat.le_refl _))
      have hpow : N ^ j * N = N ^ (j + 1) := (Nat.pow_succ N j).symm
      rw [hpow] at hr
      have hb45 : ∀ {a}, Below (wr.alloc a).heap.size (wr.alloc a) w5 → Below wr.heap.size wr w5 := fun h => (al (Below.refl _ _) (Nat.le_refl _)).trans (h.mono (by simp))
      clear hr0 hpow
      rcases hr with ⟨hcap, q5, n5, c5, rfl, hw5, hb5⟩ | ⟨hcap, rfl, hb5⟩
      · have hb6 := hb45 hb5
        have k0 : w5.heap[w.heap.size + 1]? = some (.cells #[.slice none 0 0] 29 (0, 0)) := (hb6.block _ (blk_lt h0.out.1)).trans h0.out.1
        have k2 : w5.heap[w.heap.size]? = some (.cells #[.slice p m c] 29 (0, 0)) := (hb6.block _ (blk_lt h0.out.2)).trans h0.out.2
        have k1 : w5.heap[w1.heap.size]? = some (.cells #[.slice q n d] 29 (0, 0)) := (hb6.block _ (blk_lt h1.out)).trans h1.out
        obtain ⟨_, x1, x2, x3, x4⟩ := One.of k1
        have hg := HG.out
        have F : Hid (((w5.setCell ⟨w1.heap.size, 0, none⟩ (.slice q5 n5 c5)).heap[w.heap.size + 1]? = some (.cells #[.slice none 0 0] 29 (0, 0)) ∧ (w5.setCell ⟨w1.heap.size, 0, none⟩ (.slice q5 n5 c5)).heap[w.heap.size]? = some (.cells #[.slice p m c] 29 (0, 0))) ∧ (w5.setCell ⟨w1.heap.size, 0, none⟩ (.slice q5 n5 c5)).heap[w1.heap.size]? = some (.cells #[.slice q5 n5 c5] 29 (0, 0)) ∧ Ws 34 (w5.setCell ⟨w1.heap.size, 0, none⟩ (.slice q5 n5 c5)) q5 n5 c5 (N ^ (j + 1)) ∧ (∀ i, i ≤ j + 1 → N ^ i < capN) ∧ Below w.heap.size w (w5.setCell ⟨w1.heap.size, 0, none⟩ (.slice q5 n5 c5))) :=
          ⟨⟨hsc k0 (show w.heap.size + 1 ≠ w1.heap.size by omega), hsc k2 (show w.heap.size ≠ w1.heap.size by omega)⟩, hss k1, hw5.set k1 (by decide), fun i hi => by
            rcases Nat.lt_or_ge i (j + 1) with h | h
            · exact hcaps.out i (by omega)
            · obtain rfl : i = j + 1 := by omega
              exact hcap, ((hB.out.trans (hb6.mono (by omega)))).setCell (show w.heap.size ≤ w1.heap.size by omega) _⟩
        clear hb6 hb5 hw5 k0 k1 k2 hb45 hcap hg
        go_wp2
        go_roundw
        case rel => exact ⟨j + 1, _, _, _, by omega, by go_num, F.out.1, F.out.2.1, F.out.2.2.1, F.out.2.2.2.1, F.out.2.2.2.2⟩
        case measure => simp [intOf]; omega
      · have hb6 := hb45 hb5
        have k0 : w5.heap[w.heap.size + 1]? = some (.cells #[.slice none 0 0] 29 (0, 0)) := (hb6.block _ (blk_lt h0.out.1)).trans h0.out.1
        have k1 : w5.heap[w1.heap.size]? = some (.cells #[.slice q n d] 29 (0, 0)) := (hb6.block _ (blk_lt h1.out)).trans h1.out
        obtain ⟨_, x1, x2, x3, x4⟩ := One.of k1
        have hg := HG.out
        obtain ⟨y1, y2⟩ := One.later k0 w1.heap.size 0 (.slice none 0 0) (by omega)
        have K0 := Lib.hid (hsc k0 (show w.heap.size + 1 ≠ (⟨w1.heap.size, 0, none⟩ : Addr).block from (by show w.heap.size + 1 ≠ w1.heap.size; omega)) (v := .slice none 0 0))
        have F : Hid (capN ≤ N ^ (j + 1) ∧ j + 1 ≤ k ∧ Below w.heap.size w ((w5.setCell ⟨w1.heap.size, 0, none⟩ (.slice none 0 0)).setCell ⟨w.heap.size + 1, 0, none⟩ (.slice none 0 0))) :=
          ⟨hcap, by omega, ((hB.out.trans (hb6.mono (by omega))).setCell (show w.heap.size ≤ w1.heap.size by omega) _).setCell (show w.heap.size ≤ w.heap.size + 1 by omega) _⟩
        clear hb6 hb5 k0 k1 hb45 hcap hg
        go_wp2
        exact bodyPost_ret (res_cell_tmp rfl _ _ _ 29 #[.slice none 0 0] (0, 0) _ (.int .i64 16) rfl (hss K0.out) rfl Tryd.underlying29 rfl hinfo) rfl (Or.inr ⟨⟨_, F.out.2.1, F.out.1⟩, rfl, F.out.2.2⟩)
    · obtain rfl : j = k := by omega
      have HWE : Hid (Ws 34 (wr.setCell ⟨w.heap.size + 1, 0, none⟩ (.slice q n d)) q n d (N ^ j) ∧ (∀ i, i ≤ j → N ^ i < capN) ∧ Below w.heap.size w (wr.setCell ⟨w.heap.size + 1, 0, none⟩ (.slice q n d))) := ⟨hw.out.set h0.out.1 (by decide), hcaps.out, hB.out.setCell (show w.heap.size ≤ w.heap.size + 1 by omega) _⟩
      clear hw hlt
      go_wp2
      exact bodyPost_ret (res_cell_tmp rfl _ _ _ 29 #[.slice q n d] (0, 0) _ (.int .i64 0) rfl (hss h0.out.1) rfl Tryd.underlying29 rfl hinfo) rfl (Or.inl ⟨HWE.out.2.1, _, _, _, rfl, HWE.out.1, HWE.out.2.2⟩)
end Go.Proofs.YtbfmdfbnhakolaaDoor
