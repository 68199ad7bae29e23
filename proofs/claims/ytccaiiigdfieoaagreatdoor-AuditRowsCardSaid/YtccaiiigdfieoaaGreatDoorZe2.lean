/- Chapter 28: the document's rules of rows. Bytes made, and copied into a block known whole. Chapter 5: bytes out of a seed: New, Next, Bytes, Row; a seed as eight bytes. Chapter 5: mix.New, Row; a seed as eight bytes, and of eight bytes. The contracts of slices.Grow and Concat at bytes; of the whole of the symbols (G0 holds them). Chapter 13: head.Check, Bytes. Chapter 14: row.Width, fits, Vector, Write. Chapter 14: row.Explicit, Seeded, Read. Chapter 15: packet.Length, fits (of what fits). Chapter 15: packet.Write (of what fits). Chapter 13: head.Read. The contracts of bytes.Clone, of Same of lists of rows, of slices.Equal at ints, of Harms. A region that draws its order: as in text RC, but one extract ahead of the tail may slip behind the tail's first operation (a store). Chapter 15: packet.Read. Chapter 15: packet.Read of what is one. Chapter 15: packet.Read whole; packet.Equation (of what fits). Chapter 18: gate.New (of a plan that may be); the counts in memory. A region that draws its order, without calls, in which two whole rows are stored: all else is told values. Chapter 18: gate.Look. Chapter 18: gate.Look of a gate that nothing came to. The rows of Inverse in memory: one block of n rows. The contracts of the reference's Same of layer 3, and of a law's rows: made, and as the document's. Small parts of chapter 8's law; the reference's rows in one block. A drawn region with one store into a block of its own: a row in new memory. The contract of the reference's Rows of chapter 8: each equation put in by Insert, then cleared in place. The contract of the reference's Rest of chapter 8. The contract of the reference's Put of chapter 8. The contract of the reference's Known of chapter 8. The law's Same and Fit of chapter 8. A system's Rows and Clone. A system's Clone. A system's Solve. What a system's Put leaves as it is; Put of an equation that fits, and the reference's, whatever comes of it. Chapter 19: a taker in memory; taker.New, Rows, Gate. A region that draws its order, op by op: what holds of the world is told by which operations have run. A region that draws its order, with one call that writes: all else is told values. Chapter 19: taker.Take. Chapter 19: taker.Take of a packet. Chapter 19: taker.Take of a packet that is put. The contracts of the whole of the symbols, Join and Clean. The contracts of Join and Clean. The contracts of the reference's All and of the law's few; the chapter's example. The contract of the law's few; the chapter's example. Chapter 11: fits, piece, Cut, Spread. Chapter 17: a sender in memory; sender.New, Send, Explicit. Chapter 17: sender.Send. An append stays in its own block, or goes to a new one. Chapter 21: a relay in memory; New, Next, Say of what says nothing. Chapter 21: relay.Say of what says something. What is written is read again; the numbers of the law's examples. Chapter 21: what a turn of a sender, a taker, a relay leaves as it is; sender.Explicit. Chapter 19: taker.Status, Rank, Object. Plain laws of GridTells: rows and what they are joined; a unit's bytes. GridTells: the walk, no unit. The walk of the grid's Inverse. Plain laws of GridReckons: rows and their vectors, products, columns, the inverse. The contract of the reference's Mul. GridTells: the walk, no grid, a unit. GridTells: the walk, a grid, a unit. GridTells: the walk, whole. What the laws of grids carry along from call to call. The contract of the reference's without. The contract of the reference's Det. Plain laws of GridRanks: ranks of turned grids and products, determinants, inverses of inverses. Plain law of ElimSolves: equations that symbols solve. Plain law: packets of one object. They never clash; the rows are as many as the rank of the vectors that came; full rows have the object. A sender while others turn; two takers beside each other. Of a plan that may not be there is no gate, no taker, no relay; a plan that may be as numbers. A region that draws its order, by shapes, by what holds of the world as operations run, and by ties between slots. Two slices of headers, each grown by one in a region that draws its order. A plan of an object; ranks of combinations; rows of headers of new bytes while others turn. Chapter 19: the law's awake. A sender and a taker in memory, carried along. The contracts of the document's sum: Put, Sum (bit by bit). Plain law: a packet of which one stretch of four bytes has turned is not let in. What TakerHas, TripRuns, TripArrives carry: rows of bytes that grow; a sender that may refuse. Arguments that came in, as bytes and slices of bytes. Slices of structs of two slices of bytes, that came in. Sources that came in: a slice of structs of a byte, bytes and a number, opened. What the laws of the packets ask first: few bytes, small plans. Chapter 19: TakerHas, of an object that the plan fits. The contracts of slices.Delete and slices.Insert at parcels. The contract of slices.Insert at parcels: one more, where there is room. Lists of parcels that the call owns: each owns its bytes, no two share them. The contracts of the acts: drop, move, forge. The contract of the act move. The contract of the act double. The contract of the act cut. One cell of a parcel is written: its bytes, or where it came from. The contract of the act mask. What acts do to lists of packets; acts that came in, read from memory. Acts that came in: a slice of structs of five cells, and one by value, opened. The contract of play. The contracts of Apply and Whole. The contracts of Whole, of slices.Equal at ints, of Harms; of the law's Few; the chapter's example. The contract of the law's Few of layer 20; the chapter's example. The plain law of WayWhole: what came whole is what was sent; acts that harm nothing leave all whole; acts one by one are as all at once. Chapter 22: what a trip comes to (plain); what a sender and a taker carry along while other blocks turn. Where equations first clash: plain law. A row of headers that read in an older world; vectors of rows. Where equations first clash. The reference's Vectors. The reference's Wide. The reference's Judge. Chapter 19, plain: the equations that the document keeps, and a taker's rows; how they lie in memory. DERIVED: THE SHELF's CONTRACTS AT THIS DUMP, IN PLAIN WORDS (tools/lay-plain.mjs out of 'TryzShelf.lean', which tools/lay-shelf.mjs wrote): THE SAME DECLARATIONS UNDER THE SAME NAMES: 'import', 'namespace', 'open', 'def', 'theorem' AND NOTHING ELSE: no command of the shelf's: FOR A HAND-IN. Each laying: the table of numbers ('.._ren') and one theorem, a field a fact of the dump's own or the kernel's comparison; each contract: ONE APPLICATION. Chapter 28: AuditRows. Arguments that came in: slices of byte slices. Slices of rows that came in, and how many they may be. No tables: nothing to take out of the row's condition. -/
import Derived.Test.YtccaiiigdfieoaaGreatDoorZe1
import Derived.Deep.DeepCutAuto
import Derived.WalkLawsBesides
import Derived.Maps.RangeWalk
import Derived.Maps.Own
import Derived.Maps.OwnSet
import Derived.Maps.OwnOps
import Derived.Maps.Views
import Derived.Maps.Ext
import Derived.Laws.OwnMore
import Derived.OwnWalk
import Derived.WalkKit
import Derived.Laws.AppendOwn
import Derived.OpenShut
import Derived.Lib.SmallJoins
import Derived.Deep.RegionLaw
import Derived.Lib.Overlaps
import Derived.Shelf.Spec.SlicesInsert
import Derived.Lib.AppendZeros
import Derived.Deep.AppendLies
import Derived.Deep.RegionWith
import Derived.BigQuiet
import Derived.Shelf.Strings.Builder1
import Derived.Shelf.Strings.Builder2
import Derived.Shelf.Strings.OnBuilder
import Derived.Shelf.Small.Bits
import Derived.Shelf.Small.Strs
import Derived.Shelf.Small.Wraps
import Derived.Shelf.Strings.BuilderF
import Derived.Shelf.Strings.BuilderK
import Derived.Shelf.Utf8.RuneCount
import Derived.Shelf.Strings.Builder2Cap
import Derived.Shelf.Strconv.Itoa0
import Derived.Shelf.Strconv.Itoa1
import Derived.Shelf.LaysM
import Derived.Shelf.Strconv.Itoa2
import Derived.Shelf.Strconv.Itoa3
import Derived.Shelf.Strconv.Clone
import Derived.Shelf.Strconv.SyntaxError
import Derived.Shelf.LaysC
import Derived.Shelf.Strconv.ToError
import Derived.Shelf.Strconv.Lower
import Derived.Shelf.Strconv.ParseUint10
import Derived.Shelf.Strconv.ParseUint10Empty
import Derived.Shelf.Strconv.ParseUint10Any
import Derived.Shelf.Strconv.RangeError
import Derived.Shelf.Strconv.ToErrorRange
import Derived.Shelf.Strconv.ParseUintEmpty
import Derived.Shelf.Strconv.ParseUint10b64
import Derived.Shelf.Strconv.ParseUint10b32
import Derived.Shelf.Strconv.ParseUint10b16
import Derived.Shelf.Strconv.ParseUint10b8
import Derived.Shelf.Strconv.ParseUint10At
import Derived.Ground.MpProg
import Derived.Shelf.Pu.ParseUintPublic10
import Derived.Shelf.Pu.ErrVarParseUint
import Derived.Shelf.Strings.Search1
import Derived.Shelf.Strings.Search2
import Derived.Shelf.Strings.Search3
import Derived.Shelf.Strings.Count
import Derived.Shelf.Strings.Shaped
import Derived.Shelf.Sort.Plain
import Derived.Shelf.Strings.Prefix
import Derived.Shelf.Strings.Split
import Derived.Shelf.Strings.SplitShaped
import Derived.Shelf.Unicode.Decode
import Derived.Shelf.Strings.RuneCount
import Derived.Shelf.Strings.Explode
import Derived.Shelf.Unicode.DecodeSlow
import Derived.Shelf.Unicode.DecodeAny
import Derived.Shelf.Strings.BuilderCap
import Derived.Shelf.Slices.Equal
import Derived.Ground.Names2Prog
import Derived.Shelf.Slices.SearchI
import Derived.Shelf.Slices.In.SortNone
import Derived.Shelf.Slices.Empties2
import Derived.Shelf.Bytes.SlSearch0
import Derived.Ground.SlbCloneProg
import Derived.Shelf.Bytes.SlClone
import Derived.Shelf.Bytes.SlEqualAll
import Derived.Shelf.Bytes.Small
import Derived.Test.YtccaiiigdfieoaaGreatDoorProg
import Derived.Deep.Matrix
import Derived.SizedLaws
import Derived.Deep.Slices
import Derived.Test.YtccaiiigdfieoaaGreatDoorRows
namespace Go.Proofs.YtccaiiigdfieoaaGreatDoor
open Go.RowKit Go.By
set_option maxHeartbeats 400000 in
theorem RLead28_any (p : Option Addr) (n c : Nat) (v : List UInt8) (w : World) (h : Sl B8 w p n c v) :
    Calls Tryz.prog 109 #[.slice p n c] w fun e w' => e = .returned (.int .i64 (leadS v)) ∧ w = w' := by
  have hb := h.bound
  have H := Lib.hid h; clear h
  go_enter Tryz.func109, Tryz.ntmps109
  go_wp2
  go_loop [3] (fun i => ∃ k : Nat, k ≤ n ∧ i = .int .i64 k ∧ Hid (∀ j y, j < k → v[j]? = some y → decide (y ≠ 0) = false)) (fun i => n - (intOf i).toNat)
  case atStart => exact ⟨0, Nat.zero_le _, rfl, fun j y hj => by omega⟩
  case round =>
    obtain ⟨k, hk, rfl, hj⟩ := hrel
    by_cases hlt : k < n
    · obtain ⟨b, o, x, rfl, hc, hx⟩ := H.out.at k hlt
      have ht := nat_ne_zero x
      by_cases h0 : x = 0
      · rw [decide_eq_false (by simpa using h0)] at ht
        have H0 := Lib.hid h0; clear h0
        go_wp2
        go_round
        case rel => exact ⟨k + 1, by omega, by go_num, fun j y hj' hy => by
          by_cases e : j = k
          · subst e; have := hx.out.symm.trans hy; cases this; simp [H0.out]
          · exact hj.out j y (by omega) hy⟩
        case measure => simp [intOf]; omega
      · rw [decide_eq_true (by simpa using h0)] at ht
        have H0 := Lib.hid h0; clear h0
        go_wp2
        go_ret
        exact ⟨by rw [leadS, idxf_found hx.out (by simpa using H0.out) hj.out]; rfl, rfl⟩
    · go_wp2
      go_ret
      exact ⟨by rw [leadS, idxf_none (k := k) (by have := H.out.len; omega) hj.out]; rfl, rfl⟩
set_option maxRecDepth 100000 in
set_option maxHeartbeats 4000000 in
theorem RRows28_any (l s k d : Int) (p : Option Addr) (n c : Nat) (L : List Rw) (w : World) (h : RwS w p n c L) (hl : l ≤ 9223372036854775807) :
    Calls Tryz.prog 57 #[.agg #[.int .i64 l, .int .i64 s, .int .i64 k, .int .u32 d], .slice p n c] w (RetZ w (auS l s k L)) := by
  obtain ⟨i0, hi, hz0, hz1, hz2⟩ := info_parts info_int28
  have HK := Lib.hid (fun w => RCheck_any l s k d w hl)
  have hn63 : n ≤ 9223372036854775807 := by have g1 := h.le; have g2 := h.max; unfold maxLen at g2; omega
  have H := Lib.hid h
  have hln := h.len
  have HLN := Lib.hid hln
  have HAU : Hid (auS l s k L = if checkS l s k ≠ 0 then [1] else if L.any (oddR k s) = true then [2] else (if thr L n = true then [3] else []) ++ (if fou L n n = true then [4] else [])) := by
    show _ = _
    unfold auS rulesL; rw [hln]
  generalize auS l s k L = R at *
  generalize checkS l s k = C at *
  clear h hl hln
  have ba : Below w.heap.size w (w.alloc (.cells #[.int .i64 l, .int .i64 s, .int .i64 k, .int .u32 d] 52 (0, 0))) := al (Below.refl _ _) (Nat.le_refl _)
  by_cases hc : C = 0
  · rw [if_neg (Classical.not_not.2 hc)] at HAU
    have hc0 : (C != 0) = false := by rw [hc]; rfl
    clear hc ba
    go_enter Tryz.func57, Tryz.ntmps57
    go_wp2_with fail
    refine Calls.mono (HK.out _) ?_
    rintro e w1 ⟨rfl, hb⟩
    obtain ⟨hb1, kp1, -⟩ := one_of hb
    have HB1 := Lib.hid hb1
    obtain ⟨gp, hgp⟩ : ∃ gp, gp = w.heap.size := ⟨_, rfl⟩
    rw [← hgp] at kp1 ⊢
    have HKP1 := Lib.hid kp1
    clear hb hb1 kp1 hgp
    go_wp2
    go_loopw [21] (fun iv wr => ∃ i : Nat, i ≤ n ∧ iv = .int .i64 (i : Nat) ∧ Hid (∀ j x, j < i → L[j]? = some x → oddR k s x = false) ∧ Hid (Below w1.heap.size w1 wr)) (fun iv _ => n - (intOf iv).toNat)
    case atStart => exact ⟨0, Nat.zero_le _, rfl, fun j x hj => by omega, Below.refl _ _⟩
    case round =>
      obtain ⟨i, hi, rfl, HJ, HB⟩ := hrel
      by_cases hlt : i < n
      · obtain ⟨x, hx⟩ : ∃ x, L[i]? = some x := ⟨_, List.getElem?_eq_getElem (by rw [HLN.out]; exact hlt)⟩
        have HBW := Lib.hid (bl HB1.out HB.out HB1.out.size)
        obtain ⟨b, o, q1, m1, c1, q2, m2, c2, rfl, E1, E2, s1, s2⟩ := (H.out.keep HBW.out).row i x hx
        have hlt' : (i : Int) < (n : Int) := by omega
        have ba : Below wr.heap.size wr (wr.alloc (.cells #[.slice q1 m1 c1, .slice q2 m2 c2] 101)) := al (Below.refl _ _) (Nat.le_refl _)
        have HLE := Lib.hid (RLead28_any q1 m1 c1 x.1 _ (s1.keep ba))
        have e1 := s1.len
        have e2 := s2.len
        have HO : Hid (oddR k s x = ((decide ((m1 : Int) ≠ k) || decide ((m2 : Int) ≠ s)) || zeroS x.1)) := by show _ = _; unfold oddR; rw [e1, e2]
        have kp := (HB.out.block _ (lt_of_block HKP1.out)).trans HKP1.out
        obtain ⟨z0, z1, z2, z3⟩ := cells_four kp
        have a1 : ∀ o', (wr.alloc o').cell? ⟨gp, 1, none⟩ = _ := fun _ => calloc z1
        have a2 : ∀ o', (wr.alloc o').cell? ⟨gp, 2, none⟩ = _ := fun _ => calloc z2
        have HBA := Lib.hid ba
        have HLT := Lib.hid hlt
        have HX := Lib.hid hx
        have HJ1 : Hid (oddR k s x = false → ∀ j y, j < i + 1 → L[j]? = some y → oddR k s y = false) := fun g j y hj hy => by
          by_cases e : j = i
          · subst e; rw [HX.out] at hy; cases hy; exact g
          · exact HJ.out j y (by omega) hy
        have HFD : Hid (oddR k s x = true → R = [2]) := fun g => by
          show R = [2]
          rw [HAU.out, if_pos (List.any_eq_true.2 ⟨x, List.mem_of_getElem? HX.out, g⟩)]
        have hzl : (leadS x.1 < 0 ∧ zeroS x.1 = true) ∨ (¬ leadS x.1 < 0 ∧ zeroS x.1 = false) := by
          by_cases g : leadS x.1 < 0
          · exact .inl ⟨g, lead_zero g⟩
          · exact .inr ⟨g, zero_lead g⟩
        generalize oddR k s x = od at *
        generalize zeroS x.1 = Z at *
        generalize leadS x.1 = ld at *
        clear s1 s2 e1 e2 kp z0 z1 z2 z3 ba hlt hx HJ
        by_cases h1 : (m1 : Int) = k
        · have d1 : ((m1 : Int) != k) = false := by rw [h1]; simp
          by_cases h2 : (m2 : Int) = s
          · have d2 : ((m2 : Int) != s) = false := by rw [h2]; simp
            rcases hzl with ⟨g1, g2⟩ | ⟨g1, g2⟩
            · have HR : Hid (R = [2]) := HFD.out (by rw [HO.out, g2, Bool.or_true])
              clear h1 h2 HO HFD HJ1 g2
              go_wp2_with fail
              refine Calls.mono HLE.out ?_
              rintro e w2 ⟨rfl, rfl⟩
              go_wp2
              go_ret
              rw [HR.out]
              exact ⟨some ⟨wr.heap.size + 1, 0, none⟩, 1, rfl, SlZ.one 2 (hnew (by simp)), al (bl HBW.out HBA.out HBW.out.size) (bl HBW.out HBA.out HBW.out.size).size⟩
            · have g1' : (0 : Int) ≤ ld := by omega
              have HF := Lib.hid (HJ1.out (by rw [HO.out, decide_eq_false (fun g => g h1), decide_eq_false (fun g => g h2), g2]; rfl))
              have HB2 := Lib.hid (bl HB.out HBA.out HB.out.size)
              clear h1 h2 HO HFD HJ1 g2 g1
              go_wp2_with fail
              refine Calls.mono HLE.out ?_
              rintro e w2 ⟨rfl, rfl⟩
              go_wp2
              go_roundw
              case rel => exact ⟨i + 1, by have := HLT.out; omega, by go_num, HF.out, HB2.out⟩
              case measure => simp [intOf]; have := HLT.out; omega
          · have d2 : ((m2 : Int) != s) = true := bne_iff_ne.2 h2
            have HR : Hid (R = [2]) := HFD.out (by rw [HO.out, decide_eq_true h2, Bool.or_true]; rfl)
            clear h1 h2 HO HFD HJ1 HLE hzl
            go_wp2
            go_ret
            rw [HR.out]
            exact ⟨some ⟨wr.heap.size + 1, 0, none⟩, 1, rfl, SlZ.one 2 (hnew (by simp)), al (bl HBW.out HBA.out HBW.out.size) (bl HBW.out HBA.out HBW.out.size).size⟩
        · have d1 : ((m1 : Int) != k) = true := bne_iff_ne.2 h1
          have HR : Hid (R = [2]) := HFD.out (by rw [HO.out, decide_eq_true h1]; rfl)
          clear h1 HO HFD HJ1 HLE hzl
          go_wp2
          go_ret
          rw [HR.out]
          exact ⟨some ⟨wr.heap.size + 1, 0, none⟩, 1, rfl, SlZ.one 2 (hnew (by simp)), al (bl HBW.out HBA.out HBW.out.size) (bl HBW.out HBA.out HBW.out.size).size⟩
      · obtain rfl : n = i := by omega
        have hany : L.any (oddR k s) = false := by
          rw [List.any_eq_false]
          intro x hx
          obtain ⟨j, hj, e⟩ := List.getElem_of_mem hx
          have := HJ.out j x (by have := HLN.out; omega) (by rw [List.getElem?_eq_getElem hj, e])
          rw [this]; decide
        have hAU := HAU.out
        rw [if_neg (by rw [hany]; decide)] at hAU
        have HAU2 := Lib.hid hAU
        have HNO : Hid (∀ (j : Nat) (x : Rw), L[j]? = some x → ((x.1.length : Int) = k ∧ (x.2.length : Int) = s) ∧ ∃ (l : Nat) (y : UInt8), leadS x.1 = (l : Int) ∧ x.1[l]? = some y) := fun j x hx => odd_none hany hx
        have HB2 := Lib.hid (bl HB1.out HB.out HB1.out.size)
        clear hlt hi HJ HB hany hAU HAU HB1 HKP1
        go_wp2
        go_loopw [7, 8, 49] (fun tv fv iv wr => ∃ i : Nat, i ≤ n ∧ iv = .int .i64 (i : Nat) ∧ tv = .bool (thr L i) ∧ fv = .bool (fou L n i) ∧ Hid (Below w.heap.size w wr)) (fun _ _ iv _ => n - (intOf iv).toNat)
        case atStart => exact ⟨0, Nat.zero_le _, rfl, rfl, rfl, HB2.out⟩
        case round =>
          obtain ⟨i, hi, rfl, rfl, rfl, HB⟩ := hrel
          clear HB2
          by_cases hlt : i < n
          · obtain ⟨x, hx⟩ : ∃ x, L[i]? = some x := ⟨_, List.getElem?_eq_getElem (by rw [HLN.out]; exact hlt)⟩
            obtain ⟨b, o, q1, m1, c1, q2, m2, c2, rfl, E1, E2, s1, s2⟩ := (H.out.keep HB.out).row i x hx
            obtain ⟨⟨g1, -⟩, ln, y, hld, hy⟩ := HNO.out i x hx
            have hlt' : (i : Int) < (n : Int) := by omega
            have ba : Below wr.heap.size wr (wr.alloc (.cells #[.slice q1 m1 c1, .slice q2 m2 c2] 101)) := al (Below.refl _ _) (Nat.le_refl _)
            have hle := RLead28_any q1 m1 c1 x.1 _ (s1.keep ba)
            rw [hld] at hle
            have HLE := Lib.hid hle
            have hlm : ln < m1 := by have := (List.getElem?_eq_some_iff.1 hy).1; rw [s1.len] at this; exact this
            obtain ⟨b1, o1, y', e1, hc1, hy'⟩ := (s1.keep ba).at ln hlm
            have : y' = y := by have := hy'.out.symm.trans hy; exact Option.some.inj this
            subst this
            subst e1
            have hlm' : (ln : Int) < (m1 : Int) := by omega
            have hm63 := (s1.keep ba).bound
            have eL : leadL L i = (ln : Int) := by unfold leadL; rw [getD_at hx]; exact hld
            have eV : valL L i (leadL L i) = y' := by
              unfold valL; rw [getD_at hx, eL]; unfold atS
              rw [if_pos (by omega), show (ln : Int).toNat = ln by omega, List.getD_eq_getElem?_getD, hy]; rfl
            have HT1 : Hid (thr L (i + 1) = (thr L i || (decide (y' ≠ 1) || (decide (0 < i) && decide (leadL L i ≤ leadL L (i - 1)))))) := by
              show (thr L i || bad3 L i) = _
              unfold bad3; rw [eV]
            have HF1 : Hid (fou L n (i + 1) = (fou L n i || fin4 L i n)) := rfl
            have HEL := Lib.hid eL
            have HLT := Lib.hid hlt
            have HBA := Lib.hid ba
            have HK1 : Hid ((m1 : Int) = k) := by show _ = _; rw [← g1, s1.len]
            -- the row ahead
            have HPR : Hid (0 < i → ∃ (r1 : Option Addr) (k1 d1 : Nat) (r2 : Option Addr) (k2 d2 : Nat) (v : List UInt8), wr.cell? ⟨b, o + (i - 1) * 2, none⟩ = some (.slice r1 k1 d1) ∧ wr.cell? ⟨b, o + (i - 1) * 2 + 1, none⟩ = some (.slice r2 k2 d2) ∧ Sl B8 wr r1 k1 d1 v ∧ leadS v = leadL L (i - 1)) := fun h0 => by
              obtain ⟨z, hz⟩ : ∃ z, L[i - 1]? = some z := ⟨_, List.getElem?_eq_getElem (by rw [HLN.out]; omega)⟩
              obtain ⟨b', o', r1, k1, d1, r2, k2, d2, e2, F1, F2, t1, t2⟩ := (H.out.keep HB.out).row (i - 1) z hz
              cases e2
              exact ⟨r1, k1, d1, r2, k2, d2, z.1, F1, F2, t1, by unfold leadL; rw [getD_at hz]⟩
            obtain ⟨TI, hTI⟩ : ∃ TI, TI = thr L i := ⟨_, rfl⟩
            obtain ⟨FI, hFI⟩ : ∃ FI, FI = fou L n i := ⟨_, rfl⟩
            rw [← hTI] at HT1
            rw [← hFI] at HF1
            rw [← hTI, ← hFI]
            clear hle s1 s2 hx hld hy ba g1 eL eV hlt hTI hFI hy'
            go_wp2_with fail
            refine Calls.mono HLE.out ?_
            rintro e w2 ⟨rfl, rfl⟩
            by_cases h1 : y' = 1
            · have hy1 : ((y'.toNat : Int) != 1) = false := by rw [h1]; rfl
              by_cases h0 : i = 0
              · have h0' : ¬ (0 : Int) < (i : Int) := by omega
                have HTN : Hid (thr L (i + 1) = TI) := by show _ = _; rw [HT1.out, decide_eq_false (fun g => g h1), decide_eq_false (by omega : ¬ 0 < i)]; simp
                clear h1 h0 HT1 HPR HLE
                have HBI := Lib.hid (bl HB.out HBA.out HB.out.size)
                go_upto_region 16 with (fail)
                generalize wr.alloc (.cells #[.slice (some ⟨b1, o1, none⟩) m1 c1, .slice q2 m2 c2] 101) = w3 at *
                clear hc1 E1 E2 HBA HB hy1
                go_wp2
                go_loopw [8, 80] (fun fv jv wr => ∃ j : Nat, j ≤ n ∧ jv = .int .i64 (j : Nat) ∧ fv = .bool (FI || fin4 L i j) ∧ Hid (Below w.heap.size w wr)) (fun _ jv _ => n - (intOf jv).toNat)
                case atStart => exact ⟨0, Nat.zero_le _, rfl, by show _ = Value.bool (FI || false); rw [Bool.or_false], HBI.out⟩
                case round =>
                  obtain ⟨j, hj, rfl, rfl, HBJ⟩ := hrel
                  clear HBI
                  by_cases hjl : j < n
                  · obtain ⟨z, hz⟩ : ∃ z, L[j]? = some z := ⟨_, List.getElem?_eq_getElem (by rw [HLN.out]; exact hjl)⟩
                    obtain ⟨b', o', r1, k1, d1, r2, k2, d2, e1, E1, E2, t1, t2⟩ := (H.out.keep HBJ.out).row j z hz
                    cases e1
                    obtain ⟨⟨g1, -⟩, -⟩ := HNO.out j z hz
                    have hk1 : k1 = m1 := by have := t1.len; have := HK1.out; omega
                    subst hk1
                    have hjl' : (j : Int) < (n : Int) := by omega
                    have ba : Below wr.heap.size wr (wr.alloc (.cells #[.slice r1 k1 d1, .slice r2 k2 d2] 101)) := al (Below.refl _ _) (Nat.le_refl _)
                    obtain ⟨b2, o2, v, e2, hc2, hv⟩ := (t1.keep ba).at ln hlm
                    subst e2
                    have HF4 : Hid (fin4 L i (j + 1) = (fin4 L i j || (decide (j ≠ i) && decide (v ≠ 0)))) := by
                      show (fin4 L i j || bad4 L i j) = _
                      unfold bad4 valL
                      rw [getD_at hz, HEL.out]; unfold atS
                      rw [if_pos (by omega), show (ln : Int).toNat = ln by omega, List.getD_eq_getElem?_getD, hv.out]; rfl
                    have HBJ2 := Lib.hid (bl HBJ.out ba HBJ.out.size)
                    have HJL := Lib.hid hjl
                    obtain ⟨FJ, hFJ⟩ : ∃ FJ, FJ = fin4 L i j := ⟨_, rfl⟩
                    rw [← hFJ] at HF4 ⊢
                    clear ba t1 t2 hz g1 hv hjl hFJ
                    by_cases hji : j = i
                    · have hd : ((j : Int) != (i : Int)) = false := by rw [hji]; simp
                      have HFN : Hid (fin4 L i (j + 1) = FJ) := by show _ = _; rw [HF4.out, decide_eq_false (fun g => g hji)]; simp
                      clear hji HF4
                      go_wp2
                      go_roundw
                      case rel => exact ⟨j + 1, by have := HJL.out; omega, by go_num, by rw [HFN.out], HBJ2.out⟩
                      case measure => simp [intOf]; have := HJL.out; omega
                    · have hd : ((j : Int) != (i : Int)) = true := bne_iff_ne.2 (by omega)
                      by_cases hv0 : v = 0
                      · have hv1 : ((v.toNat : Int) != 0) = false := by rw [nat_ne_zero]; exact decide_eq_false (fun g => g hv0)
                        have HFN : Hid (fin4 L i (j + 1) = FJ) := by show _ = _; rw [HF4.out, decide_eq_false (fun g : v ≠ 0 => g hv0)]; simp
                        clear hji hv0 HF4
                        go_wp2
                        go_roundw
                        case rel => exact ⟨j + 1, by have := HJL.out; omega, by go_num, by rw [HFN.out], HBJ2.out⟩
                        case measure => simp [intOf]; have := HJL.out; omega
                      · have hv1 : ((v.toNat : Int) != 0) = true := by rw [nat_ne_zero]; exact decide_eq_true hv0
                        have HFN : Hid (fin4 L i (j + 1) = true) := by show _ = _; rw [HF4.out, decide_eq_true hji, decide_eq_true hv0]; simp
                        clear hji hv0 HF4
                        go_wp2
                        go_roundw
                        case rel => exact ⟨j + 1, by have := HJL.out; omega, by go_num, by rw [HFN.out, Bool.or_true], HBJ2.out⟩
                        case measure => simp [intOf]; have := HJL.out; omega
                  · obtain rfl : n = j := by omega
                    clear hjl hj
                    go_wp2
                    go_roundw
                    case rel => exact ⟨i + 1, by have := HLT.out; omega, by go_num, by rw [HTN.out], by rw [HF1.out], HBJ.out⟩
                    case measure => simp [intOf]; have := HLT.out; omega
              · have h0' : (0 : Int) < (i : Int) := by omega
                obtain ⟨r1, k1, d1, r2, k2, d2, v, F1, F2, t1, hlv⟩ := HPR.out (by omega)
                obtain ⟨lp, hlp⟩ : ∃ lp, lp = leadL L (i - 1) := ⟨_, rfl⟩
                have hlp2 := RLead28_any r1 k1 d1 v _ (t1.keep HBA.out)
                rw [hlv, ← hlp] at hlp2
                have HLP := Lib.hid hlp2
                have eI : (i : Int) - 1 = ((i - 1 : Nat) : Int) := by omega
                have hI1 : ((i - 1 : Nat) : Int) < (n : Int) := by omega
                have G1 : ∀ o', (wr.alloc o').cell? ⟨b, o + (i - 1) * 2, none⟩ = _ := fun _ => calloc F1
                have G2 : ∀ o', (wr.alloc o').cell? ⟨b, o + (i - 1) * 2 + 1, none⟩ = _ := fun _ => calloc F2
                have HT2 : Hid (thr L (i + 1) = (TI || decide ((ln : Int) ≤ lp))) := by show _ = _; rw [HT1.out, decide_eq_false (fun g => g h1), decide_eq_true (by omega : 0 < i), HEL.out, hlp]; simp
                obtain ⟨i1, hi1⟩ : ∃ i1, i1 = i - 1 := ⟨_, rfl⟩
                rw [← hi1] at eI hI1 G1 G2
                clear h1 h0 HT1 HPR HLE F1 F2 t1 hlv hlp hlp2 hi1
                by_cases hll : (ln : Int) ≤ lp
                · have HTN : Hid (thr L (i + 1) = true) := by show _ = _; rw [HT2.out, decide_eq_true hll, Bool.or_true]
                  clear HT2
                  go_wp2_with fail
                  refine Calls.mono HLP.out ?_
                  rintro e w2 ⟨rfl, rfl⟩
                  have HBI := Lib.hid (bl HB.out HBA.out HB.out.size)
                  go_upto_region 16 with (fail)
                  generalize wr.alloc (.cells #[.slice (some ⟨b1, o1, none⟩) m1 c1, .slice q2 m2 c2] 101) = w3 at *
                  clear hc1 E1 E2 HBA HB hy1
                  go_wp2
                  go_loopw [8, 80] (fun fv jv wr => ∃ j : Nat, j ≤ n ∧ jv = .int .i64 (j : Nat) ∧ fv = .bool (FI || fin4 L i j) ∧ Hid (Below w.heap.size w wr)) (fun _ jv _ => n - (intOf jv).toNat)
                  case atStart => exact ⟨0, Nat.zero_le _, rfl, by show _ = Value.bool (FI || false); rw [Bool.or_false], HBI.out⟩
                  case round =>
                    obtain ⟨j, hj, rfl, rfl, HBJ⟩ := hrel
                    clear HBI
                    by_cases hjl : j < n
                    · obtain ⟨z, hz⟩ : ∃ z, L[j]? = some z := ⟨_, List.getElem?_eq_getElem (by rw [HLN.out]; exact hjl)⟩
                      obtain ⟨b', o', r1, k1, d1, r2, k2, d2, e1, E1, E2, t1, t2⟩ := (H.out.keep HBJ.out).row j z hz
                      cases e1
                      obtain ⟨⟨g1, -⟩, -⟩ := HNO.out j z hz
                      have hk1 : k1 = m1 := by have := t1.len; have := HK1.out; omega
                      subst hk1
                      have hjl' : (j : Int) < (n : Int) := by omega
                      have ba : Below wr.heap.size wr (wr.alloc (.cells #[.slice r1 k1 d1, .slice r2 k2 d2] 101)) := al (Below.refl _ _) (Nat.le_refl _)
                      obtain ⟨b2, o2, v, e2, hc2, hv⟩ := (t1.keep ba).at ln hlm
                      subst e2
                      have HF4 : Hid (fin4 L i (j + 1) = (fin4 L i j || (decide (j ≠ i) && decide (v ≠ 0)))) := by
                        show (fin4 L i j || bad4 L i j) = _
                        unfold bad4 valL
                        rw [getD_at hz, HEL.out]; unfold atS
                        rw [if_pos (by omega), show (ln : Int).toNat = ln by omega, List.getD_eq_getElem?_getD, hv.out]; rfl
                      have HBJ2 := Lib.hid (bl HBJ.out ba HBJ.out.size)
                      have HJL := Lib.hid hjl
                      obtain ⟨FJ, hFJ⟩ : ∃ FJ, FJ = fin4 L i j := ⟨_, rfl⟩
                      rw [← hFJ] at HF4 ⊢
                      clear ba t1 t2 hz g1 hv hjl hFJ
                      by_cases hji : j = i
                      · have hd : ((j : Int) != (i : Int)) = false := by rw [hji]; simp
                        have HFN : Hid (fin4 L i (j + 1) = FJ) := by show _ = _; rw [HF4.out, decide_eq_false (fun g => g hji)]; simp
                        clear hji HF4
                        go_wp2
                        go_roundw
                        case rel => exact ⟨j + 1, by have := HJL.out; omega, by go_num, by rw [HFN.out], HBJ2.out⟩
                        case measure => simp [intOf]; have := HJL.out; omega
                      · have hd : ((j : Int) != (i : Int)) = true := bne_iff_ne.2 (by omega)
                        by_cases hv0 : v = 0
                        · have hv1 : ((v.toNat : Int) != 0) = false := by rw [nat_ne_zero]; exact decide_eq_false (fun g => g hv0)
                          have HFN : Hid (fin4 L i (j + 1) = FJ) := by show _ = _; rw [HF4.out, decide_eq_false (fun g : v ≠ 0 => g hv0)]; simp
                          clear hji hv0 HF4
                          go_wp2
                          go_roundw
                          case rel => exact ⟨j + 1, by have := HJL.out; omega, by go_num, by rw [HFN.out], HBJ2.out⟩
                          case measure => simp [intOf]; have := HJL.out; omega
                        · have hv1 : ((v.toNat : Int) != 0) = true := by rw [nat_ne_zero]; exact decide_eq_true hv0
                          have HFN : Hid (fin4 L i (j + 1) = true) := by show _ = _; rw [HF4.out, decide_eq_true hji, decide_eq_true hv0]; simp
                          clear hji hv0 HF4
                          go_wp2
                          go_roundw
                          case rel => exact ⟨j + 1, by have := HJL.out; omega, by go_num, by rw [HFN.out, Bool.or_true], HBJ2.out⟩
                          case measure => simp [intOf]; have := HJL.out; omega
                    · obtain rfl : n = j := by omega
                      clear hjl hj
                      go_wp2
                      go_roundw
                      case rel => exact ⟨i + 1, by have := HLT.out; omega, by go_num, by rw [HTN.out], by rw [HF1.out], HBJ.out⟩
                      case measure => simp [intOf]; have := HLT.out; omega
                · have HTN : Hid (thr L (i + 1) = TI) := by show _ = _; rw [HT2.out, decide_eq_false hll, Bool.or_false]
                  have hll' : lp < (ln : Int) := by omega
                  clear HT2 hll
                  go_wp2_with fail
                  refine Calls.mono HLP.out ?_
                  rintro e w2 ⟨rfl, rfl⟩
                  have HBI := Lib.hid (bl HB.out HBA.out HB.out.size)
                  go_upto_region 16 with (fail)
                  generalize wr.alloc (.cells #[.slice (some ⟨b1, o1, none⟩) m1 c1, .slice q2 m2 c2] 101) = w3 at *
                  clear hc1 E1 E2 HBA HB hy1
                  go_wp2
                  go_loopw [8, 80] (fun fv jv wr => ∃ j : Nat, j ≤ n ∧ jv = .int .i64 (j : Nat) ∧ fv = .bool (FI || fin4 L i j) ∧ Hid (Below w.heap.size w wr)) (fun _ jv _ => n - (intOf jv).toNat)
                  case atStart => exact ⟨0, Nat.zero_le _, rfl, by show _ = Value.bool (FI || false); rw [Bool.or_false], HBI.out⟩
                  case round =>
                    obtain ⟨j, hj, rfl, rfl, HBJ⟩ := hrel
                    clear HBI
                    by_cases hjl : j < n
                    · obtain ⟨z, hz⟩ : ∃ z, L[j]? = some z := ⟨_, List.getElem?_eq_getElem (by rw [HLN.out]; exact hjl)⟩
                      obtain ⟨b', o', r1, k1, d1, r2, k2, d2, e1, E1, E2, t1, t2⟩ := (H.out.keep HBJ.out).row j z hz
                      cases e1
                      obtain ⟨⟨g1, -⟩, -⟩ := HNO.out j z hz
                      have hk1 : k1 = m1 := by have := t1.len; have := HK1.out; omega
                      subst hk1
                      have hjl' : (j : Int) < (n : Int) := by omega
                      have ba : Below wr.heap.size wr (wr.alloc (.cells #[.slice r1 k1 d1, .slice r2 k2 d2] 101)) := al (Below.refl _ _) (Nat.le_refl _)
                      obtain ⟨b2, o2, v, e2, hc2, hv⟩ := (t1.keep ba).at ln hlm
                      subst e2
                      have HF4 : Hid (fin4 L i (j + 1) = (fin4 L i j || (decide (j ≠ i) && decide (v ≠ 0)))) := by
                        show (fin4 L i j || bad4 L i j) = _
                        unfold bad4 valL
                        rw [getD_at hz, HEL.out]; unfold atS
                        rw [if_pos (by omega), show (ln : Int).toNat = ln by omega, List.getD_eq_getElem?_getD, hv.out]; rfl
                      have HBJ2 := Lib.hid (bl HBJ.out ba HBJ.out.size)
                      have HJL := Lib.hid hjl
                      obtain ⟨FJ, hFJ⟩ : ∃ FJ, FJ = fin4 L i j := ⟨_, rfl⟩
                      rw [← hFJ] at HF4 ⊢
                      clear ba t1 t2 hz g1 hv hjl hFJ
                      by_cases hji : j = i
                      · have hd : ((j : Int) != (i : Int)) = false := by rw [hji]; simp
                        have HFN : Hid (fin4 L i (j + 1) = FJ) := by show _ = _; rw [HF4.out, decide_eq_false (fun g => g hji)]; simp
                        clear hji HF4
                        go_wp2
                        go_roundw
                        case rel => exact ⟨j + 1, by have := HJL.out; omega, by go_num, by rw [HFN.out], HBJ2.out⟩
                        case measure => simp [intOf]; have := HJL.out; omega
                      · have hd : ((j : Int) != (i : Int)) = true := bne_iff_ne.2 (by omega)
                        by_cases hv0 : v = 0
                        · have hv1 : ((v.toNat : Int) != 0) = false := by rw [nat_ne_zero]; exact decide_eq_false (fun g => g hv0)
                          have HFN : Hid (fin4 L i (j + 1) = FJ) := by show _ = _; rw [HF4.out, decide_eq_false (fun g : v ≠ 0 => g hv0)]; simp
                          clear hji hv0 HF4
                          go_wp2
                          go_roundw
                          case rel => exact ⟨j + 1, by have := HJL.out; omega, by go_num, by rw [HFN.out], HBJ2.out⟩
                          case measure => simp [intOf]; have := HJL.out; omega
                        · have hv1 : ((v.toNat : Int) != 0) = true := by rw [nat_ne_zero]; exact decide_eq_true hv0
                          have HFN : Hid (fin4 L i (j + 1) = true) := by show _ = _; rw [HF4.out, decide_eq_true hji, decide_eq_true hv0]; simp
                          clear hji hv0 HF4
                          go_wp2
                          go_roundw
                          case rel => exact ⟨j + 1, by have := HJL.out; omega, by go_num, by rw [HFN.out, Bool.or_true], HBJ2.out⟩
                          case measure => simp [intOf]; have := HJL.out; omega
                    · obtain rfl : n = j := by omega
                      clear hjl hj
                      go_wp2
                      go_roundw
                      case rel => exact ⟨i + 1, by have := HLT.out; omega, by go_num, by rw [HTN.out], by rw [HF1.out], HBJ.out⟩
                      case measure => simp [intOf]; have := HLT.out; omega
            · have hy1 : ((y'.toNat : Int) != 1) = true := bne_iff_ne.2 fun e => h1 (UInt8.toNat_inj.1 (by show y'.toNat = 1; omega))
              have HTN : Hid (thr L (i + 1) = true) := by show _ = _; rw [HT1.out, decide_eq_true h1]; simp
              clear h1 HT1 HPR HLE
              have HBI := Lib.hid (bl HB.out HBA.out HB.out.size)
              go_upto_region 16 with (fail)
              generalize wr.alloc (.cells #[.slice (some ⟨b1, o1, none⟩) m1 c1, .slice q2 m2 c2] 101) = w3 at *
              clear hc1 E1 E2 HBA HB hy1
              go_wp2
              go_loopw [8, 80] (fun fv jv wr => ∃ j : Nat, j ≤ n ∧ jv = .int .i64 (j : Nat) ∧ fv = .bool (FI || fin4 L i j) ∧ Hid (Below w.heap.size w wr)) (fun _ jv _ => n - (intOf jv).toNat)
              case atStart => exact ⟨0, Nat.zero_le _, rfl, by show _ = Value.bool (FI || false); rw [Bool.or_false], HBI.out⟩
              case round =>
                obtain ⟨j, hj, rfl, rfl, HBJ⟩ := hrel
                clear HBI
                by_cases hjl : j < n
                · obtain ⟨z, hz⟩ : ∃ z, L[j]? = some z := ⟨_, List.getElem?_eq_getElem (by rw [HLN.out]; exact hjl)⟩
                  obtain ⟨b', o', r1, k1, d1, r2, k2, d2, e1, E1, E2, t1, t2⟩ := (H.out.keep HBJ.out).row j z hz
                  cases e1
                  obtain ⟨⟨g1, -⟩, -⟩ := HNO.out j z hz
                  have hk1 : k1 = m1 := by have := t1.len; have := HK1.out; omega
                  subst hk1
                  have hjl' : (j : Int) < (n : Int) := by omega
                  have ba : Below wr.heap.size wr (wr.alloc (.cells #[.slice r1 k1 d1, .slice r2 k2 d2] 101)) := al (Below.refl _ _) (Nat.le_refl _)
                  obtain ⟨b2, o2, v, e2, hc2, hv⟩ := (t1.keep ba).at ln hlm
                  subst e2
                  have HF4 : Hid (fin4 L i (j + 1) = (fin4 L i j || (decide (j ≠ i) && decide (v ≠ 0)))) := by
                    show (fin4 L i j || bad4 L i j) = _
                    unfold bad4 valL
                    rw [getD_at hz, HEL.out]; unfold atS
                    rw [if_pos (by omega), show (ln : Int).toNat = ln by omega, List.getD_eq_getElem?_getD, hv.out]; rfl
                  have HBJ2 := Lib.hid (bl HBJ.out ba HBJ.out.size)
                  have HJL := Lib.hid hjl
                  obtain ⟨FJ, hFJ⟩ : ∃ FJ, FJ = fin4 L i j := ⟨_, rfl⟩
                  rw [← hFJ] at HF4 ⊢
                  clear ba t1 t2 hz g1 hv hjl hFJ
                  by_cases hji : j = i
                  · have hd : ((j : Int) != (i : Int)) = false := by rw [hji]; simp
                    have HFN : Hid (fin4 L i (j + 1) = FJ) := by show _ = _; rw [HF4.out, decide_eq_false (fun g => g hji)]; simp
                    clear hji HF4
                    go_wp2
                    go_roundw
                    case rel => exact ⟨j + 1, by have := HJL.out; omega, by go_num, by rw [HFN.out], HBJ2.out⟩
                    case measure => simp [intOf]; have := HJL.out; omega
                  · have hd : ((j : Int) != (i : Int)) = true := bne_iff_ne.2 (by omega)
                    by_cases hv0 : v = 0
                    · have hv1 : ((v.toNat : Int) != 0) = false := by rw [nat_ne_zero]; exact decide_eq_false (fun g => g hv0)
                      have HFN : Hid (fin4 L i (j + 1) = FJ) := by show _ = _; rw [HF4.out, decide_eq_false (fun g : v ≠ 0 => g hv0)]; simp
                      clear hji hv0 HF4
                      go_wp2
                      go_roundw
                      case rel => exact ⟨j + 1, by have := HJL.out; omega, by go_num, by rw [HFN.out], HBJ2.out⟩
                      case measure => simp [intOf]; have := HJL.out; omega
                    · have hv1 : ((v.toNat : Int) != 0) = true := by rw [nat_ne_zero]; exact decide_eq_true hv0
                      have HFN : Hid (fin4 L i (j + 1) = true) := by show _ = _; rw [HF4.out, decide_eq_true hji, decide_eq_true hv0]; simp
                      clear hji hv0 HF4
                      go_wp2
                      go_roundw
                      case rel => exact ⟨j + 1, by have := HJL.out; omega, by go_num, by rw [HFN.out, Bool.or_true], HBJ2.out⟩
                      case measure => simp [intOf]; have := HJL.out; omega
                · obtain rfl : n = j := by omega
                  clear hjl hj
                  go_wp2
                  go_roundw
                  case rel => exact ⟨i + 1, by have := HLT.out; omega, by go_num, by rw [HTN.out], by rw [HF1.out], HBJ.out⟩
                  case measure => simp [intOf]; have := HLT.out; omega
          · obtain rfl : n = i := by omega
            clear hlt hi HNO
            generalize thr L n = A at *
            generalize fou L n n = B at *
            cases A with
            | false =>
              cases B with
              | false =>
                have HR : Hid (R = []) := HAU2.out
                go_wp2
                go_ret
                rw [HR.out]
                exact ⟨none, 0, rfl, Sl.nil0 _ _, HB.out⟩
              | true =>
                have HR : Hid (R = [4]) := HAU2.out
                go_wp2_with (at_builtin; refine wpList_append_rs _ rfl (.tmp 103) (.tmp 104) 103 rfl w.heap.size 3 i0 (.int .i64 0) 8 Tryz.underlying103 hi hz0 hz1 hz2 rfl (.slice none 0 0) 0 [] rfl (World.ownsRow_nil _ _ _ _) (fun z : Int => Value.int .i64 z) (some ⟨wr.heap.size, 0, none⟩) 1 1 [4] (fun _ _ => rfl) rfl (SlZ.one 4 (hnew rfl)) (by unfold maxLen; omega) (by omega) ?c3 ?_)
                case c3 => have := HB.out.size; simp; omega
                intro v5 w5 ho5 hg5
                obtain ⟨q3, c3, rfl⟩ := owns_shape ho5
                have hb5 : Below wr.heap.size wr w5 := (al (Below.refl _ _) (Nat.le_refl _)).grown hg5 (by simp) (fun kk hk => by simp [Value.ownBlock] at hk)
                have HO5 := Lib.hid ho5
                have HB5 := Lib.hid (bl HB.out hb5 HB.out.size)
                clear ho5 hg5 hb5
                go_wp2
                go_ret
                rw [HR.out]
                exact ⟨q3, c3, rfl, Sl.of_owns (by simpa using HO5.out), HB5.out⟩
            | true =>
              cases B with
              | false =>
                have HR : Hid (R = [3]) := HAU2.out
                go_wp2_with (at_builtin; refine wpList_append_rs _ rfl (.tmp 99) (.tmp 100) 103 rfl w.heap.size 3 i0 (.int .i64 0) 8 Tryz.underlying103 hi hz0 hz1 hz2 rfl (.slice none 0 0) 0 [] rfl (World.ownsRow_nil _ _ _ _) (fun z : Int => Value.int .i64 z) (some ⟨wr.heap.size, 0, none⟩) 1 1 [3] (fun _ _ => rfl) rfl (SlZ.one 3 (hnew rfl)) (by unfold maxLen; omega) (by omega) ?c3 ?_)
                case c3 => have := HB.out.size; simp; omega
                intro v5 w5 ho5 hg5
                obtain ⟨q3, c3, rfl⟩ := owns_shape ho5
                have hb5 : Below wr.heap.size wr w5 := (al (Below.refl _ _) (Nat.le_refl _)).grown hg5 (by simp) (fun kk hk => by simp [Value.ownBlock] at hk)
                have HO5 := Lib.hid ho5
                have HB5 := Lib.hid (bl HB.out hb5 HB.out.size)
                clear ho5 hg5 hb5
                go_wp2
                go_ret
                rw [HR.out]
                exact ⟨q3, c3, rfl, Sl.of_owns (by simpa using HO5.out), HB5.out⟩
              | true =>
                have HR : Hid (R = [3, 4]) := HAU2.out
                go_wp2_with (at_builtin; refine wpList_append_rs _ rfl (.tmp 99) (.tmp 100) 103 rfl w.heap.size 3 i0 (.int .i64 0) 8 Tryz.underlying103 hi hz0 hz1 hz2 rfl (.slice none 0 0) 0 [] rfl (World.ownsRow_nil _ _ _ _) (fun z : Int => Value.int .i64 z) (some ⟨wr.heap.size, 0, none⟩) 1 1 [3] (fun _ _ => rfl) rfl (SlZ.one 3 (hnew rfl)) (by unfold maxLen; omega) (by omega) ?c3 ?_)
                case c3 => have := HB.out.size; simp; omega
                intro v5 w5 ho5 hg5
                obtain ⟨q3, c3, rfl⟩ := owns_shape ho5
                have hb5 : Below wr.heap.size wr w5 := (al (Below.refl _ _) (Nat.le_refl _)).grown hg5 (by simp) (fun kk hk => by simp [Value.ownBlock] at hk)
                have HO3 : Hid (w5.ownsRow w.heap.size 3 1 (.slice q3 1 c3) 1 ([(3 : Int)].map fun z : Int => Value.int .i64 z)) := Lib.hid (by simpa using ho5)
                have HB3 := Lib.hid (bl HB.out hb5 HB.out.size)
                clear ho5 hg5 hb5
                go_wp2_with (at_builtin; refine wpList_append_rs _ rfl (.tmp 103) (.tmp 104) 103 rfl w.heap.size 3 i0 (.int .i64 0) 8 Tryz.underlying103 hi hz0 hz1 hz2 rfl _ 1 _ rfl (owns_keep HO3.out (al (Below.refl _ _) (Nat.le_refl _))) (fun z : Int => Value.int .i64 z) (some ⟨w5.heap.size, 0, none⟩) 1 1 [4] (fun _ _ => rfl) rfl (SlZ.one 4 (hnew rfl)) (by unfold maxLen; omega) (by omega) ?c4 ?_)
                case c4 => have := HB3.out.size; simp; omega
                intro v6 w6 ho6 hg6
                obtain ⟨q6, c6, rfl⟩ := owns_shape ho6
                have HB6 := Lib.hid ((al HB3.out HB3.out.size).grown hg6 (by have := HB3.out.size; simp; omega) (fun kk hk => (HO3.out.lt kk hk).1))
                have HO6 := Lib.hid ho6
                clear ho6 hg6
                go_wp2
                go_ret
                rw [HR.out]
                exact ⟨_, _, rfl, Sl.of_owns (by simpa using HO6.out), HB6.out⟩
  · have hc0 : (C != 0) = true := bne_iff_ne.2 hc
    have HR : Hid (R = [1]) := by show _ = _; rw [HAU.out, if_pos hc]
    have HBA := Lib.hid ba
    clear hc HAU ba
    go_enter Tryz.func57, Tryz.ntmps57
    go_wp2_with fail
    refine Calls.mono (HK.out _) ?_
    rintro e w1 ⟨rfl, hb⟩
    have HB1 := Lib.hid (bl HBA.out hb HBA.out.size)
    clear hb HBA
    go_wp2
    go_ret
    rw [HR.out]
    exact ⟨some ⟨w1.heap.size, 0, none⟩, 1, rfl, SlZ.one 1 (hnew rfl), al HB1.out HB1.out.size⟩
end Go.Proofs.YtccaiiigdfieoaaGreatDoor
namespace Go.By
open Go.RowKit
end Go.By
namespace Go.By
open Go.RowKit
end Go.By
namespace Go.Proofs.YtccaiiigdfieoaaGreatDoor
open Go.RowKit Go.By
end Go.Proofs.YtccaiiigdfieoaaGreatDoor
namespace Go.By
open Go.RowKit
end Go.By
namespace Go.Proofs.YtccaiiigdfieoaaGreatDoor
open Go.RowKit Go.By
end Go.Proofs.YtccaiiigdfieoaaGreatDoor
namespace Go.Proofs.YtccaiiigdfieoaaGreatDoor
end Go.Proofs.YtccaiiigdfieoaaGreatDoor
namespace Go.Proofs.YtccaiiigdfieoaaGreatDoor
open Go.RowKit Go.By
end Go.Proofs.YtccaiiigdfieoaaGreatDoor
namespace Go.Proofs.YtccaiiigdfieoaaGreatDoor
open Go.RowKit Go.By
end Go.Proofs.YtccaiiigdfieoaaGreatDoor
namespace Go.Proofs.YtccaiiigdfieoaaGreatDoor
open Go.RowKit Go.By
end Go.Proofs.YtccaiiigdfieoaaGreatDoor
namespace Go.Proofs.YtccaiiigdfieoaaGreatDoor
open Go.RowKit Go.By
end Go.Proofs.YtccaiiigdfieoaaGreatDoor
namespace Go.Proofs.YtccaiiigdfieoaaGreatDoor
open Go.RowKit Go.By
end Go.Proofs.YtccaiiigdfieoaaGreatDoor
namespace Go.Proofs.YtccaiiigdfieoaaGreatDoor
open Go.RowKit Go.By
end Go.Proofs.YtccaiiigdfieoaaGreatDoor
namespace Go.Proofs.YtccaiiigdfieoaaGreatDoor
open Go.RowKit Go.By
end Go.Proofs.YtccaiiigdfieoaaGreatDoor
namespace Go.By
open Go.RowKit
end Go.By
namespace Go.Proofs.YtccaiiigdfieoaaGreatDoor
open Go.RowKit Go.By
end Go.Proofs.YtccaiiigdfieoaaGreatDoor
namespace Go.By
open Go.RowKit
end Go.By
namespace Go.Proofs.YtccaiiigdfieoaaGreatDoor
open Go.RowKit Go.By
end Go.Proofs.YtccaiiigdfieoaaGreatDoor
namespace Go.By
open Go.RowKit
end Go.By
namespace Go.Proofs.YtccaiiigdfieoaaGreatDoor
open Go.RowKit Go.By
end Go.Proofs.YtccaiiigdfieoaaGreatDoor
namespace Go.Proofs.YtccaiiigdfieoaaGreatDoor
open Go.RowKit Go.By Go.Maps
end Go.Proofs.YtccaiiigdfieoaaGreatDoor
namespace Go.By
open Go.RowKit
/-- nothing but two blocks has turned -/
structure TwoE (w0 : World) (g1 g2 : Nat) (w : World) : Prop where
  os : w.os = w0.os
  tape : w.tape = w0.tape
  output : w.output = w0.output
  size : w.heap.size = w0.heap.size
  block : ∀ b, b ≠ g1 → b ≠ g2 → w.heap[b]? = w0.heap[b]?
theorem TwoE.cell {w0 w : World} {g1 g2 b o : Nat} {v : Value} (h : TwoE w0 g1 g2 w) (h1 : b ≠ g1) (h2 : b ≠ g2) (hc : w0.cell? ⟨b, o, none⟩ = some v) : w.cell? ⟨b, o, none⟩ = some v :=
  (World.cell?_of_block (a := ⟨b, o, none⟩) (h.block b h1 h2)).trans hc
end Go.By
namespace Go.By
open Go.RowKit Go.Maps
theorem Fresh.two {T T1 T2 : TypeId} {B g1 g2 : Nat} {w w' : World} {q : Option Addr} {n c : Nat} {xs : List UInt8} {o1 o2 : Array Value} {f1 f2 : Nat × Nat} (h : Fresh T B w q n c xs) (hE : TwoE w g1 g2 w') (h1 : w.heap[g1]? = some (.cells o1 T1 f1)) (h2 : w.heap[g2]? = some (.cells o2 T2 f2)) (n1 : T1 ≠ T) (n2 : T2 ≠ T) : Fresh T B w' q n c xs := by
  have hd : ∀ a, q = some a → a.block ≠ g1 ∧ a.block ≠ g2 := fun a ha => by
    obtain ⟨cs, fr, e⟩ := h.ty a ha
    refine ⟨fun e1 => ?_, fun e1 => ?_⟩
    · rw [e1, h1] at e; injection e with e; injection e with _ e _; exact n1 e
    · rw [e1, h2] at e; injection e with e; injection e with _ e _; exact n2 e
  refine ⟨⟨h.sl.len, h.sl.le, h.sl.max, h.sl.nil, fun i hi => ?_⟩, h.new, fun a ha => ?_⟩
  · obtain ⟨b, o, e, hc⟩ := h.sl.rs i hi
    exact ⟨b, o, e, hE.cell (hd _ e).1 (hd _ e).2 hc⟩
  · obtain ⟨cs, fr, e⟩ := h.ty a ha
    exact ⟨cs, fr, (hE.block _ (hd a ha).1 (hd a ha).2).trans e⟩
end Go.By
namespace Go.Proofs.YtccaiiigdfieoaaGreatDoor
open Go.RowKit Go.By Go.Maps
end Go.Proofs.YtccaiiigdfieoaaGreatDoor
namespace Go.Proofs.YtccaiiigdfieoaaGreatDoor
open Go.RowKit Go.By Go.Maps
end Go.Proofs.YtccaiiigdfieoaaGreatDoor
namespace Go.Proofs.YtccaiiigdfieoaaGreatDoor
open Go.RowKit Go.By
end Go.Proofs.YtccaiiigdfieoaaGreatDoor
namespace Go.Proofs.YtccaiiigdfieoaaGreatDoor
open Go.RowKit Go.By
end Go.Proofs.YtccaiiigdfieoaaGreatDoor
namespace Go.Proofs.YtccaiiigdfieoaaGreatDoor
open Go.RowKit Go.By
end Go.Proofs.YtccaiiigdfieoaaGreatDoor
namespace Go.By
open Go.RowKit
end Go.By
namespace Go.Proofs.YtccaiiigdfieoaaGreatDoor
open Go.RowKit Go.By
end Go.Proofs.YtccaiiigdfieoaaGreatDoor
namespace Go.By
open Go.RowKit
end Go.By
namespace Go.Proofs.YtccaiiigdfieoaaGreatDoor
open Go.RowKit Go.By
end Go.Proofs.YtccaiiigdfieoaaGreatDoor
namespace Go.By
open Go.RowKit
theorem RwV.of_owns {w : World} {base T n c : Nat} {q : Option Addr} {vs : List (Value × Value)} (h : w.ownsRow base T 2 (.slice q n c) n (fl2 vs)) (h1 : ∀ u, u ∈ fl2 vs → u.oneCell' = true) : RwV w q n c vs := by
  have hl : vs.length = n := by have := h.1; rw [fl2_length] at this; omega
  rcases h.2 with ⟨e1, e2⟩ | ⟨g, cap, cur, e1, _, _, h3, h4, _⟩
  · cases e1
    exact ⟨hl, Nat.le_of_eq e2, by simp [maxLen], fun _ => ⟨e2, rfl⟩, fun j u hj => (by have := (List.getElem?_eq_some_iff.1 hj).1; rw [fl2_length] at this; omega), h1⟩
  · cases e1
    refine ⟨hl, h3, h4, fun e => (by cases e), fun j u hj => ⟨g, 0, rfl, ?_⟩, h1⟩
    have := (List.getElem?_eq_some_iff.1 hj).1
    rw [fl2_length] at this
    rw [Nat.zero_add, h.cellAt _ (by omega)]; exact hj
end Go.By
namespace Go.Proofs.YtccaiiigdfieoaaGreatDoor
open Go.RowKit Go.By
end Go.Proofs.YtccaiiigdfieoaaGreatDoor
namespace Go.By
open Go.RowKit
end Go.By
namespace Go.Proofs.YtccaiiigdfieoaaGreatDoor
open Go.RowKit Go.By
end Go.Proofs.YtccaiiigdfieoaaGreatDoor
namespace Go.By
open Go.RowKit
end Go.By
namespace Go.Proofs.YtccaiiigdfieoaaGreatDoor
open Go.RowKit Go.By
end Go.Proofs.YtccaiiigdfieoaaGreatDoor
namespace Go.Proofs.YtccaiiigdfieoaaGreatDoor
open Go.RowKit Go.By
end Go.Proofs.YtccaiiigdfieoaaGreatDoor
namespace Go.By
open Go.RowKit
end Go.By
namespace Go.Proofs.YtccaiiigdfieoaaGreatDoor
open Go.RowKit Go.By
end Go.Proofs.YtccaiiigdfieoaaGreatDoor
namespace Go.By
open Go.RowKit
section
variable {T2 T1 : TypeId} {w w' : World} {base n : Nat} {v : Value} {xss : List (List UInt8)}
end
end Go.By
namespace Go.Proofs.YtccaiiigdfieoaaGreatDoor
open Go.RowKit Go.By
end Go.Proofs.YtccaiiigdfieoaaGreatDoor
namespace Go.By
open Go.RowKit Go.Proofs.YtccaiiigdfieoaaGreatDoor
section
variable {w w' : World} {base be k t n : Nat} {v : Value} {K : List Rw}
end
end Go.By
namespace Go.Proofs.YtccaiiigdfieoaaGreatDoor
open Go.RowKit Go.By
end Go.Proofs.YtccaiiigdfieoaaGreatDoor
namespace Go.Proofs.YtccaiiigdfieoaaGreatDoor
open Go.RowKit Go.By Go.Maps
end Go.Proofs.YtccaiiigdfieoaaGreatDoor
namespace Go.By
open Go.RowKit
section
variable {P : Program} {ops : Array Oper} {Q : Exit → Act → World → Prop}
end
end Go.By
namespace Go.By
open Go.RowKit
end Go.By
namespace Go.By
open Go.RowKit Go.Maps Go.Proofs.YtccaiiigdfieoaaGreatDoor
end Go.By
namespace Go.Proofs.YtccaiiigdfieoaaGreatDoor
open Go.RowKit Go.By Go.Maps
end Go.Proofs.YtccaiiigdfieoaaGreatDoor
namespace Go.By
open Go.RowKit Go.Maps Go.Proofs.YtccaiiigdfieoaaGreatDoor
end Go.By
namespace Go.Proofs.YtccaiiigdfieoaaGreatDoor
open Go.RowKit Go.By Go.Maps
end Go.Proofs.YtccaiiigdfieoaaGreatDoor
namespace Go.Proofs.YtccaiiigdfieoaaGreatDoor
open Go.RowKit Go.By Go.Maps
end Go.Proofs.YtccaiiigdfieoaaGreatDoor
namespace Go.Proofs.YtccaiiigdfieoaaGreatDoor
open Go.RowKit Go.By
end Go.Proofs.YtccaiiigdfieoaaGreatDoor
namespace Go.Proofs.YtccaiiigdfieoaaGreatDoor
open Go.RowKit Go.By
theorem Sl.take {α : Type} {enc : α → Value} {w : World} {p : Option Addr} {n c k c2 : Nat} {xs : List α} (h : Sl enc w p n c xs) (hk : k ≤ n) (h1 : k ≤ c2) (h2 : c2 ≤ c) : Sl enc w p k c2 (xs.take k) := by
  refine ⟨by rw [List.length_take, h.len]; omega, h1, Nat.le_trans h2 h.max, fun e => ?_, ?_⟩
  · have := h.nil e; omega
  · intro i hi
    have hi' : i < xs.length := by rw [List.length_take] at hi; omega
    obtain ⟨b, o, hp, hc⟩ := h.rs i hi'
    exact ⟨b, o, hp, by rw [hc]; simp⟩
end Go.Proofs.YtccaiiigdfieoaaGreatDoor
namespace Go.Proofs.YtccaiiigdfieoaaGreatDoor
open Go.RowKit Go.By
end Go.Proofs.YtccaiiigdfieoaaGreatDoor
namespace Go.Proofs.YtccaiiigdfieoaaGreatDoor
open Go.RowKit Go.By
end Go.Proofs.YtccaiiigdfieoaaGreatDoor
namespace Go.By
open Go.RowKit
end Go.By
namespace Go.Proofs.YtccaiiigdfieoaaGreatDoor
open Go.RowKit Go.By
end Go.Proofs.YtccaiiigdfieoaaGreatDoor
namespace Go.By
open Go.RowKit
theorem Fresh.cell {T T' B g i n c : Nat} {w : World} {q : Option Addr} {xs : List UInt8} {old : Array Value} {fr : Nat × Nat} {v : Value} (h : Fresh T B w q n c xs) (hg : w.heap[g]? = some (.cells old T' fr)) (hne : T' ≠ T) : Fresh T B (w.setCell ⟨g, i, Option.none⟩ v) q n c xs := by
  have hd : ∀ a, q = some a → a.block ≠ g := fun a ha e => by
    obtain ⟨c2, f2, e2⟩ := h.ty a ha
    rw [e, hg] at e2
    injection e2 with e2
    injection e2 with _ e3 _
    exact hne e3
  exact ⟨⟨h.sl.len, h.sl.le, h.sl.max, h.sl.nil, fun j hj => by
    obtain ⟨b, o, e, hc⟩ := h.sl.rs j hj
    exact ⟨b, o, e, (World.cell?_of_block (a := ⟨b, o + j, Option.none⟩) (Below.heap_setCell _ _ _ _ (hd _ e))).trans hc⟩⟩, h.new, fun a ha => by obtain ⟨c2, f2, e2⟩ := h.ty a ha; exact ⟨c2, f2, (Below.heap_setCell _ _ _ _ (hd a ha)).trans e2⟩⟩
end Go.By
namespace Go.Proofs.YtccaiiigdfieoaaGreatDoor
open Go.RowKit Go.By
end Go.Proofs.YtccaiiigdfieoaaGreatDoor
namespace Go.Proofs.YtccaiiigdfieoaaGreatDoor
open Go.RowKit Go.By
end Go.Proofs.YtccaiiigdfieoaaGreatDoor
namespace Go.By
open Go
section
variable {P : Program} (w : World)
end
end Go.By
namespace Go.Proofs.YtccaiiigdfieoaaGreatDoor
open Go.RowKit Go.By Go.Maps
end Go.Proofs.YtccaiiigdfieoaaGreatDoor
namespace Go.By
open Go.RowKit
end Go.By
namespace Go.Proofs.YtccaiiigdfieoaaGreatDoor
open Go.RowKit Go.By Go.Maps
end Go.Proofs.YtccaiiigdfieoaaGreatDoor
namespace Go.Proofs.YtccaiiigdfieoaaGreatDoor
open Go.RowKit Go.By
end Go.Proofs.YtccaiiigdfieoaaGreatDoor
namespace Go.By
open Go.RowKit Go.Maps Go.Proofs.YtccaiiigdfieoaaGreatDoor
section
variable {w w' : World} {g : Nat} {old : Array Value} {T' : Nat} {fr : Nat × Nat}
end
end Go.By
namespace Go.Proofs.YtccaiiigdfieoaaGreatDoor
open Go.RowKit Go.By Go.Maps
end Go.Proofs.YtccaiiigdfieoaaGreatDoor
namespace Go.Proofs.YtccaiiigdfieoaaGreatDoor
open Go.RowKit Go.By Go.Maps
end Go.Proofs.YtccaiiigdfieoaaGreatDoor
namespace Go.Proofs.YtccaiiigdfieoaaGreatDoor
open Go.RowKit Go.By
end Go.Proofs.YtccaiiigdfieoaaGreatDoor
namespace Go.Proofs.YtccaiiigdfieoaaGreatDoor
open Go.RowKit Go.By
end Go.Proofs.YtccaiiigdfieoaaGreatDoor
namespace Go.Proofs.YtccaiiigdfieoaaGreatDoor
open Go.RowKit Go.By
end Go.Proofs.YtccaiiigdfieoaaGreatDoor
namespace Go.Proofs.YtccaiiigdfieoaaGreatDoor
open Go.RowKit Go.By Gf
end Go.Proofs.YtccaiiigdfieoaaGreatDoor
namespace Go.Proofs.YtccaiiigdfieoaaGreatDoor
open Go.RowKit Go.By
end Go.Proofs.YtccaiiigdfieoaaGreatDoor
namespace Go.Proofs.YtccaiiigdfieoaaGreatDoor
open Go.RowKit Go.By
end Go.Proofs.YtccaiiigdfieoaaGreatDoor
namespace Go.Proofs.YtccaiiigdfieoaaGreatDoor
open Go.RowKit Go.By
end Go.Proofs.YtccaiiigdfieoaaGreatDoor
namespace Go.Proofs.YtccaiiigdfieoaaGreatDoor
open Go.RowKit Go.By
end Go.Proofs.YtccaiiigdfieoaaGreatDoor
namespace Go.Proofs.YtccaiiigdfieoaaGreatDoor
open Go.RowKit Go.By
end Go.Proofs.YtccaiiigdfieoaaGreatDoor
namespace Go.Proofs.YtccaiiigdfieoaaGreatDoor
open Go.RowKit Go.By
end Go.Proofs.YtccaiiigdfieoaaGreatDoor
namespace Go.Proofs.YtccaiiigdfieoaaGreatDoor
open Go.RowKit Go.By Gf
end Go.Proofs.YtccaiiigdfieoaaGreatDoor
namespace Go.Proofs.YtccaiiigdfieoaaGreatDoor
open Go.RowKit Go.By Gf
end Go.Proofs.YtccaiiigdfieoaaGreatDoor
namespace Go.Proofs.YtccaiiigdfieoaaGreatDoor
open Go.RowKit Go.By Gf
end Go.Proofs.YtccaiiigdfieoaaGreatDoor
namespace Go.By
end Go.By
namespace Go.Proofs.YtccaiiigdfieoaaGreatDoor
open Go.RowKit Go.By Gf
end Go.Proofs.YtccaiiigdfieoaaGreatDoor
namespace Go.By
open Go.RowKit Go.Maps Go.Proofs.YtccaiiigdfieoaaGreatDoor
section
variable {w w' : World} {base gt be L t k D N : Nat} {M v : Value} {C : DataW Unit} {K : List Rw} {st : Nat}
end
end Go.By
namespace Go.Proofs.YtccaiiigdfieoaaGreatDoor
open Go.RowKit Go.By Go.Maps
end Go.Proofs.YtccaiiigdfieoaaGreatDoor
namespace Go.Proofs.YtccaiiigdfieoaaGreatDoor
open Go.RowKit Go.By Go.Maps
end Go.Proofs.YtccaiiigdfieoaaGreatDoor
namespace Go.By
open Go.RowKit
section
variable {P : Program} {ops : Array Oper} {Q : Exit → Act → World → Prop}
end
end Go.By
namespace Go.By
open Go.RowKit
section
variable {T : Nat} {wz W w w' : World} {va vb : Value} {n i4 i9 i : Nat} {A B : List (List UInt8)} {dn : Nat → Bool}
end
end Go.By
namespace Go.Proofs.YtccaiiigdfieoaaGreatDoor
open Go.RowKit Go.By Gf Go.Maps
end Go.Proofs.YtccaiiigdfieoaaGreatDoor
namespace Go.By
open Go.RowKit Go.Maps Go.Proofs.YtccaiiigdfieoaaGreatDoor
end Go.By
namespace Go.Proofs.YtccaiiigdfieoaaGreatDoor
open Go.RowKit Go.By Go.Maps
end Go.Proofs.YtccaiiigdfieoaaGreatDoor
namespace Go.By
open Go.RowKit Go.Maps Go.Proofs.YtccaiiigdfieoaaGreatDoor
end Go.By
namespace Go.Proofs.YtccaiiigdfieoaaGreatDoor
open Go.RowKit Go.By Gf Go.Maps
section
variable {wI w0 w w' : World} {gs gt be base L t k D nx N st : Nat} {FX : List (List UInt8)} {v : Value} {K : List Rw}
end
end Go.Proofs.YtccaiiigdfieoaaGreatDoor
namespace Go.By
end Go.By
namespace Go.Proofs.YtccaiiigdfieoaaGreatDoor
open Go.RowKit Go.By
end Go.Proofs.YtccaiiigdfieoaaGreatDoor
namespace Go.By
end Go.By
namespace Go.Proofs.YtccaiiigdfieoaaGreatDoor
open Go.RowKit Go.By
end Go.Proofs.YtccaiiigdfieoaaGreatDoor
namespace Go.By
open Go.RowKit Go.Maps Go.Proofs.YtccaiiigdfieoaaGreatDoor
end Go.By
namespace Go.Proofs.YtccaiiigdfieoaaGreatDoor
open Go.RowKit Go.By Gf Go.Maps
section
variable {wI w0 w w' : World} {gs gt be base L t k D nx N st : Nat} {FX : List (List UInt8)} {v : Value} {K : List Rw}
end
end Go.Proofs.YtccaiiigdfieoaaGreatDoor
namespace Go.By
open Go.RowKit
theorem sl_of_row {w : World} {a : Option Addr} {len cap : Nat} {zs : List Int}
    (h : (a = none ∧ len = 0 ∧ cap = 0 ∧ zs = []) ∨ ∃ x, a = some x ∧ len ≤ cap ∧ cap ≤ maxLen ∧ zs.length = cap ∧ (∀ i, i < zs.length → w.cell? (x.add i) = some (.int .u8 (zs.getD i 0))) ∧ ∀ n ∈ zs, (Lit.int .u8 n).wf = true) :
    ∃ xs, Sl B8 w a len cap xs := by
  rcases h with ⟨rfl, rfl, rfl, _⟩ | ⟨x, rfl, hl, hm, hz, hc, hw⟩
  · exact ⟨[], Sl.nil0 _ _⟩
  · refine ⟨(zs.take len).map fun z => UInt8.ofNat z.toNat, ⟨by simp; omega, hl, hm, fun h => by simp at h, ?_⟩⟩
    intro i hi
    have hi' : i < zs.length := by simp at hi; omega
    obtain ⟨b, o, hx, hc'⟩ := ints_at hc (by omega)
    refine ⟨b, o, by rw [hx], ?_⟩
    have hh := hc i hi'
    rw [hx, Addr.add_lit] at hh
    rw [hh]
    have e : zs.getD i 0 = zs[i] := by simp [hi']
    rw [e]
    have hb := bounds_u8 (hw _ (List.getElem_mem hi'))
    simp
    omega
end Go.By
namespace Go.Proofs.YtccaiiigdfieoaaGreatDoor
open Go.RowKit Go.By Go.ChangeShapes Go.WideShapes Go.Deep
section
variable {H : Type} {enc : TypeId × Value → H} {P : Program} {w : World} {base : Nat} {held : Bool}
theorem trod_struct2 {t : TypeId} {f0 f1 : Field} {fuel : Nat} {cs : List Value} {x : DataW H × List MemPlace} {spare : Nat → Bool} (ht : P.underlying t = some (.struct #[f0, f1])) (h : DataW.trod enc P w base spare held fuel t cs = some x) :
    ∃ y0 y1 n, cs.length = P.cellsOf t ∧ DataW.trod enc P w base spare held n f0.type ((cs.drop f0.offset).take (P.cellsOf f0.type)) = some y0 ∧
      DataW.trod enc P w base spare held n f1.type ((cs.drop f1.offset).take (P.cellsOf f1.type)) = some y1 := by
  obtain ⟨xs, n, _, rfl, hl, hlen, hf⟩ := DataW.trod_struct ht h
  match xs, hlen with
  | [y0, y1], _ => exact ⟨y0, y1, n, hl, by simpa using hf 0 f0 rfl, by simpa using hf 1 f1 rfl⟩
theorem list2 {α : Type} {cs : List α} (h : cs.length = 2) : ∃ c0 c1, cs = [c0, c1] := by
  match cs, h with
  | [c0, c1], _ => exact ⟨c0, c1, rfl⟩
theorem open_bytes1 {t q : TypeId} {fuel : Nat} {c4 : Value} {x : DataW H × List MemPlace} (h4 : P.underlying t = some (.slice q)) (hq : P.underlying q = some (.int .u8)) (cq : P.cellsOf q = 1) (g4 : DataW.trod enc P w base (fun _ => true) held fuel t [c4] = some x) : ∃ p m c bs, c4 = .slice p m c ∧ Sl B8 w p m c bs := by
  rcases open_ints h4 hq cq g4 with ⟨hcs, _⟩ | ⟨x, l, c, zs, hcs, _, hl, hm, hz, _, hcell, hwz⟩
  · simp at hcs
    exact ⟨none, 0, 0, [], hcs, Sl.nil0 _ _⟩
  · simp at hcs
    obtain ⟨xs, hx⟩ := sl_of_row (.inr ⟨_, rfl, hl, hm, by simpa using hz, hcell, hwz⟩)
    exact ⟨_, _, _, xs, hcs, hx⟩
/-- one, cell by cell -/
theorem open_one {t q : TypeId} {f0 f1 : Field} {fuel : Nat} {cs : List Value} {x : DataW H × List MemPlace} (ht : P.underlying t = some (.struct #[f0, f1])) (hone : oneCellFields P #[f0, f1] = true) (hC : P.cellsOf t = 2)
    (h0 : P.underlying f0.type = some (.slice q)) (h1 : P.underlying f1.type = some (.slice q)) (hq : P.underlying q = some (.int .u8)) (cq : P.cellsOf q = 1)
    (h : DataW.trod enc P w base (fun _ => true) held fuel t cs = some x) :
    ∃ (r : List UInt8 × List UInt8) (p1 : Option Addr) (m1 c1 : Nat) (p2 : Option Addr) (m2 c2 : Nat), cs = [.slice p1 m1 c1, .slice p2 m2 c2] ∧ Sl B8 w p1 m1 c1 r.1 ∧ Sl B8 w p2 m2 c2 r.2 := by
  obtain ⟨y0, y1, n, hl, g0, g1⟩ := trod_struct2 ht h
  obtain ⟨c0, c1, rfl⟩ := list2 (hl.trans hC)
  obtain ⟨o0, k0⟩ := hone_of hone 0 f0 rfl
  obtain ⟨o1, k1⟩ := hone_of hone 1 f1 rfl
  rw [o0, k0] at g0; rw [o1, k1] at g1
  obtain ⟨p1, m1, d1, b1, rfl, s1⟩ := open_bytes1 h0 hq cq g0
  obtain ⟨p2, m2, d2, b2, rfl, s2⟩ := open_bytes1 h1 hq cq g1
  exact ⟨(b1, b2), p1, m1, d1, p2, m2, d2, rfl, s1, s2⟩
theorem open_ones {t e q : TypeId} {f0 f1 : Field} {fuel : Nat} {cs : List Value} {x : DataW H × List MemPlace} (ht : P.underlying t = some (.slice e)) (he : P.underlying e = some (.struct #[f0, f1])) (hone : oneCellFields P #[f0, f1] = true) (hC : P.cellsOf e = 2)
    (h0 : P.underlying f0.type = some (.slice q)) (h1 : P.underlying f1.type = some (.slice q)) (hq : P.underlying q = some (.int .u8)) (cq : P.cellsOf q = 1)
    (h : DataW.trod enc P w base (fun _ => true) held fuel t cs = some x) : ∃ p n c K, cs = [.slice p n c] ∧ RwS w p n c K := by
  rcases open_slice ht h with ⟨hcs, _⟩ | ⟨a, len, cap, m, n, D, Pl, rfl, hb, hl, hm, hmm, rfl, hx⟩
  · exact ⟨none, 0, 0, [], hcs, RwS.nil0 _⟩
  simp only [if_true] at hmm
  have hmm' := hmm.symm
  subst hmm'
  have hsp : 0 < len → a.spot = none := fun h => by
    obtain ⟨cs', hc, htr⟩ := hx 0 (by omega)
    obtain ⟨y, p, m', c', p2, m2, c2, rfl, -⟩ := open_one he hone hC h0 h1 hq cq htr
    obtain ⟨_, _, hcell⟩ := World.cells?_some hc
    have z0 := hcell 0 (by omega)
    simpa [Addr.add] using World.cell?_spot (z0.trans rfl)
  have each : ∀ k, k < len → ∃ y : List UInt8 × List UInt8, ∃ b o q1 m1 c1 q2 m2 c2, a = ⟨b, o, none⟩ ∧ w.cell? ⟨b, o + k * 2, none⟩ = some (.slice q1 m1 c1) ∧ w.cell? ⟨b, o + k * 2 + 1, none⟩ = some (.slice q2 m2 c2) ∧ Sl B8 w q1 m1 c1 y.1 ∧ Sl B8 w q2 m2 c2 y.2 := by
    intro k hk
    obtain ⟨cs', hc, htr⟩ := hx k (by omega)
    obtain ⟨y, p, m', c', p2, m2, c2, rfl, s1, s2⟩ := open_one he hone hC h0 h1 hq cq htr
    obtain ⟨_, _, hcell⟩ := World.cells?_some hc
    rw [hC] at hcell
    obtain ⟨b, o, spot⟩ := a
    have z0 := hcell 0 (by omega)
    have hspot : spot = none := hsp (by omega)
    subst hspot
    have z1 := hcell 1 (by omega)
    simp only [add_plain] at z0 z1
    exact ⟨y, b, o, p, m', c', p2, m2, c2, rfl, z0, z1, s1, s2⟩
  obtain ⟨f, hf⟩ : ∃ f : Nat → List UInt8 × List UInt8, ∀ k, k < len → ∃ b o q1 m1 c1 q2 m2 c2, a = ⟨b, o, none⟩ ∧ w.cell? ⟨b, o + k * 2, none⟩ = some (.slice q1 m1 c1) ∧ w.cell? ⟨b, o + k * 2 + 1, none⟩ = some (.slice q2 m2 c2) ∧ Sl B8 w q1 m1 c1 (f k).1 ∧ Sl B8 w q2 m2 c2 (f k).2 :=
    ⟨fun k => if hk : k < len then Classical.choose (each k hk) else ([], []), fun k hk => by simp only [dif_pos hk]; exact Classical.choose_spec (each k hk)⟩
  refine ⟨some a, len, cap, (List.range len).map f, rfl, ⟨by simp, hl, hm, fun h => (by cases h), fun k y hk => ?_⟩⟩
  rw [List.getElem?_map] at hk
  cases hr : (List.range len)[k]? with
  | none => rw [hr] at hk; simp at hk
  | some k' =>
    rw [hr] at hk
    obtain ⟨hk1, hk2⟩ := List.getElem?_eq_some_iff.1 hr
    simp at hk1 hk2 hk
    subst hk2; subst hk
    obtain ⟨b, o, q1, m1, c1, q2, m2, c2, e, r⟩ := hf k hk1
    exact ⟨b, o, q1, m1, c1, q2, m2, c2, by rw [e], r⟩
end
end Go.Proofs.YtccaiiigdfieoaaGreatDoor
namespace Go.By
open Go.RowKit
end Go.By
namespace Go.Proofs.YtccaiiigdfieoaaGreatDoor
open Go.RowKit Go.By Go.ChangeShapes Go.WideShapes Go.Deep
section
variable {H : Type} {enc : TypeId × Value → H} {P : Program} {w : World} {base : Nat} {held : Bool}
end
end Go.Proofs.YtccaiiigdfieoaaGreatDoor
namespace Go.Proofs.YtccaiiigdfieoaaGreatDoor
open Go.RowKit Go.By
end Go.Proofs.YtccaiiigdfieoaaGreatDoor
namespace Go.Proofs.YtccaiiigdfieoaaGreatDoor
open Go.RowKit Go.By Gf Go.Maps
end Go.Proofs.YtccaiiigdfieoaaGreatDoor
namespace Go.Proofs.YtccaiiigdfieoaaGreatDoor
open Go.RowKit Go.By
end Go.Proofs.YtccaiiigdfieoaaGreatDoor
namespace Go.Proofs.YtccaiiigdfieoaaGreatDoor
open Go.RowKit Go.By
end Go.Proofs.YtccaiiigdfieoaaGreatDoor
namespace Go.By
open Go.RowKit
/-- a slice value that owns bytes -/
def Bt (T1 : Nat) (w : World) (base : Nat) (v : Value) (xs : List UInt8) : Prop := ∃ q m c, v = .slice q m c ∧ w.ownsRow base T1 1 (.slice q m c) m (xs.map B8)
/-- a parcel in memory: its slice, where it came from, its bytes -/
abbrev Par := Value × Int × List UInt8
def parOf (t : Par) : Value × Int := (t.1, t.2.1)
def blks (ts : List Par) : List Nat := ts.filterMap fun t => t.1.ownBlock
structure Pl (TP T1 : Nat) (w : World) (base : Nat) (v : Value) (n : Nat) (ts : List Par) : Prop where
  len : ts.length = n
  own : w.ownsRow base TP 2 v n (pcs (ts.map parOf))
  row : ∀ t, t ∈ ts → Bt T1 w base t.1 t.2.2
  dis : (blks ts).Nodup
section
variable {TP T1 : Nat} {w w' : World} {base n : Nat} {v : Value} {ts : List Par}
theorem Bt.keep {xs : List UInt8} (h : Bt T1 w base v xs) (hb : Below w.heap.size w w') : Bt T1 w' base v xs := by
  obtain ⟨q, m, c, rfl, h⟩ := h; exact ⟨q, m, c, rfl, owns_keep h hb⟩
theorem Bt.one {xs : List UInt8} (h : Bt T1 w base v xs) : v.oneCell' = true := by obtain ⟨q, m, c, rfl, h⟩ := h; rfl
theorem Bt.lt {xs : List UInt8} (h : Bt T1 w base v xs) : ∀ b, v.ownBlock = some b → base ≤ b ∧ b < w.heap.size := by
  obtain ⟨q, m, c, rfl, h⟩ := h; exact h.lt
/-- what is written into the array of parcels leaves the bytes -/
theorem Bt.grown {xs : List UInt8} {u : Value} {L : List Value} {m : Nat} (h : Bt T1 w base v xs) (hT : T1 ≠ TP) (ho : w.ownsRow base TP 2 u m L) (hg : w.grownBy w' u.ownBlock) : Bt T1 w' base v xs := by
  obtain ⟨q, m, c, rfl, h⟩ := h; exact ⟨q, m, c, rfl, owns_kept h hg (owns_ne h ho hT)⟩
theorem Pl.keep (h : Pl TP T1 w base v n ts) (hb : Below w.heap.size w w') : Pl TP T1 w' base v n ts :=
  ⟨h.len, owns_keepv h.own hb, fun t ht => (h.row t ht).keep hb, h.dis⟩
theorem blks_append (a b : List Par) : blks (a ++ b) = blks a ++ blks b := by simp [blks]
theorem Pl.blt (h : Pl TP T1 w base v n ts) : ∀ b, b ∈ blks ts → base ≤ b ∧ b < w.heap.size := by
  intro b hb
  obtain ⟨t, ht, e⟩ := List.mem_filterMap.1 hb
  exact (h.row t ht).lt b e
/-- one more, with bytes of its own in new memory; 'w1' is the world in which the clone is made, 'w2' behind it -/
theorem Pl.push {w1 w2 : World} {u x : Value} {k : Int} {xs : List UInt8} (h : Pl TP T1 w1 base v n ts) (hT : T1 ≠ TP) (hx : Bt T1 w2 w1.heap.size x xs) (hbase : base ≤ w1.heap.size) (hb : Below w1.heap.size w1 w2) (ho : w'.ownsRow base TP 2 u (n + 1) (pcs (ts.map parOf) ++ [x, .int .i64 k])) (hg : w2.grownBy w' v.ownBlock) :
    Pl TP T1 w' base u (n + 1) (ts ++ [(x, k, xs)]) := by
  have h2 := h.keep hb
  have hx2 : Bt T1 w2 base x xs := by obtain ⟨q, m, c, rfl, h⟩ := hx; exact ⟨q, m, c, rfl, owns_mono h hbase⟩
  refine ⟨by simp [h.len], ?_, fun t ht => ?_, ?_⟩
  · rw [List.map_append, pcs_append]; exact ho
  · rcases List.mem_append.1 ht with ht | ht
    · exact (h2.row t ht).grown hT h2.own hg
    · simp at ht; subst ht; exact hx2.grown hT h2.own hg
  · rw [blks_append, List.nodup_append]
    refine ⟨h.dis, ?_, ?_⟩
    · cases hb : x.ownBlock <;> simp [blks, hb]
    · intro a ha b hb' e
      subst e
      obtain ⟨t, ht, e⟩ := List.mem_filterMap.1 hb'
      simp at ht; subst ht
      have := (hx.lt a e).1
      have := (h.blt a ha).2
      omega
end
end Go.By
namespace Go.Proofs.YtccaiiigdfieoaaGreatDoor
open Go.RowKit Go.By
end Go.Proofs.YtccaiiigdfieoaaGreatDoor
namespace Go.Proofs.YtccaiiigdfieoaaGreatDoor
open Go.RowKit Go.By
end Go.Proofs.YtccaiiigdfieoaaGreatDoor
namespace Go.Proofs.YtccaiiigdfieoaaGreatDoor
open Go.RowKit Go.By
end Go.Proofs.YtccaiiigdfieoaaGreatDoor
namespace Go.Proofs.YtccaiiigdfieoaaGreatDoor
open Go.RowKit Go.By
end Go.Proofs.YtccaiiigdfieoaaGreatDoor
namespace Go.Proofs.YtccaiiigdfieoaaGreatDoor
open Go.RowKit Go.By
end Go.Proofs.YtccaiiigdfieoaaGreatDoor
namespace Go.Proofs.YtccaiiigdfieoaaGreatDoor
open Go.RowKit Go.By
end Go.Proofs.YtccaiiigdfieoaaGreatDoor
namespace Go.Proofs.YtccaiiigdfieoaaGreatDoor
open Go.RowKit Go.By
structure ActD where
  d : Int
  i : Int
  j : Int
  b : Nat
  bs : List UInt8
end Go.Proofs.YtccaiiigdfieoaaGreatDoor
namespace Go.Proofs.YtccaiiigdfieoaaGreatDoor
open Go.RowKit Go.By Go.ChangeShapes Go.WideShapes Go.Deep
section
variable {H : Type} {enc : TypeId × Value → H} {P : Program} {w : World} {base : Nat} {held : Bool}
instance : Inhabited ActD := ⟨⟨0, 0, 0, 0, []⟩⟩
end
end Go.Proofs.YtccaiiigdfieoaaGreatDoor
namespace Go.Proofs.YtccaiiigdfieoaaGreatDoor
open Go.RowKit Go.By
end Go.Proofs.YtccaiiigdfieoaaGreatDoor
namespace Go.Proofs.YtccaiiigdfieoaaGreatDoor
open Go.RowKit Go.By
end Go.Proofs.YtccaiiigdfieoaaGreatDoor
namespace Go.Proofs.YtccaiiigdfieoaaGreatDoor
open Go.RowKit Go.By
end Go.Proofs.YtccaiiigdfieoaaGreatDoor
namespace Go.Proofs.YtccaiiigdfieoaaGreatDoor
open Go.RowKit Go.By
end Go.Proofs.YtccaiiigdfieoaaGreatDoor
namespace Go.Proofs.YtccaiiigdfieoaaGreatDoor
open Go.RowKit Go.By
end Go.Proofs.YtccaiiigdfieoaaGreatDoor
namespace Go.Proofs.YtccaiiigdfieoaaGreatDoor
open Go.RowKit Go.By Gf Go.Maps
section
variable {wI w0 w w' : World} {gs gt be base L t k D nx N st : Nat} {FX : List (List UInt8)} {v : Value} {K : List Rw}
end
end Go.Proofs.YtccaiiigdfieoaaGreatDoor
namespace Go.Proofs.YtccaiiigdfieoaaGreatDoor
open Gf Go.By
end Go.Proofs.YtccaiiigdfieoaaGreatDoor
namespace Go.By
open Go.RowKit
end Go.By
namespace Go.Proofs.YtccaiiigdfieoaaGreatDoor
open Go.RowKit Go.By
end Go.Proofs.YtccaiiigdfieoaaGreatDoor
namespace Go.Proofs.YtccaiiigdfieoaaGreatDoor
open Go.RowKit Go.By
end Go.Proofs.YtccaiiigdfieoaaGreatDoor
namespace Go.Proofs.YtccaiiigdfieoaaGreatDoor
open Go.RowKit Go.By
end Go.Proofs.YtccaiiigdfieoaaGreatDoor
namespace Go.Proofs.YtccaiiigdfieoaaGreatDoor
open Go.RowKit Go.By
end Go.Proofs.YtccaiiigdfieoaaGreatDoor
namespace Go.By
open Go.RowKit
theorem RwS.take {w : World} {p : Option Addr} {n c j : Nat} {K : List (List UInt8 × List UInt8)} (h : RwS w p n c K) (hj : j ≤ n) : RwS w p j c (K.take j) :=
  ⟨by rw [List.length_take, h.len]; omega, Nat.le_trans hj h.le, h.max, fun e => ⟨by have := h.nil e; omega, (h.nil e).2⟩, fun i k hi => by
    rw [List.getElem?_take] at hi
    split at hi
    · exact h.row i k hi
    · cases hi⟩
end Go.By
namespace Go.Proofs.YtccaiiigdfieoaaGreatDoor
open Go.RowKit Go.By
end Go.Proofs.YtccaiiigdfieoaaGreatDoor
namespace Go.By
open Go.RowKit Go.Proofs.YtccaiiigdfieoaaGreatDoor Gf Go.Maps
/-- bytes that were handed in, or new ones of the call -/
def OldB (wI w : World) (v : Value) (xs : List UInt8) : Prop := ∃ q n c, v = .slice q n c ∧ (Sl B8 wI q n c xs ∨ Fresh 5 wI.heap.size w q n c xs)
theorem OldB.keep {wI w w' : World} {v : Value} {xs : List UInt8} (h : OldB wI w v xs) (hb : Below w.heap.size w w') : OldB wI w' v xs := by
  obtain ⟨q, n, c, e, h | h⟩ := h
  · exact ⟨q, n, c, e, .inl h⟩
  · exact ⟨q, n, c, e, .inr (h.keep hb)⟩
theorem OldB.sl {wI w : World} {v : Value} {xs : List UInt8} (h : OldB wI w v xs) (hb : Below wI.heap.size wI w) : ∃ q n c, v = .slice q n c ∧ Sl B8 w q n c xs := by
  obtain ⟨q, n, c, e, h | h⟩ := h
  · exact ⟨q, n, c, e, h.keep hb⟩
  · exact ⟨q, n, c, e, h.sl⟩
/-- the document's equations in memory: rows in one new block; their bytes were handed in, or are new -/
def RRef (wI w : World) (q : Option Addr) (n c : Nat) (X : List Rw) : Prop :=
  ∃ vs : List (Value × Value), w.ownsRow wI.heap.size 101 2 (.slice q n c) n (fl2 vs) ∧ vs.length = n ∧ X.length = n ∧ ∀ (j : Nat) (u : Value × Value), vs[j]? = some u → ∃ k, X[j]? = some k ∧ OldB wI w u.1 k.1 ∧ OldB wI w u.2 k.2
section
variable {wI w w' : World} {q : Option Addr} {n c : Nat} {X : List Rw}
theorem RRef.nil (wI w : World) : RRef wI w none 0 0 [] := ⟨[], World.ownsRow_nil _ _ _ _, rfl, rfl, fun j u h => by simp at h⟩
theorem RRef.keep (h : RRef wI w q n c X) (hb : Below w.heap.size w w') : RRef wI w' q n c X := by
  obtain ⟨vs, o, l1, l2, r⟩ := h
  exact ⟨vs, owns_keep o hb, l1, l2, fun j u hj => by obtain ⟨k, hk, g1, g2⟩ := r j u hj; exact ⟨k, hk, g1.keep hb, g2.keep hb⟩⟩
theorem RRef.len (h : RRef wI w q n c X) : X.length = n := by obtain ⟨_, _, _, h, _⟩ := h; exact h
theorem RRef.vals (h : RRef wI w q n c X) : ∃ vs, RwV w q n c vs ∧ vs.length = n ∧ ∀ (j : Nat) (u : Value × Value), vs[j]? = some u → ∃ k, X[j]? = some k ∧ OldB wI w u.1 k.1 ∧ OldB wI w u.2 k.2 := by
  obtain ⟨vs, o, l1, l2, r⟩ := h
  refine ⟨vs, RwV.of_owns o fun u hu => ?_, l1, r⟩
  obtain ⟨x, hx, hu⟩ := List.mem_flatMap.1 (show u ∈ vs.flatMap (fun p => [p.1, p.2]) from hu)
  obtain ⟨j, hj, e⟩ := List.getElem_of_mem hx
  obtain ⟨k, _, ⟨q1, n1, c1, e1, _⟩, ⟨q2, n2, c2, e2, _⟩⟩ := r j x (by rw [List.getElem?_eq_getElem hj, e])
  simp at hu
  rcases hu with rfl | rfl
  · rw [e1]; rfl
  · rw [e2]; rfl
theorem RRef.rwS (h : RRef wI w q n c X) (hb : Below wI.heap.size wI w) : RwS w q n c X := by
  obtain ⟨vs, hv, l1, r⟩ := h.vals
  refine ⟨h.len, hv.le, hv.max, hv.nil, fun j k hj => ?_⟩
  have hjn : j < n := by have := (List.getElem?_eq_some_iff.1 hj).1; have := h.len; omega
  obtain ⟨k', hk', g1, g2⟩ := r j vs[j] (List.getElem?_eq_getElem (by omega))
  rw [hj] at hk'; cases hk'
  obtain ⟨q1, m1, c1, e1, s1⟩ := g1.sl hb
  obtain ⟨q2, m2, c2, e2, s2⟩ := g2.sl hb
  have c0 := fl2_at (vs := vs) (List.getElem?_eq_getElem (show j < vs.length by omega))
  obtain ⟨b, o, e, hc⟩ := hv.cell (j * 2) _ c0.1
  obtain ⟨b', o', e', hc'⟩ := hv.cell (j * 2 + 1) _ c0.2
  rw [e] at e'; cases e'
  exact ⟨b, o, q1, m1, c1, q2, m2, c2, e, by rw [hc, e1], by rw [← e2]; exact hc', s1, s2⟩
end
end Go.By
namespace Go.Proofs
open Go.Shelf
def Tryz.lays111_ren : Go.Shelf.Ren := ⟨fun | 111 => 55 | n => n, fun | 28 => 103 | 3 => 3 | 4 => 4 | 0 => 0 | n => n, fun | n => n⟩
theorem Tryz.lays111 : Go.Proofs.Lays.n111 Tryz.prog Tryz.lays111_ren := {
  mixed := by kernel_rfl
  f111 := Tryz.func55.trans (congrArg some (by kernel_rfl))
  t0 := Tryz.underlying0
  a0 := Tryz.isAgg0
  z0 := Tryz.sizeOf0
  v0 := Tryz.zeroValue0
  t3 := Tryz.underlying3
  a3 := Tryz.isAgg3
  z3 := Tryz.sizeOf3
  v3 := Tryz.zeroValue3
  t4 := Tryz.underlying4
  a4 := Tryz.isAgg4
  z4 := Tryz.sizeOf4
  v4 := Tryz.zeroValue4
  t28 := Tryz.underlying103
  a28 := Tryz.isAgg103
  z28 := Tryz.sizeOf103
  v28 := Tryz.zeroValue103 }
open Go.RowKit Go.Lib in
/-- slices.Equal at []int: "Equal reports whether two slices are equal: the same length and all elements equal. If the lengths are different, Equal returns false. Otherwise, the elements are compared in increasing index order, and the comparison stops at the first unequal pair. Empty and nil slices are considered equal.": IT RETURNS WHETHER THE TWO LISTS OF ELEMENTS ARE ONE; the world is as it was but for the count of draws (the test 's1[i] != s2[i]' has two reads, whose order the model draws, once a round). 'xs', 'ys': what the cells behind the two addresses hold (the spare capacity too, if you have it); 'xs.take n', 'ys.take m': the elements. THE TWO SLICES MAY OVERLAP. (LAID: no walk: one application.) -/
theorem Tryz.slices_Equal_int (b1 o1 n c b2 o2 m d : Nat) (xs ys : List Int) (w : World) (hx : n ≤ xs.length) (hy : m ≤ ys.length) (hbig : n ≤ 9223372036854775807) (hbig2 : m ≤ 9223372036854775807) (hc1 : ∀ j, j < xs.length → w.cell? ⟨b1, o1 + j, none⟩ = some (.int .i64 (xs.getD j 0))) (hc2 : ∀ j, j < ys.length → w.cell? ⟨b2, o2 + j, none⟩ = some (.int .i64 (ys.getD j 0))) :
    Calls Tryz.prog 55 #[.slice (some ⟨b1, o1, none⟩) n c, .slice (some ⟨b2, o2, none⟩) m d] w fun e w' => e = .returned (.bool (xs.take n == ys.take m)) ∧ ∃ q, w' = w.drewN q := Any.slices_Equal_int Tryz.lays111 b1 o1 n c b2 o2 m d xs ys w hx hy hbig hbig2 hc1 hc2
open Go.RowKit Go.Lib in
/-- The same where the first is of length 0 (a nil one too): no cell is asked for. (LAID: no walk: one application.) -/
theorem Tryz.slices_Equal_int_empty (a1 a2 : Option Addr) (c m d : Nat) (w : World) (hbig2 : m ≤ 9223372036854775807) :
    Calls Tryz.prog 55 #[.slice a1 0 c, .slice a2 m d] w fun e w' => e = .returned (.bool (decide (m = 0))) ∧ w' = w := Any.slices_Equal_int_empty Tryz.lays111 a1 a2 c m d w hbig2
open Go.RowKit Go.Lib in
theorem Tryz.slices_Equal_int_lens (a1 a2 : Option Addr) (n c m d : Nat) (w : World) (hnm : n ≠ m) :
    Calls Tryz.prog 55 #[.slice a1 n c, .slice a2 m d] w fun e w' => e = .returned (.bool false) ∧ w' = w := Any.slices_Equal_int_lens Tryz.lays111 a1 a2 n c m d w hnm
end Go.Proofs
namespace Go.By
open Go.RowKit Go.Proofs.YtccaiiigdfieoaaGreatDoor
/-- numbers, rows, as values -/
def ZsT (xs : List Int) (v : Value) (w : World) : Prop := ∃ q n c, v = .slice q n c ∧ SlZ w q n c xs
def ShZs (xs : List Int) : Shp := ⟨ZsT xs, fun _ _ _ ⟨q, n, c, e, h⟩ hb => ⟨q, n, c, e, Sl.keep h hb⟩⟩
def RwsV (K : List Rw) (v : Value) (w : World) : Prop := ∃ q n c, v = .slice q n c ∧ RwS w q n c K
def ShRwsV (K : List Rw) : Shp := ⟨RwsV K, fun _ _ _ ⟨q, n, c, e, h⟩ hb => ⟨q, n, c, e, h.keep hb⟩⟩
theorem RwS.two {w : World} {g T : Nat} {fr : Nat × Nat} {q1 q2 q3 q4 : Option Addr} {n1 c1 n2 c2 n3 c3 n4 c4 : Nat} {x y : Rw} (h : w.heap[g]? = some (.cells #[.slice q1 n1 c1, .slice q2 n2 c2, .slice q3 n3 c3, .slice q4 n4 c4] T fr)) (h1 : Sl B8 w q1 n1 c1 x.1) (h2 : Sl B8 w q2 n2 c2 x.2) (h3 : Sl B8 w q3 n3 c3 y.1) (h4 : Sl B8 w q4 n4 c4 y.2) : RwS w (some ⟨g, 0, none⟩) 2 2 [x, y] := by
  refine ⟨rfl, Nat.le_refl _, by simp [maxLen], fun e => (by cases e), fun j k hj => ?_⟩
  match j, hj with
  | 0, hj => simp at hj; subst hj; exact ⟨g, 0, _, _, _, _, _, _, rfl, cell_of_row _ _ 0 _ _ _ h, cell_of_row _ _ 1 _ _ _ h, h1, h2⟩
  | 1, hj => simp at hj; subst hj; exact ⟨g, 0, _, _, _, _, _, _, rfl, cell_of_row _ _ 2 _ _ _ h, cell_of_row _ _ 3 _ _ _ h, h3, h4⟩
  | j + 2, hj => simp at hj
end Go.By
namespace Go.Proofs.YtccaiiigdfieoaaGreatDoor
open Go.RowKit Go.By
theorem SlZ.cells {w : World} {b o n c : Nat} {xs : List Int} (h : SlZ w (some ⟨b, o, none⟩) n c xs) : ∀ j, j < xs.length → w.cell? ⟨b, o + j, none⟩ = some (.int .i64 (xs.getD j 0)) := fun j hj => by
  obtain ⟨b', o', e, hc⟩ := h.rs j hj
  cases e
  rw [hc, List.getD_eq_getElem?_getD, List.getElem?_eq_getElem hj]; rfl
theorem EqZ_any (p q : Option Addr) (n c m d : Nat) (xs ys : List Int) (w : World) (h1 : SlZ w p n c xs) (h2 : SlZ w q m d ys) :
    Calls Tryz.prog 55 #[.slice p n c, .slice q m d] w fun e w' => e = .returned (.bool (decide (xs = ys))) ∧ Below w.heap.size w w' := by
  have l1 := h1.len; have l2 := h2.len
  have b1 := h1.bound; have b2 := h2.bound
  by_cases hnm : n = m
  · subst hnm
    rcases Nat.eq_zero_or_pos n with h0 | h0
    · subst h0
      have e1 : xs = [] := List.eq_nil_of_length_eq_zero l1
      have e2 : ys = [] := List.eq_nil_of_length_eq_zero l2
      subst e1 e2
      refine Calls.mono (Tryz.slices_Equal_int_empty p q c 0 d w b2) ?_
      rintro e w' ⟨rfl, rfl⟩
      exact ⟨rfl, Below.refl _ _⟩
    · obtain ⟨g1, o1, rfl, _⟩ := h1.has h0
      obtain ⟨g2, o2, rfl, _⟩ := h2.has h0
      refine Calls.mono (Tryz.slices_Equal_int g1 o1 n c g2 o2 n d xs ys w (by omega) (by omega) b1 b2 (SlZ.cells h1) (SlZ.cells h2)) ?_
      rintro e w' ⟨rfl, q, rfl⟩
      refine ⟨?_, bdn (Below.refl _ _)⟩
      rw [← l1, List.take_length, show xs.length = ys.length by omega, List.take_length]
      congr 2
      by_cases h : xs = ys
      · rw [decide_eq_true h, h]; exact beq_self_eq_true ys
      · rw [decide_eq_false h]; exact beq_eq_false_iff_ne.2 h
  · refine Calls.mono (Tryz.slices_Equal_int_lens p q n c m d w hnm) ?_
    rintro e w' ⟨rfl, rfl⟩
    refine ⟨?_, Below.refl _ _⟩
    rw [decide_eq_false (fun e => hnm (by rw [← l1, ← l2, e]))]
theorem AuTaker_nil (w : World) : Calls Tryz.prog 58 #[.pointer none] w fun e w' => e = .returned (.slice none 0 0) ∧ w = w' := by
  go_enter Tryz.func58, Tryz.ntmps58
  go_wp2
  go_ret
  exact ⟨rfl, rfl⟩
theorem of210 : ofS 2 1 0 = .tuple #[.agg #[.int .i64 2, .int .i64 1, .int .i64 2, .int .u32 0], .int .i64 0] := by
  have h : fitS 2 1 = 0 := by decide
  have h2 : needS 2 1 = 2 := by decide
  unfold ofS; rw [if_pos h, h2]
theorem au28 : auS 2 1 2 [([1, 0], [5]), ([1, 1], [6])] = [3, 4] := by decide +kernel
set_option maxRecDepth 100000 in
set_option maxHeartbeats 4000000 in
theorem awake28 (w : World) : Calls Tryz.prog 54 #[] w fun e w' => e = .returned (.bool true) ∧ Below w.heap.size w w' := by
  have HOf : Hid (∀ w, Calls Tryz.prog 44 #[.int .i64 2, .int .i64 1, .int .u32 0] w fun e w' => e = .returned (.tuple #[.agg #[.int .i64 2, .int .i64 1, .int .i64 2, .int .u32 0], .int .i64 0]) ∧ Below w.heap.size w w') := fun w => by have := POf_any 2 1 0 w (by decide); rw [of210] at this; exact this
  have HAU : Hid (∀ W p n c, RwS W p n c [([1, 0], [5]), ([1, 1], [6])] → Calls Tryz.prog 56 #[.agg #[.int .i64 2, .int .i64 1, .int .i64 2, .int .u32 0], .slice p n c] W fun e w' => ∃ q m d, e = .returned (.slice q m d) ∧ SlZ w' q m d [3, 4] ∧ Below W.heap.size W w') := fun W p n c h => by
    refine Calls.mono (AuRows_any 2 1 2 0 p n c _ W h (by decide)) ?_
    rintro e w' ⟨q, d, rfl, hs, hb⟩
    rw [au28] at hs
    exact ⟨q, _, d, rfl, hs, hb⟩
  go_enter Tryz.func54, Tryz.ntmps54
  go_wp2_with fail
  refine Calls.mono (HOf.out _) ?_
  rintro e w1 ⟨rfl, hb⟩
  have HB1 := Lib.hid hb
  clear hb HOf
  go_upto_region 2 with (fail)
  have ba : Below w1.heap.size w1 (w1.alloc (.cells #[.int .i64 2, .int .i64 1, .int .i64 2, .int .u32 0] 27 (0, 0))) := al (Below.refl _ _) (Nat.le_refl _)
  have kp : (w1.alloc (.cells #[.int .i64 2, .int .i64 1, .int .i64 2, .int .u32 0] 27 (0, 0))).heap[w1.heap.size]? = some (.cells #[.int .i64 2, .int .i64 1, .int .i64 2, .int .u32 0] 27 (0, 0)) := hnew rfl
  have HB2 := Lib.hid (bl HB1.out ba HB1.out.size)
  obtain ⟨gp, hgp⟩ : ∃ gp, gp = w1.heap.size := ⟨_, rfl⟩
  rw [← hgp] at kp ⊢
  generalize w1.alloc (.cells #[.int .i64 2, .int .i64 1, .int .i64 2, .int .u32 0] 27 (0, 0)) = w2 at *
  clear ba hgp HB1
  obtain ⟨z0, z1, z2, z3⟩ := cells_four kp
  refine wp_region_shapes (fun ix => ([.val (.int .i64 0), .val (.bool true), .val (.bool true), .val (.agg #[.int .i64 2, .int .i64 1, .int .i64 2, .int .u32 0]), .bytes ([1, 0]), .bytes ([5]), (.row ([1, 0], [5])), .bytes ([1, 1]), .bytes ([6]), (.row ([1, 1], [6])), (ShRwsV [([1, 0], [5]), ([1, 1], [6])]), (ShZs [3, 4]), (ShZs [3, 4]), .val (.bool true), .val (.bool true), .val (.bool true), .val (.slice none 0 0), .val (.int .i64 0), .val (.bool true), .val (.bool true), .val (.bool true)][ix]?).getD (.any)) 27 rfl (by kernel_rfl) (by decide +kernel) (by decide +kernel) (by decide +kernel) ?_ ?_
  · refine ⟨?_, ?_, ?_, ?_, ?_, ?_, ?_, ?_, ?_, ?_, ?_, ?_, ?_, ?_, ?_, ?_, ?_, ?_, ?_, ?_, ?_, trivial⟩
    · intro a W hb0 hs hp hi; have hb := undrew hb0; clear hb0
      have t2 : sl a 2 = .int .i64 0 := hi 2 (by decide)
      exact ite_y rfl (wp_val (sl a 2) rfl ⟨_, rfl, Below.refl _ _, t2⟩)
    · intro a W hb0 hs hp hi; have hb := undrew hb0; clear hb0
      have t7 : sl a 7 = .int .i64 0 := hp 0 (by decide)
      refine ite_y rfl (wp_val (.bool true) ?_ ?_)
      · simp only [execOp, eval_tmp, eval_const, t7]; simp [go_sem]
      · exact ⟨_, rfl, Below.refl _ _, rfl⟩
    · intro a W hb0 hs hp hi; have hb := undrew hb0; clear hb0
      have t8 : sl a 8 = .bool true := hp 1 (by decide)
      exact ite_y rfl (wp_val (sl a 8) rfl ⟨_, rfl, Below.refl _ _, t8⟩)
    · intro a W hb0 hs hp hi; have hb := undrew hb0; clear hb0
      have tg : sl a 9 = .bool true := hp 2 (by decide)
      have tt : sl a 1 = .pointer (some ⟨gp, 0, none⟩) := hi 1 (by decide)
      have dd0 := (hb.cell (p := ⟨gp, 0, none⟩) (lt_of_cell z0)).trans z0
      have dd1 := (hb.cell (p := ⟨gp, 1, none⟩) (lt_of_cell z1)).trans z1
      have dd2 := (hb.cell (p := ⟨gp, 2, none⟩) (lt_of_cell z2)).trans z2
      have dd3 := (hb.cell (p := ⟨gp, 3, none⟩) (lt_of_cell z3)).trans z3
      refine ite_y (wanted_yes rfl rfl (by have hz : a.tmps.size = 27 := hs; rw [hz]; decide) tg) (wp_val (.agg #[.int .i64 2, .int .i64 1, .int .i64 2, .int .u32 0]) ?_ ?_)
      · simp only [execOp, eval_tmp, tt]; simp [go_sem, dd0, dd1, dd2, dd3]
      · exact ⟨_, rfl, Below.refl _ _, rfl⟩
    · intro a W hb0 hs hp hi; have hb := undrew hb0; clear hb0
      have tg : sl a 9 = .bool true := hp 2 (by decide)
      refine ite_y (wanted_yes rfl rfl (by have hz : a.tmps.size = 27 := hs; rw [hz]; decide) tg) (wp_val' (w' := W.alloc (.cells #[.int .u8 1, .int .u8 0] 5)) (.slice (some ⟨W.heap.size, 0, none⟩) 2 2) ?_ ?_)
      · simp only [execOp, eval_tmp, eval_const]; simp [go_sem]
      · exact ⟨_, rfl, (al (Below.refl _ _) (Nat.le_refl _)), _, _, _, rfl, sl_block ([1, 0]) 2 (hnew rfl) rfl rfl (by simp [maxLen])⟩
    · intro a W hb0 hs hp hi; have hb := undrew hb0; clear hb0
      have tg : sl a 9 = .bool true := hp 2 (by decide)
      refine ite_y (wanted_yes rfl rfl (by have hz : a.tmps.size = 27 := hs; rw [hz]; decide) tg) (wp_val' (w' := W.alloc (.cells #[.int .u8 5] 5)) (.slice (some ⟨W.heap.size, 0, none⟩) 1 1) ?_ ?_)
      · simp only [execOp, eval_tmp, eval_const]; simp [go_sem]
      · exact ⟨_, rfl, (al (Below.refl _ _) (Nat.le_refl _)), _, _, _, rfl, sl_block ([5]) 1 (hnew rfl) rfl rfl (by simp [maxLen])⟩
    · intro a W hb0 hs hp hi; have hb := undrew hb0; clear hb0
      have tg : sl a 9 = .bool true := hp 2 (by decide)
      have t11 : BytesIs [1, 0] (sl a 11) W := hp 4 (by decide)
      obtain ⟨y11a, y11b, y11c, t11, z11a⟩ := t11
      have t12 : BytesIs [5] (sl a 12) W := hp 5 (by decide)
      obtain ⟨y12a, y12b, y12c, t12, z12a⟩ := t12
      refine ite_y (wanted_yes rfl rfl (by have hz : a.tmps.size = 27 := hs; rw [hz]; decide) tg) (wp_enter 80 #[.slice y11a y11b y11c, .slice y12a y12b y12c] ?_ (Of_any _ _ _ _ _ _ [1, 0] [5] W z11a z12a (by rw [← z11a.len]; unfold Room; decide) (by rw [← z12a.len]; unfold Room; decide)) ?_)
      · simp only [execOp, resolve, List.map_toArray, List.map, eval_tmp, eval_func, eval_const, t11, t12]; simp [go_sem]
      · rintro e W' ⟨q5, m5, g5, q6, m6, g6, e5, e6, rfl, o5, o6, hw⟩
        exact ⟨_, rfl, _, rfl, hw, q5, m5, g5, q6, m6, g6, rfl, Sl.of_owns o5, Sl.of_owns o6⟩
    · intro a W hb0 hs hp hi; have hb := undrew hb0; clear hb0
      have tg : sl a 9 = .bool true := hp 2 (by decide)
      refine ite_y (wanted_yes rfl rfl (by have hz : a.tmps.size = 27 := hs; rw [hz]; decide) tg) (wp_val' (w' := W.alloc (.cells #[.int .u8 1, .int .u8 1] 5)) (.slice (some ⟨W.heap.size, 0, none⟩) 2 2) ?_ ?_)
      · simp only [execOp, eval_tmp, eval_const]; simp [go_sem]
      · exact ⟨_, rfl, (al (Below.refl _ _) (Nat.le_refl _)), _, _, _, rfl, sl_block ([1, 1]) 2 (hnew rfl) rfl rfl (by simp [maxLen])⟩
    · intro a W hb0 hs hp hi; have hb := undrew hb0; clear hb0
      have tg : sl a 9 = .bool true := hp 2 (by decide)
      refine ite_y (wanted_yes rfl rfl (by have hz : a.tmps.size = 27 := hs; rw [hz]; decide) tg) (wp_val' (w' := W.alloc (.cells #[.int .u8 6] 5)) (.slice (some ⟨W.heap.size, 0, none⟩) 1 1) ?_ ?_)
      · simp only [execOp, eval_tmp, eval_const]; simp [go_sem]
      · exact ⟨_, rfl, (al (Below.refl _ _) (Nat.le_refl _)), _, _, _, rfl, sl_block ([6]) 1 (hnew rfl) rfl rfl (by simp [maxLen])⟩
    · intro a W hb0 hs hp hi; have hb := undrew hb0; clear hb0
      have tg : sl a 9 = .bool true := hp 2 (by decide)
      have t14 : BytesIs [1, 1] (sl a 14) W := hp 7 (by decide)
      obtain ⟨y14a, y14b, y14c, t14, z14a⟩ := t14
      have t15 : BytesIs [6] (sl a 15) W := hp 8 (by decide)
      obtain ⟨y15a, y15b, y15c, t15, z15a⟩ := t15
      refine ite_y (wanted_yes rfl rfl (by have hz : a.tmps.size = 27 := hs; rw [hz]; decide) tg) (wp_enter 80 #[.slice y14a y14b y14c, .slice y15a y15b y15c] ?_ (Of_any _ _ _ _ _ _ [1, 1] [6] W z14a z15a (by rw [← z14a.len]; unfold Room; decide) (by rw [← z15a.len]; unfold Room; decide)) ?_)
      · simp only [execOp, resolve, List.map_toArray, List.map, eval_tmp, eval_func, eval_const, t14, t15]; simp [go_sem]
      · rintro e W' ⟨q5, m5, g5, q6, m6, g6, e5, e6, rfl, o5, o6, hw⟩
        exact ⟨_, rfl, _, rfl, hw, q5, m5, g5, q6, m6, g6, rfl, Sl.of_owns o5, Sl.of_owns o6⟩
    · intro a W hb0 hs hp hi; have hb := undrew hb0; clear hb0
      have tg : sl a 9 = .bool true := hp 2 (by decide)
      have t13 : RowIs ([1, 0], [5]) (sl a 13) W := hp 6 (by decide)
      obtain ⟨y13a, y13b, y13c, y13d, y13e, y13f, t13, z13a, z13b⟩ := t13
      have v13 : a.tmps[13]?.getD undef = sl a 13 := by simp [sl]
      rw [t13] at v13
      have t16 : RowIs ([1, 1], [6]) (sl a 16) W := hp 9 (by decide)
      obtain ⟨y16a, y16b, y16c, y16d, y16e, y16f, t16, z16a, z16b⟩ := t16
      have v16 : a.tmps[16]?.getD undef = sl a 16 := by simp [sl]
      rw [t16] at v16
      refine ite_y (wanted_yes rfl rfl (by have hz : a.tmps.size = 27 := hs; rw [hz]; decide) tg) (wp_val' (w' := W.alloc (.cells #[.slice y13a y13b y13c, .slice y13d y13e y13f, .slice y16a y16b y16c, .slice y16d y16e y16f] 99)) (.slice (some ⟨W.heap.size, 0, none⟩) 2 2) ?_ ?_)
      · simp only [execOp, eval_tmp, eval_const, t13, t16]; simp [go_sem, v13, v16, Tryz.underlying99]
      · exact ⟨_, rfl, (al (Below.refl _ _) (Nat.le_refl _)), _, _, _, rfl, RwS.two (hnew rfl) (z13a.keep (al (Below.refl _ _) (Nat.le_refl _))) (z13b.keep (al (Below.refl _ _) (Nat.le_refl _))) (z16a.keep (al (Below.refl _ _) (Nat.le_refl _))) (z16b.keep (al (Below.refl _ _) (Nat.le_refl _)))⟩
    · intro a W hb0 hs hp hi; have hb := undrew hb0; clear hb0
      have tg : sl a 9 = .bool true := hp 2 (by decide)
      have t10 : sl a 10 = .agg #[.int .i64 2, .int .i64 1, .int .i64 2, .int .u32 0] := hp 3 (by decide)
      have t17 : RwsV [([1, 0], [5]), ([1, 1], [6])] (sl a 17) W := hp 10 (by decide)
      obtain ⟨q7, n7, c7, t17, z7⟩ := t17
      refine ite_y (wanted_yes rfl rfl (by have hz : a.tmps.size = 27 := hs; rw [hz]; decide) tg) (wp_enter 56 #[.agg #[.int .i64 2, .int .i64 1, .int .i64 2, .int .u32 0], .slice q7 n7 c7] ?_ (HAU.out W q7 n7 c7 z7) ?_)
      · simp only [execOp, resolve, List.map_toArray, List.map, eval_tmp, eval_func, eval_const, t10, t17]; simp [go_sem]
      · rintro e W' ⟨q5, n5, g5, rfl, hz, hw⟩; exact ⟨_, rfl, _, rfl, hw, q5, n5, g5, rfl, hz⟩
    · intro a W hb0 hs hp hi; have hb := undrew hb0; clear hb0
      have tg : sl a 9 = .bool true := hp 2 (by decide)
      refine ite_y (wanted_yes rfl rfl (by have hz : a.tmps.size = 27 := hs; rw [hz]; decide) tg) (wp_val' (w' := W.alloc (.cells #[.int .i64 3, .int .i64 4] 3)) (.slice (some ⟨W.heap.size, 0, none⟩) 2 2) ?_ ?_)
      · simp only [execOp, eval_const]; simp [go_sem]
      · exact ⟨_, rfl, (al (Below.refl _ _) (Nat.le_refl _)), _, _, _, rfl, sl_block (enc := fun z : Int => Value.int .i64 z) [3, 4] 2 (hnew rfl) rfl rfl (by simp [maxLen])⟩
    · intro a W hb0 hs hp hi; have hb := undrew hb0; clear hb0
      have tg : sl a 9 = .bool true := hp 2 (by decide)
      have t18 : ZsT [3, 4] (sl a 18) W := hp 11 (by decide)
      obtain ⟨y18a, y18b, y18c, t18, z18a⟩ := t18
      have t19 : ZsT [3, 4] (sl a 19) W := hp 12 (by decide)
      obtain ⟨y19a, y19b, y19c, t19, z19a⟩ := t19
      refine ite_y (wanted_yes rfl rfl (by have hz : a.tmps.size = 27 := hs; rw [hz]; decide) tg) (wp_enter 55 #[.slice y18a y18b y18c, .slice y19a y19b y19c] ?_ (EqZ_any _ _ _ _ _ _ [3, 4] [3, 4] W z18a z19a) ?_)
      · simp only [execOp, resolve, List.map_toArray, List.map, eval_tmp, eval_func, eval_const, t18, t19]; simp [go_sem]
      · rintro e W' ⟨rfl, hw⟩; exact ⟨_, rfl, _, rfl, hw, rfl⟩
    · intro a W hb0 hs hp hi; have hb := undrew hb0; clear hb0
      have t9 : sl a 9 = .bool true := hp 2 (by decide)
      have t20 : sl a 20 = .bool true := hp 13 (by decide)
      refine ite_y rfl (wp_val (.bool true) ?_ ?_)
      · simp only [execOp, eval_tmp, eval_const, t9, t20]; simp [go_sem]
      · exact ⟨_, rfl, Below.refl _ _, rfl⟩
    · intro a W hb0 hs hp hi; have hb := undrew hb0; clear hb0
      have t21 : sl a 21 = .bool true := hp 14 (by decide)
      exact ite_y rfl (wp_val (sl a 21) rfl ⟨_, rfl, Below.refl _ _, t21⟩)
    · intro a W hb0 hs hp hi; have hb := undrew hb0; clear hb0
      have tg : sl a 22 = .bool true := hp 15 (by decide)
      refine ite_y (wanted_yes rfl rfl (by have hz : a.tmps.size = 27 := hs; rw [hz]; decide) tg) (wp_enter 58 #[.pointer none] ?_ (AuTaker_nil W) ?_)
      · simp only [execOp, resolve, List.map_toArray, List.map, eval_tmp, eval_func, eval_const, ]; simp [go_sem]
      · rintro e W' ⟨rfl, rfl⟩; exact ⟨_, rfl, _, rfl, Below.refl _ _, rfl⟩
    · intro a W hb0 hs hp hi; have hb := undrew hb0; clear hb0
      have tg : sl a 22 = .bool true := hp 15 (by decide)
      have t23 : sl a 23 = .slice none 0 0 := hp 16 (by decide)
      refine ite_y (wanted_yes rfl rfl (by have hz : a.tmps.size = 27 := hs; rw [hz]; decide) tg) (wp_val (.int .i64 0) ?_ ?_)
      · simp only [execOp, resolve, List.map_toArray, List.map, eval_tmp, eval_func, eval_const, t23]; simp [go_sem]
      · exact ⟨_, rfl, Below.refl _ _, rfl⟩
    · intro a W hb0 hs hp hi; have hb := undrew hb0; clear hb0
      have tg : sl a 22 = .bool true := hp 15 (by decide)
      have t24 : sl a 24 = .int .i64 0 := hp 17 (by decide)
      refine ite_y (wanted_yes rfl rfl (by have hz : a.tmps.size = 27 := hs; rw [hz]; decide) tg) (wp_val (.bool true) ?_ ?_)
      · simp only [execOp, eval_tmp, eval_const, t24]; simp [go_sem]
      · exact ⟨_, rfl, Below.refl _ _, rfl⟩
    · intro a W hb0 hs hp hi; have hb := undrew hb0; clear hb0
      have t22 : sl a 22 = .bool true := hp 15 (by decide)
      have t25 : sl a 25 = .bool true := hp 18 (by decide)
      refine ite_y rfl (wp_val (.bool true) ?_ ?_)
      · simp only [execOp, eval_tmp, eval_const, t22, t25]; simp [go_sem]
      · exact ⟨_, rfl, Below.refl _ _, rfl⟩
    · intro a W hb0 hs hp hi; have hb := undrew hb0; clear hb0
      have t26 : sl a 26 = .bool true := hp 19 (by decide)
      exact ite_y rfl (wp_val (sl a 26) rfl ⟨_, rfl, Below.refl _ _, t26⟩)
  intro a w3 hb hs hd hI ht
  have ha := act_is [7, 8, 9, 10, 11, 12, 13, 14, 15, 16, 17, 18, 19, 20, 21, 22, 23, 24, 25, 26, 0] hs hd ht (by decide)
  have t0 : sl a 0 = .bool true := hI 20 (by decide)
  simp only [List.foldl, t0] at ha
  generalize sl a 7 = u7 at ha
  generalize sl a 8 = u8 at ha
  generalize sl a 9 = u9 at ha
  generalize sl a 10 = u10 at ha
  generalize sl a 11 = u11 at ha
  generalize sl a 12 = u12 at ha
  generalize sl a 13 = u13 at ha
  generalize sl a 14 = u14 at ha
  generalize sl a 15 = u15 at ha
  generalize sl a 16 = u16 at ha
  generalize sl a 17 = u17 at ha
  generalize sl a 18 = u18 at ha
  generalize sl a 19 = u19 at ha
  generalize sl a 20 = u20 at ha
  generalize sl a 21 = u21 at ha
  generalize sl a 22 = u22 at ha
  generalize sl a 23 = u23 at ha
  generalize sl a 24 = u24 at ha
  generalize sl a 25 = u25 at ha
  generalize sl a 26 = u26 at ha
  simp only [Act.put, List.setIfInBounds_toArray, List.set_cons_zero, List.set_cons_succ] at ha
  rw [ha]
  clear ha hI ht
  have HB3 := Lib.hid (bl HB2.out hb HB2.out.size)
  clear hb
  go_wp2
  go_ret
  exact ⟨rfl, HB3.out⟩
theorem info_rrow28 : (Tryz.prog.info? 101).map (fun i => (i.zero, i.size, i.bytes)) = some (some (.agg #[.slice none 0 0, .slice none 0 0]), 2, 48) := by kernel_rfl
/-- bytes that were handed in -/
def InB (wI : World) (v : Value) (xs : List UInt8) : Prop := ∃ q n c, v = .slice q n c ∧ Sl B8 wI q n c xs
/-- rows in one new block, of bytes that were handed in -/
def RIn (wI w : World) (q : Option Addr) (n c : Nat) (X : List Rw) : Prop :=
  ∃ vs : List (Value × Value), w.ownsRow wI.heap.size 101 2 (.slice q n c) n (fl2 vs) ∧ vs.length = n ∧ X.length = n ∧ ∀ (j : Nat) (u : Value × Value), vs[j]? = some u → ∃ k, X[j]? = some k ∧ InB wI u.1 k.1 ∧ InB wI u.2 k.2
theorem RIn.nil (wI w : World) : RIn wI w none 0 0 [] := ⟨[], World.ownsRow_nil _ _ _ _, rfl, rfl, fun j u h => by simp at h⟩
theorem RIn.keep {wI w w' : World} {q : Option Addr} {n c : Nat} {X : List Rw} (h : RIn wI w q n c X) (hb : Below w.heap.size w w') : RIn wI w' q n c X := by
  obtain ⟨vs, o, r⟩ := h
  exact ⟨vs, owns_keep o hb, r⟩
theorem RIn.rref {wI w : World} {q : Option Addr} {n c : Nat} {X : List Rw} (h : RIn wI w q n c X) : RRef wI w q n c X := by
  obtain ⟨vs, o, l1, l2, r⟩ := h
  refine ⟨vs, o, l1, l2, fun j u hj => ?_⟩
  obtain ⟨k, hk, ⟨q1, n1, c1, e1, s1⟩, ⟨q2, n2, c2, e2, s2⟩⟩ := r j u hj
  exact ⟨k, hk, ⟨q1, n1, c1, e1, .inl s1⟩, ⟨q2, n2, c2, e2, .inl s2⟩⟩
/-- what the law's loop carries -/
def RefT (w1 w : World) (v : Value) (n : Nat) (X : List Rw) : Prop := Below w1.heap.size w1 w ∧ ∃ q c, v = .slice q n c ∧ RIn w1 w q n c X
set_option maxRecDepth 100000 in
set_option maxHeartbeats 4000000 in
theorem AuditRows_any (l s k d : Int) (p : Option Addr) (n c : Nat) (L : List Rw) (w : World) (w0 : (Lit.int .i64 l).wf = true) (_w1 : (Lit.int .i64 s).wf = true) (_w2 : (Lit.int .i64 k).wf = true) (_w3 : (Lit.int .u32 d).wf = true) (h : RwS w p n c L) (_hT : True) (hn48 : n * 48 ≤ 140737488355328) :
    Calls Tryz.prog 9 #[.agg #[.int .i64 l, .int .i64 s, .int .i64 k, .int .u32 d], .slice p n c] w fun e w' => e = .returned (.bool true) ∧ Below w.heap.size w w' := by
  have hl2 := (Go.bounds_i64 w0).2
  obtain ⟨r0, hr0, hrz, hr1', hr2'⟩ := info_parts info_rrow28
  have HL2 : Hid (l ≤ 9223372036854775807) := by show _ ≤ _; omega
  have hn63 : n ≤ 9223372036854775807 := by have g1 := h.le; have g2 := h.max; unfold maxLen at g2; omega
  have H := Lib.hid h
  have HLN := Lib.hid h.len
  clear h hl2 w0
  have HAW := Lib.hid (fun w => awake28 w)
  go_enter Tryz.func9, Tryz.ntmps9
  go_wp2_with fail
  refine Calls.mono (HAW.out _) ?_
  rintro e w1 ⟨rfl, hb⟩
  obtain ⟨hb1, kp1, -⟩ := one_of hb
  obtain ⟨gp, hgp⟩ : ∃ gp, gp = w.heap.size := ⟨_, rfl⟩
  rw [← hgp] at kp1 ⊢
  have HB1 := Lib.hid hb1
  have HKP := Lib.hid kp1
  clear hb hb1 kp1 hgp HAW
  go_wp2
  go_loopw [5, 12] (fun sv iv wr => ∃ i : Nat, i ≤ n ∧ iv = .int .i64 (i : Nat) ∧ Hid (RefT w1 wr sv i (L.take i))) (fun _ iv _ => n - (intOf iv).toNat)
  case atStart => exact ⟨0, Nat.zero_le _, rfl, ⟨Below.refl _ _, none, 0, rfl, RIn.nil _ _⟩⟩
  case round =>
    obtain ⟨i, hi, rfl, HR⟩ := hrel
    obtain ⟨hbr, qs, cs, rfl, hrr⟩ := HR.out
    have HBR := Lib.hid hbr
    have HRR := Lib.hid hrr
    have HBW := Lib.hid (bl HB1.out HBR.out HB1.out.size)
    have kp := (HBR.out.block _ (lt_of_block HKP.out)).trans HKP.out
    have HKR := Lib.hid kp
    clear hbr hrr HR kp
    by_cases hlt : i < n
    · obtain ⟨x, hx⟩ : ∃ x, L[i]? = some x := ⟨_, List.getElem?_eq_getElem (by rw [HLN.out]; exact hlt)⟩
      obtain ⟨b, o, q1, m1, c1, q2, m2, c2, rfl, e1, e2, s1, s2⟩ := H.out.row i x hx
      have E1 := (HBW.out.cell (p := ⟨b, o + i * 2, none⟩) (lt_of_cell e1)).trans e1
      have E2 := (HBW.out.cell (p := ⟨b, o + i * 2 + 1, none⟩) (lt_of_cell e2)).trans e2
      have S1 := Lib.hid (s1.keep HB1.out)
      have S2 := Lib.hid (s2.keep HB1.out)
      have hlt' : (i : Int) < (n : Int) := by omega
      have ba : Below wr.heap.size wr (wr.alloc (.cells #[.slice q1 m1 c1, .slice q2 m2 c2] 99)) := al (Below.refl _ _) (Nat.le_refl _)
      have HBA := Lib.hid ba
      have HLT := Lib.hid hlt
      have HX := Lib.hid hx
      clear e1 e2 s1 s2 ba hlt hx
      by_cases h1 : 60 < m1
      · have h1' : (60 : Int) < (m1 : Int) := by omega
        clear h1
        go_wp2
        go_ret
        exact ⟨rfl, bl HBW.out HBA.out HBW.out.size⟩
      · by_cases h2 : 60 < m2
        · have h1' : (m1 : Int) ≤ 60 := by omega
          have h2' : (60 : Int) < (m2 : Int) := by omega
          clear h1 h2
          go_wp2
          go_ret
          exact ⟨rfl, bl HBW.out HBA.out HBW.out.size⟩
        · have h1' : (m1 : Int) ≤ 60 := by omega
          have h2' : (m2 : Int) ≤ 60 := by omega
          clear h1 h2
          go_upto_region 9 with (fail)
          have kv : (wr.alloc (.cells #[.slice q1 m1 c1, .slice q2 m2 c2] 99)).heap[wr.heap.size]? = some (.cells #[.slice q1 m1 c1, .slice q2 m2 c2] 99 (0, 0)) := hnew rfl
          obtain ⟨gv, hgv⟩ : ∃ gv, gv = wr.heap.size := ⟨_, rfl⟩
          have R3 := HRR.out.keep HBA.out
          have HB3 := Lib.hid (bl HBR.out HBA.out HBR.out.size)
          rw [← hgv] at kv ⊢
          generalize wr.alloc (.cells #[.slice q1 m1 c1, .slice q2 m2 c2] 99) = w3 at *
          clear hgv HBA HRR HBR HBW HKR E1 E2
          obtain ⟨vs, ow, l1, l2, rr⟩ := R3
          have HOW := Lib.hid ow
          have HVL := Lib.hid l1
          have HXL := Lib.hid l2
          have HVR := Lib.hid rr
          have HIw : Hid (w1.heap.size ≤ w3.heap.size) := HB3.out.size
          have OA2 : Hid (∀ o, (w3.alloc o).ownsRow w1.heap.size 101 2 (.slice qs i cs) i (fl2 vs)) := fun o => owns_keep HOW.out (al (Below.refl _ _) (Nat.le_refl _))
          have hi48 : i * 48 + 48 ≤ 140737488355328 := by have := HLT.out; omega
          obtain ⟨v0, v1⟩ := cells2 kv
          have a0 : ∀ o', (w3.alloc o').cell? ⟨gv, 0, none⟩ = _ := fun _ => calloc v0
          have a1 : ∀ o', (w3.alloc o').cell? ⟨gv, 1, none⟩ = _ := fun _ => calloc v1
          clear ow l1 l2 rr kv
          go_wp2_with (at_builtin; refine wpList_append_own _ rfl (.tmp 26) (.tmp 32) 53 rfl w1.heap.size 101 r0 _ 2 48 Tryz.underlying53 hr0 hrz hr1' hr2' rfl (by omega) _ i (fl2 vs) rfl (OA2.out _) ⟨w3.heap.size, 0, none⟩ 1 1 [.slice q1 m1 c1, .slice q2 m2 c2] rfl rfl ?_ ?_ ?_ ?_ ?_ ?_)
          · intro j' y hj'
            rw [Addr.add_lit, Nat.zero_add, cell_of_row _ _ j' _ _ _ (hnew rfl)]
            match j' with
            | 0 => simpa using hj'
            | 1 => simpa using hj'
            | j' + 2 => simp at hj'
          · intro y hy; simp at hy; rcases hy with rfl | rfl <;> rfl
          · unfold maxLen; omega
          · omega
          · have := HIw.out; simp; omega
          intro v6 w6 ho6 hg6 _
          obtain ⟨qb, cb, rfl⟩ := owns_shape ho6
          have HB6 : Hid (Below w1.heap.size w1 w6) := (al HB3.out HB3.out.size).grown hg6 (by have := HB3.out.size; simp; omega) (fun kk hk => (HOW.out.lt kk hk).1)
          have RR : Hid (RIn w1 w6 qb (i + 1) cb (L.take (i + 1))) := by
            refine ⟨vs ++ [(.slice q1 m1 c1, .slice q2 m2 c2)], ?_, by simp [HVL.out], by have := HXL.out; have := HLT.out; have := HLN.out; simp; omega, fun j u hj => ?_⟩
            · rw [fl2_append]; exact ho6
            · rcases Nat.lt_or_ge j vs.length with g | g
              · rw [List.getElem?_append_left g] at hj
                obtain ⟨k', hk', a1, a2⟩ := HVR.out j u hj
                refine ⟨k', ?_, a1, a2⟩
                have hji : j < i := by have := HVL.out; omega
                rw [List.getElem?_take, if_pos hji] at hk'
                rw [List.getElem?_take, if_pos (by omega)]
                exact hk'
              · have hj0 : j = vs.length := by have := (List.getElem?_eq_some_iff.1 hj).1; simp at this; omega
                subst hj0
                simp at hj
                subst hj
                refine ⟨x, ?_, ⟨q1, m1, c1, rfl, S1.out⟩, ⟨q2, m2, c2, rfl, S2.out⟩⟩
                rw [List.getElem?_take, if_pos (by have := HVL.out; omega), HVL.out]
                exact HX.out
          clear ho6 hg6
          go_wp2
          go_roundw
          case rel => exact ⟨i + 1, by have := HLT.out; omega, by go_num, HB6.out, qb, cb, rfl, RR.out⟩
          case measure => simp [intOf]; have := HLT.out; omega
    · obtain rfl : n = i := by omega
      have HTK : Hid (L.take n = L) := by show _ = _; rw [← HLN.out, List.take_length]
      have rr := HRR.out
      rw [HTK.out] at rr
      have HRS := Lib.hid (rr.rref.rwS HBR.out)
      have HHW := Lib.hid (H.out.keep HBW.out)
      have hkr := HKR.out
      obtain ⟨z0, z1, z2, z3⟩ := cells_four hkr
      have HBZ := Lib.hid HBW.out
      clear rr hkr hlt hi HRR HBR HTK HBW
      by_cases h30 : 30 < n
      · have h30' : (30 : Int) < (n : Int) := by omega
        clear h30
        go_wp2_with fail
        refine wp_region_shapes (fun ix => ([.val (.slice p n c), .val (.int .i64 (n : Nat)), .val (.bool true), .val (.bool true), .val (undef), .val (undef), .val (undef), .val (undef), .val (undef), .val (undef), .val (undef), .val (.bool true), .val (.bool true)][ix]?).getD (.any)) 47 rfl (by kernel_rfl) (by decide +kernel) (by decide +kernel) (by decide +kernel) ?_ ?_
        · refine ⟨?_, ?_, ?_, ?_, ?_, ?_, ?_, ?_, ?_, ?_, ?_, ?_, ?_, trivial⟩
          · intro a W hb0 hs hp hi; have hb := undrew hb0; clear hb0
            have t1 : sl a 1 = .slice p n c := hi 1 (by decide)
            exact ite_y rfl (wp_val (sl a 1) rfl ⟨_, rfl, Below.refl _ _, t1⟩)
          · intro a W hb0 hs hp hi; have hb := undrew hb0; clear hb0
            have t35 : sl a 35 = .slice p n c := hp 0 (by decide)
            refine ite_y rfl (wp_val (.int .i64 (n : Nat)) ?_ ?_)
            · simp only [execOp, resolve, List.map_toArray, List.map, eval_tmp, eval_func, eval_const, t35]; simp [go_sem]
            · exact ⟨_, rfl, Below.refl _ _, rfl⟩
          · intro a W hb0 hs hp hi; have hb := undrew hb0; clear hb0
            have t36 : sl a 36 = .int .i64 (n : Nat) := hp 1 (by decide)
            refine ite_y rfl (wp_val (.bool true) ?_ ?_)
            · simp only [execOp, eval_tmp, eval_const, t36]; simp [go_sem, h30']
            · exact ⟨_, rfl, Below.refl _ _, rfl⟩
          · intro a W hb0 hs hp hi; have hb := undrew hb0; clear hb0
            have t37 : sl a 37 = .bool true := hp 2 (by decide)
            exact ite_y rfl (wp_val (sl a 37) rfl ⟨_, rfl, Below.refl _ _, t37⟩)
          · intro a W hb0 hs hp hi; have hb := undrew hb0; clear hb0
            have tg : sl a 38 = .bool true := hp 3 (by decide)
            exact ite_n (wanted_no rfl rfl (by have hz : a.tmps.size = 47 := hs; rw [hz]; decide) tg (by decide)) rfl
          · intro a W hb0 hs hp hi; have hb := undrew hb0; clear hb0
            have tg : sl a 38 = .bool true := hp 3 (by decide)
            exact ite_n (wanted_no rfl rfl (by have hz : a.tmps.size = 47 := hs; rw [hz]; decide) tg (by decide)) rfl
          · intro a W hb0 hs hp hi; have hb := undrew hb0; clear hb0
            have tg : sl a 38 = .bool true := hp 3 (by decide)
            exact ite_n (wanted_no rfl rfl (by have hz : a.tmps.size = 47 := hs; rw [hz]; decide) tg (by decide)) rfl
          · intro a W hb0 hs hp hi; have hb := undrew hb0; clear hb0
            have tg : sl a 38 = .bool true := hp 3 (by decide)
            exact ite_n (wanted_no rfl rfl (by have hz : a.tmps.size = 47 := hs; rw [hz]; decide) tg (by decide)) rfl
          · intro a W hb0 hs hp hi; have hb := undrew hb0; clear hb0
            have tg : sl a 38 = .bool true := hp 3 (by decide)
            exact ite_n (wanted_no rfl rfl (by have hz : a.tmps.size = 47 := hs; rw [hz]; decide) tg (by decide)) rfl
          · intro a W hb0 hs hp hi; have hb := undrew hb0; clear hb0
            have tg : sl a 38 = .bool true := hp 3 (by decide)
            exact ite_n (wanted_no rfl rfl (by have hz : a.tmps.size = 47 := hs; rw [hz]; decide) tg (by decide)) rfl
          · intro a W hb0 hs hp hi; have hb := undrew hb0; clear hb0
            have tg : sl a 38 = .bool true := hp 3 (by decide)
            exact ite_n (wanted_no rfl rfl (by have hz : a.tmps.size = 47 := hs; rw [hz]; decide) tg (by decide)) rfl
          · intro a W hb0 hs hp hi; have hb := undrew hb0; clear hb0
            have t38 : sl a 38 = .bool true := hp 3 (by decide)
            have t45 : sl a 45 = undef := hp 10 (by decide)
            refine ite_y rfl (wp_val (.bool true) ?_ ?_)
            · simp only [execOp, eval_tmp, eval_const, t38, t45]; simp [go_sem]
            · exact ⟨_, rfl, Below.refl _ _, rfl⟩
          · intro a W hb0 hs hp hi; have hb := undrew hb0; clear hb0
            have t46 : sl a 46 = .bool true := hp 11 (by decide)
            exact ite_y rfl (wp_val (sl a 46) rfl ⟨_, rfl, Below.refl _ _, t46⟩)
        intro a w7 hb hs hd hI ht
        have ha := act_is [35, 36, 37, 38, 39, 40, 41, 42, 43, 44, 45, 46, 4] hs hd ht (by decide)
        have t4 : sl a 4 = .bool true := hI 12 (by decide)
        simp only [List.foldl, t4] at ha
        generalize sl a 35 = u35 at ha
        generalize sl a 36 = u36 at ha
        generalize sl a 37 = u37 at ha
        generalize sl a 38 = u38 at ha
        generalize sl a 39 = u39 at ha
        generalize sl a 40 = u40 at ha
        generalize sl a 41 = u41 at ha
        generalize sl a 42 = u42 at ha
        generalize sl a 43 = u43 at ha
        generalize sl a 44 = u44 at ha
        generalize sl a 45 = u45 at ha
        generalize sl a 46 = u46 at ha
        simp only [Act.put, List.setIfInBounds_toArray, List.set_cons_zero, List.set_cons_succ] at ha
        rw [ha]
        clear ha hI ht
        have HBQ := Lib.hid (bl HBZ.out hb HBZ.out.size)
        clear hb
        go_wp2
        go_ret
        exact ⟨rfl, HBQ.out⟩
      · have h30' : (n : Int) ≤ 30 := by omega
        clear h30
        go_wp2_with fail
        refine wp_region_shapes (fun ix => ([.val (.slice p n c), .val (.int .i64 (n : Nat)), .val (.bool false), .val (.bool false), .val (.agg #[.int .i64 l, .int .i64 s, .int .i64 k, .int .u32 d]), .val (.slice p n c), (ShZs (auS l s k L)), .val (.agg #[.int .i64 l, .int .i64 s, .int .i64 k, .int .u32 d]), .val (.slice qs n cs), (ShZs (auS l s k L)), .val (.bool true), .val (.bool true), .val (.bool true)][ix]?).getD (.any)) 47 rfl (by kernel_rfl) (by decide +kernel) (by decide +kernel) (by decide +kernel) ?_ ?_
        · refine ⟨?_, ?_, ?_, ?_, ?_, ?_, ?_, ?_, ?_, ?_, ?_, ?_, ?_, trivial⟩
          · intro a W hb0 hs hp hi; have hb := undrew hb0; clear hb0
            have t1 : sl a 1 = .slice p n c := hi 1 (by decide)
            exact ite_y rfl (wp_val (sl a 1) rfl ⟨_, rfl, Below.refl _ _, t1⟩)
          · intro a W hb0 hs hp hi; have hb := undrew hb0; clear hb0
            have t35 : sl a 35 = .slice p n c := hp 0 (by decide)
            refine ite_y rfl (wp_val (.int .i64 (n : Nat)) ?_ ?_)
            · simp only [execOp, resolve, List.map_toArray, List.map, eval_tmp, eval_func, eval_const, t35]; simp [go_sem]
            · exact ⟨_, rfl, Below.refl _ _, rfl⟩
          · intro a W hb0 hs hp hi; have hb := undrew hb0; clear hb0
            have t36 : sl a 36 = .int .i64 (n : Nat) := hp 1 (by decide)
            refine ite_y rfl (wp_val (.bool false) ?_ ?_)
            · simp only [execOp, eval_tmp, eval_const, t36]; simp [go_sem, h30']
            · exact ⟨_, rfl, Below.refl _ _, rfl⟩
          · intro a W hb0 hs hp hi; have hb := undrew hb0; clear hb0
            have t37 : sl a 37 = .bool false := hp 2 (by decide)
            exact ite_y rfl (wp_val (sl a 37) rfl ⟨_, rfl, Below.refl _ _, t37⟩)
          · intro a W hb0 hs hp hi; have hb := undrew hb0; clear hb0
            have tg : sl a 38 = .bool false := hp 3 (by decide)
            have tt : sl a 2 = .pointer (some ⟨gp, 0, none⟩) := hi 2 (by decide)
            have dd0 := (hb.cell (p := ⟨gp, 0, none⟩) (lt_of_cell z0)).trans z0
            have dd1 := (hb.cell (p := ⟨gp, 1, none⟩) (lt_of_cell z1)).trans z1
            have dd2 := (hb.cell (p := ⟨gp, 2, none⟩) (lt_of_cell z2)).trans z2
            have dd3 := (hb.cell (p := ⟨gp, 3, none⟩) (lt_of_cell z3)).trans z3
            refine ite_y (wanted_yes rfl rfl (by have hz : a.tmps.size = 47 := hs; rw [hz]; decide) tg) (wp_val (.agg #[.int .i64 l, .int .i64 s, .int .i64 k, .int .u32 d]) ?_ ?_)
            · simp only [execOp, eval_tmp, tt]; simp [go_sem, dd0, dd1, dd2, dd3]
            · exact ⟨_, rfl, Below.refl _ _, rfl⟩
          · intro a W hb0 hs hp hi; have hb := undrew hb0; clear hb0
            have tg : sl a 38 = .bool false := hp 3 (by decide)
            have t1 : sl a 1 = .slice p n c := hi 1 (by decide)
            exact ite_y (wanted_yes rfl rfl (by have hz : a.tmps.size = 47 := hs; rw [hz]; decide) tg) (wp_val (sl a 1) rfl ⟨_, rfl, Below.refl _ _, t1⟩)
          · intro a W hb0 hs hp hi; have hb := undrew hb0; clear hb0
            have tg : sl a 38 = .bool false := hp 3 (by decide)
            have t39 : sl a 39 = .agg #[.int .i64 l, .int .i64 s, .int .i64 k, .int .u32 d] := hp 4 (by decide)
            have t40 : sl a 40 = .slice p n c := hp 5 (by decide)
            refine ite_y (wanted_yes rfl rfl (by have hz : a.tmps.size = 47 := hs; rw [hz]; decide) tg) (wp_enter 56 #[.agg #[.int .i64 l, .int .i64 s, .int .i64 k, .int .u32 d], .slice p n c] ?_ (AuRows_any l s k d p n c L W (HHW.out.keep hb) HL2.out) ?_)
            · simp only [execOp, resolve, List.map_toArray, List.map, eval_tmp, eval_func, eval_const, t39, t40]; simp [go_sem]
            · rintro e W' ⟨q5, g5, rfl, hz, hw⟩; exact ⟨_, rfl, _, rfl, hw, q5, _, g5, rfl, hz⟩
          · intro a W hb0 hs hp hi; have hb := undrew hb0; clear hb0
            have tg : sl a 38 = .bool false := hp 3 (by decide)
            have tt : sl a 2 = .pointer (some ⟨gp, 0, none⟩) := hi 2 (by decide)
            have dd0 := (hb.cell (p := ⟨gp, 0, none⟩) (lt_of_cell z0)).trans z0
            have dd1 := (hb.cell (p := ⟨gp, 1, none⟩) (lt_of_cell z1)).trans z1
            have dd2 := (hb.cell (p := ⟨gp, 2, none⟩) (lt_of_cell z2)).trans z2
            have dd3 := (hb.cell (p := ⟨gp, 3, none⟩) (lt_of_cell z3)).trans z3
            refine ite_y (wanted_yes rfl rfl (by have hz : a.tmps.size = 47 := hs; rw [hz]; decide) tg) (wp_val (.agg #[.int .i64 l, .int .i64 s, .int .i64 k, .int .u32 d]) ?_ ?_)
            · simp only [execOp, eval_tmp, tt]; simp [go_sem, dd0, dd1, dd2, dd3]
            · exact ⟨_, rfl, Below.refl _ _, rfl⟩
          · intro a W hb0 hs hp hi; have hb := undrew hb0; clear hb0
            have tg : sl a 38 = .bool false := hp 3 (by decide)
            have t5 : sl a 5 = .slice qs n cs := hi 5 (by decide)
            exact ite_y (wanted_yes rfl rfl (by have hz : a.tmps.size = 47 := hs; rw [hz]; decide) tg) (wp_val (sl a 5) rfl ⟨_, rfl, Below.refl _ _, t5⟩)
          · intro a W hb0 hs hp hi; have hb := undrew hb0; clear hb0
            have tg : sl a 38 = .bool false := hp 3 (by decide)
            have t42 : sl a 42 = .agg #[.int .i64 l, .int .i64 s, .int .i64 k, .int .u32 d] := hp 7 (by decide)
            have t43 : sl a 43 = .slice qs n cs := hp 8 (by decide)
            refine ite_y (wanted_yes rfl rfl (by have hz : a.tmps.size = 47 := hs; rw [hz]; decide) tg) (wp_enter 57 #[.agg #[.int .i64 l, .int .i64 s, .int .i64 k, .int .u32 d], .slice qs n cs] ?_ (RRows28_any l s k d qs n cs L W (HRS.out.keep hb) HL2.out) ?_)
            · simp only [execOp, resolve, List.map_toArray, List.map, eval_tmp, eval_func, eval_const, t42, t43]; simp [go_sem]
            · rintro e W' ⟨q5, g5, rfl, hz, hw⟩; exact ⟨_, rfl, _, rfl, hw, q5, _, g5, rfl, hz⟩
          · intro a W hb0 hs hp hi; have hb := undrew hb0; clear hb0
            have tg : sl a 38 = .bool false := hp 3 (by decide)
            have t41 : ZsT (auS l s k L) (sl a 41) W := hp 6 (by decide)
            obtain ⟨y41a, y41b, y41c, t41, z41a⟩ := t41
            have t44 : ZsT (auS l s k L) (sl a 44) W := hp 9 (by decide)
            obtain ⟨y44a, y44b, y44c, t44, z44a⟩ := t44
            refine ite_y (wanted_yes rfl rfl (by have hz : a.tmps.size = 47 := hs; rw [hz]; decide) tg) (wp_enter 55 #[.slice y41a y41b y41c, .slice y44a y44b y44c] ?_ (EqZ_any _ _ _ _ _ _ (auS l s k L) (auS l s k L) W z41a z44a) ?_)
            · simp only [execOp, resolve, List.map_toArray, List.map, eval_tmp, eval_func, eval_const, t41, t44]; simp [go_sem]
            · rintro e W' ⟨rfl, hw⟩; rw [decide_eq_true rfl]; exact ⟨_, rfl, _, rfl, hw, rfl⟩
          · intro a W hb0 hs hp hi; have hb := undrew hb0; clear hb0
            have t38 : sl a 38 = .bool false := hp 3 (by decide)
            have t45 : sl a 45 = .bool true := hp 10 (by decide)
            refine ite_y rfl (wp_val (.bool true) ?_ ?_)
            · simp only [execOp, eval_tmp, eval_const, t38, t45]; simp [go_sem]
            · exact ⟨_, rfl, Below.refl _ _, rfl⟩
          · intro a W hb0 hs hp hi; have hb := undrew hb0; clear hb0
            have t46 : sl a 46 = .bool true := hp 11 (by decide)
            exact ite_y rfl (wp_val (sl a 46) rfl ⟨_, rfl, Below.refl _ _, t46⟩)
        intro a w7 hb hs hd hI ht
        have ha := act_is [35, 36, 37, 38, 39, 40, 41, 42, 43, 44, 45, 46, 4] hs hd ht (by decide)
        have t4 : sl a 4 = .bool true := hI 12 (by decide)
        simp only [List.foldl, t4] at ha
        generalize sl a 35 = u35 at ha
        generalize sl a 36 = u36 at ha
        generalize sl a 37 = u37 at ha
        generalize sl a 38 = u38 at ha
        generalize sl a 39 = u39 at ha
        generalize sl a 40 = u40 at ha
        generalize sl a 41 = u41 at ha
        generalize sl a 42 = u42 at ha
        generalize sl a 43 = u43 at ha
        generalize sl a 44 = u44 at ha
        generalize sl a 45 = u45 at ha
        generalize sl a 46 = u46 at ha
        simp only [Act.put, List.setIfInBounds_toArray, List.set_cons_zero, List.set_cons_succ] at ha
        rw [ha]
        clear ha hI ht
        have HBQ := Lib.hid (bl HBZ.out hb HBZ.out.size)
        clear hb
        go_wp2
        go_ret
        exact ⟨rfl, HBQ.out⟩
end Go.Proofs.YtccaiiigdfieoaaGreatDoor
namespace Go.By
open Go.RowKit
end Go.By
namespace Go.Proofs.YtccaiiigdfieoaaGreatDoor
open Go.RowKit Go.By Go.ChangeShapes Go.WideShapes Go.Deep
section
variable {H : Type} {enc : TypeId × Value → H} {P : Program} {w : World} {base : Nat} {held : Bool}
theorem open_vrows {t e q : TypeId} {f0 f1 : Field} {p : Option Addr} {n c jj : Nat} {d : DataW H} {pl : List MemPlace} {ts : List TypeId} {ds : List (DataW H)} (ht : P.underlying t = some (.slice e)) (he : P.underlying e = some (.struct #[f0, f1])) (hone : oneCellFields P #[f0, f1] = true) (hC : P.cellsOf e = 2)
    (h0 : P.underlying f0.type = some (.slice q)) (h1 : P.underlying f1.type = some (.slice q)) (hq : P.underlying q = some (.int .u8)) (cq : P.cellsOf q = 1) (be : P.bytesOf e = 48)
    (h : DataW.Trod enc P w base (fun _ => true) held t (.slice p n c) d pl) (hsz : (DataW.weightsEach P ts ds).all (· ≤ reachBytes) = true) (hts : ts[jj]? = some t) (hds : ds[jj]? = some d) :
    ∃ K, RwS w p n c K ∧ n * 48 ≤ 140737488355328 := by
  obtain ⟨fuel, hf⟩ := h
  obtain ⟨p', n', c', K, hcs, hs⟩ := open_ones ht he hone hC h0 h1 hq cq hf
  simp [Value.cells] at hcs
  obtain ⟨rfl, rfl, rfl⟩ := hcs
  refine ⟨K, hs, ?_⟩
  rcases open_slice ht hf with ⟨hcs, _⟩ | ⟨a, len, cap, m, k, D, Pl, hcs, hb, hl, hm, hmm, hx, _⟩
  · simp [Value.cells] at hcs
    omega
  · simp [Value.cells] at hcs
    obtain ⟨_, rfl, _⟩ := hcs
    simp only [Prod.mk.injEq] at hx
    have hd := hx.1
    subst hd
    have := sized_slice hsz hts hds ht
    rw [be] at this
    simp only [List.length_map, List.length_range, reachBytes] at this
    omega
end
end Go.Proofs.YtccaiiigdfieoaaGreatDoor
namespace Go.Proofs.YtccaiiigdfieoaaGreatDoor
open Go.RowKit Go.By
theorem no_table {l : List (String × DataW Unit)} {W : World} (_h : laidMet Tryz.prog l W) : True := trivial
end Go.Proofs.YtccaiiigdfieoaaGreatDoor
