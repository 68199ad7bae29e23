/- Chapter 25: ViewRight,of whatever comes. Arguments that came in: slices of byte slices. The library's table of powers of ten,out of the row's condition. The table of the sum,out of the row's condition. What the library's variables hold,for keep: out of the row's condition. -/
import Derived.Test.YtccaiiigdfieoaaGreatDoorZm9
import Derived.OpenShut
import Derived.Deep.Matrix
import Derived.Test.YtccaiiigdfieoaaGreatDoorRows
import Derived.Lib.LaidTab
import Derived.Stop.LaidErr
namespace Go.Proofs.YtccaiiigdfieoaaGreatDoor
open Go.RowKit Go.By Go.Maps
set_option maxRecDepth 100000 in
set_option maxHeartbeats 4000000 in
theorem ViewRight_out (q0:Option Addr) (n0 c0:Nat) (o:List UInt8) (s d:Int) (p1:Option Addr) (n1 c1:Nat) (w:World) (h0:Sl B8 w q0 n0 c0 o) (hT:Tab10 w)
  (b1:n1≤9223372036854775807) (hx:¬ (fitS n0 s = 0∧small19 n0 s (needS n0 s) = true∧n1≤20)) :
  Calls Tryz.prog 6 #[.slice q0 n0 c0,.int .i64 s,.int .u32 d,.slice p1 n1 c1] w fun e w'=>e = .returned (.bool true)∧Below w.heap.size w w':=by
 have hn0:=h0.bound
 have HT:=Lib.hid hT
 have HOf:=Lib.hid (fun w=>POf_any (n0:Int) s d w (by omega))
 have HSm:=Lib.hid (fun w=>Small19_any (n0:Int) s (needS n0 s) d w (by omega))
 clear hT h0
 by_cases hf:fitS n0 s = 0
 ·have hof:ofS (n0:Int) s d = .tuple #[.agg #[.int .i64 n0,.int .i64 s,.int .i64 (needS n0 s),.int .u32 d],.int .i64 0]:=by unfold ofS;rw [if_pos hf]
  rw [hof] at HOf
  generalize small19 n0 s (needS n0 s) = S at *
  generalize needS n0 s = k at *
  cases S with
  | false =>
   clear hx hf hof
   go_enter Tryz.func6,Tryz.ntmps6
   go_wp2_with fail
   refine Calls.mono (awake25 _ HT.out) ?_
   rintro e wa ⟨rfl,hb⟩
   have HBa:=Lib.hid hb
   clear hb
   go_wp2_with fail
   refine Calls.mono (HOf.out _) ?_
   rintro e wb ⟨rfl,hb⟩
   have HBb:=Lib.hid (bl HBa.out hb HBa.out.size)
   clear hb HBa
   go_wp2_with fail
   refine Calls.mono (HSm.out _) ?_
   rintro e wc ⟨rfl,hb⟩
   have HBc:=Lib.hid (bl HBb.out (one_of hb).1 HBb.out.size)
   clear hb HBb
   go_wp2
   go_ret
   exact ⟨rfl,HBc.out⟩
  | true =>
   have h2:(20:Int) < (n1:Int):=by
    have:¬ n1≤20:=fun h=>hx ⟨hf,rfl,h⟩
    omega
   clear hx hf hof
   go_enter Tryz.func6,Tryz.ntmps6
   go_wp2_with fail
   refine Calls.mono (awake25 _ HT.out) ?_
   rintro e wa ⟨rfl,hb⟩
   have HBa:=Lib.hid hb
   clear hb
   go_wp2_with fail
   refine Calls.mono (HOf.out _) ?_
   rintro e wb ⟨rfl,hb⟩
   have HBb:=Lib.hid (bl HBa.out hb HBa.out.size)
   clear hb HBa
   go_wp2_with fail
   refine Calls.mono (HSm.out _) ?_
   rintro e wc ⟨rfl,hb⟩
   have HBc:=Lib.hid (bl HBb.out (one_of hb).1 HBb.out.size)
   clear hb HBb
   go_wp2
   go_ret
   exact ⟨rfl,HBc.out⟩
 ·have hz:(fitS n0 s != 0) = true:=bne_iff_ne.2 hf
  rw [of_none hf] at HOf
  clear hx hf HSm
  generalize fitS n0 s = F at *
  go_enter Tryz.func6,Tryz.ntmps6
  go_wp2_with fail
  refine Calls.mono (awake25 _ HT.out) ?_
  rintro e wa ⟨rfl,hb⟩
  have HBa:=Lib.hid hb
  clear hb
  go_wp2_with fail
  refine Calls.mono (HOf.out _) ?_
  rintro e wb ⟨rfl,hb⟩
  have HBb:=Lib.hid (bl HBa.out hb HBa.out.size)
  clear hb HBa
  go_wp2
  go_ret
  exact ⟨rfl,al HBb.out HBb.out.size⟩
theorem ViewRight_any (q0:Option Addr) (n0 c0:Nat) (o:List UInt8) (s d:Int) (p1:Option Addr) (n1 c1:Nat) (srcs:List SrcD) (w:World) (h0:Sl B8 w q0 n0 c0 o) (_w1:(Lit.int .i64 s).wf = true) (w2:(Lit.int .u32 d).wf = true) (h1:SlS w p1 n1 c1 srcs) (hK:Tab10 w∧HalfT w) :
  Calls Tryz.prog 6 #[.slice q0 n0 c0,.int .i64 s,.int .u32 d,.slice p1 n1 c1] w fun e w'=>e = .returned (.bool true)∧Below w.heap.size w w':=by
 have hd:=Go.bounds_u32 w2
 obtain ⟨hX,hT⟩:=hK
 by_cases hx:fitS n0 s = 0∧small19 n0 s (needS n0 s) = true∧n1≤20
 ·obtain ⟨hf,hsm,hn1⟩:=hx
  obtain ⟨t,k,D,rfl,rfl,hO,hof⟩:=of_obj (n:=n0) hf (by have:=h0.bound;omega) hd.1 (by omega)
  have hk:needS (n0:Int) (t:Int) = (k:Int):=by
   have:=hO.ok.chk
   unfold checkS at this
   rw [if_pos hf] at this
   by_cases h:(k:Int) = needS n0 t
   ·exact h.symm
   ·rw [if_neg h] at this;cases this
  rw [hk] at hsm
  have hkt:k≤12∧t≤20:=by
   have h:=hsm
   unfold small19 at h
   rw [if_pos hO.ok.chk,Bool.and_eq_true] at h
   have h1:=of_decide_eq_true h.1
   have h2:=of_decide_eq_true h.2
   omega
  exact ViewRight_core n0 t k D q0 c0 o p1 n1 c1 srcs w hO h0 h1 hT hX hkt.1 hkt.2 hn1 hof hsm
 ·exact ViewRight_out q0 n0 c0 o s d p1 n1 c1 w h0 hX h1.bound hx
end Go.Proofs.YtccaiiigdfieoaaGreatDoor
namespace Go.By
open Go.RowKit
end Go.By
namespace Go.Proofs.YtccaiiigdfieoaaGreatDoor
open Go.RowKit Go.By
theorem tab10_of {d32 d64 : DataW Unit} {rest : List (String × DataW Unit)} {W : World} (h : laidMet Tryz.prog (("math/bits.deBruijn32tab", d32) :: ("math/bits.deBruijn64tab", d64) :: ("internal/strconv.uint64pow10", Rows.laid_internal_strconv_uint64pow10) :: rest) W) : Tab10 W := by
 have hz:(Rows.laid_internal_strconv_uint64pow10:DataW Unit) = Lib.tabData .u64 Lib.pow10Tab:=rfl
 have h2:=laidMet.tail (laidMet.tail h)
 rw [hz] at h2
 exact Lib.tabIs_of_head (g:=2) (t:=323) (e:=81) (n:=20) (by kernel_rfl) (by kernel_rfl) (by kernel_rfl) (by kernel_rfl) (by kernel_rfl) (by kernel_rfl) h2
end Go.Proofs.YtccaiiigdfieoaaGreatDoor
namespace Go.Proofs.YtccaiiigdfieoaaGreatDoor
open Go.RowKit Go.By
theorem halves_of {rest : List (String × DataW Unit)} {W : World} (h : laidMet Tryz.prog (("wellspring/sum.halves", Rows.laid_wellspring_sum_halves) :: rest) W) : HalfT W := by
 obtain ⟨zs,hz,hzl,hzc⟩:∃ zs:List Int,(Rows.laid_wellspring_sum_halves:DataW Unit) = Lib.tabData .u32 zs∧zs.length = 16∧∀ i,i < 16→zs.getD i 0 = ((crcTab.getD i 0:Nat):Int):=⟨[0,498536548,997073096,651767980,1994146192,1802195444,1303535960,1342533948,3988292384,4027552580,3604390888,3412177804,2607071920,2262029012,2685067896,3183342108],rfl,rfl,by decide⟩
 rw [hz] at h
 have h3:=Lib.tabIs_of_head (g:=0) (t:=304) (e:=23) (n:=16) (by kernel_rfl) (by kernel_rfl) (by kernel_rfl) (by kernel_rfl) (by kernel_rfl) (by kernel_rfl) h
 intro i hi
 have:=h3.cell (g:=0) (by kernel_rfl) i (by omega)
 rw [hzc i hi] at this
 exact this
end Go.Proofs.YtccaiiigdfieoaaGreatDoor
namespace Go.Proofs.YtccaiiigdfieoaaGreatDoor
open Go.RowKit Go.By
theorem keep_of {d32 d64 : DataW Unit} {rest : List (String × DataW Unit)} {W : World} (h : laidMet Tryz.prog (("math/bits.deBruijn32tab", d32) :: ("math/bits.deBruijn64tab", d64) :: ("internal/strconv.uint64pow10", Rows.laid_internal_strconv_uint64pow10) :: ("wellspring/sum.halves", Rows.laid_wellspring_sum_halves) :: rest) W) : Tab10 W ∧ HalfT W := ⟨tab10_of h, halves_of (laidMet.tail (laidMet.tail (laidMet.tail h)))⟩
end Go.Proofs.YtccaiiigdfieoaaGreatDoor
