/- Chapter 12: the reference's Fill,of numbers that are each known once. A row of one's own of which every cell,the spare ones too,is told: appends leave other slices' cells alone. A sender and a taker in memory,carried along. The contracts of the document's sum: Put,Sum (bit by bit). Plain law: a packet of which one stretch of four bytes has turned is not let in. What TakerHas,TripRuns,TripArrives carry: rows of bytes that grow; a sender that may refuse. Arguments that came in,as bytes and slices of bytes. Slices of structs of two slices of bytes,that came in. Sources that came in: a slice of structs of a byte,bytes and a number,opened. What the laws of the packets ask first: few bytes,small plans. Chapter 19: TakerHas,of an object that the plan fits. The contracts of slices.Delete and slices.Insert at parcels. The contract of slices.Insert at parcels: one more,where there is room. Lists of parcels that the call owns: each owns its bytes,no two share them. The contracts of the acts: drop,move,forge. The contract of the act move. The contract of the act double. The contract of the act cut. One cell of a parcel is written: its bytes,or where it came from. The contract of the act mask. What acts do to lists of packets; acts that came in,read from memory. Acts that came in: a slice of structs of five cells,and one by value,opened. The contract of play. The contracts of Apply and Whole. The contracts of Whole,of slices.Equal at ints,of Harms; of the law's Few; the chapter's example. The contract of the law's Few of layer 20; the chapter's example. The plain law of WayWhole: what came whole is what was sent; acts that harm nothing leave all whole; acts one by one are as all at once. Chapter 22: what a trip comes to (plain); what a sender and a taker carry along while other blocks turn. Where equations first clash: plain law. A row of headers that read in an older world; vectors of rows. Where equations first clash. The reference's Vectors. The reference's Wide. The reference's Judge. Chapter 19,plain: the equations that the document keeps,and a taker's rows; how they lie in memory. Chapter 19: what TakerTakes leans on: Seen of any gate; equal lists of bools; the object of one that is done. The document's mixing: shifted,Next,Bytes (chapter 5). A region that draws its order,in which one whole row is stored: all else is told values (calls that change nothing among them). -/
import Derived.Test.YtfbmdlfkipipfaaGreatDoorZf9
import Derived.Deep.QuietTactic
import Derived.BigQuiet
import Derived.OpenShut
import Derived.Lib.SmallJoins
import Derived.Deep.DeepCutAuto
import Derived.Deep.RegionLaw
import Derived.Lib.Overlaps
import Derived.Shelf.Spec.SlicesInsert
import Derived.Lib.AppendZeros
import Derived.Deep.AppendLies
import Derived.Deep.RegionWith
namespace Go.Proofs.YtfbmdlfkipipfaaGreatDoor
open Go.RowKit Go.By Go.Maps
theorem grown_sameZ {B T e n : Nat} {w w' : World} {v : Value} {ys : List Value} (ho : w.ownsRow B T e v n ys) (hg : w.grownBy w' v.ownBlock) {T' : Nat} (hne : T ≠ T') : ∀ (b : Nat) (cs : Array Value) (fr : Nat × Nat),w.heap[b]? = some (.cells cs T' fr) → w'.heap[b]? = w.heap[b]? := fun b cs fr hb => by
 rcases ho.2 with ⟨e1,_⟩ | ⟨g,cap,cur,e1,hgb,hh,_⟩
 ·exact hg.block b (lt_of_block hb) (fun e => by rw [e1] at e; cases e)
 ·refine hg.block b (lt_of_block hb) (fun e => ?_)
  rw [e1] at e; cases e
  rw [hh] at hb; injection hb with hb; injection hb with _ hb _; exact hne hb
theorem owns_otherZ {B B' T T' e e' n n' : Nat} {w w' : World} {v v' : Value} {ys ys' : List Value} (hA : w.ownsRow B T e v n ys) (hg : w.grownBy w' v.ownBlock) (hB : w.ownsRow B' T' e' v' n' ys') (hne : T ≠ T') : w'.ownsRow B' T' e' v' n' ys' := owns_same hB hg.size (fun g hgB => by
 rcases hB.2 with ⟨e1,_⟩ | ⟨g',cap,cur,e1,hgb,hh,_⟩
 ·rw [e1] at hgB; cases hgB
 ·rw [e1] at hgB; cases hgB
  exact grown_sameZ hA hg hne _ _ _ hh)
abbrev encN (i : Nat) : Value := .int .i64 (i : Int)
set_option maxRecDepth 100000 in
theorem slice_fromZ {q : Option Addr} {n c k : Nat} {o : List Nat} {w : World} (h : Sl encN w q n c o) (hk : k ≤ n) : ∃ q' c',(∀ W,(Instr.sliceAt 109 (.slice q n c) (some (.int .i64 (k : Int))) none none).run Tryz.prog W = .ok (.slice q' (n - k) c') W) ∧ Sl encN w q' (n - k) c' (o.drop k) := by
 have hel : Tryz.prog.underlying 109 = some (.slice (Tryz.prog.elem 109)) := by simp [Program.elem,Tryz.underlying109]
 refine ⟨if c = k then q else q.map (·.add k),c - k,fun W => ?_,?_⟩
 ·rw [run_sliceAt_slice (h := hel),run_slice_l (ht := hel) (h0 := by omega) (h1 := by omega)]
  clear hel
  go_simp
 ·have hle := h.le
  by_cases hc : c = k
  ·rw [if_pos hc]
   have hn : n = k := by omega
   have e : o.drop k = [] := List.drop_eq_nil_of_le (by rw [h.len]; omega)
   rw [e,hn,Nat.sub_self]
   refine ⟨rfl,by omega,by have := h.max; omega,fun hq => ⟨rfl,?_⟩,fun i hi => absurd hi (by simp)⟩
   have := h.nil hq; omega
  ·rw [if_neg hc]
   cases q with
   | none =>
    obtain ⟨e1,e2⟩ := h.nil rfl
    omega
   | some ad => exact Sl.drop_at h hk
def accK (t : Nat) (ns : List Nat) (a i : Nat) : Bool := (ns.take i).contains (a / t)
def accB (t : Nat) (P : Nat → List UInt8) (ns : List Nat) (a i : Nat) : UInt8 := if accK t ns a i = true then (P (a / t)).getD (a % t) 0 else 0
theorem accK_succ {t : Nat} {ns : List Nat} {i x : Nat} (hx : ns[i]? = some x) (a : Nat) : accK t ns a (i + 1) = (accK t ns a i || decide (a / t = x)) := take_has hx (a / t)
theorem acc_no {t : Nat} {P : Nat → List UInt8} {ns : List Nat} {i x a : Nat} (hx : ns[i]? = some x) (h : ¬ a / t = x) : accK t ns a (i + 1) = accK t ns a i ∧ accB t P ns a (i + 1) = accB t P ns a i := by
 have e : accK t ns a (i + 1) = accK t ns a i := by rw [accK_succ hx,decide_eq_false h,Bool.or_false]
 exact ⟨e,by unfold accB; rw [e]⟩
theorem acc_yes {t : Nat} {P : Nat → List UInt8} {ns : List Nat} {i x a : Nat} (hx : ns[i]? = some x) (h : a / t = x) : accK t ns a (i + 1) = true ∧ accB t P ns a (i + 1) = (P x).getD (a % t) 0 := by
 have e : accK t ns a (i + 1) = true := by rw [accK_succ hx,decide_eq_true h,Bool.or_true]
 exact ⟨e,by unfold accB; rw [if_pos e,h]⟩
theorem wrap_quo {a t : Nat} (h : a ≤ 1000000) : wrap64 ((a : Int) / (t : Int)) = ((a / t : Nat) : Int) := by
 have h1 : ((a : Int) / (t : Int)) = ((a / t : Nat) : Int) := by simp
 have h2 : a / t ≤ a := Nat.div_le_self a t
 generalize a / t = z at *
 rw [h1]; unfold wrap64; omega
theorem rem_nat (a t : Nat) : Int.tmod (a : Int) (t : Int) = ((a % t : Nat) : Int) := by rw [Int.tmod_eq_emod_of_nonneg (by omega)]; simp
theorem info_bool12 : (Tryz.prog.info? 4).map (fun i => (i.zero,i.size,i.bytes)) = some (some (.bool false),1,1) := by kernel_rfl
set_option maxRecDepth 100000 in
set_option maxHeartbeats 4000000 in
theorem RFill12_any (L t k D : Nat) (q : Option Addr) (n c : Nat) (q2 : Option Addr) (c2 : Nat) (S : Nat → Bool) (P : Nat → List UInt8) (ns : List Nat) (w : World) (hP : POK L t k D) (hN : Sl encN w q n c ns) (hX : Sl2 w q2 n c2 (ns.map P)) (hns : ∀ i,i ∈ ns ↔ i < k ∧ S i = true) (hPl : ∀ i,S i = true → (P i).length = t) (hn : n ≤ 4096) (hL : L ≤ 1000000) (hlm : L ≤ k * t) :
  Calls Tryz.prog 53 #[PVal L t k D,.slice q n c,.slice q2 n c2] w fun e w' => ∃ q5 c5 q6 c6,e = .returned (.tuple #[.slice q5 L c5,.slice q6 L c6,.int .i64 0]) ∧ Sl B8 w' q5 L c5 (objL L t P S) ∧ Sl Value.bool w' q6 L c6 (toldT L (fun a => S (a / t))) ∧ Below w.heap.size w w' := by
 obtain ⟨u0,hu0,uz0,uz1,uz2⟩ := info_parts info_u8
 obtain ⟨b0,hb0,bz0,bz1,bz2⟩ := info_parts info_bool12
 have HCK : Hid (∀ w,Calls Tryz.prog 45 #[PVal L t k D] w fun e w' => e = .returned (.int .i64 0) ∧ Below w.heap.size w w') := fun w => by have := RCheck_any (L : Int) (t : Int) (k : Int) (D : Int) w hP.l; rwa [hP.chk] at this
 have HN := Lib.hid hN
 have HAT : Hid (∀ j,j < n → ∃ b o i,q = some ⟨b,o,none⟩ ∧ w.cell? ⟨b,o + j,none⟩ = some (.int .i64 (i : Nat)) ∧ ns[j]? = some i) := fun j hj => by
  obtain ⟨b,o,x,e,hc,hx⟩ := hN.at j hj
  exact ⟨b,o,x,e,hc,hx.out⟩
 have HXT : Hid (∀ j i,ns[j]? = some i → ∃ b o q' c',q2 = some ⟨b,o,none⟩ ∧ w.cell? ⟨b,o + j,none⟩ = some (.slice q' t c') ∧ Sl B8 w q' t c' (P i)) := fun j i hj => by
  have hjl := (List.getElem?_eq_some_iff.1 hj).1
  have hm := (List.mem_of_getElem? hj)
  obtain ⟨b,o,q',m,c',xs,e,hc,hs,hx⟩ := hX.at j (by rw [← hN.len]; exact hjl)
  have hx' := hx.out
  rw [List.getElem?_map,hj] at hx'
  obtain rfl : P i = xs := Option.some.inj hx'
  have hm2 : m = t := by rw [← hs.len]; exact hPl i ((hns i).1 hm).2
  subst hm2
  exact ⟨b,o,q',c',e,hc,hs⟩
 have HNS := Lib.hid hns
 have HPL := Lib.hid hPl
 have HLN : Hid (ns.length = n) := hN.len
 have ht1 := hP.t1
 have ht2 := hP.t2
 have hk2 := hP.k2
 have HLM := Lib.hid hlm
 clear hP hN hX hns hPl hlm
 go_enter Tryz.func53,Tryz.ntmps53
 go_wp2_with fail
 refine Calls.mono (HCK.out _) ?_
 rintro e w1 ⟨rfl,hb⟩
 obtain ⟨hb1,kp1,-⟩ := one_of hb
 obtain ⟨gp,hgp⟩ : ∃ gp,gp = w.heap.size := ⟨_,rfl⟩
 rw [← hgp] at kp1 ⊢
 have HB1 := Lib.hid hb1
 have HKP := Lib.hid kp1
 clear hb hb1 kp1 hgp HCK
 go_wp2
 go_loopw [12,13,32] (fun c12 c13 iv wr => ∃ j : Nat,j ≤ n ∧ c12 = .int .i64 0 ∧ c13 = .int .i64 0 ∧ iv = .int .i64 (j : Nat) ∧ Hid (Below w1.heap.size w1 wr)) (fun _ _ iv _ => n - (intOf iv).toNat)
 case atStart => exact ⟨0,Nat.zero_le _,rfl,rfl,rfl,Below.refl _ _⟩
 case round =>
  obtain ⟨j,hj,rfl,rfl,rfl,HB⟩ := hrel
  have HBW := Lib.hid (bl HB1.out HB.out HB1.out.size)
  have kpw := (HB.out.block _ (lt_of_block HKP.out)).trans HKP.out
  obtain ⟨p0,p1,p2,p3⟩ := cells_four kpw
  have HKW := Lib.hid kpw
  clear kpw
  by_cases hlt : j < n
  ·obtain ⟨b,o,i,rfl,hc,hi⟩ := HAT.out j hlt
   obtain ⟨b',o',qx,cx,rfl,hcx,-⟩ := HXT.out j i hi
   have hc1 := (HBW.out.cell (p := ⟨b,o + j,none⟩) (lt_of_cell hc)).trans hc
   have hx1 := (HBW.out.cell (p := ⟨b',o' + j,none⟩) (lt_of_cell hcx)).trans hcx
   obtain ⟨q',c',hsl,hs'⟩ := slice_fromZ (HN.out.keep HBW.out) (show j + 1 ≤ n by omega)
   have HS' := Lib.hid hs'
   have hik := ((HNS.out i).1 (List.mem_of_getElem? hi)).1
   have hik' : (i : Int) < (k : Int) := by omega
   have hi0 : (0 : Int) ≤ (i : Int) := by omega
   have hlt' : (j : Int) < (n : Int) := by omega
   have hji : (((j + 1 : Nat)) : Int) = (j : Int) + 1 := by omega
   rw [hji] at hsl
   have HLT := Lib.hid hlt
   clear hlt hs' hc hcx hi hji
   go_wp2_with (first | simp only [hsl] | fail)
   go_loopw [16,42] (fun bv iv wz => ∃ (a : Nat) (B : Bool),a ≤ n - (j + 1) ∧ bv = .bool B ∧ iv = .int .i64 (a : Nat) ∧ wz = wr) (fun _ iv _ => (n - (j + 1)) - (intOf iv).toNat)
   case atStart => exact ⟨0,true,Nat.zero_le _,rfl,rfl,rfl⟩
   case round =>
    obtain ⟨a,B,ha,rfl,rfl,rfl⟩ := hrel
    by_cases hla : a < n - (j + 1)
    ·obtain ⟨b2,o2,i2,rfl,hc2,-⟩ := HS'.out.at a hla
     have hla' : (a : Int) < ((n - (j + 1) : Nat) : Int) := by omega
     have HLA := Lib.hid hla
     clear hla
     cases B with
     | false =>
      go_wp2
      go_roundw
      case rel => exact ⟨a + 1,false,by have := HLA.out; omega,rfl,by go_num,trivial⟩
      case measure => simp [intOf]; have := HLA.out; omega
     | true =>
      go_wp2
      go_roundw
      case rel => exact ⟨a + 1,_,by have := HLA.out; omega,rfl,by go_num,trivial⟩
      case measure => simp [intOf]; have := HLA.out; omega
    ·obtain rfl : a = n - (j + 1) := by omega
     clear hla
     go_wp2
     go_quiet (fail)
     cases B with
     | false =>
      go_wp2
      go_roundw
      case rel => exact ⟨j + 1,by have := HLT.out; omega,rfl,rfl,by go_num,bdn HB.out⟩
      case measure => simp [intOf]; have := HLT.out; omega
     | true =>
      go_wp2
      go_roundw
      case rel => exact ⟨j + 1,by have := HLT.out; omega,rfl,rfl,by go_num,bdn HB.out⟩
      case measure => simp [intOf]; have := HLT.out; omega
  ·obtain rfl : j = n := by omega
   clear hlt
   have ht0 : ((t : Int) == 0) = false := by simp; omega
   have ht0n : ¬ t = 0 := by omega
   go_wp2
   go_loopw [10,11,20] (fun v10 v11 iv wz => ∃ (ia : Nat) (qa : Option Addr) (ca : Nat) (qb : Option Addr) (cb : Nat),ia ≤ L ∧ v10 = .slice qa ia ca ∧ v11 = .slice qb ia cb ∧ iv = .int .i64 (ia : Nat) ∧ Hid (wz.ownsRow w1.heap.size 5 1 (.slice qa ia ca) ia ((objL ia t P S).map B8)) ∧ Hid (wz.ownsRow w1.heap.size 4 1 (.slice qb ia cb) ia ((toldT ia (fun x => S (x / t))).map Value.bool)) ∧ Hid (Below w1.heap.size w1 wz)) (fun _ _ iv _ => L - (intOf iv).toNat)
   case atStart => exact ⟨0,none,0,none,0,Nat.zero_le _,rfl,rfl,rfl,World.ownsRow_nil _ _ _ _,World.ownsRow_nil _ _ _ _,HB.out⟩
   case round =>
    clear HB HBW HKW p0 p1 p2 p3
    obtain ⟨ia,qa,ca,qb,cb,ha,rfl,rfl,rfl,HOA,HOB,HB⟩ := hrel
    have kpw := (HB.out.block _ (lt_of_block HKP.out)).trans HKP.out
    obtain ⟨p0,p1,p2,p3⟩ := cells_four kpw
    have HKW := Lib.hid kpw
    clear kpw
    by_cases hla : ia < L
    ·have hla' : (ia : Int) < (L : Int) := by omega
     have HLA := Lib.hid hla
     clear hla
     go_wp2
     go_loopw [21,22,97] (fun v21 v22 iv wy => ∃ i : Nat,i ≤ j ∧ v21 = B8 (accB t P ns ia i) ∧ v22 = .bool (accK t ns ia i) ∧ iv = .int .i64 (i : Nat) ∧ Hid (wr.heap.size ≤ wy.heap.size ∧ Below wr.heap.size wr wy)) (fun _ _ iv _ => j - (intOf iv).toNat)
     case atStart => exact ⟨0,Nat.zero_le _,rfl,rfl,rfl,Nat.le_refl _,Below.refl _ _⟩
     case round =>
      obtain ⟨i,hi,rfl,rfl,rfl,HY⟩ := hrel
      by_cases hli : i < j
      ·obtain ⟨b,o,x,rfl,hc,hx⟩ := HAT.out i hli
       have hc' := ((bl HB1.out (bl HB.out HY.out.2 HB.out.size) HB1.out.size).cell (p := ⟨b,o + i,none⟩) (lt_of_cell hc)).trans hc
       obtain ⟨b',o',qx,cx,rfl,hcx,hsx⟩ := HXT.out i x hx
       have hx' := ((bl HB1.out (bl HB.out HY.out.2 HB.out.size) HB1.out.size).cell (p := ⟨b',o' + i,none⟩) (lt_of_cell hcx)).trans hcx
       have HSX := Lib.hid (hsx.keep (bl HB1.out (bl HB.out HY.out.2 HB.out.size) HB1.out.size))
       have kpy := (HY.out.2.block _ (lt_of_block HKW.out)).trans HKW.out
       have HX2 := Lib.hid hx
       have haL : ia ≤ 1000000 := by have := HLA.out; omega
       have HPX : Hid ((P x).length = t) := HPL.out x ((HNS.out x).1 (List.mem_of_getElem? hx)).2
       have hli' : (i : Int) < (j : Int) := by omega
       have HLI := Lib.hid hli
       clear p0 p1 p2 p3 hc hcx hsx hli hx
       obtain ⟨p0,p1,p2,p3⟩ := cells_four kpy
       clear kpy
       by_cases hxe : ia / t = x
       ·have hxq : ((x : Int) == wrap64 ((ia : Int) / (t : Int))) = true := by rw [wrap_quo haL,hxe]; exact beq_self_eq_true _
        have HXE := Lib.hid hxe
        clear hxe
        go_upto_region 36 with (fail)
        obtain ⟨bq,oq,rfl,-⟩ := HSX.out.has (by omega)
        have hat : ia % t < t := Nat.mod_lt _ (by omega)
        have hat' : ((ia % t : Nat) : Int) < (t : Int) := by omega
        have hb8 : wr.cell? ⟨bq,oq + ia % t,none⟩ = some (B8 ((P x).getD (ia % t) 0)) := by
         obtain ⟨b3,o3,e3,hc3⟩ := HSX.out.rs (ia % t) (by rw [HPX.out]; exact hat)
         cases e3
         rw [hc3,List.getD_eq_getElem?_getD,List.getElem?_eq_getElem (by rw [HPX.out]; exact hat)]; rfl
        have hrem := rem_nat ia t
        have hat2 : (0 : Int) ≤ (ia : Int) % (t : Int) ∧ (ia : Int) % (t : Int) < (t : Int) := ⟨Int.emod_nonneg _ (by omega),Int.emod_lt_of_pos _ (by omega)⟩
        have hat3 : ((ia : Int) % (t : Int)).toNat = ia % t := by rw [show (ia : Int) % (t : Int) = ((ia % t : Nat) : Int) by simp]; rfl
        refine wp_region_shapes (fun ix => ([.val (.slice (some ⟨b',o',none⟩) j c2),.val (.int .i64 (i : Nat)),.val (.pointer (some ⟨b',o' + i,none⟩)),.val (.slice (some ⟨bq,oq,none⟩) t cx),.val (.int .i64 (ia : Nat)),.val (.pointer (some ⟨gp,1,none⟩)),.val (.int .i64 (t : Nat)),.val (.int .i64 (ia % t : Nat)),.val (.pointer (some ⟨bq,oq + ia % t,none⟩)),.val (B8 ((P x).getD (ia % t) 0)),.val (B8 ((P x).getD (ia % t) 0))][ix]?).getD (.any)) 129 rfl (by kernel_rfl) (by decide +kernel) (by decide +kernel) (by decide +kernel) ?_ ?_
        ·refine ⟨?_,?_,?_,?_,?_,?_,?_,?_,?_,?_,?_,trivial⟩
         ·intro a W hb0 hs hp hi; have hb := undrew hb0; clear hb0
          have t2 : sl a 2 = .slice (some ⟨b',o',none⟩) j c2 := hi 2 (by decide)
          exact ite_y rfl (wp_val (sl a 2) rfl ⟨_,rfl,Below.refl _ _,t2⟩)
         ·intro a W hb0 hs hp hi; have hb := undrew hb0; clear hb0
          have t23 : sl a 23 = .int .i64 (i : Nat) := hi 23 (by decide)
          exact ite_y rfl (wp_val (sl a 23) rfl ⟨_,rfl,Below.refl _ _,t23⟩)
         ·intro a W hb0 hs hp hi; have hb := undrew hb0; clear hb0
          have ti0 : sl a 108 = .slice (some ⟨b',o',none⟩) j c2 := hp 0 (by decide)
          have ti1 : sl a 109 = .int .i64 (i : Nat) := hp 1 (by decide)
          refine ite_y rfl (wp_val (.pointer (some ⟨b',o' + i,none⟩)) ?_ ?_)
          ·simp only [execOp,eval_tmp,eval_const,ti0,ti1]; simp [go_sem,hli']
          ·exact ⟨_,rfl,Below.refl _ _,rfl⟩
         ·intro a W hb0 hs hp hi; have hb := undrew hb0; clear hb0
          have tt : sl a 110 = .pointer (some ⟨b',o' + i,none⟩) := hp 2 (by decide)
          have dd := (hb.cell (p := ⟨b',o' + i,none⟩) (lt_of_cell hx')).trans hx'
          refine ite_y rfl (wp_val (.slice (some ⟨bq,oq,none⟩) t cx) ?_ ?_)
          ·simp only [execOp,eval_tmp,tt]; simp [go_sem,dd]
          ·exact ⟨_,rfl,Below.refl _ _,rfl⟩
         ·intro a W hb0 hs hp hi; have hb := undrew hb0; clear hb0
          have t20 : sl a 20 = .int .i64 (ia : Nat) := hi 20 (by decide)
          exact ite_y rfl (wp_val (sl a 20) rfl ⟨_,rfl,Below.refl _ _,t20⟩)
         ·intro a W hb0 hs hp hi; have hb := undrew hb0; clear hb0
          have t3 : sl a 3 = .pointer (some ⟨gp,0,none⟩) := hi 3 (by decide)
          refine ite_y rfl (wp_val (.pointer (some ⟨gp,1,none⟩)) ?_ ?_)
          ·simp only [execOp,eval_tmp,eval_const,t3]; simp [go_sem]
          ·exact ⟨_,rfl,Below.refl _ _,rfl⟩
         ·intro a W hb0 hs hp hi; have hb := undrew hb0; clear hb0
          have tt : sl a 113 = .pointer (some ⟨gp,1,none⟩) := hp 5 (by decide)
          have dd := (hb.cell (p := ⟨gp,1,none⟩) (lt_of_cell p1)).trans p1
          refine ite_y rfl (wp_val (.int .i64 (t : Nat)) ?_ ?_)
          ·simp only [execOp,eval_tmp,tt]; simp [go_sem,dd]
          ·exact ⟨_,rfl,Below.refl _ _,rfl⟩
         ·intro a W hb0 hs hp hi; have hb := undrew hb0; clear hb0
          have t112 : sl a 112 = .int .i64 (ia : Nat) := hp 4 (by decide)
          have t114 : sl a 114 = .int .i64 (t : Nat) := hp 6 (by decide)
          refine ite_y rfl (wp_val (.int .i64 (ia % t : Nat)) ?_ ?_)
          ·simp only [execOp,eval_tmp,eval_const,t112,t114]; simp [go_sem,ht0n,hrem]
          ·exact ⟨_,rfl,Below.refl _ _,rfl⟩
         ·intro a W hb0 hs hp hi; have hb := undrew hb0; clear hb0
          have ti0 : sl a 111 = .slice (some ⟨bq,oq,none⟩) t cx := hp 3 (by decide)
          have ti1 : sl a 115 = .int .i64 (ia % t : Nat) := hp 7 (by decide)
          refine ite_y rfl (wp_val (.pointer (some ⟨bq,oq + ia % t,none⟩)) ?_ ?_)
          ·simp only [execOp,eval_tmp,eval_const,ti0,ti1]; simp [go_sem,hat2,hat3]
          ·exact ⟨_,rfl,Below.refl _ _,rfl⟩
         ·intro a W hb0 hs hp hi; have hb := undrew hb0; clear hb0
          have tt : sl a 116 = .pointer (some ⟨bq,oq + ia % t,none⟩) := hp 8 (by decide)
          have dd := (hb.cell (p := ⟨bq,oq + ia % t,none⟩) (lt_of_cell hb8)).trans hb8
          refine ite_y rfl (wp_val (B8 ((P x).getD (ia % t) 0)) ?_ ?_)
          ·simp only [execOp,eval_tmp,tt]; simp [go_sem,dd]
          ·exact ⟨_,rfl,Below.refl _ _,rfl⟩
         ·intro a W hb0 hs hp hi; have hb := undrew hb0; clear hb0
          have t117 : sl a 117 = B8 ((P x).getD (ia % t) 0) := hp 9 (by decide)
          exact ite_y rfl (wp_val (sl a 117) rfl ⟨_,rfl,Below.refl _ _,t117⟩)
        intro a w9 hb hs hd hI ht
        have ha := act_is [108,109,110,111,112,113,114,115,116,117,21] hs hd ht (by decide)
        have t21 : sl a 21 = B8 ((P x).getD (ia % t) 0) := hI 10 (by decide)
        simp only [List.foldl,t21] at ha
        generalize sl a 108 = u108 at ha
        generalize sl a 109 = u109 at ha
        generalize sl a 110 = u110 at ha
        generalize sl a 111 = u111 at ha
        generalize sl a 112 = u112 at ha
        generalize sl a 113 = u113 at ha
        generalize sl a 114 = u114 at ha
        generalize sl a 115 = u115 at ha
        generalize sl a 116 = u116 at ha
        generalize sl a 117 = u117 at ha
        simp only [Act.put,List.setIfInBounds_toArray,List.set_cons_zero,List.set_cons_succ] at ha
        rw [ha]
        clear ha hI ht
        have HY2 := Lib.hid (And.intro (Nat.le_trans HY.out.1 hb.size) (bl HY.out.2 hb HY.out.2.size))
        have HAC := Lib.hid (acc_yes (t := t) (P := P) HX2.out HXE.out)
        clear hb hb8 hrem hat2 hat3 hat hat' p0 p1 p2 p3 hxq
        go_wp2
        go_roundw
        case rel => exact ⟨i + 1,by have := HLI.out; omega,by rw [HAC.out.2],by rw [HAC.out.1],by go_num,HY2.out⟩
        case measure => simp [intOf]; have := HLI.out; omega
       ·have hxq : ((x : Int) == wrap64 ((ia : Int) / (t : Int))) = false := by
         rw [wrap_quo haL,beq_eq_false_iff_ne]
         intro h
         exact hxe (by omega)
        have HXE := Lib.hid (acc_no (P := P) HX2.out hxe)
        clear hxe
        go_wp2
        go_roundw
        case rel => exact ⟨i + 1,by have := HLI.out; omega,by rw [HXE.out.2],by rw [HXE.out.1],by go_num,HY.out⟩
        case measure => simp [intOf]; have := HLI.out; omega
      ·obtain rfl : i = j := by omega
       clear hli p0 p1 p2 p3
       have hnl : ns.take i = ns := List.take_of_length_le (by rw [HLN.out]; exact Nat.le_refl _)
       have hdk : ia / t < k := (Nat.div_lt_iff_lt_mul (by omega)).2 (Nat.lt_of_lt_of_le HLA.out HLM.out)
       have ek : accK t ns ia i = S (ia / t) := by
        unfold accK
        rw [hnl]
        cases hs : S (ia / t) with
        | true => exact List.contains_iff_mem.2 ((HNS.out _).2 ⟨hdk,hs⟩)
        | false =>
         cases hcn : ns.contains (ia / t) with
         | false => rfl
         | true =>
          have := ((HNS.out _).1 (List.contains_iff_mem.1 hcn)).2
          rw [hs] at this; cases this
       have eb : accB t P ns ia i = objF t P S ia := by unfold accB objF; rw [ek]
       rw [ek,eb]
       have HWB : Hid (w1.heap.size ≤ wr.heap.size) := Nat.le_trans HB.out.size HY.out.1
       have HBY := Lib.hid (bl HB.out HY.out.2 HB.out.size)
       have OA := Lib.hid (owns_keep HOA.out HY.out.2)
       have OB := Lib.hid (owns_keep HOB.out HY.out.2)
       clear hnl hdk ek eb HOA HOB HB HY HKW
       have hia : ia < 1000000 := by have := HLA.out; omega
       go_wp2_with (at_builtin; refine wpList_append_rs _ rfl (.tmp 119) (.tmp 121) 22 rfl w1.heap.size 5 u0 (.int .u8 0) 1 Tryz.underlying22 hu0 uz0 uz1 uz2 rfl _ ia _ rfl (owns_keep OA.out (al (Below.refl _ _) (Nat.le_refl _))) B8 (some ⟨wr.heap.size,0,none⟩) 1 1 [objF t P S ia] (fun _ _ => rfl) rfl (sl_one rfl rfl) ?c1 ?c2 ?c3 ?_)
       case c1 => unfold maxLen; simp; omega
       case c2 => simp; omega
       case c3 => have := HWB.out; simp; omega
       intro v2 w2 hA hgA
       obtain ⟨qa2,ca2,rfl⟩ := owns_shape hA
       have ba := al (o := .cells #[B8 (objF t P S ia)] 5 (0,0)) (Below.refl wr.heap.size wr) (Nat.le_refl _)
       have oa := owns_keep OA.out ba
       have OB2 := Lib.hid (owns_otherZ oa hgA (owns_keep OB.out ba) (by decide))
       have HB2 := Lib.hid ((al (o := .cells #[B8 (objF t P S ia)] 5 (0,0)) HBY.out HBY.out.size).grown hgA (by have := HWB.out; simp; omega) (fun kk hk => (OA.out.lt kk hk).1))
       have OA2 : Hid (w2.ownsRow w1.heap.size 5 1 (.slice qa2 (ia + 1) ca2) (ia + 1) ((objL (ia + 1) t P S).map B8)) := by
        have e : objL (ia + 1) t P S = objL ia t P S ++ [objF t P S ia] := by unfold objL; rw [List.range_succ,List.map_append]; rfl
        show World.ownsRow _ _ _ _ _ _ _
        rw [e,List.map_append]; exact hA
       clear hA hgA ba oa OA OB HBY
       go_wp2_with (at_builtin; refine wpList_append_rs _ rfl (.tmp 123) (.tmp 125) 112 rfl w1.heap.size 4 b0 (.bool false) 1 Tryz.underlying112 hb0 bz0 bz1 bz2 rfl _ ia _ rfl (owns_keep OB2.out (al (Below.refl _ _) (Nat.le_refl _))) Value.bool (some ⟨w2.heap.size,0,none⟩) 1 1 [S (ia / t)] (fun _ _ => rfl) rfl (sl_one rfl rfl) ?c1 ?c2 ?c3 ?_)
       case c1 => unfold maxLen; simp; omega
       case c2 => simp; omega
       case c3 => have := HB2.out.size; simp; omega
       intro v3 w3 hA hgA
       obtain ⟨qb2,cb2,rfl⟩ := owns_shape hA
       have ba := al (o := .cells #[Value.bool (S (ia / t))] 4 (0,0)) (Below.refl w2.heap.size w2) (Nat.le_refl _)
       have oa := owns_keep OB2.out ba
       have OA3 := Lib.hid (owns_otherZ oa hgA (owns_keep OA2.out ba) (by decide))
       have HB3 := Lib.hid ((al (o := .cells #[Value.bool (S (ia / t))] 4 (0,0)) HB2.out HB2.out.size).grown hgA (by have := HB2.out.size; simp; omega) (fun kk hk => (OB2.out.lt kk hk).1))
       have OB3 : Hid (w3.ownsRow w1.heap.size 4 1 (.slice qb2 (ia + 1) cb2) (ia + 1) ((toldT (ia + 1) (fun x => S (x / t))).map Value.bool)) := by
        have e : toldT (ia + 1) (fun x => S (x / t)) = toldT ia (fun x => S (x / t)) ++ [S (ia / t)] := by unfold toldT; rw [List.range_succ,List.map_append]; rfl
        show World.ownsRow _ _ _ _ _ _ _
        rw [e,List.map_append]; exact hA
       clear hA hgA ba oa OA2 OB2 HB2
       go_wp2
       go_roundw
       case rel => exact ⟨ia + 1,qa2,ca2,qb2,cb2,by have := HLA.out; omega,rfl,rfl,by go_num,OA3.out,OB3.out,HB3.out⟩
       case measure => simp [intOf]; have := HLA.out; omega
    ·obtain rfl : ia = L := by omega
     have HF := Lib.hid (bl HB1.out HB.out HB1.out.size)
     clear hla
     go_wp2
     go_ret3
     exact ⟨qa,ca,qb,cb,rfl,Sl.of_owns HOA.out,Sl.of_owns HOB.out,HF.out⟩
end Go.Proofs.YtfbmdlfkipipfaaGreatDoor
namespace Go.By
open Go.RowKit
structure OwnQ (p : Value → Prop) (w : World) (base : Nat) (e : TypeId) (v : Value) (n : Nat) (xs : List Value) : Prop where
 row : w.ownsRow base e 1 v n xs
 all : ∀ g cur fr,v.ownBlock = some g → w.heap[g]? = some (.cells cur e fr) → ∀ u,u ∈ cur.toList → p u
theorem OwnQ.nil (p : Value → Prop) (w : World) (base : Nat) (e : TypeId) : OwnQ p w base e (.slice none 0 0) 0 [] := ⟨World.ownsRow_nil _ _ _ _,fun g cur fr h => by cases h⟩
theorem OwnQ.same {p : Value → Prop} {w w' : World} {base : Nat} {e : TypeId} {v : Value} {n : Nat} {xs : List Value} (h : OwnQ p w base e v n xs) (hs : w.heap.size ≤ w'.heap.size) (hb : ∀ g,v.ownBlock = some g → w'.heap[g]? = w.heap[g]?) : OwnQ p w' base e v n xs :=
 ⟨owns_same h.row hs hb,fun g cur fr hg hh => h.all g cur fr hg (by rw [← hb g hg]; exact hh)⟩
theorem OwnQ.keep {p : Value → Prop} {w w' : World} {base : Nat} {e : TypeId} {v : Value} {n : Nat} {xs : List Value} (h : OwnQ p w base e v n xs) (hb : Below w.heap.size w w') : OwnQ p w' base e v n xs :=
 h.same hb.size (fun g hg => hb.block g (h.row.lt g hg).2)
theorem run_append_q {P : Program} (p : Value → Prop) (w : World) (base : Nat) (t ty e : TypeId) (i : TypeInfo) (z : Value) (bytes : Nat) (ht : P.underlying t = some (.slice e)) (hi : P.info? e = some i) (hz : i.zero = some z)
  (hsize : i.size = 1) (hby : i.bytes = bytes) (hzs : z.cells = #[z]) (pz : p z) (v : Value) (n : Nat) (xs : List Value) (hown : OwnQ p w base e v n xs)
  (ad : Addr) (c : Nat) (u : Value) (hc : w.cell? ad = some u) (hpl : ad.spot = none) (h1 : u.oneCell' = true) (pu : p u) (h63 : n + 1 ≤ maxLen) (hbytes : (n + 1) * bytes ≤ 140737488355328) (hbase : base ≤ w.heap.size) :
  ∃ v' w',(Builtin.append_ #[t,t] ty #[v,.slice (some ad) 1 c]).run P w = .ok v' w' ∧ OwnQ p w' base e v' (n + 1) (xs ++ [u]) ∧ w.grownBy w' v.ownBlock := by
 have hnews : ∀ j v,[u][j]? = some v → w.cell? (ad.add j) = some v := fun j v hj => by
  match j with
  | 0 =>
   have : u = v := by simpa using hj
   subst this
   have e0 : ad.add 0 = ad := by cases ad; simp only at hpl; subst hpl; rfl
   rw [e0]; exact hc
  | j + 1 => simp at hj
 obtain ⟨v',w',hr,ho,hg,-⟩ := run_append_own (P := P) w base t ty e i z 1 bytes ht hi hz hsize hby (by rw [hzs]; rfl) (by decide) v n xs hown.row ad 1 c [u] rfl hnews (fun x hx => by simp at hx; rw [hx]; exact h1) h63 hbytes hbase
 refine ⟨v',w',hr,⟨ho,fun g cur fr hgb hh y hy => ?_⟩,hg⟩
 have hn63 : n + 1 ≤ 9223372036854775807 := by simp only [maxLen] at h63; omega
 have hxp : ∀ x,x ∈ xs → p x := fun x hx => by
  rcases hown.row.2 with ⟨_,rfl⟩ | ⟨g',cap,cur',rfl,_,hh',_,_,_,htk⟩
  ·have : xs = [] := List.eq_nil_of_length_eq_zero (by simpa using hown.row.1)
   rw [this] at hx; cases hx
  ·exact hown.all g' cur' (0,0) rfl hh' x (by rw [← htk] at hx; exact List.mem_of_mem_take hx)
 have hzc : ∀ k x,x ∈ (Builtin.zeroCells z.cells k).toList → p x := fun k x hx => by
  rw [hzs] at hx
  have : x = z := by
   simp only [Builtin.zeroCells,Array.toList_map,List.mem_map] at hx
   obtain ⟨i,_,rfl⟩ := hx
   have h0 : i % (#[z] : Array Value).size = 0 := Nat.mod_one i
   rw [h0]; rfl
  rw [this]; exact pz
 rcases hown.row.2 with ⟨rfl,rfl⟩ | ⟨g',cap,cur',rfl,hbg,hg',hnc,hcm,hcs,htake⟩
 ·have hx : xs = [] := List.eq_nil_of_length_eq_zero (by simpa using hown.row.1)
  subst hx
  have hr2 := run_append_nil (P := P) w t ty e i z ht hi hz ad 1 c [u] (by rw [hsize]; rfl) hnews (by decide) (by decide) (by rw [hby]; omega)
  rw [hr] at hr2
  injection hr2 with e1 e2
  subst e1; subst e2
  simp [Value.ownBlock] at hgb
  subst hgb
  have e3 := heap_alloc_new w.drew (.cells ([u].toArray ++ Builtin.zeroCells z.cells (grownCap w 1 0 e - 1)) e)
  rw [show w.drew.heap.size = w.heap.size from rfl] at e3
  rw [e3] at hh
  injection hh with hh; injection hh with hh _ _
  subst hh
  simp only [Array.toList_append,List.mem_append] at hy
  rcases hy with hy | hy
  ·simp at hy; rw [hy]; exact pu
  ·exact hzc _ _ hy
 ·by_cases hroom : n + 1 ≤ cap
  ·have hr2 := run_append_room (P := P) w t ty e i ht hi g' n cap cur' hg' ad 1 c [u] (by rw [hsize]; rfl) hnews (fun x hx => by simp at hx; rw [hx]; exact h1) hroom (by rw [hsize,hcs]; simp; omega)
   rw [hr] at hr2
   injection hr2 with e1 e2
   subst e1; subst e2
   simp [Value.ownBlock] at hgb
   subst hgb
   rw [setRow_heap w g' cur' _ e _ hg'] at hh
   injection hh with hh; injection hh with hh _ _
   subst hh
   simp only [List.mem_append] at hy
   rcases hy with (hy | hy) | hy
   ·exact hown.all g' cur' (0,0) rfl hg' y (List.mem_of_mem_take hy)
   ·simp at hy; rw [hy]; exact pu
   ·exact hown.all g' cur' (0,0) rfl hg' y (List.mem_of_mem_drop hy)
  ·have hr2 := run_append_grow (P := P) w t ty e i z ht hi hz ⟨g',0,none⟩ n cap xs (by rw [hsize]; exact hown.row.1) (hown.row.cells (g := g') rfl) ad 1 c [u] (by rw [hsize]; rfl) hnews (by omega) (by omega) (growslice_fits (by omega) (by rw [hby]; exact hbytes))
   rw [hr] at hr2
   injection hr2 with e1 e2
   subst e1; subst e2
   simp [Value.ownBlock] at hgb
   subst hgb
   have e3 := heap_alloc_new w.drew (.cells (xs.toArray ++ [u].toArray ++ Builtin.zeroCells z.cells (grownCap w (n + 1) cap e - (n + 1))) e)
   rw [show w.drew.heap.size = w.heap.size from rfl] at e3
   rw [e3] at hh
   injection hh with hh; injection hh with hh _ _
   subst hh
   simp only [Array.toList_append,List.mem_append] at hy
   rcases hy with (hy | hy) | hy
   ·exact hxp y (by simpa using hy)
   ·simp at hy; rw [hy]; exact pu
   ·exact hzc _ _ hy
theorem wpList_append_q {P : Program} (p : Value → Prop) (w : World) {ops : Array Oper} {rest : List Oper} {o : Oper} {a : Act} {Q : Exit → Act → World → Prop} (hgd : o.guard = none) (s x : Operand) (t : TypeId)
  (ho : o.op = .call { callee := .builtin .append,args := #[s,x],argTypes := #[t,t] })
  (base : Nat) (e : TypeId) (i : TypeInfo) (z : Value) (bytes : Nat) (ht : P.underlying t = some (.slice e)) (hi : P.info? e = some i) (hz : i.zero = some z)
  (hsize : i.size = 1) (hby : i.bytes = bytes) (hzs : z.cells = #[z]) (pz : p z)
  (v : Value) (n : Nat) (xs : List Value) (hs : a.eval s = v) (hown : OwnQ p w base e v n xs)
  (ad : Addr) (c : Nat) (u : Value) (hx : a.eval x = .slice (some ad) 1 c) (hc : w.cell? ad = some u) (hpl : ad.spot = none) (h1 : u.oneCell' = true) (pu : p u)
  (h63 : n + 1 ≤ maxLen) (hbytes : (n + 1) * bytes ≤ 140737488355328) (hbase : base ≤ w.heap.size)
  (h : ∀ v' w',OwnQ p w' base e v' (n + 1) (xs ++ [u]) → w.grownBy w' v.ownBlock → wpList P ops Q rest (a.put o.dst v') w') : wpList P ops Q (o :: rest) a w := by
 refine wpList_plain hgd fun K' hK' => ?_
 obtain ⟨v',w',hr,h2,h3⟩ := run_append_q (P := P) p w base t o.type e i z bytes ht hi hz hsize hby hzs pz v n xs hown ad c u hc hpl h1 pu h63 hbytes hbase
 unfold Oper.wp execOp
 simp only [ho,resolve,invoke,builtin,Sem.run_bind,Sem.run_pure,Result.andThen_ok,List.map_toArray,List.map_cons,List.map_nil,hs,hx,hr]
 exact hK' _ _ (h v' w' h2 h3)
theorem OwnQ.far {p : Value → Prop} {w w' : World} {base : Nat} {e : TypeId} {v : Value} {n : Nat} {xs : List Value} (h : OwnQ p w base e v n xs) (hp : ∀ u,p u → ∀ z : UInt8,u ≠ B8 z) (hg : w.grownBy w' v.ownBlock) {q : Option Addr} {m c : Nat} {ys : List UInt8} (hs : Sl B8 w q m c ys) : Sl B8 w' q m c ys :=
 ⟨hs.len,hs.le,hs.max,hs.nil,fun i hi => by
  obtain ⟨b,o,e1,hc⟩ := hs.rs i hi
  refine ⟨b,o,e1,?_⟩
  refine (World.cell?_of_block (w := w) (hg.block b (lt_of_cell hc) (fun e2 => ?_))).trans hc
  ·obtain ⟨cur,e',fr,hh,hk⟩ : ∃ cur e' fr,w.heap[b]? = some (.cells cur e' fr) ∧ cur[o + i]? = some (B8 ys[i]) := by
    unfold World.cell? at hc
    split at hc
    ·rename_i cc tt ff hh
     exact ⟨cc,tt,ff,hh,by simpa using hc⟩
    ·cases hc
   rcases h.row.2 with ⟨rfl,_⟩ | ⟨g',cap,cur',rfl,_,hh',_⟩
   ·cases e2
   ·have : b = g' := by injection e2
    subst this
    rw [hh'] at hh
    injection hh with hh; injection hh with h3 h4 h5
    subst h3; subst h4
    exact hp _ (h.all b cur' (0,0) rfl hh' _ (by rw [Array.mem_toList_iff]; exact Array.mem_of_getElem? hk)) _ rfl⟩
def IsSlv (u : Value) : Prop := ∃ q n c,u = .slice q n c
theorem isSlv_far : ∀ u,IsSlv u → ∀ z : UInt8,u ≠ B8 z := fun u ⟨q,n,c,e⟩ z h => by rw [e] at h; cases h
def IsI64 (u : Value) : Prop := ∃ z,u = .int .i64 z
theorem isI64_far : ∀ u,IsI64 u → ∀ z : UInt8,u ≠ B8 z := fun u ⟨y,e⟩ z h => by rw [e] at h; cases h
structure KnL (T : TypeId) (w : World) (base : Nat) (v : Value) (n : Nat) (xss : List (List UInt8)) : Prop where
 ex : ∃ vs,OwnQ IsSlv w base T v n vs ∧ xss.length = n ∧ ∀ (j : Nat) (u : Value),vs[j]? = some u → ∃ q m c xs,u = .slice q m c ∧ xss[j]? = some xs ∧ Sl B8 w q m c xs
theorem KnL.nil (T : TypeId) (w : World) (base : Nat) : KnL T w base (.slice none 0 0) 0 [] := ⟨[],OwnQ.nil _ _ _ _,rfl,fun j u h => by simp at h⟩
theorem KnL.keep {T : TypeId} {w w' : World} {base : Nat} {v : Value} {n : Nat} {xss : List (List UInt8)} (h : KnL T w base v n xss) (hb : Below w.heap.size w w') : KnL T w' base v n xss := by
 obtain ⟨vs,o,l,r⟩ := h.ex
 exact ⟨vs,o.keep hb,l,fun j u hj => by obtain ⟨q,m,c,xs,e,hx,hs⟩ := r j u hj; exact ⟨q,m,c,xs,e,hx,hs.keep hb⟩⟩
theorem KnL.other {T T2 : TypeId} {p : Value → Prop} {w w' : World} {base base2 : Nat} {v v2 : Value} {n n2 : Nat} {xss : List (List UInt8)} {ys : List Value} (h : KnL T w base v n xss) (h2 : OwnQ p w base2 T2 v2 n2 ys) (hp : ∀ u,p u → ∀ z : UInt8,u ≠ B8 z) (hg : w.grownBy w' v2.ownBlock) (hne : T2 ≠ T) : KnL T w' base v n xss := by
 obtain ⟨vs,o,l,r⟩ := h.ex
 refine ⟨vs,o.same hg.size (fun g hgb => ?_),l,fun j u hj => by obtain ⟨q,m,c,xs,e,hx,hs⟩ := r j u hj; exact ⟨q,m,c,xs,e,hx,h2.far hp hg hs⟩⟩
 rcases o.row.2 with ⟨e1,_⟩ | ⟨g',cap,cur,e1,hgb',hh,_⟩
 ·rw [e1] at hgb; cases hgb
 ·rw [e1] at hgb; cases hgb
  exact Go.Proofs.YtfbmdlfkipipfaaGreatDoor.grown_sameZ h2.row hg hne _ _ _ hh
theorem OwnQ.other {p p2 : Value → Prop} {w w' : World} {base base2 e T2 n n2 : Nat} {v v2 : Value} {xs ys : List Value} (h : OwnQ p w base e v n xs) (h2 : OwnQ p2 w base2 T2 v2 n2 ys) (hg : w.grownBy w' v2.ownBlock) (hne : T2 ≠ e) : OwnQ p w' base e v n xs := h.same hg.size (fun g hgb => by
 rcases h.row.2 with ⟨e1,_⟩ | ⟨g',cap,cur,e1,hgb',hh,_⟩
 ·rw [e1] at hgb; cases hgb
 ·rw [e1] at hgb; cases hgb
  exact Go.Proofs.YtfbmdlfkipipfaaGreatDoor.grown_sameZ h2.row hg hne _ _ _ hh)
theorem KnL.push {T : TypeId} {w w' : World} {base : Nat} {v v' : Value} {n : Nat} {xss : List (List UInt8)} {vs : List Value} {q : Option Addr} {m c : Nat} {xs : List UInt8} (o : OwnQ IsSlv w base T v n vs) (hl : xss.length = n) (hr : ∀ (j : Nat) (u : Value),vs[j]? = some u → ∃ q m c xs,u = .slice q m c ∧ xss[j]? = some xs ∧ Sl B8 w q m c xs)
  (hx : Sl B8 w q m c xs) (ho : OwnQ IsSlv w' base T v' (n + 1) (vs ++ [.slice q m c])) (hg : w.grownBy w' v.ownBlock) : KnL T w' base v' (n + 1) (xss ++ [xs]) := by
 refine ⟨_,ho,by simp [hl],fun j u hj => ?_⟩
 have hvl : vs.length = n := by have := o.row.1; omega
 rcases Nat.lt_or_ge j vs.length with g | g
 ·rw [List.getElem?_append_left g] at hj
  obtain ⟨q',m',c',ys,e,hy,hs⟩ := hr j u hj
  exact ⟨q',m',c',ys,e,by rw [List.getElem?_append_left (by omega)]; exact hy,o.far isSlv_far hg hs⟩
 ·have hj0 : j = vs.length := by have := (List.getElem?_eq_some_iff.1 hj).1; simp at this; omega
  subst hj0
  simp at hj
  exact ⟨q,m,c,xs,hj.symm,by rw [List.getElem?_append_right (by omega),show vs.length - xss.length = 0 by omega]; rfl,o.far isSlv_far hg hx⟩
theorem KnL.sl2 {T : TypeId} {w : World} {base n : Nat} {q : Option Addr} {c : Nat} {xss : List (List UInt8)} (h : KnL T w base (.slice q n c) n xss) : Sl2 w q n c xss := by
 obtain ⟨vs,o,l,r⟩ := h.ex
 have hh : Hdr T w base w (.slice q n c) n xss := ⟨vs,o.row,l,r⟩
 exact hh.sl2 (Below.refl _ _)
end Go.By
namespace Go.By
open Go.RowKit Go.Maps Go.Proofs.YtfbmdlfkipipfaaGreatDoor
def OthS (T : TypeId) : Prop := T ≠ 126 ∧ T ≠ 201 ∧ 139 ≠ T ∧ 153 ≠ T
structure KeepS (w w' : World) : Prop where
 size : w.heap.size ≤ w'.heap.size
 same : ∀ T,OthS T → ∀ (b : Nat) (cs : Array Value) (fr : Nat × Nat),w.heap[b]? = some (.cells cs T fr) → w'.heap[b]? = w.heap[b]?
theorem KeepS.of {w w' : World} (h : Below w.heap.size w w') : KeepS w w' := ⟨h.size,fun _ _ b _ _ hb => h.block b (lt_of_block hb)⟩
theorem KeepS.trans {w a b : World} (h : KeepS w a) (h2 : KeepS a b) : KeepS w b :=
 ⟨Nat.le_trans h.size h2.size,fun T hT i cs fr hi => (h2.same T hT i cs fr ((h.same T hT i cs fr hi).trans hi)).trans (h.same T hT i cs fr hi)⟩
theorem KeepS.blk {w w' : World} (h : KeepS w w') {T b : Nat} {cs : Array Value} {fr : Nat × Nat} (hT : OthS T) (hb : w.heap[b]? = some (.cells cs T fr)) : w'.heap[b]? = some (.cells cs T fr) := (h.same T hT b cs fr hb).trans hb
theorem KeepS.fresh {w w' : World} (h : KeepS w w') {T B n c : Nat} {q : Option Addr} {xs : List UInt8} (hT : OthS T) (hf : Fresh T B w q n c xs) : Fresh T B w' q n c xs := fresh_same hf (h.same T hT)
theorem KeepS.hdr {w w' : World} (h : KeepS w w') {T2 T1 B n : Nat} {v : Value} {xss : List (List UInt8)} (h2 : OthS T2) (h1 : OthS T1) (hf : HdrF T2 T1 B w v n xss) : HdrF T2 T1 B w' v n xss := hf.same h.size (h.same T2 h2) (h.same T1 h1)
theorem KeepS.owns {w w' : World} (h : KeepS w w') {b2 T e n : Nat} {v : Value} {ys : List Value} (hT : OthS T) (ho : w.ownsRow b2 T e v n ys) : w'.ownsRow b2 T e v n ys :=
 owns_same ho h.size fun g hg => by
  rcases ho.2 with ⟨e1,_⟩ | ⟨g',cap,cur,e1,_,hh,_⟩
  ·rw [e1] at hg; cases hg
  ·rw [e1] at hg; cases hg
   exact h.same T hT _ _ _ hh
theorem os_u8 : OthS 5 := ⟨by decide,by decide,by decide,by decide⟩
theorem TChg.keepS {w w' : World} {base gt be L t k D N : Nat} {M v : Value} {C : DataW Unit} {K : List Rw} {st : Nat} (h : TChg w w' gt be v) (hT : Tkr w base gt be L t k D N M v C K st) : KeepS w w' :=
 ⟨h.size,fun T hO => h.same hT hO.1 hO.2.1 hO.2.2.1⟩
end Go.By
namespace Go.Proofs.YtfbmdlfkipipfaaGreatDoor
open Go.RowKit Go.By Gf Go.Maps
section
variable {wI w0 w w' : World} {gs gt be base L t k D nx N st : Nat} {FX : List (List UInt8)} {v : Value} {K : List Rw}
end
end Go.Proofs.YtfbmdlfkipipfaaGreatDoor
namespace Go.By
theorem crcBit_lt {r : Nat} (h : r < 4294967296) : crcBit r < 4294967296 := by
 unfold crcBit
 have h2 : r / 2 < 2 ^ 32 := by omega
 split
 ·exact Nat.xor_lt_two_pow h2 (by decide)
 ·omega
def crcBits : Nat → Nat → Nat
 | 0,r => r
 | j + 1,r => crcBit (crcBits j r)
theorem crcBits_lt {r : Nat} (h : r < 4294967296) : ∀ j,crcBits j r < 4294967296
 | 0 => h
 | j + 1 => crcBit_lt (crcBits_lt h j)
theorem crcBits_eight (r : Nat) (b : UInt8) : crcBits 8 (r ^^^ b.toNat) = crcByte r b := by
 rw [crc_byte]; rfl
theorem crcRun_snoc {xs : List UInt8} {k : Nat} {x : UInt8} (r : Nat) (h : xs[k]? = some x) : crcRun r (xs.take (k + 1)) = crcByte (crcRun r (xs.take k)) x := by
 rw [List.take_add_one,h,crcRun_append]; rfl
end Go.By
namespace Go.Proofs.YtfbmdlfkipipfaaGreatDoor
open Go.RowKit Go.By
set_option maxHeartbeats 1000000 in
theorem RPut4_any (n : Nat) (h : n < 4294967296) (w : World) :
  Calls Tryz.prog 153 #[.int .u32 (n : Int)] w fun e w' => ∃ g,e = .returned (.slice (some ⟨g,0,none⟩) 4 4) ∧ w.heap.size ≤ g ∧ w'.heap[g]? = some (.cells ((put4 n).map B8).toArray 5 (0,0)) ∧ Below w.heap.size w w' := by
 have e0 := put4_cells n h
 go_enter Tryz.func153,Tryz.ntmps153
 go_wp2
 rw [← e0]
 go_ret
 exact ⟨w.heap.size,rfl,Nat.le_refl _,hnew rfl,al (Below.refl _ _) (Nat.le_refl _)⟩
set_option maxRecDepth 100000 in
set_option maxHeartbeats 2000000 in
theorem RSum4_any (p : Option Addr) (n c : Nat) (xs : List UInt8) (w : World) (h : Sl B8 w p n c xs) :
  Calls Tryz.prog 154 #[.slice p n c] w fun e w' => e = .returned (.int .u32 (crcS xs : Nat)) ∧ w = w' := by
 have hb := h.bound
 have H := Lib.hid h; clear h
 go_enter Tryz.func154,Tryz.ntmps154
 go_wp2
 go_loop [3,4] (fun r i => ∃ k v : Nat,k ≤ n ∧ i = .int .i64 k ∧ r = .int .u32 (v : Nat) ∧ Hid (v = crcRun 4294967295 (xs.take k))) (fun _ i => n - (intOf i).toNat)
 case atStart => exact ⟨0,4294967295,Nat.zero_le _,rfl,rfl,rfl⟩
 case round =>
  obtain ⟨k,v,hk,rfl,rfl,hv⟩ := hrel
  have hv32 : v < 4294967296 := by rw [hv.out]; exact crcRun_lt (by decide)
  by_cases hlt : k < n
  ·obtain ⟨b,o,x,rfl,hc,hx⟩ := H.out.at k hlt
   have hlt' : (k : Int) < (n : Int) := by omega
   have hxb := x.toNat_lt
   have e1 : bits .xor .u32 (v : Int) (x.toNat : Int) = ((v ^^^ x.toNat : Nat) : Int) := bits_xor32 hv32 (by omega)
   have hu : v ^^^ x.toNat < 4294967296 := Nat.xor_lt_two_pow hv32 (show x.toNat < 2 ^ 32 by omega)
   obtain ⟨u,hu0⟩ : ∃ u,u = v ^^^ x.toNat := ⟨_,rfl⟩
   rw [← hu0] at e1 hu
   have HU := Lib.hid hu0; clear hu0
   have e0 : IntKind.u32.wrap (x.toNat : Int) = (x.toNat : Int) := by rw [IntKind.wrap_u32]; omega
   clear hlt
   go_wp2_with (first | simp only [e1] | simp only [e0])
   go_loop [3,5] (fun r i => ∃ j y : Nat,j ≤ 8 ∧ i = .int .i64 j ∧ r = .int .u32 (y : Nat) ∧ Hid (y = crcBits j u)) (fun _ i => 8 - (intOf i).toNat)
   case atStart => exact ⟨0,u,by omega,rfl,rfl,rfl⟩
   case round =>
    obtain ⟨j,y,hj,rfl,rfl,hy⟩ := hrel
    have hy32 : y < 4294967296 := by rw [hy.out]; exact crcBits_lt hu j
    by_cases hj8 : j < 8
    ·have hj8' : (j : Int) < 8 := by omega
     by_cases hodd : y % 2 = 1
     ·have hm : (y : Int) % 2 = 1 := by omega
      obtain ⟨z,hz⟩ : ∃ z,z = y / 2 ^^^ 3988292384 := ⟨_,rfl⟩
      have e2 : bits .xor .u32 ((y : Int) / 2) 3988292384 = (z : Int) := by
       rw [hz,show (y : Int) / 2 = ((y / 2 : Nat) : Int) by omega]; exact bits_xor32 (by omega) (b := 3988292384) (by decide)
      have HY : Hid (z = crcBits (j + 1) u) := by
       show _ = crcBit (crcBits j u)
       rw [← hy.out,hz]; unfold crcBit; rw [if_pos hodd]
      clear hodd hj8 hz
      go_wp2_with (first | simp only [e2] | simp only [hm])
      go_round
      case rel => exact ⟨j + 1,_,by omega,by go_num,rfl,HY.out⟩
      case measure => simp [intOf]; omega
     ·have hm : (y : Int) % 2 = 0 := by omega
      have HY : Hid (y / 2 = crcBits (j + 1) u) := by
       show _ = crcBit (crcBits j u)
       rw [← hy.out]; unfold crcBit; rw [if_neg hodd]
      clear hodd hj8
      go_wp2_with (first | simp only [hm])
      go_round
      case rel => exact ⟨j + 1,_,by omega,by go_num,rfl,HY.out⟩
      case measure => simp [intOf]; omega
    ·obtain rfl : j = 8 := by omega
     have HV : Hid (y = crcRun 4294967295 (xs.take (k + 1))) := by
      show _ = _
      rw [hy.out,HU.out,crcBits_eight,crcRun_snoc _ hx.out,← hv.out]
     clear hj8
     go_wp2
     go_round
     case rel => exact ⟨k + 1,y,by omega,by go_num,rfl,HV.out⟩
     case measure => simp [intOf]; omega
  ·obtain rfl : k = n := by omega
   obtain ⟨d,hdd⟩ : ∃ d,d = 4294967295 - v := ⟨_,rfl⟩
   have HE : Hid (d = crcS xs) := by
    show _ = _
    rw [hdd,hv.out,← H.out.len,List.take_length]; rfl
   have e3 : IntKind.u32.wrap ((4294967295 : Int) - (v : Int)) = (d : Int) := by rw [IntKind.wrap_u32]; omega
   clear hlt hdd
   go_wp2_with (simp only [e3])
   go_ret
   exact ⟨by rw [HE.out]; rfl,rfl⟩
end Go.Proofs.YtfbmdlfkipipfaaGreatDoor
namespace Go.By
end Go.By
namespace Go.Proofs.YtfbmdlfkipipfaaGreatDoor
open Go.RowKit Go.By
end Go.Proofs.YtfbmdlfkipipfaaGreatDoor
namespace Go.By
open Go.RowKit Go.Maps Go.Proofs.YtfbmdlfkipipfaaGreatDoor
theorem HdrF.lt {T2 T1 B n : Nat} {w : World} {v : Value} {xss : List (List UInt8)} (h : HdrF T2 T1 B w v n xss) : ∀ g,v.ownBlock = some g → g < w.heap.size := by
 obtain ⟨vs,o,_⟩ := h
 exact fun g hg => (o.lt g hg).2
theorem HdrF.other {T2 T1 B n : Nat} {w w' : World} {v : Value} {row : Option Nat} {xss : List (List UInt8)} (h : HdrF T2 T1 B w v n xss) (hg : w.grownBy w' row) (hne : ∀ g,v.ownBlock = some g → row ≠ some g) (h1 : ∀ (b : Nat) (cs : Array Value) (fr : Nat × Nat),w.heap[b]? = some (.cells cs T1 fr) → w'.heap[b]? = w.heap[b]?) : HdrF T2 T1 B w' v n xss := by
 obtain ⟨vs,o,l,r⟩ := h
 refine ⟨vs,owns_same o hg.size fun g hg2 => ?_,l,fun j u hj => ?_⟩
 ·exact hg.block g (o.lt g hg2).2 (fun e => hne g hg2 e.symm)
 ·obtain ⟨q,m,c,xs,e,hx,hf⟩ := r j u hj
  exact ⟨q,m,c,xs,e,hx,fresh_same hf h1⟩
theorem HdrF.at {T2 T1 B n : Nat} {w : World} {q : Option Addr} {c : Nat} {xss : List (List UInt8)} (h : HdrF T2 T1 B w (.slice q n c) n xss) {j : Nat} (hj : j < n) : ∃ b o p m d xs,q = some ⟨b,o,none⟩ ∧ w.cell? ⟨b,o + j,none⟩ = some (.slice p m d) ∧ Hid (xss[j]? = some xs) ∧ Fresh T1 B w p m d xs := by
 obtain ⟨b,o,p,m,d,xs,e,hc,_,hx⟩ := h.sl2.at j hj
 obtain ⟨vs,ow,l,r⟩ := h
 have hl : vs.length = n := owns_len ow
 obtain ⟨p',m',d',xs',e1,hx',hf⟩ := r j vs[j] (List.getElem?_eq_getElem (by omega))
 have hx := hx.out
 rw [hx'] at hx; cases hx
 refine ⟨b,o,p,m,d,xs,e,hc,hx',?_⟩
 have hc2 : w.cell? ⟨b,o + j,none⟩ = some (.slice p' m' d') := by
  rcases ow.2 with ⟨h2,_⟩ | ⟨g,cap,cur,hv,_⟩
  ·cases h2; cases e
  ·cases hv; cases e
   have h3 := ow.cellAt j (by omega)
   rw [Nat.zero_add,h3,List.getElem?_eq_getElem (by omega),e1]
 rw [hc2] at hc; cases hc
 exact hf
end Go.By
namespace Go.Proofs.YtfbmdlfkipipfaaGreatDoor
open Go.RowKit Go.By Gf Go.Maps
section
variable {wI w0 w w' : World} {gs gt be base L t k D nx N st : Nat} {FX : List (List UInt8)} {v : Value} {K : List Rw}
end
end Go.Proofs.YtfbmdlfkipipfaaGreatDoor
namespace Go.By
open Go.RowKit
theorem sl_of_row {w : World} {a : Option Addr} {len cap : Nat} {zs : List Int}
  (h : (a = none ∧ len = 0 ∧ cap = 0 ∧ zs = []) ∨ ∃ x,a = some x ∧ len ≤ cap ∧ cap ≤ maxLen ∧ zs.length = cap ∧ (∀ i,i < zs.length → w.cell? (x.add i) = some (.int .u8 (zs.getD i 0))) ∧ ∀ n ∈ zs,(Lit.int .u8 n).wf = true) :
  ∃ xs,Sl B8 w a len cap xs := by
 rcases h with ⟨rfl,rfl,rfl,_⟩ | ⟨x,rfl,hl,hm,hz,hc,hw⟩
 ·exact ⟨[],Sl.nil0 _ _⟩
 ·refine ⟨(zs.take len).map fun z => UInt8.ofNat z.toNat,⟨by simp; omega,hl,hm,fun h => by simp at h,?_⟩⟩
  intro i hi
  have hi' : i < zs.length := by simp at hi; omega
  obtain ⟨b,o,hx,hc'⟩ := ints_at hc (by omega)
  refine ⟨b,o,by rw [hx],?_⟩
  have hh := hc i hi'
  rw [hx,Addr.add_lit] at hh
  rw [hh]
  have e : zs.getD i 0 = zs[i] := by simp [hi']
  rw [e]
  have hb := bounds_u8 (hw _ (List.getElem_mem hi'))
  simp
  omega
end Go.By
namespace Go.Proofs.YtfbmdlfkipipfaaGreatDoor
open Go.RowKit Go.By Go.ChangeShapes Go.WideShapes Go.Deep
section
variable {H : Type} {enc : TypeId × Value → H} {P : Program} {w : World} {base : Nat} {held : Bool}
end
end Go.Proofs.YtfbmdlfkipipfaaGreatDoor
namespace Go.By
open Go.RowKit
end Go.By
namespace Go.Proofs.YtfbmdlfkipipfaaGreatDoor
open Go.RowKit Go.By Go.ChangeShapes Go.WideShapes Go.Deep
section
variable {H : Type} {enc : TypeId × Value → H} {P : Program} {w : World} {base : Nat} {held : Bool}
end
end Go.Proofs.YtfbmdlfkipipfaaGreatDoor
namespace Go.Proofs.YtfbmdlfkipipfaaGreatDoor
open Go.RowKit Go.By
set_option maxRecDepth 100000 in
set_option maxHeartbeats 1000000 in
theorem Few18_any (p : Option Addr) (m c : Nat) (xss : List (List UInt8)) (w : World) (h : Sl2 w p m c xss) :
  Calls Tryz.prog 44 #[.slice p m c] w fun e w' => e = .returned (.bool (xss.all (fun y => decide (y.length ≤ 800)) && decide (m ≤ 30))) ∧ w = w' := by
 have H := Lib.hid h
 have HL := Lib.hid h.len
 have hmb := h.bound
 obtain ⟨R,hR⟩ : ∃ R : Bool,R = (xss.all (fun y => decide (y.length ≤ 800)) && decide (m ≤ 30)) := ⟨_,rfl⟩
 rw [← hR]
 have HR := Lib.hid hR
 clear h hR
 go_enter Tryz.func44,Tryz.ntmps44
 go_wp2
 go_loop [7] (fun i => ∃ k : Nat,k ≤ m ∧ i = .int .i64 k ∧ Hid (∀ (j : Nat) (x : List UInt8),j < k → xss[j]? = some x → x.length ≤ 800)) (fun i => m - (intOf i).toNat)
 case atStart => exact ⟨0,Nat.zero_le _,rfl,fun j x hj => by omega⟩
 case round =>
  obtain ⟨k,hk,rfl,hj⟩ := hrel
  by_cases hlt : k < m
  ·obtain ⟨b,o,q,mx,cx,xs,rfl,hc,hs,hx⟩ := H.out.at k hlt
   have hmx := hs.len
   have hxb := hs.bound
   by_cases e : mx ≤ 800
   ·have HX := Lib.hid hmx
    clear hs hmx
    have e' : (mx : Int) ≤ 800 := by omega
    go_wp2
    go_round
    case rel => exact ⟨k + 1,by omega,by go_num,fun j x hjk hx' => by
     rcases Nat.lt_or_ge j k with h | h
     ·exact hj.out j x h hx'
     ·obtain rfl : j = k := by omega
      have := hx.out; rw [hx'] at this; cases this; rw [HX.out]; exact e⟩
    case measure => simp [intOf]; omega
   ·have e' : (800 : Int) < (mx : Int) := by omega
    have hRf : Hid (R = false) := by
     show R = false
     rw [HR.out]
     have : xss.all (fun y => decide (y.length ≤ 800)) = false := by
      rw [List.all_eq_false]
      exact ⟨xs,List.mem_of_getElem? hx.out,by simp; omega⟩
     rw [this]; rfl
    clear hs hmx e
    go_wp2
    go_ret
    exact ⟨by rw [hRf.out]; rfl,rfl⟩
  ·have hkm : k = m := by omega
   have hRt : Hid (R = decide ((m : Int) ≤ 30)) := by
    show R = _
    rw [HR.out]
    have : xss.all (fun y => decide (y.length ≤ 800)) = true := by
     rw [List.all_eq_true]
     intro x hx
     obtain ⟨i,hi,rfl⟩ := List.getElem_of_mem hx
     exact decide_eq_true (hj.out i _ (by rw [hkm,← HL.out]; exact hi) (List.getElem?_eq_getElem hi))
    rw [this,Bool.true_and]
    by_cases h30 : m ≤ 30
    ·rw [decide_eq_true h30,decide_eq_true (by omega)]
    ·rw [decide_eq_false h30,decide_eq_false (by omega)]
   have hge : (m : Int) ≤ (k : Int) := by omega
   clear hkm
   go_wp2
   go_ret
   exact ⟨by rw [hRt.out]; rfl,rfl⟩
def small19 (l s n : Int) : Bool := if checkS l s n = 0 then decide (n ≤ 12) && decide (s ≤ 20) else true
set_option maxRecDepth 100000 in
set_option maxHeartbeats 1000000 in
theorem Small19_any (l s n d : Int) (w : World) (hl2 : l ≤ 9223372036854775807) :
  Calls Tryz.prog 29 #[.agg #[.int .i64 l,.int .i64 s,.int .i64 n,.int .u32 d]] w fun e w' => e = .returned (.bool (small19 l s n)) ∧ Below w.heap.size w w' := by
 have HC := Lib.hid (fun w => Check_any l s n d w hl2)
 have HS : Hid (small19 l s n = if checkS l s n = 0 then decide (n ≤ 12) && decide (s ≤ 20) else true) := rfl
 generalize small19 l s n = R at *
 generalize checkS l s n = C at *
 by_cases hc : C = 0
 ·subst hc
  by_cases hn : n ≤ 12
  ·by_cases hs : s ≤ 20
   ·have HR : Hid (R = true) := by show _ = _; rw [HS.out,if_pos rfl,decide_eq_true hn,decide_eq_true hs]; rfl
    clear HS
    go_enter Tryz.func29,Tryz.ntmps29
    go_wp2_with fail
    refine Calls.mono (HC.out _) ?_
    rintro e w1 ⟨rfl,hb⟩
    obtain ⟨hb1,h1,hsz⟩ := one_of hb
    obtain ⟨c0,c1,c2,c3⟩ := cells_four h1
    have HB := Lib.hid hb1
    clear hb hb1
    go_wp2
    go_ret
    exact ⟨by rw [HR.out]; first | rfl | (simp only [decide_eq_true hs]; rfl),HB.out⟩
   ·have hs' : ¬ s ≤ 20 := by omega
    have HR : Hid (R = false) := by show _ = _; rw [HS.out,if_pos rfl,decide_eq_true hn,decide_eq_false hs']; rfl
    clear HS
    go_enter Tryz.func29,Tryz.ntmps29
    go_wp2_with fail
    refine Calls.mono (HC.out _) ?_
    rintro e w1 ⟨rfl,hb⟩
    obtain ⟨hb1,h1,hsz⟩ := one_of hb
    obtain ⟨c0,c1,c2,c3⟩ := cells_four h1
    have HB := Lib.hid hb1
    clear hb hb1
    go_wp2
    go_ret
    exact ⟨by rw [HR.out]; first | rfl | (simp only [show decide (s ≤ 20) = false from decide_eq_false (by omega)]; rfl),HB.out⟩
  ·have HR : Hid (R = false) := by show _ = _; rw [HS.out,if_pos rfl,decide_eq_false hn]; rfl
   clear HS
   go_enter Tryz.func29,Tryz.ntmps29
   go_wp2_with fail
   refine Calls.mono (HC.out _) ?_
   rintro e w1 ⟨rfl,hb⟩
   obtain ⟨hb1,h1,hsz⟩ := one_of hb
   obtain ⟨c0,c1,c2,c3⟩ := cells_four h1
   have HB := Lib.hid hb1
   clear hb hb1
   go_wp2
   go_ret
   exact ⟨by rw [HR.out]; rfl,HB.out⟩
 ·have hz : (C != 0) = true := bne_iff_ne.2 hc
  have HR : Hid (R = true) := by show _ = _; rw [HS.out,if_neg hc]
  clear HS hc
  go_enter Tryz.func29,Tryz.ntmps29
  go_wp2_with fail
  refine Calls.mono (HC.out _) ?_
  rintro e w1 ⟨rfl,hb⟩
  obtain ⟨hb1,h1,hsz⟩ := one_of hb
  have HB := Lib.hid hb1
  clear hb hb1
  go_wp2
  go_ret
  exact ⟨by rw [HR.out]; rfl,HB.out⟩
end Go.Proofs.YtfbmdlfkipipfaaGreatDoor
namespace Go.Proofs.YtfbmdlfkipipfaaGreatDoor
open Go.RowKit Go.By Gf Go.Maps
end Go.Proofs.YtfbmdlfkipipfaaGreatDoor
namespace Go.Proofs.YtfbmdlfkipipfaaGreatDoor
open Go.RowKit Go.By
end Go.Proofs.YtfbmdlfkipipfaaGreatDoor
namespace Go.Proofs.YtfbmdlfkipipfaaGreatDoor
open Go.RowKit Go.By
end Go.Proofs.YtfbmdlfkipipfaaGreatDoor
namespace Go.By
open Go.RowKit
abbrev Par := Value × Int × List UInt8
section
variable {TP T1 : Nat} {w w' : World} {base n : Nat} {v : Value} {ts : List Par}
end
end Go.By
namespace Go.Proofs.YtfbmdlfkipipfaaGreatDoor
open Go.RowKit Go.By
end Go.Proofs.YtfbmdlfkipipfaaGreatDoor
namespace Go.Proofs.YtfbmdlfkipipfaaGreatDoor
open Go.RowKit Go.By
def dropAt {α : Type} (ps : List α) (i : Nat) : List α := ps.take i ++ ps.drop (i + 1)
def putAtP {α : Type} (ps : List α) (k : Nat) (p : α) : List α := ps.take k ++ p :: ps.drop k
end Go.Proofs.YtfbmdlfkipipfaaGreatDoor
namespace Go.Proofs.YtfbmdlfkipipfaaGreatDoor
open Go.RowKit Go.By
end Go.Proofs.YtfbmdlfkipipfaaGreatDoor
namespace Go.Proofs.YtfbmdlfkipipfaaGreatDoor
open Go.RowKit Go.By
def cutP (p : List UInt8 × Int) (j : Nat) : List UInt8 × Int := if j < p.1.length then (p.1.take j,-1) else p
end Go.Proofs.YtfbmdlfkipipfaaGreatDoor
namespace Go.Proofs.YtfbmdlfkipipfaaGreatDoor
open Go.RowKit Go.By
def flip (xs : List UInt8) (at' : Nat) : List UInt8 := xs.set (at' / 8) ((xs.getD (at' / 8) 0) ^^^ UInt8.ofNat (2 ^ (at' % 8)))
def maskF (b j : Nat) (xs : List UInt8) : Nat → List UInt8 × Bool
 | 0 => (xs,false)
 | k + 1 => if b.testBit k = true ∧ (j + k) / 8 < xs.length then (flip (maskF b j xs k).1 (j + k),true) else maskF b j xs k
end Go.Proofs.YtfbmdlfkipipfaaGreatDoor
namespace Go.Proofs.YtfbmdlfkipipfaaGreatDoor
open Go.RowKit Go.By
def maskP (p : List UInt8 × Int) (b j : Nat) : List UInt8 × Int := ((maskF b j p.1 32).1,if (maskF b j p.1 32).2 then -1 else p.2)
end Go.Proofs.YtfbmdlfkipipfaaGreatDoor
namespace Go.Proofs.YtfbmdlfkipipfaaGreatDoor
open Go.RowKit Go.By
structure ActD where
 d : Int
 i : Int
 j : Int
 b : Nat
 bs : List UInt8
abbrev Pack := List UInt8 × Int
def stepS (ps : List Pack) (a : ActD) : List Pack :=
 if a.d < 0 ∨ 6 ≤ a.d ∨ a.j < 0 then ps
 else if a.d = 5 then ps ++ [(a.bs,-1)]
 else match ps[a.i.toNat]? with
  | none => ps
  | some p => if a.i < 0 then ps
   else if a.d = 0 then dropAt ps a.i.toNat
   else if a.d = 1 then ps ++ [p]
   else if a.d = 2 then putAtP (dropAt ps a.i.toNat) (min a.j.toNat (ps.length - 1)) p
   else if a.d = 3 then ps.set a.i.toNat (cutP p a.j.toNat)
   else ps.set a.i.toNat (maskP p a.b a.j.toNat)
end Go.Proofs.YtfbmdlfkipipfaaGreatDoor
namespace Go.Proofs.YtfbmdlfkipipfaaGreatDoor
open Go.RowKit Go.By Go.ChangeShapes Go.WideShapes Go.Deep
section
variable {H : Type} {enc : TypeId × Value → H} {P : Program} {w : World} {base : Nat} {held : Bool}
instance : Inhabited ActD := ⟨⟨0,0,0,0,[]⟩⟩
end
end Go.Proofs.YtfbmdlfkipipfaaGreatDoor
namespace Go.Proofs.YtfbmdlfkipipfaaGreatDoor
open Go.RowKit Go.By
end Go.Proofs.YtfbmdlfkipipfaaGreatDoor
namespace Go.Proofs.YtfbmdlfkipipfaaGreatDoor
open Go.RowKit Go.By
end Go.Proofs.YtfbmdlfkipipfaaGreatDoor
namespace Go.Proofs.YtfbmdlfkipipfaaGreatDoor
open Go.RowKit Go.By
end Go.Proofs.YtfbmdlfkipipfaaGreatDoor
namespace Go.Proofs.YtfbmdlfkipipfaaGreatDoor
open Go.RowKit Go.By
end Go.Proofs.YtfbmdlfkipipfaaGreatDoor
namespace Go.Proofs.YtfbmdlfkipipfaaGreatDoor
open Go.RowKit Go.By
end Go.Proofs.YtfbmdlfkipipfaaGreatDoor
namespace Go.Proofs.YtfbmdlfkipipfaaGreatDoor
open Go.RowKit Go.By Gf Go.Maps
section
variable {wI w0 w w' : World} {gs gt be base L t k D nx N st : Nat} {FX : List (List UInt8)} {v : Value} {K : List Rw}
end
theorem GChg.one {w : World} {g i : Nat} (v : Value) : GChg w g (w.setCell ⟨g,i,none⟩ v) := (GChg.of g (Below.refl _ _)).set v
end Go.Proofs.YtfbmdlfkipipfaaGreatDoor
namespace Go.Proofs.YtfbmdlfkipipfaaGreatDoor
open Gf Go.By
def clashB (K : List Rw) (x : Rw) : Bool := decide (leadS (restF K x).1 < 0) && !zeroS (restF K x).2
theorem clashB_code {K : List Rw} {x : Rw} : clashB K x = true ↔ codeF K x = 2 := by
 unfold clashB codeF
 by_cases h : leadS (restF K x).1 < 0
 ·rw [if_pos h,decide_eq_true h]
  cases zeroS (restF K x).2 <;> simp
 ·rw [if_neg h,decide_eq_false h]; simp
structure Spg (k n : Nat) (X K0 : List Rw) : Prop where
 kept : KeptS k n K0
 fit : ∀ x,x ∈ X → Fit k n x
 le : ∀ r,r ∈ K0 → Sp (X.map vR) (vR r)
 ge : ∀ x,x ∈ X → Sp (K0.map vR) (vR x)
theorem Spg.nil (k n : Nat) : Spg k n [] [] := ⟨KeptS.nil k n,fun x h => by simp at h,fun x h => by simp at h,fun x h => by simp at h⟩
theorem zeroS_all {xs : List UInt8} : zeroS xs = true ↔ ∀ x,x ∈ xs → x = 0 := by unfold zeroS; simp
theorem rest_span {k n : Nat} {K : List Rw} {x : Rw} (h : KeptS k n K) (hx : Fit k n x) : (∀ j,vR (restF K x) j = 0) ↔ Sp (K.map vR) (vR x) := by
 have rK : vR (restF K x) = red (tri K) (vR x) := rest_red h.rows hx
 rw [rK]
 have := red_zero (x := vR x) (tri_of_sorted h.rows h.sorted)
 rw [tri_fst] at this
 exact this
theorem rest_nil {k n : Nat} {K : List Rw} {x : Rw} (h : KeptS k n K) (hx : Fit k n x) (hl : leadS (restF K x).1 < 0) : (∀ j,vR (restF K x) j = 0) ↔ zeroS (restF K x).2 = true := by
 have hf := hx.rest (fun r hr => (h.rows r hr).1)
 have h0 := vf_zero (leadS_neg hl)
 constructor
 ·intro hz
  refine zeroS_all.2 fun y hy => ?_
  obtain ⟨j,hj,rfl⟩ := List.mem_iff_getElem.1 hy
  have := hz (k + j)
  rw [vR_right hf] at this
  unfold vf at this
  rw [List.getD_eq_getElem?_getD,List.getElem?_eq_getElem hj] at this
  exact this
 ·intro hz j
  by_cases hj : j < k
  ·rw [vR_left hf hj]; exact h0 j
  ·have := vf_zero (zeroS_all.1 hz) (j - k)
   rw [← vR_right hf,show k + (j - k) = j by omega] at this
   exact this
theorem Spg.snoc {k n : Nat} {X K0 : List Rw} {x : Rw} (h : Spg k n X K0) (hx : Fit k n x) (hc : clashB K0 x = false) : Spg k n (X ++ [x]) (insF K0 x) := by
 have memX : ∀ a,a ∈ X.map vR → a ∈ (X ++ [x]).map vR := fun a ha => by rw [List.map_append]; exact List.mem_append.2 (.inl ha)
 have lastX : vR x ∈ (X ++ [x]).map vR := by simp
 refine ⟨h.kept.step hx,fun y hy => ?_,fun r hr => ?_,fun y hy => ?_⟩
 ·rcases List.mem_append.1 hy with hy | hy
  ·exact h.fit y hy
  ·rw [List.mem_singleton] at hy; rw [hy]; exact hx
 ·by_cases hl : leadS (restF K0 x).1 < 0
  ·have e : insF K0 x = K0 := by unfold insF; rw [norm_leadS,if_pos hl]
   rw [e] at hr
   exact Sp.sub memX (h.le r hr)
  ·refine Sp.trans (fun a ha => ?_) ((insF_span h.kept hx hl).1 r hr)
   rcases List.mem_cons.1 ha with rfl | ha
   ·exact Sp.mem lastX
   ·obtain ⟨q,hq,rfl⟩ := List.mem_map.1 ha
    exact Sp.sub memX (h.le q hq)
 ·by_cases hl : leadS (restF K0 x).1 < 0
  ·have e : insF K0 x = K0 := by unfold insF; rw [norm_leadS,if_pos hl]
   rw [e]
   rcases List.mem_append.1 hy with hy | hy
   ·exact h.ge y hy
   ·rw [List.mem_singleton] at hy; rw [hy]
    have hz : zeroS (restF K0 x).2 = true := by
     unfold clashB at hc
     rw [decide_eq_true hl] at hc
     simpa using hc
    exact (rest_span h.kept hx).1 ((rest_nil h.kept hx hl).2 hz)
  ·obtain ⟨i1,i2,i3⟩ := insF_span h.kept hx hl
   rcases List.mem_append.1 hy with hy | hy
   ·refine Sp.trans (fun a ha => ?_) (h.ge y hy)
    obtain ⟨q,hq,rfl⟩ := List.mem_map.1 ha
    exact i2 q hq
   ·rw [List.mem_singleton] at hy; rw [hy]; exact i3
theorem kept_ind {k n : Nat} {K : List Rw} (h : KeptS k n K) : Ind (K.map vR) := by
 have := (tri_of_sorted h.rows h.sorted).ind
 rwa [tri_fst] at this
def widesL (X : List Rw) : List (List UInt8) := X.map cat
def vecsL (X : List Rw) : List (List UInt8) := X.map (fun x : Rw => x.1)
theorem wides_vf (X : List Rw) : (widesL X).map vf = X.map vR := by unfold widesL; rw [List.map_map]; rfl
theorem wides_rk {k n : Nat} {X : List Rw} (h : ∀ x,x ∈ X → Fit k n x) : Rk (X.map vR) (iK (widesL X)).length := by
 have := ins_rank (n := k + n) (widesL X) (fun r hr => by obtain ⟨x,hx,rfl⟩ := List.mem_map.1 hr; exact (h x hx).cat)
 rw [wides_vf] at this
 exact this
theorem Spg.rank {k n : Nat} {X K0 : List Rw} (h : Spg k n X K0) : (iK (widesL X)).length = K0.length := by
 refine (wides_rk h.fit).unique ⟨K0.map vR,kept_ind h.kept,by simp,fun b hb => ?_,fun a ha => ?_⟩
 ·obtain ⟨r,hr,rfl⟩ := List.mem_map.1 hb; exact h.le r hr
 ·obtain ⟨x,hx,rfl⟩ := List.mem_map.1 ha; exact h.ge x hx
theorem vecs_rank (X : List Rw) : (iK (vecsL X)).length = (kD X).length := by
 have := kD_pr X []
 show ((X.map (fun x : Rw => x.1)).foldl (fun K r => insF K (r,[])) []).length = _
 rw [show ([] : List Rw) = ([] : List Rw).map prR from rfl,this,List.length_map]; rfl
theorem clash_rank {k n : Nat} {X K0 : List Rw} {x : Rw} (h : Spg k n X K0) (hx : Fit k n x) (hc : clashB K0 x = true) : K0.length + 1 ≤ (iK (widesL (X ++ [x]))).length := by
 have hl : leadS (restF K0 x).1 < 0 := by
  unfold clashB at hc; rw [Bool.and_eq_true] at hc; exact of_decide_eq_true hc.1
 have hz : ¬ zeroS (restF K0 x).2 = true := by
  unfold clashB at hc; rw [Bool.and_eq_true] at hc
  intro e; rw [e] at hc; exact absurd hc.2 (by decide)
 have hn : ¬ ∀ j,vR (restF K0 x) j = 0 := fun g => hz ((rest_nil h.kept hx hl).1 g)
 obtain ⟨l,hlz⟩ : ∃ l,vR (restF K0 x) l ≠ 0 := Classical.byContradiction fun g => hn fun j => Classical.byContradiction fun e => g ⟨j,e⟩
 have rK : vR (restF K0 x) = red (tri K0) (vR x) := rest_red h.kept.rows hx
 have T := tri_of_sorted h.kept.rows h.kept.sorted
 have hT : Tri (tri K0 ++ [((fun j => gmul (ginv (vR (restF K0 x) l)) (vR (restF K0 x) j)),l)]) := by
  refine T.snoc (fun p hp => ?_) (ginv_gmul _ hlz)
  show gmul _ _ = 0
  rw [rK,red_at T p hp,gmul_zero]
 have hI := hT.ind
 rw [List.map_append,tri_fst] at hI
 obtain ⟨B,hB,hBl,hB1,hB2⟩ := wides_rk (X := X ++ [x]) (k := k) (n := n) (fun y hy => by
  rcases List.mem_append.1 hy with hy | hy
  ·exact h.fit y hy
  ·rw [List.mem_singleton] at hy; rw [hy]; exact hx)
 rw [← hBl]
 have hlen : ((K0.map fun r => vf (cat r)) ++ [((fun j => gmul (ginv (vR (restF K0 x) l)) (vR (restF K0 x) j)),l)].map (·.1)).length = K0.length + 1 := by simp
 rw [← hlen]
 have memX : ∀ a,a ∈ X.map vR → a ∈ (X ++ [x]).map vR := fun a ha => by rw [List.map_append]; exact List.mem_append.2 (.inl ha)
 refine exchange _ _ hI fun a ha => Sp.trans hB2 ?_
 rcases List.mem_append.1 ha with ha | ha
 ·obtain ⟨r,hr,rfl⟩ := List.mem_map.1 ha
  exact Sp.sub memX (h.le r hr)
 ·simp only [List.map_cons,List.map_nil,List.mem_singleton] at ha
  rw [ha]
  refine Sp.scale _ ?_
  have s := red_span (tri K0) (vR x)
  rw [tri_fst,← rK] at s
  have s2 : Sp ((X ++ [x]).map vR) (fun j => vR x j ^^^ vR (restF K0 x) j) := Sp.trans (fun a ha => by
   obtain ⟨r,hr,rfl⟩ := List.mem_map.1 ha
   exact Sp.sub memX (h.le r hr)) s
  have s3 := Sp.add (Sp.mem (show vR x ∈ (X ++ [x]).map vR by simp)) s2
  have e : vR (restF K0 x) = fun j => vR x j ^^^ (vR x j ^^^ vR (restF K0 x) j) := by
   funext j; rw [← xor_assoc,xor_self,zero_xor]
  rw [e]; exact s3
def calm (D : List Rw) (j : Nat) : Prop := ∀ i x,i < j → D[i]? = some x → clashB (kD (D.take i)) x = false
theorem calm_spg {k n : Nat} {D : List Rw} (hD : ∀ x,x ∈ D → Fit k n x) : ∀ j,calm D j → Spg k n (D.take j) (kD (D.take j))
 | 0,_ => by rw [List.take_zero]; exact Spg.nil k n
 | j + 1,h => by
  have ih := calm_spg hD j (fun i x hi hx => h i x (by omega) hx)
  by_cases hj : j < D.length
  ·have e := List.getElem?_eq_getElem hj
   rw [List.take_add_one,e]
   show Spg k n (D.take j ++ [D[j]]) (kD (D.take j ++ [D[j]]))
   rw [kD_snoc]
   exact ih.snoc (hD _ (List.getElem_mem hj)) (h j _ (by omega) e)
  ·rw [List.take_of_length_le (by omega)] at ih ⊢
   exact ih
theorem judge_at {k n : Nat} {D : List Rw} (hD : ∀ x,x ∈ D → Fit k n x) {j : Nat} {x : Rw} (hx : D[j]? = some x) (h : calm D j) : ((iK (vecsL (D.take (j + 1)))).length = (iK (widesL (D.take (j + 1)))).length) ↔ clashB (kD (D.take j)) x = false := by
 have S := calm_spg hD j h
 have hxD : x ∈ D := List.mem_of_getElem? hx
 have et : D.take (j + 1) = D.take j ++ [x] := by rw [List.take_add_one,hx]; rfl
 cases hc : clashB (kD (D.take j)) x with
 | false =>
  have S2 := S.snoc (hD x hxD) hc
  rw [et,S2.rank,vecs_rank,kD_snoc]
  simp
 | true =>
  have g := clash_rank S (hD x hxD) hc
  have hl : leadS (restF (kD (D.take j)) x).1 < 0 := by
   unfold clashB at hc; rw [Bool.and_eq_true] at hc; exact of_decide_eq_true hc.1
  have e : insF (kD (D.take j)) x = kD (D.take j) := by unfold insF; rw [norm_leadS,if_pos hl]
  rw [et,vecs_rank,kD_snoc,e]
  constructor
  ·intro h2; omega
  ·intro h2; cases h2
end Go.Proofs.YtfbmdlfkipipfaaGreatDoor
namespace Go.By
open Go.RowKit
def OwnH (T2 : TypeId) (w0 w : World) (base : Nat) (v : Value) (n : Nat) (xss : List (List UInt8)) : Prop :=
 ∃ vs : List Value,w.ownsRow base T2 1 v n vs ∧ xss.length = n ∧ ∀ (j : Nat) (val : Value),vs[j]? = some val → ∃ xs q c',xss[j]? = some xs ∧ val = Value.slice q xs.length c' ∧ Sl B8 w0 q xs.length c' xs
theorem OwnH.nil (T2 : TypeId) (w0 w : World) (base : Nat) : OwnH T2 w0 w base (.slice none 0 0) 0 [] := ⟨[],World.ownsRow_nil _ _ _ _,rfl,fun j val h => by simp at h⟩
theorem OwnH.sl2 {T2 : TypeId} {w0 w : World} {base n c : Nat} {p : Option Addr} {xss : List (List UInt8)} (h : OwnH T2 w0 w base (.slice p n c) n xss) (hb : Below w0.heap.size w0 w) : Sl2 w p n c xss := by
 obtain ⟨vs,h1,h2,h3⟩ := h
 have hs : Sl id w p n c vs := Sl.of_owns (by rw [List.map_id]; exact h1)
 refine ⟨h2,hs.le,hs.max,hs.nil,?_⟩
 intro i xs hi
 have hlt : i < vs.length := by
  have := (List.getElem?_eq_some_iff.1 hi).1
  rw [hs.len]; omega
 obtain ⟨b,o,hp,hc⟩ := hs.rs i hlt
 obtain ⟨xs',q,c',a1,a2,a3⟩ := h3 i _ (List.getElem?_eq_getElem hlt)
 have e := hi.symm.trans a1
 cases e
 exact ⟨b,o,q,c',hp,by rw [hc,id,a2],a3.keep hb⟩
theorem OwnH.push {T2 : TypeId} {w0 w' : World} {base n : Nat} {vs : List Value} {v' : Value} {q : Option Addr} {m c : Nat} {xs : List UInt8} {xss : List (List UInt8)} (hvl : vs.length = n) (h2 : xss.length = n)
  (h3 : ∀ (j : Nat) (val : Value),vs[j]? = some val → ∃ xs q c',xss[j]? = some xs ∧ val = Value.slice q xs.length c' ∧ Sl B8 w0 q xs.length c' xs)
  (hr : Sl B8 w0 q m c xs) (ho : w'.ownsRow base T2 1 v' (n + 1) (vs ++ [.slice q m c])) : OwnH T2 w0 w' base v' (n + 1) (xss ++ [xs]) := by
 have hml : m = xs.length := hr.len.symm
 refine ⟨_,ho,by simp [h2],?_⟩
 intro j val hj
 by_cases hjn : j < n
 ·rw [List.getElem?_append_left (by omega)] at hj
  obtain ⟨ys,q',c',a,b,d⟩ := h3 j val hj
  exact ⟨ys,q',c',by rw [List.getElem?_append_left (by omega)]; exact a,b,d⟩
 ·rw [List.getElem?_append_right (by omega)] at hj
  have hj0 : j = n := by
   have := (List.getElem?_eq_some_iff.1 hj).1
   simp at this; omega
  subst hj0
  rw [hvl] at hj
  simp at hj
  subst hj
  exact ⟨xs,q,c,by rw [List.getElem?_append_right (by omega),h2]; simp,by rw [hml],by rw [← hml]; exact hr⟩
end Go.By
namespace Go.Proofs.YtfbmdlfkipipfaaGreatDoor
open Go.RowKit Go.By
theorem vecsL_take {D : List Rw} {j : Nat} {x : Rw} (h : D[j]? = some x) : vecsL (D.take (j + 1)) = vecsL (D.take j) ++ [x.1] := by
 unfold vecsL; rw [List.take_add_one,h,List.map_append]; rfl
end Go.Proofs.YtfbmdlfkipipfaaGreatDoor
namespace Go.Proofs.YtfbmdlfkipipfaaGreatDoor
open Go.RowKit Go.By
def clashI (D : List Rw) : Nat → Int
 | 0 => -1
 | i + 1 => match D[i]? with
  | some x => if clashB (kD (D.take i)) x = true ∧ clashI D i < 0 then (i : Int) else clashI D i
  | none => clashI D i
theorem clashI_step {D : List Rw} {i : Nat} {x : Rw} (h : D[i]? = some x) : clashI D (i + 1) = if clashB (kD (D.take i)) x = true ∧ clashI D i < 0 then (i : Int) else clashI D i := by
 show (match D[i]? with | some x => _ | none => _) = _
 rw [h]
theorem sys_len {k t : Nat} {X K : List Rw} (h : Sys k t (kD X) K) : K.length = (kD X).length := (sys_rank h).trans (vecs_rank X)
theorem sys_clash {k t : Nat} {X K : List Rw} {x : Rw} (h : Sys k t (kD X) K) (hx : Fit k t x) : clashB (kD X) x = clashB K x := by
 unfold clashB; rw [h.rest hx]
end Go.Proofs.YtfbmdlfkipipfaaGreatDoor
namespace Go.Proofs.YtfbmdlfkipipfaaGreatDoor
open Go.RowKit Go.By
set_option maxRecDepth 100000 in
set_option maxHeartbeats 4000000 in
theorem RVectors_any (p : Option Addr) (m c : Nat) (D : List Rw) (w : World) (h : RwS w p m c D) (hm : m ≤ 65536) :
  Calls Tryz.prog 159 #[.slice p m c] w fun e w' => ∃ q c',e = .returned (.slice q m c') ∧ Sl2 w' q m c' (vecsL D) ∧ Below w.heap.size w w' := by
 obtain ⟨r0,hr0,hrz,hr1,hr2⟩ := info_parts info_rows
 have H := Lib.hid h; have HLEN := Lib.hid h.len
 clear h
 go_enter Tryz.func159,Tryz.ntmps159
 go_wp2
 go_loopw [3,8] (fun o i wr => ∃ (k : Nat) (qo : Option Addr) (co : Nat),k ≤ m ∧ i = .int .i64 k ∧ o = .slice qo k co ∧ Hid (OwnH 22 w wr w.heap.size (.slice qo k co) k (vecsL (D.take k))) ∧ Hid (Below w.heap.size w wr)) (fun _ i _ => m - (intOf i).toNat)
 case atStart => exact ⟨0,none,0,Nat.zero_le _,rfl,rfl,by show OwnH _ _ _ _ _ _ (vecsL (D.take 0)); rw [List.take_zero]; exact OwnH.nil _ _ _ _,Below.refl _ _⟩
 case round =>
  obtain ⟨k,qo,co,hk,rfl,rfl,hO,hB⟩ := hrel
  by_cases hlt : k < m
  ·have kn : (k : Int) < (m : Int) := by omega
   obtain ⟨x,hx⟩ : ∃ x,D[k]? = some x := ⟨_,List.getElem?_eq_getElem (by rw [HLEN.out]; exact hlt)⟩
   obtain ⟨b,o,q1,m1,c1,q2,m2,c2,rfl,d1,d2,s1,s2⟩ := H.out.row k x hx
   have D1 := (hB.out.cell (p := ⟨b,o + k * 2,none⟩) (lt_of_cell d1)).trans d1
   have D2 := (hB.out.cell (p := ⟨b,o + k * 2 + 1,none⟩) (lt_of_cell d2)).trans d2
   have S1 := Lib.hid s1
   have HX := Lib.hid hx
   have hsz := hB.out.size
   obtain ⟨vs,oA,lA,rA⟩ := hO.out
   have OA := Lib.hid oA; have LA := Lib.hid lA; have RA := Lib.hid rA
   have hvl : Hid (vs.length = k) := by show _ = _; have := oA.1; simpa using this
   have hO2 : Hid (∀ o1 o2,((wr.alloc o1).alloc o2).ownsRow w.heap.size 22 1 (.slice qo k co) k vs) := fun o1 o2 => owns_keep OA.out (bl (al (Below.refl _ _) (Nat.le_refl _)) (al (Below.refl _ _) (Nat.le_refl _)) (by simp))
   clear d1 d2 s1 s2 hx oA lA rA hO
   go_wp2_with (at_builtin; refine wpList_append_own _ rfl _ _ 31 rfl w.heap.size 22 r0 (.slice none 0 0) 1 24 Tryz.underlying31 hr0 hrz hr1 hr2 rfl (by omega) _ k _ rfl (hO2.out _ _) ⟨wr.heap.size + 1,0,none⟩ 1 1 [.slice q1 m1 c1] rfl rfl (one_cell' (by simp)) ?d2 ?d3 ?d4 ?d5 ?_)
   case d2 => intro y hy; simp at hy; subst hy; rfl
   case d3 => unfold maxLen; omega
   case d4 => omega
   case d5 => simp; omega
   intro v6 w6 ho6 hg6 _
   obtain ⟨q6,c6,rfl⟩ := owns_shape ho6
   have P6 : Hid (OwnH 22 w w6 w.heap.size (.slice q6 (k + 1) c6) (k + 1) (vecsL (D.take (k + 1))) ∧ Below w.heap.size w w6) := by
    refine ⟨?_,(al (al hB.out hsz) (by simp; omega)).grown hg6 (by simp; omega) (fun kk hk => (OA.out.lt kk hk).1)⟩
    rw [vecsL_take HX.out]
    exact OwnH.push hvl.out LA.out RA.out S1.out ho6
   clear ho6 hg6 hO2 OA LA RA hvl hsz D1 D2 S1 hB
   go_wp2
   go_roundw
   case rel => exact ⟨k + 1,q6,c6,by omega,by go_num,rfl,P6.out.1,P6.out.2⟩
   case measure => simp [intOf]; omega
  ·have hkw : k = m := by omega
   subst hkw
   have OF : Hid (Sl2 wr qo k co (vecsL D)) := by
    have := hO.out.sl2 hB.out
    rwa [List.take_of_length_le (by rw [HLEN.out]; exact Nat.le_refl _)] at this
   have BF := Lib.hid hB.out
   clear hO hB
   go_wp2
   go_ret
   exact ⟨qo,co,rfl,OF.out,BF.out⟩
end Go.Proofs.YtfbmdlfkipipfaaGreatDoor
namespace Go.Proofs.YtfbmdlfkipipfaaGreatDoor
open Go.RowKit Go.By
theorem widesL_take {D : List Rw} {j : Nat} {x : Rw} (h : D[j]? = some x) : widesL (D.take (j + 1)) = widesL (D.take j) ++ [cat x] := by
 unfold widesL; rw [List.take_add_one,h,List.map_append]; rfl
set_option maxRecDepth 100000 in
set_option maxHeartbeats 4000000 in
theorem RWide_any (k0 t0 : Nat) (p : Option Addr) (m c : Nat) (D : List Rw) (w : World) (h : RwS w p m c D) (hm : m ≤ 65536) (hD : ∀ x,x ∈ D → Fit k0 t0 x) (hk0 : k0 ≤ 65536) (ht0 : t0 ≤ 65536) :
  Calls Tryz.prog 160 #[.slice p m c] w fun e w' => ∃ q c',e = .returned (.slice q m c') ∧ Sl2 w' q m c' (widesL D) ∧ Below w.heap.size w w' := by
 obtain ⟨r0,hr0,hrz,hr1,hr2⟩ := info_parts info_rows
 obtain ⟨i0,hi0,hz0,hz1,hz2⟩ := info_parts info_u8
 have H := Lib.hid h; have HLEN := Lib.hid h.len; have HD := Lib.hid hD
 clear h hD
 go_enter Tryz.func160,Tryz.ntmps160
 go_wp2
 go_loopw [3,9] (fun o i wr => ∃ (k : Nat) (qo : Option Addr) (co : Nat),k ≤ m ∧ i = .int .i64 k ∧ o = .slice qo k co ∧ Hid (Own2 22 5 wr w.heap.size (.slice qo k co) k (widesL (D.take k))) ∧ Hid (Below w.heap.size w wr)) (fun _ i _ => m - (intOf i).toNat)
 case atStart => exact ⟨0,none,0,Nat.zero_le _,rfl,rfl,by show Own2 _ _ _ _ _ _ (widesL (D.take 0)); rw [List.take_zero]; exact Own2.nil _ _ _ _,Below.refl _ _⟩
 case round =>
  obtain ⟨k,qo,co,hk,rfl,rfl,hO,hB⟩ := hrel
  by_cases hlt : k < m
  ·have kn : (k : Int) < (m : Int) := by omega
   obtain ⟨x,hx⟩ : ∃ x,D[k]? = some x := ⟨_,List.getElem?_eq_getElem (by rw [HLEN.out]; exact hlt)⟩
   have hfit := HD.out x (List.mem_of_getElem? hx)
   obtain ⟨b,o,q1,m1,c1,q2,m2,c2,rfl,d1,d2,s1,s2⟩ := H.out.row k x hx
   obtain rfl : k0 = m1 := by rw [← s1.len]; exact hfit.1.symm
   obtain rfl : t0 = m2 := by rw [← s2.len]; exact hfit.2.symm
   have D1 := (hB.out.cell (p := ⟨b,o + k * 2,none⟩) (lt_of_cell d1)).trans d1
   have D2 := (hB.out.cell (p := ⟨b,o + k * 2 + 1,none⟩) (lt_of_cell d2)).trans d2
   have S1 := Lib.hid (s1.keep hB.out); have S2 := Lib.hid (s2.keep hB.out)
   have HX := Lib.hid hx
   have hsz := hB.out.size
   obtain ⟨W1,hW1⟩ : ∃ W1,W1 = wr.alloc (.cells #[.slice q1 k0 c1,.slice q2 t0 c2] 187) := ⟨_,rfl⟩
   have hb1 : Below wr.heap.size wr W1 := by rw [hW1]; exact al (Below.refl _ _) (Nat.le_refl _)
   have hs1 : W1.heap.size = wr.heap.size + 1 := by rw [hW1]; simp
   have HB1 := Lib.hid hb1
   have HS1 := Lib.hid hs1
   have z1 : W1.cell? ⟨wr.heap.size,1,none⟩ = some (.slice q2 t0 c2) := by rw [hW1]; exact cell_of_row _ _ 1 _ _ _ (hnew rfl)
   have Z1 := Lib.hid z1
   have HW1 := Lib.hid hW1
   clear d1 d2 s1 s2 hx hb1 hs1 z1 hW1 hfit
   go_wp2_with (at_builtin; refine wpList_append_rs _ rfl _ _ 22 rfl W1.heap.size 5 i0 (.int .u8 0) 1 Tryz.underlying22 hi0 hz0 hz1 hz2 rfl _ 0 [] rfl (World.ownsRow_nil _ _ _ _) B8 _ _ _ x.1 (fun _ _ => rfl) rfl (S1.out.keep (al (Below.refl _ _) (Nat.le_refl _))) ?a1 ?a2 ?a3 ?_)
   case a1 => unfold maxLen; omega
   case a2 => omega
   case a3 => rw [HS1.out]; simp
   rw [← HW1.out]
   intro v5 w5 ho5 hg5
   obtain ⟨q5,c5,rfl⟩ := owns_shape ho5
   have b5 : Below W1.heap.size W1 w5 := (Below.refl _ _).grown hg5 (Nat.le_refl _) (by simp [Value.ownBlock])
   have BB5 := Lib.hid b5
   have O5 : Hid (w5.ownsRow W1.heap.size 5 1 (.slice q5 k0 c5) k0 (x.1.map B8)) := by
    show World.ownsRow _ _ _ _ _ _ _
    simpa using ho5
   have z5 : w5.cell? ⟨wr.heap.size,1,none⟩ = some (.slice q2 t0 c2) := (b5.cell (p := ⟨wr.heap.size,1,none⟩) (by rw [HS1.out]; simp)).trans Z1.out
   have hs5 := b5.size
   have S25 := Lib.hid ((S2.out.keep HB1.out).keep b5)
   clear ho5 hg5 b5
   go_wp2_with (at_builtin; refine wpList_append_rs _ rfl _ _ 22 rfl W1.heap.size 5 i0 (.int .u8 0) 1 Tryz.underlying22 hi0 hz0 hz1 hz2 rfl _ k0 (x.1.map B8) rfl O5.out B8 _ _ _ x.2 (fun _ _ => rfl) rfl S25.out ?b1 ?b2 ?b3 ?_)
   case b1 => unfold maxLen; omega
   case b2 => omega
   case b3 => exact hs5
   intro v6 w6 ho6 hg6
   obtain ⟨q6,c6,rfl⟩ := owns_shape ho6
   have b6 : Below W1.heap.size w5 w6 := (Below.refl _ _).grown hg6 hs5 (fun kk hk => (O5.out.lt kk hk).1)
   have hle : wr.heap.size ≤ W1.heap.size := by rw [HS1.out]; omega
   have B6 : Hid (Below wr.heap.size wr w6) := bl HB1.out (BB5.out.trans b6) hle
   have O6 : Hid (w6.ownsRow w.heap.size 5 1 (.slice q6 (k0 + t0) c6) (k0 + t0) ((cat x).map B8)) := by
    show World.ownsRow _ _ _ _ _ _ _
    have : (cat x).map B8 = x.1.map B8 ++ x.2.map B8 := by unfold cat; rw [List.map_append]
    rw [this]
    exact owns_mono ho6 (Nat.le_trans hsz hle)
   have hs6 := B6.out.size
   have OQ : Hid (Own2 22 5 w6 w.heap.size (.slice qo k co) k (widesL (D.take k))) := hO.out.keep B6.out
   obtain ⟨vs,oA,lA,rA⟩ := OQ.out
   have OA := Lib.hid oA; have LA := Lib.hid lA; have RA := Lib.hid rA
   have bal : ∀ (W : World) (o : Obj),Below W.heap.size W (W.alloc o) := fun W o => al (Below.refl _ _) (Nat.le_refl _)
   have hO2 : Hid (∀ o,(w6.alloc o).ownsRow w.heap.size 22 1 (.slice qo k co) k vs) := fun o => owns_keep OA.out (bal _ _)
   have HBAL := Lib.hid bal
   have BQ : Hid (Below w.heap.size w w6) := bl hB.out B6.out hsz
   clear ho6 hg6 b6 hs5 z5 S25 O5 BB5 oA lA rA bal OQ hO D1 D2 S1 S2 HW1 Z1 HS1 HB1 hle
   go_wp2_with (at_builtin; refine wpList_append_own _ rfl _ _ 31 rfl w.heap.size 22 r0 (.slice none 0 0) 1 24 Tryz.underlying31 hr0 hrz hr1 hr2 rfl (by omega) _ k _ rfl (hO2.out _) ⟨w6.heap.size,0,none⟩ 1 1 [.slice q6 (k0 + t0) c6] rfl rfl (one_cell' rfl) ?d2 ?d3 ?d4 ?d5 ?_)
   case d2 => intro y hy; simp at hy; subst hy; rfl
   case d3 => unfold maxLen; omega
   case d4 => omega
   case d5 => simp; omega
   intro v7 w7 ho7 hg7 _
   obtain ⟨q7,c7,rfl⟩ := owns_shape ho7
   have P7 : Hid (Own2 22 5 w7 w.heap.size (.slice q7 (k + 1) c7) (k + 1) (widesL (D.take (k + 1))) ∧ Below w.heap.size w w7) := by
    refine ⟨?_,(al BQ.out (by omega)).grown hg7 (by simp; omega) (fun kk hk => (OA.out.lt kk hk).1)⟩
    rw [widesL_take HX.out]
    exact Own2.push (by decide) LA.out (fun jj val hjj => by
     obtain ⟨xs,q,c',a,b,d⟩ := RA.out jj val hjj
     exact ⟨xs,q,c',a,b,owns_keep d (HBAL.out _ _)⟩) (hO2.out _) (owns_keep O6.out (HBAL.out _ _)) ho7 hg7
   clear ho7 hg7 hO2 OA LA RA hsz BQ hB O6 B6
   go_wp2
   go_roundw
   case rel => exact ⟨k + 1,q7,c7,by omega,by go_num,rfl,P7.out.1,P7.out.2⟩
   case measure => simp [intOf]; omega
  ·have hkw : k = m := by omega
   subst hkw
   have OF : Hid (Sl2 wr qo k co (widesL D)) := by
    have := hO.out.sl2
    rwa [List.take_of_length_le (by rw [HLEN.out]; exact Nat.le_refl _)] at this
   have BF := Lib.hid hB.out
   clear hO hB
   go_wp2
   go_ret
   exact ⟨qo,co,rfl,OF.out,BF.out⟩
end Go.Proofs.YtfbmdlfkipipfaaGreatDoor
namespace Go.By
open Go.RowKit
theorem RwS.take {w : World} {p : Option Addr} {n c j : Nat} {K : List (List UInt8 × List UInt8)} (h : RwS w p n c K) (hj : j ≤ n) : RwS w p j c (K.take j) :=
 ⟨by rw [List.length_take,h.len]; omega,Nat.le_trans hj h.le,h.max,fun e => ⟨by have := h.nil e; omega,(h.nil e).2⟩,fun i k hi => by
  rw [List.getElem?_take] at hi
  split at hi
  ·exact h.row i k hi
  ·cases hi⟩
def Shp.vecN (n : Nat) (xss : List (List UInt8)) : Shp := ⟨fun v w => ∃ p c,v = .slice p n c ∧ Sl2 w p n c xss,fun _ _ _ ⟨p,c,e,h⟩ hb => ⟨p,c,e,h.keep hb⟩⟩
end Go.By
namespace Go.Proofs.YtfbmdlfkipipfaaGreatDoor
open Go.RowKit Go.By
theorem clashI_keep {D : List Rw} {i : Nat} (h : 0 ≤ clashI D i) : ∀ d,clashI D (i + d) = clashI D i
 | 0 => rfl
 | d + 1 => by
  have ih := clashI_keep h d
  show (match D[i + d]? with | some x => _ | none => _) = _
  split
  ·rw [if_neg (fun g => by have g2 : clashI D (i + d) < 0 := g.2; rw [ih] at g2; omega)]; exact ih
  ·exact ih
theorem calm_clashI {D : List Rw} : ∀ i,calm D i → clashI D i = -1
 | 0,_ => rfl
 | i + 1,h => by
  have ih := calm_clashI i (fun j x hj hx => h j x (by omega) hx)
  show (match D[i]? with | some x => _ | none => _) = _
  split
  ·rename_i x hx
   rw [if_neg (fun g => by rw [h i x (by omega) hx] at g; cases g.1)]; exact ih
  ·exact ih
theorem first_clashI {D : List Rw} {i m : Nat} {x : Rw} (h : calm D i) (hx : D[i]? = some x) (hc : clashB (kD (D.take i)) x = true) (hm : i < m) : clashI D m = i := by
 have e : clashI D (i + 1) = i := by rw [clashI_step hx,if_pos ⟨hc,by rw [calm_clashI i h]; decide⟩]
 have := clashI_keep (i := i + 1) (D := D) (by rw [e]; omega) (m - (i + 1))
 rw [show i + 1 + (m - (i + 1)) = m by omega,e] at this
 exact this
theorem vecs_len {k t : Nat} {X : List Rw} (h : ∀ x,x ∈ X → Fit k t x) : ∀ r,r ∈ vecsL X → r.length = k := fun r hr => by
 obtain ⟨x,hx,rfl⟩ := List.mem_map.1 hr; exact (h x hx).1
theorem wides_len {k t : Nat} {X : List Rw} (h : ∀ x,x ∈ X → Fit k t x) : ∀ r,r ∈ widesL X → r.length = k + t := fun r hr => by
 obtain ⟨x,hx,rfl⟩ := List.mem_map.1 hr; exact (h x hx).cat
set_option maxRecDepth 100000 in
set_option maxHeartbeats 4000000 in
theorem RJudge_any (k t : Nat) (p : Option Addr) (m c : Nat) (D : List Rw) (w : World) (h : RwS w p m c D) (hk : k ≤ 4096) (ht : t ≤ 65535) (hm : m ≤ 4096) (hD : ∀ x,x ∈ D → Fit k t x) :
  Calls Tryz.prog 102 #[.slice p m c] w fun e w' => e = .returned (.tuple #[.int .i64 (kD D).length,.int .i64 (clashI D m)]) ∧ Below w.heap.size w w' := by
 have H := Lib.hid h; have HL := Lib.hid h.len; have HD := Lib.hid hD
 have hmc := h.le; have hcm : c ≤ 9223372036854775807 := by have := h.max; unfold maxLen at this; omega
 have HA : Hid (∀ W,RwS W p m c D → Calls Tryz.prog 159 #[.slice p m c] W fun e w' => ∃ q c',e = .returned (.slice q m c') ∧ Sl2 w' q m c' (vecsL D) ∧ Below W.heap.size W w') := fun W hW => RVectors_any p m c D W hW (by omega)
 have HB : Hid (∀ W q c',Sl2 W q m c' (vecsL D) → Calls Tryz.prog 158 #[.slice q m c'] W fun e w' => e = .returned (.int .i64 (kD D).length) ∧ Below W.heap.size W w') := fun W q c' hW => by
  have := RRank_any k q m c' (vecsL D) W hW (vecs_len HD.out) (by unfold Room; omega) (by omega)
  rwa [vecs_rank] at this
 clear h hD
 go_enter Tryz.func102,Tryz.ntmps102
 go_wp2
 go_loopw [7] (fun iv wr => ∃ i : Nat,i ≤ m ∧ iv = .int .i64 i ∧ Hid (calm D i) ∧ Hid (Below w.heap.size w wr)) (fun iv _ => m - (intOf iv).toNat)
 case atStart => exact ⟨0,Nat.zero_le _,rfl,fun j x hj _ => by omega,Below.refl _ _⟩
 case round =>
  obtain ⟨i,hi,rfl,hC,hB⟩ := hrel
  by_cases hlt : i < m
  ·have hlt' : (i : Int) < (m : Int) := by omega
   obtain ⟨x,hx⟩ : ∃ x,D[i]? = some x := ⟨_,List.getElem?_eq_getElem (by rw [HL.out]; exact hlt)⟩
   obtain ⟨b,o,q1,m1,c1,q2,m2,c2,rfl,d1,d2,s1,s2⟩ := H.out.row i x hx
   clear d1 d2 s1 s2
   obtain ⟨I,hI⟩ : ∃ I,I = i + 1 := ⟨_,rfl⟩
   obtain ⟨X,hX⟩ : ∃ X,X = D.take I := ⟨_,rfl⟩
   have HR : Hid (RwS wr (some ⟨b,o,none⟩) I c X) := by
    rw [hX]
    exact (H.out.take (by omega)).keep hB.out
   have hXD : ∀ y,y ∈ X → Fit k t y := fun y hy => HD.out y (List.mem_of_mem_take (by rw [← hX]; exact hy))
   obtain ⟨R1,hR1⟩ : ∃ R1,R1 = (iK (vecsL X)).length := ⟨_,rfl⟩
   obtain ⟨R2,hR2⟩ : ∃ R2,R2 = (iK (widesL X)).length := ⟨_,rfl⟩
   have CV : Hid (∀ W,RwS W (some ⟨b,o,none⟩) I c X → Calls Tryz.prog 159 #[.slice (some ⟨b,o,none⟩) I c] W fun e w' => ∃ q c',e = .returned (.slice q I c') ∧ Sl2 w' q I c' (vecsL X) ∧ Below W.heap.size W w') := fun W hW => RVectors_any _ I c X W hW (by omega)
   have CW : Hid (∀ W,RwS W (some ⟨b,o,none⟩) I c X → Calls Tryz.prog 160 #[.slice (some ⟨b,o,none⟩) I c] W fun e w' => ∃ q c',e = .returned (.slice q I c') ∧ Sl2 w' q I c' (widesL X) ∧ Below W.heap.size W w') := fun W hW => RWide_any k t _ I c X W hW (by omega) hXD (by omega) (by omega)
   have C1 : Hid (∀ W q c',Sl2 W q I c' (vecsL X) → Calls Tryz.prog 158 #[.slice q I c'] W fun e w' => e = .returned (.int .i64 R1) ∧ Below W.heap.size W w') := fun W q c' hW => by
    rw [hR1]; exact RRank_any k q I c' (vecsL X) W hW (vecs_len hXD) (by unfold Room; omega) (by omega)
   have C2 : Hid (∀ W q c',Sl2 W q I c' (widesL X) → Calls Tryz.prog 158 #[.slice q I c'] W fun e w' => e = .returned (.int .i64 R2) ∧ Below W.heap.size W w') := fun W q c' hW => by
    rw [hR2]; exact RRank_any (k + t) q I c' (widesL X) W hW (wides_len hXD) (by unfold Room; omega) (by omega)
   have HJ : Hid ((R1 = R2) ↔ clashB (kD (D.take i)) x = false) := by
    have := judge_at HD.out hx hC.out
    rw [hR1,hR2,hX,hI]; exact this
   have HX := Lib.hid hx
   have A1 : IntKind.i64.wrap ((i : Int) + 1) = (I : Int) := by rw [hI]; exact (Go.IntWalk.i64_in _ (by omega)).trans (by omega)
   have A2 : (I : Int) ≤ (c : Int) := by omega
   have A3 : I ≤ c := by omega
   have A4 : ¬ c = 0 := by omega
   have HIx := Lib.hid hI
   clear hX hXD hR1 hR2 hx hI
   by_cases hc : clashB (kD (D.take i)) x = true
   ·have hne : ¬ R1 = R2 := fun e => by have := HJ.out.1 e; rw [hc] at this; cases this
    have hd : ((R1 : Int) != (R2 : Int)) = true := by simp; omega
    have hd2 : ¬ (R1 : Int) = (R2 : Int) := fun e => hne (by omega)
    have HRES : Hid (clashI D m = i) := first_clashI hC.out HX.out hc hlt
    clear hc hne HJ hC
    go_wp2
    refine wp_region_shapes (fun ix => ([.val (.slice (some ⟨b,o,none⟩) m c),.val (.int .i64 i),.val (.int .i64 I),.val (.slice (some ⟨b,o,none⟩) I c),(Shp.vecN I (vecsL X)),.val (.int .i64 R1),.val (.slice (some ⟨b,o,none⟩) m c),.val (.int .i64 i),.val (.int .i64 I),.val (.slice (some ⟨b,o,none⟩) I c),(Shp.vecN I (widesL X)),.val (.int .i64 R2),.val (.bool true)][ix]?).getD (.any)) 31 rfl (by kernel_rfl) (by decide) (by decide) (by decide) ?_ ?_
    ·refine ⟨?_,?_,?_,?_,?_,?_,?_,?_,?_,?_,?_,?_,?_,trivial⟩
     ·intro a W hb0 hs hp hi; have hb := undrew hb0; clear hb0
      have t0 : sl a 0 = .slice (some ⟨b,o,none⟩) m c := hi 0 (by decide)
      exact ite_y rfl (wp_val (sl a 0) rfl ⟨_,rfl,Below.refl _ _,t0⟩)
     ·intro a W hb0 hs hp hi; have hb := undrew hb0; clear hb0
      have t4 : sl a 4 = .int .i64 i := hi 4 (by decide)
      exact ite_y rfl (wp_val (sl a 4) rfl ⟨_,rfl,Below.refl _ _,t4⟩)
     ·intro a W hb0 hs hp hi; have hb := undrew hb0; clear hb0
      have t11 : sl a 11 = .int .i64 i := hp 1 (by decide)
      refine ite_y rfl (wp_val (.int .i64 I) ?_ ?_)
      ·simp only [execOp,eval_tmp,eval_const,t11]; simp [go_sem,A1]
      ·exact ⟨_,rfl,Below.refl _ _,rfl⟩
     ·intro a W hb0 hs hp hi; have hb := undrew hb0; clear hb0
      have tt : sl a 10 = .slice (some ⟨b,o,none⟩) m c := hp 0 (by decide)
      have tj : sl a 12 = .int .i64 I := hp 2 (by decide)
      refine ite_y rfl (wp_val (.slice (some ⟨b,o,none⟩) I c) ?_ ?_)
      ·simp only [execOp,eval_tmp,tt,tj,Option.map]; simp [go_sem,A2,A3,A4,Addr.add_lit]
      ·exact ⟨_,rfl,Below.refl _ _,rfl⟩
     ·intro a W hb0 hs hp hi; have hb := undrew hb0; clear hb0
      have tt : sl a 13 = .slice (some ⟨b,o,none⟩) I c := hp 3 (by decide)
      refine ite_y rfl (wp_enter 159 #[.slice (some ⟨b,o,none⟩) I c] ?_ (CV.out W (HR.out.keep hb)) ?_)
      ·simp only [execOp,resolve,List.map_toArray,List.map,eval_tmp,eval_func,eval_const,tt]; simp [go_sem]
      ·rintro e W' ⟨q,c',rfl,hs9,hw⟩; exact ⟨_,rfl,_,rfl,hw,q,c',rfl,hs9⟩
     ·intro a W hb0 hs hp hi; have hb := undrew hb0; clear hb0
      have tt : (Shp.vecN I (vecsL X)).ok (sl a 14) W := hp 4 (by decide)
      obtain ⟨q4,c4,tt,s4⟩ := tt
      refine ite_y rfl (wp_enter 158 #[.slice q4 I c4] ?_ (C1.out W q4 c4 s4) ?_)
      ·simp only [execOp,resolve,List.map_toArray,List.map,eval_tmp,eval_func,eval_const,tt]; simp [go_sem]
      ·rintro e W' ⟨rfl,hw⟩; exact ⟨_,rfl,_,rfl,hw,rfl⟩
     ·intro a W hb0 hs hp hi; have hb := undrew hb0; clear hb0
      have t0 : sl a 0 = .slice (some ⟨b,o,none⟩) m c := hi 0 (by decide)
      exact ite_y rfl (wp_val (sl a 0) rfl ⟨_,rfl,Below.refl _ _,t0⟩)
     ·intro a W hb0 hs hp hi; have hb := undrew hb0; clear hb0
      have t4 : sl a 4 = .int .i64 i := hi 4 (by decide)
      exact ite_y rfl (wp_val (sl a 4) rfl ⟨_,rfl,Below.refl _ _,t4⟩)
     ·intro a W hb0 hs hp hi; have hb := undrew hb0; clear hb0
      have t17 : sl a 17 = .int .i64 i := hp 7 (by decide)
      refine ite_y rfl (wp_val (.int .i64 I) ?_ ?_)
      ·simp only [execOp,eval_tmp,eval_const,t17]; simp [go_sem,A1]
      ·exact ⟨_,rfl,Below.refl _ _,rfl⟩
     ·intro a W hb0 hs hp hi; have hb := undrew hb0; clear hb0
      have tt : sl a 16 = .slice (some ⟨b,o,none⟩) m c := hp 6 (by decide)
      have tj : sl a 18 = .int .i64 I := hp 8 (by decide)
      refine ite_y rfl (wp_val (.slice (some ⟨b,o,none⟩) I c) ?_ ?_)
      ·simp only [execOp,eval_tmp,tt,tj,Option.map]; simp [go_sem,A2,A3,A4,Addr.add_lit]
      ·exact ⟨_,rfl,Below.refl _ _,rfl⟩
     ·intro a W hb0 hs hp hi; have hb := undrew hb0; clear hb0
      have tt : sl a 19 = .slice (some ⟨b,o,none⟩) I c := hp 9 (by decide)
      refine ite_y rfl (wp_enter 160 #[.slice (some ⟨b,o,none⟩) I c] ?_ (CW.out W (HR.out.keep hb)) ?_)
      ·simp only [execOp,resolve,List.map_toArray,List.map,eval_tmp,eval_func,eval_const,tt]; simp [go_sem]
      ·rintro e W' ⟨q,c',rfl,hs9,hw⟩; exact ⟨_,rfl,_,rfl,hw,q,c',rfl,hs9⟩
     ·intro a W hb0 hs hp hi; have hb := undrew hb0; clear hb0
      have tt : (Shp.vecN I (widesL X)).ok (sl a 20) W := hp 10 (by decide)
      obtain ⟨q4,c4,tt,s4⟩ := tt
      refine ite_y rfl (wp_enter 158 #[.slice q4 I c4] ?_ (C2.out W q4 c4 s4) ?_)
      ·simp only [execOp,resolve,List.map_toArray,List.map,eval_tmp,eval_func,eval_const,tt]; simp [go_sem]
      ·rintro e W' ⟨rfl,hw⟩; exact ⟨_,rfl,_,rfl,hw,rfl⟩
     ·intro a W hb0 hs hp hi; have hb := undrew hb0; clear hb0
      have t15 : sl a 15 = .int .i64 R1 := hp 5 (by decide)
      have t21 : sl a 21 = .int .i64 R2 := hp 11 (by decide)
      refine ite_y rfl (wp_val (.bool true) ?_ ?_)
      ·simp only [execOp,eval_tmp,eval_const,t15,t21]; simp [go_sem,hd,hd2]
      ·exact ⟨_,rfl,Below.refl _ _,rfl⟩
    intro a wk hb hs hd hI ht
    have ha := act_is [10,11,12,13,14,15,16,17,18,19,20,21,22] hs hd ht (by decide)
    have t22 : sl a 22 = .bool true := hI 12 (by decide)
    simp only [List.foldl,t22] at ha
    generalize sl a 10 = u10 at ha
    generalize sl a 11 = u11 at ha
    generalize sl a 12 = u12 at ha
    generalize sl a 13 = u13 at ha
    generalize sl a 14 = u14 at ha
    generalize sl a 15 = u15 at ha
    generalize sl a 16 = u16 at ha
    generalize sl a 17 = u17 at ha
    generalize sl a 18 = u18 at ha
    generalize sl a 19 = u19 at ha
    generalize sl a 20 = u20 at ha
    generalize sl a 21 = u21 at ha
    simp only [Act.put,List.setIfInBounds_toArray,List.set_cons_zero,List.set_cons_succ] at ha
    rw [ha]
    clear ha hI ht
    have hW : Hid (Below w.heap.size w wk) := bl hB.out hb hB.out.size
    clear hb HR CV CW C1 C2 A1 A2 A3 A4
    go_wp2_with fail
    refine Calls.mono (HA.out _ (H.out.keep hW.out)) ?_
    rintro e w5 ⟨q,c',rfl,hs,hb⟩
    have hW5 : Hid (Below w.heap.size w w5) := bl hW.out hb hW.out.size
    have S5 := Lib.hid hs
    clear hb hs hW
    go_wp2_with fail
    refine Calls.mono (HB.out _ _ _ S5.out) ?_
    rintro e w6 ⟨rfl,hb⟩
    have hW6 : Hid (Below w.heap.size w w6) := bl hW5.out hb hW5.out.size
    clear hb hW5 S5
    go_wp2
    go_ret2
    exact ⟨by rw [HRES.out]; rfl,hW6.out⟩
   ·have hcf : clashB (kD (D.take i)) x = false := by simpa using hc
    have he : R1 = R2 := HJ.out.2 hcf
    subst he
    have HC2 : Hid (calm D (i + 1)) := fun j y hj hy => by
     by_cases hji : j < i
     ·exact hC.out j y hji hy
     ·obtain rfl : j = i := by omega
      rw [HX.out] at hy; cases hy; exact hcf
    have hd : ((R1 : Int) != (R1 : Int)) = false := by simp
    have hd2 : (R1 : Int) = (R1 : Int) := rfl
    clear hc hcf HJ hC
    go_wp2
    refine wp_region_shapes (fun ix => ([.val (.slice (some ⟨b,o,none⟩) m c),.val (.int .i64 i),.val (.int .i64 I),.val (.slice (some ⟨b,o,none⟩) I c),(Shp.vecN I (vecsL X)),.val (.int .i64 R1),.val (.slice (some ⟨b,o,none⟩) m c),.val (.int .i64 i),.val (.int .i64 I),.val (.slice (some ⟨b,o,none⟩) I c),(Shp.vecN I (widesL X)),.val (.int .i64 R1),.val (.bool false)][ix]?).getD (.any)) 31 rfl (by kernel_rfl) (by decide) (by decide) (by decide) ?_ ?_
    ·refine ⟨?_,?_,?_,?_,?_,?_,?_,?_,?_,?_,?_,?_,?_,trivial⟩
     ·intro a W hb0 hs hp hi; have hb := undrew hb0; clear hb0
      have t0 : sl a 0 = .slice (some ⟨b,o,none⟩) m c := hi 0 (by decide)
      exact ite_y rfl (wp_val (sl a 0) rfl ⟨_,rfl,Below.refl _ _,t0⟩)
     ·intro a W hb0 hs hp hi; have hb := undrew hb0; clear hb0
      have t4 : sl a 4 = .int .i64 i := hi 4 (by decide)
      exact ite_y rfl (wp_val (sl a 4) rfl ⟨_,rfl,Below.refl _ _,t4⟩)
     ·intro a W hb0 hs hp hi; have hb := undrew hb0; clear hb0
      have t11 : sl a 11 = .int .i64 i := hp 1 (by decide)
      refine ite_y rfl (wp_val (.int .i64 I) ?_ ?_)
      ·simp only [execOp,eval_tmp,eval_const,t11]; simp [go_sem,A1]
      ·exact ⟨_,rfl,Below.refl _ _,rfl⟩
     ·intro a W hb0 hs hp hi; have hb := undrew hb0; clear hb0
      have tt : sl a 10 = .slice (some ⟨b,o,none⟩) m c := hp 0 (by decide)
      have tj : sl a 12 = .int .i64 I := hp 2 (by decide)
      refine ite_y rfl (wp_val (.slice (some ⟨b,o,none⟩) I c) ?_ ?_)
      ·simp only [execOp,eval_tmp,tt,tj,Option.map]; simp [go_sem,A2,A3,A4,Addr.add_lit]
      ·exact ⟨_,rfl,Below.refl _ _,rfl⟩
     ·intro a W hb0 hs hp hi; have hb := undrew hb0; clear hb0
      have tt : sl a 13 = .slice (some ⟨b,o,none⟩) I c := hp 3 (by decide)
      refine ite_y rfl (wp_enter 159 #[.slice (some ⟨b,o,none⟩) I c] ?_ (CV.out W (HR.out.keep hb)) ?_)
      ·simp only [execOp,resolve,List.map_toArray,List.map,eval_tmp,eval_func,eval_const,tt]; simp [go_sem]
      ·rintro e W' ⟨q,c',rfl,hs9,hw⟩; exact ⟨_,rfl,_,rfl,hw,q,c',rfl,hs9⟩
     ·intro a W hb0 hs hp hi; have hb := undrew hb0; clear hb0
      have tt : (Shp.vecN I (vecsL X)).ok (sl a 14) W := hp 4 (by decide)
      obtain ⟨q4,c4,tt,s4⟩ := tt
      refine ite_y rfl (wp_enter 158 #[.slice q4 I c4] ?_ (C1.out W q4 c4 s4) ?_)
      ·simp only [execOp,resolve,List.map_toArray,List.map,eval_tmp,eval_func,eval_const,tt]; simp [go_sem]
      ·rintro e W' ⟨rfl,hw⟩; exact ⟨_,rfl,_,rfl,hw,rfl⟩
     ·intro a W hb0 hs hp hi; have hb := undrew hb0; clear hb0
      have t0 : sl a 0 = .slice (some ⟨b,o,none⟩) m c := hi 0 (by decide)
      exact ite_y rfl (wp_val (sl a 0) rfl ⟨_,rfl,Below.refl _ _,t0⟩)
     ·intro a W hb0 hs hp hi; have hb := undrew hb0; clear hb0
      have t4 : sl a 4 = .int .i64 i := hi 4 (by decide)
      exact ite_y rfl (wp_val (sl a 4) rfl ⟨_,rfl,Below.refl _ _,t4⟩)
     ·intro a W hb0 hs hp hi; have hb := undrew hb0; clear hb0
      have t17 : sl a 17 = .int .i64 i := hp 7 (by decide)
      refine ite_y rfl (wp_val (.int .i64 I) ?_ ?_)
      ·simp only [execOp,eval_tmp,eval_const,t17]; simp [go_sem,A1]
      ·exact ⟨_,rfl,Below.refl _ _,rfl⟩
     ·intro a W hb0 hs hp hi; have hb := undrew hb0; clear hb0
      have tt : sl a 16 = .slice (some ⟨b,o,none⟩) m c := hp 6 (by decide)
      have tj : sl a 18 = .int .i64 I := hp 8 (by decide)
      refine ite_y rfl (wp_val (.slice (some ⟨b,o,none⟩) I c) ?_ ?_)
      ·simp only [execOp,eval_tmp,tt,tj,Option.map]; simp [go_sem,A2,A3,A4,Addr.add_lit]
      ·exact ⟨_,rfl,Below.refl _ _,rfl⟩
     ·intro a W hb0 hs hp hi; have hb := undrew hb0; clear hb0
      have tt : sl a 19 = .slice (some ⟨b,o,none⟩) I c := hp 9 (by decide)
      refine ite_y rfl (wp_enter 160 #[.slice (some ⟨b,o,none⟩) I c] ?_ (CW.out W (HR.out.keep hb)) ?_)
      ·simp only [execOp,resolve,List.map_toArray,List.map,eval_tmp,eval_func,eval_const,tt]; simp [go_sem]
      ·rintro e W' ⟨q,c',rfl,hs9,hw⟩; exact ⟨_,rfl,_,rfl,hw,q,c',rfl,hs9⟩
     ·intro a W hb0 hs hp hi; have hb := undrew hb0; clear hb0
      have tt : (Shp.vecN I (widesL X)).ok (sl a 20) W := hp 10 (by decide)
      obtain ⟨q4,c4,tt,s4⟩ := tt
      refine ite_y rfl (wp_enter 158 #[.slice q4 I c4] ?_ (C2.out W q4 c4 s4) ?_)
      ·simp only [execOp,resolve,List.map_toArray,List.map,eval_tmp,eval_func,eval_const,tt]; simp [go_sem]
      ·rintro e W' ⟨rfl,hw⟩; exact ⟨_,rfl,_,rfl,hw,rfl⟩
     ·intro a W hb0 hs hp hi; have hb := undrew hb0; clear hb0
      have t15 : sl a 15 = .int .i64 R1 := hp 5 (by decide)
      have t21 : sl a 21 = .int .i64 R1 := hp 11 (by decide)
      refine ite_y rfl (wp_val (.bool false) ?_ ?_)
      ·simp only [execOp,eval_tmp,eval_const,t15,t21]; simp [go_sem]
      ·exact ⟨_,rfl,Below.refl _ _,rfl⟩
    intro a wk hb hs hd hI ht
    have ha := act_is [10,11,12,13,14,15,16,17,18,19,20,21,22] hs hd ht (by decide)
    have t22 : sl a 22 = .bool false := hI 12 (by decide)
    simp only [List.foldl,t22] at ha
    generalize sl a 10 = u10 at ha
    generalize sl a 11 = u11 at ha
    generalize sl a 12 = u12 at ha
    generalize sl a 13 = u13 at ha
    generalize sl a 14 = u14 at ha
    generalize sl a 15 = u15 at ha
    generalize sl a 16 = u16 at ha
    generalize sl a 17 = u17 at ha
    generalize sl a 18 = u18 at ha
    generalize sl a 19 = u19 at ha
    generalize sl a 20 = u20 at ha
    generalize sl a 21 = u21 at ha
    simp only [Act.put,List.setIfInBounds_toArray,List.set_cons_zero,List.set_cons_succ] at ha
    rw [ha]
    clear ha hI ht
    have hW : Hid (Below w.heap.size w wk) := bl hB.out hb hB.out.size
    clear hb HR CV CW C1 C2 A1 A2 A3 A4 hB hd hd2
    go_wp2
    go_roundw
    case rel => exact ⟨i + 1,by omega,by go_num,HC2.out,hW.out⟩
    case measure => simp [intOf]; omega
  ·obtain rfl : i = m := by omega
   have HRES : Hid (clashI D i = -1) := calm_clashI i hC.out
   clear hC
   go_wp2_with fail
   refine Calls.mono (HA.out _ (H.out.keep hB.out)) ?_
   rintro e w5 ⟨q,c',rfl,hs,hb⟩
   have hW5 : Hid (Below w.heap.size w w5) := bl hB.out hb hB.out.size
   have S5 := Lib.hid hs
   clear hb hs hB
   go_wp2_with fail
   refine Calls.mono (HB.out _ _ _ S5.out) ?_
   rintro e w6 ⟨rfl,hb⟩
   have hW6 : Hid (Below w.heap.size w w6) := bl hW5.out hb hW5.out.size
   clear hb hW5 S5
   go_wp2
   go_ret2
   exact ⟨by rw [HRES.out]; rfl,hW6.out⟩
end Go.Proofs.YtfbmdlfkipipfaaGreatDoor
namespace Go.By
open Go.RowKit Go.Proofs.YtfbmdlfkipipfaaGreatDoor Gf Go.Maps
theorem read_fit {k t D : Nat} {xs : List UInt8} (h : readC k t D xs = 0) : Fit k t (eqX k t xs) := by
 obtain ⟨h1,h2,h3⟩ := read_fits h
 refine ⟨?_,h3⟩
 show (vecS (pktM xs) (pktX k xs) (pktS k xs) k).length = k
 unfold vecS
 by_cases h0 : pktM xs = 0
 ·rw [if_pos h0]; exact h2 h0
 ·rw [if_neg h0]; exact mixRow_len _ _
theorem clashI_front (X : List Rw) (x : Rw) : ∀ j,j ≤ X.length → clashI (X ++ [x]) j = clashI X j
 | 0,_ => rfl
 | j + 1,hj => by
  have h1 : X[j]? = some X[j] := List.getElem?_eq_getElem (by omega)
  have h2 : (X ++ [x])[j]? = some X[j] := by rw [List.getElem?_append_left (by omega),h1]
  rw [clashI_step h1,clashI_step h2,clashI_front X x j (by omega),List.take_append_of_le_length (by omega)]
structure RefS (k t : Nat) (X K : List Rw) : Prop where
 sys : Go.Proofs.YtfbmdlfkipipfaaGreatDoor.Sys k t (kD X) K
 fit : ∀ x,x ∈ X → Fit k t x
 calm : ∀ j,j ≤ X.length → clashI X j = -1
theorem RefS.nil (k t : Nat) : RefS k t [] [] := ⟨Sys.nil k t,fun x h => (by cases h),fun j h => by
 have : j = 0 := by simpa using h
 rw [this]; rfl⟩
def refX (k t D : Nat) (X : List Rw) (st : Nat) (xs : List UInt8) : List Rw := if readC k t D xs = 0 ∧ st = 0 ∧ clashI (X ++ [eqX k t xs]) (X.length + 1) < 0 then X ++ [eqX k t xs] else X
def refZ (k t D : Nat) (X : List Rw) (st : Nat) (xs : List UInt8) : Nat := if readC k t D xs = 0 ∧ st = 0 then (if clashI (X ++ [eqX k t xs]) (X.length + 1) < 0 then (if (kD (X ++ [eqX k t xs])).length = k then 1 else 0) else 2) else st
theorem refX_len (k t D : Nat) (X : List Rw) (st : Nat) (xs : List UInt8) : (refX k t D X st xs).length ≤ X.length + 1 := by
 unfold refX; split <;> simp
theorem RefS.take {k t D st : Nat} {X K : List Rw} (h : RefS k t X K) (xs : List UInt8) : RefS k t (refX k t D X st xs) (takeK k t D K st xs) ∧ refZ k t D X st xs = takeS k t D K st xs := by
 unfold refX refZ takeK takeS
 by_cases hc : readC k t D xs = 0 ∧ st = 0
 ·rw [if_pos hc,if_pos hc,if_pos hc]
  obtain ⟨hr,h0⟩ := hc
  have hf := read_fit hr
  generalize eqX k t xs = x at *
  have h1 : (X ++ [x])[X.length]? = some x := by simp
  have e1 : clashI (X ++ [x]) (X.length + 1) = if clashB (kD X) x = true then (X.length : Int) else -1 := by
   rw [clashI_step h1,clashI_front X x _ (Nat.le_refl _),h.calm _ (Nat.le_refl _),List.take_left]
   by_cases hb : clashB (kD X) x = true
   ·rw [if_pos ⟨hb,by decide⟩,if_pos hb]
   ·rw [if_neg (fun g => hb g.1),if_neg hb]
  have e2 : clashB (kD X) x = clashB K x := sys_clash h.sys hf
  rw [e2] at e1
  by_cases hb : clashB K x = true
  ·rw [if_pos hb] at e1
   have hn : ¬ clashI (X ++ [x]) (X.length + 1) < 0 := by rw [e1]; omega
   have h2 : codeF K x = 2 := clashB_code.1 hb
   rw [if_neg (fun g => hn g.2.2),if_neg hn]
   have hl : leadS (restF K x).1 < 0 := by
    unfold codeF at h2
    by_cases g : leadS (restF K x).1 < 0
    ·exact g
    ·rw [if_neg g] at h2; cases h2
   refine ⟨?_,?_⟩
   ·unfold putK; rw [if_pos hl]; exact h
   ·unfold nextS; rw [if_pos h2]
  ·rw [if_neg hb] at e1
   have hn : clashI (X ++ [x]) (X.length + 1) < 0 := by rw [e1]; decide
   have h2 : codeF K x ≠ 2 := fun g => hb (clashB_code.2 g)
   rw [if_pos ⟨hr,h0,hn⟩,if_pos hn]
   have hs := h.sys.putX hf
   refine ⟨⟨hs,fun y hy => ?_,fun j hj => ?_⟩,?_⟩
   ·rcases List.mem_append.1 hy with hy | hy
    ·exact h.fit y hy
    ·simp at hy; rw [hy]; exact hf
   ·rw [List.length_append] at hj
    rcases Nat.lt_or_ge j (X.length + 1) with g | g
    ·rw [clashI_front X x j (by omega)]; exact h.calm j (by omega)
    ·have : j = X.length + 1 := by simp at hj; omega
     rw [this]; exact e1
   ·unfold nextS
    rw [if_neg h2,sys_len hs]
 ·rw [if_neg hc,if_neg hc,if_neg hc,if_neg (fun g => hc ⟨g.1,g.2.1⟩)]
  exact ⟨h,rfl⟩
def OldB (wI w : World) (v : Value) (xs : List UInt8) : Prop := ∃ q n c,v = .slice q n c ∧ (Sl B8 wI q n c xs ∨ Fresh 5 wI.heap.size w q n c xs)
theorem OldB.keep {wI w w' : World} {v : Value} {xs : List UInt8} (h : OldB wI w v xs) (hb : Below w.heap.size w w') : OldB wI w' v xs := by
 obtain ⟨q,n,c,e,h | h⟩ := h
 ·exact ⟨q,n,c,e,.inl h⟩
 ·exact ⟨q,n,c,e,.inr (h.keep hb)⟩
theorem OldB.same {wI w w' : World} {v : Value} {xs : List UInt8} (h : OldB wI w v xs) (hp : ∀ (b : Nat) (cs : Array Value) (fr : Nat × Nat),w.heap[b]? = some (.cells cs 5 fr) → w'.heap[b]? = w.heap[b]?) : OldB wI w' v xs := by
 obtain ⟨q,n,c,e,h | h⟩ := h
 ·exact ⟨q,n,c,e,.inl h⟩
 ·exact ⟨q,n,c,e,.inr (fresh_same h hp)⟩
theorem OldB.sl {wI w : World} {v : Value} {xs : List UInt8} (h : OldB wI w v xs) (hb : Below wI.heap.size wI w) : ∃ q n c,v = .slice q n c ∧ Sl B8 w q n c xs := by
 obtain ⟨q,n,c,e,h | h⟩ := h
 ·exact ⟨q,n,c,e,h.keep hb⟩
 ·exact ⟨q,n,c,e,h.sl⟩
def RRef (wI w : World) (q : Option Addr) (n c : Nat) (X : List Rw) : Prop :=
 ∃ vs : List (Value × Value),w.ownsRow wI.heap.size 187 2 (.slice q n c) n (fl2 vs) ∧ vs.length = n ∧ X.length = n ∧ ∀ (j : Nat) (u : Value × Value),vs[j]? = some u → ∃ k,X[j]? = some k ∧ OldB wI w u.1 k.1 ∧ OldB wI w u.2 k.2
section
variable {wI w w' : World} {q : Option Addr} {n c : Nat} {X : List Rw}
theorem RRef.nil (wI w : World) : RRef wI w none 0 0 [] := ⟨[],World.ownsRow_nil _ _ _ _,rfl,rfl,fun j u h => by simp at h⟩
theorem RRef.keep (h : RRef wI w q n c X) (hb : Below w.heap.size w w') : RRef wI w' q n c X := by
 obtain ⟨vs,o,l1,l2,r⟩ := h
 exact ⟨vs,owns_keep o hb,l1,l2,fun j u hj => by obtain ⟨k,hk,g1,g2⟩ := r j u hj; exact ⟨k,hk,g1.keep hb,g2.keep hb⟩⟩
theorem RRef.same (h : RRef wI w q n c X) (hsz : w.heap.size ≤ w'.heap.size) (h1 : ∀ (b : Nat) (cs : Array Value) (fr : Nat × Nat),w.heap[b]? = some (.cells cs 5 fr) → w'.heap[b]? = w.heap[b]?) (h2 : ∀ (b : Nat) (cs : Array Value) (fr : Nat × Nat),w.heap[b]? = some (.cells cs 187 fr) → w'.heap[b]? = w.heap[b]?) : RRef wI w' q n c X := by
 obtain ⟨vs,o,l1,l2,r⟩ := h
 refine ⟨vs,owns_same o hsz fun g hg => ?_,l1,l2,fun j u hj => by obtain ⟨k,hk,g1,g2⟩ := r j u hj; exact ⟨k,hk,g1.same h1,g2.same h1⟩⟩
 rcases o.2 with ⟨e1,_⟩ | ⟨g',cap,cur,e1,_,hh,_⟩
 ·rw [e1] at hg; cases hg
 ·rw [e1] at hg; cases hg
  exact h2 _ _ _ hh
theorem RRef.len (h : RRef wI w q n c X) : X.length = n := by obtain ⟨_,_,_,h,_⟩ := h; exact h
theorem RRef.vals (h : RRef wI w q n c X) : ∃ vs,RwV w q n c vs ∧ vs.length = n ∧ ∀ (j : Nat) (u : Value × Value),vs[j]? = some u → ∃ k,X[j]? = some k ∧ OldB wI w u.1 k.1 ∧ OldB wI w u.2 k.2 := by
 obtain ⟨vs,o,l1,l2,r⟩ := h
 refine ⟨vs,RwV.of_owns o fun u hu => ?_,l1,r⟩
 obtain ⟨x,hx,hu⟩ := List.mem_flatMap.1 (show u ∈ vs.flatMap (fun p => [p.1,p.2]) from hu)
 obtain ⟨j,hj,e⟩ := List.getElem_of_mem hx
 obtain ⟨k,_,⟨q1,n1,c1,e1,_⟩,⟨q2,n2,c2,e2,_⟩⟩ := r j x (by rw [List.getElem?_eq_getElem hj,e])
 simp at hu
 rcases hu with rfl | rfl
 ·rw [e1]; rfl
 ·rw [e2]; rfl
theorem RRef.rwS (h : RRef wI w q n c X) (hb : Below wI.heap.size wI w) : RwS w q n c X := by
 obtain ⟨vs,hv,l1,r⟩ := h.vals
 refine ⟨h.len,hv.le,hv.max,hv.nil,fun j k hj => ?_⟩
 have hjn : j < n := by have := (List.getElem?_eq_some_iff.1 hj).1; have := h.len; omega
 obtain ⟨k',hk',g1,g2⟩ := r j vs[j] (List.getElem?_eq_getElem (by omega))
 rw [hj] at hk'; cases hk'
 obtain ⟨q1,m1,c1,e1,s1⟩ := g1.sl hb
 obtain ⟨q2,m2,c2,e2,s2⟩ := g2.sl hb
 have c0 := fl2_at (vs := vs) (List.getElem?_eq_getElem (show j < vs.length by omega))
 obtain ⟨b,o,e,hc⟩ := hv.cell (j * 2) _ c0.1
 obtain ⟨b',o',e',hc'⟩ := hv.cell (j * 2 + 1) _ c0.2
 rw [e] at e'; cases e'
 exact ⟨b,o,q1,m1,c1,q2,m2,c2,e,by rw [hc,e1],by rw [← e2]; exact hc',s1,s2⟩
end
theorem os_rrow : OthS 187 := ⟨by decide,by decide,by decide,by decide⟩
theorem RRef.keepS {wI w w' : World} {q : Option Addr} {n c : Nat} {X : List Rw} (h : RRef wI w q n c X) (hk : KeepS w w') : RRef wI w' q n c X := h.same hk.size (hk.same _ os_u8) (hk.same _ os_rrow)
end Go.By
namespace Go.By
open Go.RowKit Go.Maps Go.Proofs.YtfbmdlfkipipfaaGreatDoor
theorem flat_at {t : Nat} : ∀ {xss : List (List UInt8)} (a : Nat),(∀ x,x ∈ xss → x.length = t) → 1 ≤ t → a < xss.length * t → xss.flatten[a]? = some ((xss.getD (a / t) []).getD (a % t) 0)
 | [],a,_,_,h => by simp at h
 | x :: l,a,hx,ht,h => by
  have hl := hx x (by simp)
  rw [List.flatten_cons]
  by_cases ha : a < t
  ·rw [List.getElem?_append_left (by omega),Nat.div_eq_of_lt ha,Nat.mod_eq_of_lt ha,List.getD_cons_zero,List.getD_eq_getElem?_getD,List.getElem?_eq_getElem (by omega)]; rfl
  ·rw [List.getElem?_append_right (by omega),hl]
   have h1 : (a - t) < l.length * t := by rw [List.length_cons,Nat.succ_mul] at h; omega
   rw [flat_at (a - t) (fun y hy => hx y (by simp [hy])) ht h1]
   have e1 : a / t = (a - t) / t + 1 := by rw [Nat.div_eq a t,if_pos ⟨by omega,by omega⟩]
   have e2 : a % t = (a - t) % t := by rw [Nat.mod_eq a t,if_pos ⟨by omega,by omega⟩]
   rw [e1,e2,List.getD_cons_succ]
theorem done_obj {L t k : Nat} {K : List Rw} (hc : checkS (L : Int) (t : Int) (k : Int) = 0) (hR : Red k t K) (hl : K.length = k) (hk : k ≤ 65536) (ht : 1 ≤ t) (hlm : L ≤ k * t) : joinS (L : Int) (t : Int) (k : Int) (K.map (fun x : Rw => x.2)) = (objL L t (knP k K) (knS k K),0) := by
 have hall : (K.map (fun x : Rw => x.2)).all (fun y => decide (y.length = (t : Int).toNat)) = true := by
  rw [List.all_eq_true]
  intro y hy
  obtain ⟨r,hr,rfl⟩ := List.mem_map.1 hy
  have := (hR.kept.rows r hr).1.2
  simpa using this
 unfold joinS wholeS
 rw [if_pos hc,if_pos (by simp [hl]),if_pos hall]
 refine Prod.ext ?_ rfl
 show ((K.map (fun x : Rw => x.2)).flatten.take ((L : Int)).toNat) = objL L t (knP k K) (knS k K)
 refine List.ext_getElem? fun a => ?_
 rw [objL_at,List.getElem?_take,Int.toNat_natCast]
 by_cases ha : a < L
 ·rw [if_pos ha,if_pos ha,flat_at a (fun x hx => by obtain ⟨r,hr,rfl⟩ := List.mem_map.1 hx; exact (hR.kept.rows r hr).1.2) ht (by rw [List.length_map,hl]; omega)]
  have hd : a / t < K.length := by rw [hl]; exact (Nat.div_lt_iff_lt_mul (by omega)).2 (Nat.lt_of_lt_of_le ha hlm)
  have hkn := known_full hR hl hk (List.getElem?_eq_getElem hd)
  unfold objF knS knP
  rw [hkn,if_pos rfl,List.getD_eq_getElem?_getD (l := K.map _),List.getElem?_map,List.getElem?_eq_getElem hd]
  rfl
 ·rw [if_neg ha,if_neg ha]
end Go.By
namespace Go.Proofs.YtfbmdlfkipipfaaGreatDoor
open Go.RowKit Go.By Go.Maps
theorem GSeen_any (L t k D N : Nat) (M : Value) (C : DataW Unit) (S : Int) (w : World) (h : CntM w M N C) (hC : Cnts C S) :
  Calls Tryz.prog 49 #[GVal L t k D M] w fun e w' => e = .returned (.int .i64 (wrap64 S)) ∧ Below w.heap.size w w' := by
 rcases h.at_ with ⟨rfl,rfl⟩ | ⟨b,rfl,ho⟩
 ·have hS : S = 0 := by
   obtain ⟨es,e,_,_,hs⟩ := hC.ok
   have : es = [] := by injection e with e; exact e.symm
   rw [this] at hs; exact hs.symm
  subst hS
  have e0 : wrap64 0 = 0 := by unfold wrap64; omega
  rw [e0]
  exact GSeen_nil _ _ _ _ w
 ·exact GSeen_own L t k D b N C S w ho hC
set_option maxRecDepth 100000 in
set_option maxHeartbeats 1000000 in
theorem EqB_same (p1 p2 : Option Addr) (n c1 c2 : Nat) (xs : List Bool) (w : World) (h1 : Sl Value.bool w p1 n c1 xs) (h2 : Sl Value.bool w p2 n c2 xs) :
  Calls Tryz.prog 55 #[.slice p1 n c1,.slice p2 n c2] w fun e w' => e = .returned (.bool true) ∧ Below w.heap.size w w' := by
 have H1 := Lib.hid h1; have H2 := Lib.hid h2
 have hnb := h1.bound
 clear h1 h2
 go_enter Tryz.func55,Tryz.ntmps55
 go_wp2
 go_loopw [13] (fun iv wr => ∃ j : Nat,j ≤ n ∧ iv = .int .i64 (j : Nat) ∧ Hid (Below w.heap.size w wr)) (fun iv _ => n - (intOf iv).toNat)
 case atStart => exact ⟨0,Nat.zero_le _,rfl,Below.refl _ _⟩
 case round =>
  obtain ⟨j,hj,rfl,HB⟩ := hrel
  by_cases hlt : j < n
  ·obtain ⟨b1,o1,x1,rfl,hc1,hx1⟩ := (H1.out.keep HB.out).at j hlt
   obtain ⟨b2,o2,x2,rfl,hc2,hx2⟩ := (H2.out.keep HB.out).at j hlt
   obtain rfl : x1 = x2 := by have := hx1.out; rw [hx2.out] at this; exact (Option.some.inj this).symm
   have hlt' : (j : Int) < (n : Int) := by omega
   have HLT := Lib.hid hlt
   have hbb : (x1 != x1) = false := by simp
   clear hlt hx1 hx2
   go_wp2
   go_quiet (fail)
   go_wp2
   go_roundw
   case rel => exact ⟨j + 1,by have := HLT.out; omega,by go_num,bdn HB.out⟩
   case measure => simp [intOf]; have := HLT.out; omega
  ·obtain rfl : j = n := by omega
   clear hlt
   go_wp2
   go_ret
   exact ⟨rfl,HB.out⟩
end Go.Proofs.YtfbmdlfkipipfaaGreatDoor
namespace Go.Proofs.YtfbmdlfkipipfaaGreatDoor
open Go.RowKit Go.By
set_option maxHeartbeats 1000000 in
theorem RShift5_any (z b : Nat) (hz : z < 18446744073709551616) (hb : b ≤ 64) (w : World) :
  Calls Tryz.prog 211 #[.int .u64 (z : Nat),.int .i64 (b : Nat)] w fun e w' => e = .returned (.int .u64 (mixX z b : Nat)) ∧ w = w' := by
 have HZ := Lib.hid hz
 clear hz
 go_enter Tryz.func211,Tryz.ntmps211
 go_wp2
 go_loop [5,6] (fun kv iv => ∃ j y : Nat,j ≤ b ∧ y < 18446744073709551616 ∧ iv = .int .i64 (j : Nat) ∧ kv = .int .u64 (y : Nat) ∧ Hid (y = z / 2 ^ j)) (fun _ i => b - (intOf i).toNat)
 case atStart => exact ⟨0,z,Nat.zero_le _,HZ.out,rfl,rfl,by show z = z / 2 ^ 0; simp⟩
 case round =>
  obtain ⟨j,y,hj,hy64,rfl,rfl,hy⟩ := hrel
  by_cases hlt : j < b
  ·have hlt' : (j : Int) < (b : Int) := by omega
   have HY : Hid (y / 2 = z / 2 ^ (j + 1)) := by show _ = _; rw [hy.out,Nat.div_div_eq_div_mul,Nat.pow_succ]
   clear hlt
   go_wp2
   go_round
   case rel => exact ⟨j + 1,y / 2,by omega,by omega,by go_num,by go_num,HY.out⟩
   case measure => simp [intOf]; omega
  ·obtain rfl : j = b := by omega
   have e1 : bits .xor .u64 (z : Int) (y : Int) = (mixX z j : Int) := by
    rw [bits_xor64 HZ.out hy64,hy.out]; rfl
   clear hlt hj hy
   go_wp2_with (simp only [e1])
   go_ret
   exact ⟨rfl,rfl⟩
set_option maxHeartbeats 1000000 in
theorem RNext5_any (s : Nat) (w : World) :
  Calls Tryz.prog 205 #[.int .u64 (s : Nat)] w fun e w' => e = .returned (.tuple #[.int .u64 (mixS s : Nat),.int .u64 (mixZ (mixS s) : Nat)]) ∧ w = w' := by
 have w1 : IntKind.u64.wrap ((s : Int) + 11400714819323198485) = (mixS s : Int) := by rw [IntKind.wrap_u64]; unfold mixS; omega
 have hl := mixS_lt s
 obtain ⟨S,hS⟩ : ∃ S,S = mixS s := ⟨_,rfl⟩
 unfold mixZ
 rw [← hS] at w1 hl ⊢
 have c1 := Lib.hid (fun w => RShift5_any S 30 hl (by decide) w)
 obtain ⟨Y,hY⟩ : ∃ Y,Y = mixX S 30 := ⟨_,rfl⟩
 rw [← hY] at c1 ⊢
 have m1 : IntKind.u64.wrap ((Y : Int) * 13787848793156543929) = ((Y * 13787848793156543929 % 18446744073709551616 : Nat) : Int) := by rw [IntKind.wrap_u64]; omega
 obtain ⟨Z,hZ⟩ : ∃ Z,Z = Y * 13787848793156543929 % 18446744073709551616 := ⟨_,rfl⟩
 have lz : Z < 18446744073709551616 := by rw [hZ]; exact Nat.mod_lt _ (by decide)
 rw [← hZ] at m1 ⊢
 have c2 := Lib.hid (fun w => RShift5_any Z 27 lz (by decide) w)
 obtain ⟨Y2,hY2⟩ : ∃ Y,Y = mixX Z 27 := ⟨_,rfl⟩
 rw [← hY2] at c2 ⊢
 have m2 : IntKind.u64.wrap ((Y2 : Int) * 10723151780598845931) = ((Y2 * 10723151780598845931 % 18446744073709551616 : Nat) : Int) := by rw [IntKind.wrap_u64]; omega
 obtain ⟨Z2,hZ2⟩ : ∃ Z,Z = Y2 * 10723151780598845931 % 18446744073709551616 := ⟨_,rfl⟩
 have lz2 : Z2 < 18446744073709551616 := by rw [hZ2]; exact Nat.mod_lt _ (by decide)
 rw [← hZ2] at m2 ⊢
 have c3 := Lib.hid (fun w => RShift5_any Z2 31 lz2 (by decide) w)
 obtain ⟨Y3,hY3⟩ : ∃ Y,Y = mixX Z2 31 := ⟨_,rfl⟩
 rw [← hY3] at c3 ⊢
 clear hS hY hZ hY2 hZ2 hY3 hl lz lz2
 go_enter Tryz.func205,Tryz.ntmps205
 go_wp2_with fail
 refine Calls.mono (c1.out _) ?_
 rintro e wa ⟨rfl,rfl⟩
 go_wp2_with fail
 refine Calls.mono (c2.out _) ?_
 rintro e wa ⟨rfl,rfl⟩
 go_wp2_with fail
 refine Calls.mono (c3.out _) ?_
 rintro e wa ⟨rfl,rfl⟩
 go_wp2
 go_ret2
 exact ⟨rfl,rfl⟩
def lnV : Value → Nat
 | .slice _ n _ => n
 | _ => 0
theorem mixRow_at {s n i : Nat} (h : i < n) : (mixRow s n)[i]? = some (mixAt s i) := by
 unfold mixRow
 rw [List.getElem?_map,List.getElem?_range h]; rfl
set_option maxRecDepth 100000 in
set_option maxHeartbeats 2000000 in
theorem RBytes5_any (s n : Nat) (hn : n ≤ 65536) (w : World) :
  Calls Tryz.prog 190 #[.int .u64 (s : Nat),.int .i64 (n : Nat)] w fun e w' => ∃ s' q c,e = .returned (.tuple #[.int .u64 s',.slice q n c]) ∧ w'.ownsRow w.heap.size 5 1 (.slice q n c) n ((mixRow s n).map B8) ∧ Below w.heap.size w w' := by
 obtain ⟨i0,hi,hz0,hz1,hz2⟩ := info_parts info_u8
 go_enter Tryz.func190,Tryz.ntmps190
 go_wp2
 go_loopw [0,6] (fun sv v wr => ∃ q : Nat,8 * q ≤ n + 7 ∧ sv = .int .u64 (mixIt s q : Nat) ∧ Hid (wr.ownsRow w.heap.size 5 1 v (min (8 * q) n) (((mixRow s n).take (min (8 * q) n)).map B8)) ∧ Hid (Below w.heap.size w wr)) (fun _ v _ => n - lnV v)
 case atStart => exact ⟨0,by omega,rfl,Lib.hid (by simpa using World.ownsRow_nil w w.heap.size 5 1),Below.refl _ _⟩
 case round =>
  obtain ⟨q,hq,rfl,HO,HB⟩ := hrel
  obtain ⟨p0,c0,rfl⟩ := owns_shape HO.out
  by_cases hlt : 8 * q < n
  ·rw [show min (8 * q) n = 8 * q by omega] at HO ⊢
   have HLT := Lib.hid hlt
   clear hlt
   have hlt' : ((8 * q : Nat) : Int) < (n : Int) := by have := HLT.out; omega
   have hnx := RNext5_any (mixIt s q) wr
   rw [show mixS (mixIt s q) = mixIt s (q + 1) from rfl] at hnx
   obtain ⟨X,hX⟩ : ∃ X,X = mixZ (mixIt s (q + 1)) := ⟨_,rfl⟩
   rw [← hX] at hnx
   have HX := Lib.hid hX
   have HN := Lib.hid hnx
   have hX64 : X < 18446744073709551616 := by rw [hX]; exact mixZ_lt _
   have HX64 := Lib.hid hX64
   clear hX hnx hX64
   go_wp2_with fail
   refine Calls.mono HN.out ?_
   rintro e wa ⟨rfl,rfl⟩
   clear HN
   obtain ⟨st,hst⟩ : ∃ st,st = mixIt s (q + 1) := ⟨_,rfl⟩
   rw [← hst]
   have HST := Lib.hid hst
   clear hst
   go_wp2
   go_loopw [6,8,9] (fun v xv jv wi => ∃ j x : Nat,j ≤ 8 ∧ x < 18446744073709551616 ∧ jv = .int .i64 (j : Nat) ∧ xv = .int .u64 (x : Nat) ∧ Hid (x = X / 256 ^ j) ∧ Hid (wi.ownsRow w.heap.size 5 1 v (min (8 * q + j) n) (((mixRow s n).take (min (8 * q + j) n)).map B8)) ∧ Hid (Below w.heap.size w wi)) (fun _ _ jv _ => 8 - (intOf jv).toNat)
   case atStart => exact ⟨0,X,by omega,HX64.out,rfl,rfl,by show X = X / 256 ^ 0; simp,by rw [Nat.add_zero,show min (8 * q) n = 8 * q by have := HLT.out; omega]; exact HO.out,HB.out⟩
   case round =>
    clear HO HB
    obtain ⟨j,x,hj,hx,rfl,rfl,HXJ,HO,HB⟩ := hrel
    obtain ⟨p1,c1,rfl⟩ := owns_shape HO.out
    by_cases hj8 : j < 8
    ·have hj8' : (j : Int) < 8 := by omega
     have HXN : Hid (x / 256 = X / 256 ^ (j + 1)) := by show _ = _; rw [HXJ.out,Nat.div_div_eq_div_mul,Nat.pow_succ]
     have HJ := Lib.hid hj8
     clear hj8
     by_cases hin : 8 * q + j < n
     ·rw [show min (8 * q + j) n = 8 * q + j by omega] at HO ⊢
      have hin' : ((8 * q + j : Nat) : Int) < (n : Int) := by omega
      have A1 : IntKind.u8.wrap ((x : Int) % 256) = ((mixAt s (8 * q + j)).toNat : Int) := by
       have e1 : (8 * q + j) / 8 = q := by have := HJ.out; omega
       have e2 : (8 * q + j) % 8 = j := by have := HJ.out; omega
       unfold mixAt
       rw [e1,e2,← HX.out,← HXJ.out,UInt8.toNat_ofNat',IntKind.wrap_u8]
       omega
      have HIN := Lib.hid hin
      obtain ⟨L,eL⟩ : ∃ L,L = ((mixRow s n).take (8 * q + j)).map B8 := ⟨_,rfl⟩
      rw [← eL] at HO
      have HEL := Lib.hid eL
      obtain ⟨b8,hb8⟩ : ∃ b8,b8 = mixAt s (8 * q + j) := ⟨_,rfl⟩
      rw [← hb8] at A1
      have HB8 := Lib.hid hb8
      obtain ⟨m,hm⟩ : ∃ m,m = 8 * q + j := ⟨_,rfl⟩
      rw [← hm] at HO hin'
      rw [← hm]
      have HM := Lib.hid hm
      have hm6 : m ≤ 65536 := by omega
      clear hin eL hb8 hm
      go_wp2_with (first
       | simp only [A1]
       | (at_builtin; refine wpList_append_rs _ rfl _ _ 22 rfl w.heap.size 5 i0 (.int .u8 0) 1 Tryz.underlying22 hi hz0 hz1 hz2 rfl _ m _ rfl (HO.out.alloc _) B8 _ _ _ [b8] (fun _ _ => rfl) rfl (sl_one rfl rfl) ?c1 ?c2 ?c3 ?_))
      case c1 => unfold maxLen; simp; omega
      case c2 => simp; omega
      case c3 => have := HB.out.size; simp; omega
      intro v' w' ho hg
      have HO' := Lib.hid ho; clear ho
      have HB' := Lib.hid ((HB.out.alloc HB.out.size _).grown hg (by have := HB.out.size; simp; omega) (fun j hj => (HO.out.lt j hj).1))
      clear hg
      go_wp2
      go_roundw
      case rel =>
       refine ⟨j + 1,x / 256,by have := HJ.out; omega,by omega,by go_num,by go_num,HXN.out,?_,HB'.out⟩
       have h1 := HIN.out
       rw [show min (8 * q + (j + 1)) n = (8 * q + j) + 1 by omega,List.take_add_one,mixRow_at h1,List.map_append,← HEL.out,← HM.out]
       have h2 := HO'.out
       rw [HB8.out,← HM.out] at h2
       exact h2
      case measure => simp [intOf]; have := HJ.out; omega
     ·rw [show min (8 * q + j) n = n by omega] at HO ⊢
      have HIN : Hid (min (8 * q + (j + 1)) n = n) := by show _ = _; omega
      clear hin
      go_wp2
      go_roundw
      case rel => exact ⟨j + 1,x / 256,by have := HJ.out; omega,by omega,by go_num,by go_num,HXN.out,by rw [HIN.out]; exact HO.out,HB.out⟩
      case measure => simp [intOf]; have := HJ.out; omega
    ·obtain rfl : j = 8 := by omega
     clear hj8 hj
     go_wp2
     go_roundw
     case rel => exact ⟨q + 1,by have := HLT.out; omega,by rw [HST.out],by rw [show 8 * (q + 1) = 8 * q + 8 by omega]; exact HO.out,HB.out⟩
     case measure => simp [lnV]; have := HLT.out; omega
  ·rw [show min (8 * q) n = n by omega] at HO ⊢
   have hge : ¬ (n : Int) < (n : Int) := by omega
   have HE : Hid ((mixRow s n).take n = mixRow s n) := by show _ = _; exact List.take_of_length_le (by rw [mixRow_len]; exact Nat.le_refl _)
   clear hlt hq
   go_wp2
   go_ret2
   have h1 := HO.out
   rw [HE.out] at h1
   exact ⟨_,p0,c0,rfl,h1,HB.out⟩
end Go.Proofs.YtfbmdlfkipipfaaGreatDoor
namespace Go.By
open Go.RowKit
theorem wp_region_row {P : Program} {ops : Array Oper} {Q : Exit → Act → World → Prop} {id : Nat} {a0 : Act} {w0 : World} (sv : Nat → Value) (n m g T : Nat) (cs : Array Value) (hn : a0.tmps.size = n) (hm : P.follows .mixedOrders = true) (hback : backB ops = true) (hdist : distB ops = true) (hpair : pairB ops n m m = true)
  (z : ∃ old,w0.heap[g]? = some (.cells old T (0,0)) ∧ old.size = cs.size)
  (each : ∀ i o,i ≠ m → ops[i]? = some o → ∀ a w,TwoE w0 g g w → a.tmps.size = a0.tmps.size → (∀ k d,k ∈ preds o → k ≠ m → dstOf ops k = some d → sl a d = sv k) → (∀ t,initAt ops i t = true → sl a t = sl a0 t) → o.wp P a w (fun a' w' => a' = a.put o.dst (sv i) ∧ w' = w) Q)
  (st : ∀ o,ops[m]? = some o → ∀ a w,TwoE w0 g g w → a.tmps.size = a0.tmps.size → (∀ k d,k ∈ preds o → k ≠ m → dstOf ops k = some d → sl a d = sv k) → (∀ t,initAt ops m t = true → sl a t = sl a0 t) → ∀ old,w.heap[g]? = some (.cells old T (0,0)) → old.size = cs.size → o.wp P a w (fun a' w' => a' = a.put o.dst undef ∧ w' = w.setRow g cs) Q)
  (hs : m < ops.size)
  (fin : ∀ a w,TwoE w0 g g w → w.heap[g]? = some (.cells cs T (0,0)) → a.tmps.size = a0.tmps.size → a.defers = a0.defers → (∀ j d,j < ops.size → j ≠ m → dstOf ops j = some d → sl a d = sv j) → (∀ t,(ops.toList.all fun o => o.dst != some t) = true → sl a t = sl a0 t) → Q .normal a w) :
  (Code.region id ops true).wp P Q a0 w0 := by
 have hp : ∀ i o,ops[i]? = some o → o.guard = none ∧ (i ≠ m → ∃ d,o.dst = some d ∧ d < n) ∧ (i = m → o.dst = none) := fun i o ho => by
  have h0 := List.all_eq_true.1 hpair i (List.mem_range.2 (Array.getElem?_eq_some_iff.1 ho).1)
  rw [ho] at h0
  simp only [Bool.and_eq_true] at h0
  refine ⟨by cases hg : o.guard <;> simp [hg] at h0 ⊢,fun h1 => ?_,fun h => ?_⟩
  ·have h3 := h0.2
   rw [if_neg (by simp [h1])] at h3
   cases hd : o.dst with
   | none => rw [hd] at h3; cases h3
   | some d => rw [hd] at h3; exact ⟨d,rfl,of_decide_eq_true h3⟩
  ·have h3 := h0.2
   rw [if_pos (by simp [h])] at h3
   cases hd : o.dst <;> simp [hd] at h3 ⊢
 refine wp_region_each hm hback (fun _ w => TwoE w0 g g w ∧ ∃ old,w.heap[g]? = some (.cells old T (0,0)) ∧ old.size = cs.size)
  (fun i w w' => if i = m then w' = w.setRow g cs else w' = w)
  (fun j σ w => if j = m then w.heap[g]? = some (.cells cs T (0,0)) else ∀ d,dstOf ops j = some d → σ d = sv j) ?_ ?_ ?_ ?_ ?_
 ·exact ⟨⟨rfl,rfl,rfl,rfl,fun _ _ _ => rfl⟩,z⟩
 ·intro i w w' hE hR
  obtain ⟨hE,o1,h1,e1⟩ := hE
  by_cases hi1 : i = m
  ·rw [if_pos hi1] at hR
   subst hR
   exact ⟨hE.row1 _,cs,hrs h1,rfl⟩
  ·rw [if_neg hi1] at hR
   subst hR
   exact ⟨hE,o1,h1,e1⟩
 ·intro i j oi oj σ σ' w w' hij hoi hoj _ hI hR hσ _ _
  by_cases hj1 : j = m
  ·subst hj1
   rw [if_pos rfl] at hI ⊢
   rw [if_neg hij] at hR
   subst hR; exact hI
  ·rw [if_neg hj1] at hI ⊢
   intro d hd
   have hne : oi.dst ≠ some d := by
    intro e
    have hi' : i < ops.size := (Array.getElem?_eq_some_iff.1 hoi).1
    have hj' : j < ops.size := (Array.getElem?_eq_some_iff.1 hoj).1
    have := List.all_eq_true.1 (List.all_eq_true.1 hdist i (List.mem_range.2 hi')) j (List.mem_range.2 hj')
    rw [hoi,hoj] at this
    have hdj' : oj.dst = some d := by simpa [dstOf,hoj] using hd
    simp [e,hdj',hij] at this
   rw [hσ d hne]
   exact hI d hd
 ·have key : ∀ i o,ops[i]? = some o → StepOf P ops Q a0 w0.drew (fun _ w => TwoE w0 g g w ∧ ∃ old,w.heap[g]? = some (.cells old T (0,0)) ∧ old.size = cs.size)
    (fun i w w' => if i = m then w' = w.setRow g cs else w' = w)
    (fun j σ w => if j = m then w.heap[g]? = some (.cells cs T (0,0)) else ∀ d,dstOf ops j = some d → σ d = sv j) i o := by
   intro i o ho a w hE hsz hpr hin
   obtain ⟨hE,o1,h1,e1⟩ := hE
   obtain ⟨hg,hd,hd2⟩ := hp i o ho
   rw [if_pos (by simp [Region.wanted,hg])]
   have hpr' : ∀ k d,k ∈ preds o → k ≠ m → dstOf ops k = some d → sl a d = sv k := fun k d hk k1 hdk => by
    have := hpr k hk
    dsimp only at this
    rw [if_neg k1] at this
    exact this d hdk
   by_cases hi1 : i = m
   ·subst hi1
    refine Oper.wp_mono (fun a' w' hq => ?_) (st o ho a w hE hsz hpr' hin o1 h1 e1)
    obtain ⟨rfl,rfl⟩ := hq
    exact ⟨undef,rfl,by dsimp only; rw [if_pos rfl],by dsimp only; rw [if_pos rfl]; exact hrs h1⟩
   ·refine Oper.wp_mono (fun a' w' hq => ?_) (each i o hi1 ho a w hE hsz hpr' hin)
    obtain ⟨rfl,rfl⟩ := hq
    refine ⟨sv i,rfl,by dsimp only; rw [if_neg hi1],?_⟩
    dsimp only
    rw [if_neg hi1]
    intro d hdd
    obtain ⟨d',hd',hdn⟩ := hd hi1
    have : d' = d := by
     have : o.dst = some d := by simpa [dstOf,ho] using hdd
     rw [hd'] at this; exact Option.some.inj this
    subst this
    rw [hd']
    exact put_same _ _ _ (by rw [hsz,hn]; exact hdn)
  exact each_all key ops.toList 0 fun j o hj => by simpa using hj
 ·intro a w hE hs2 hd hI ht
  obtain ⟨hE,_⟩ := hE
  have i1 := hI m hs
  rw [if_pos rfl] at i1
  refine fin a w hE i1 hs2 hd (fun j d hj j1 hdj => ?_) ht
  have := hI j hj
  rw [if_neg j1] at this
  exact this d hdj
end Go.By
