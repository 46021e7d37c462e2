/-
  Put together: PackL, P1, PackS, OwnM, TxtM, PackO.
-/
import Derived.Test.YtjlbacfedfkilaaGreatGA
import Derived.Test.YtjlbacfedfkilaaGreatShelf
import Derived.Test.YtjlbacfedfkilaaGreatGA2
import Derived.Laws.BitsAllLaws
import Derived.Test.YtjlbacfedfkilaaGreatReg
import Derived.Test.YtjlbacfedfkilaaGreatGB
import Derived.Test.YtjlbacfedfkilaaGreatGC
namespace Go.Proofs.YtjlbacfedfkilaaGreat
section
open Go.RowKit
def vb (z : Nat) : List UInt8 := if 127 < z then UInt8.ofNat (z % 128 + 128) :: vb (z / 128) else [UInt8.ofNat z]
termination_by z
decreasing_by omega
theorem vb_more {z : Nat} (h : 127 < z) : vb z = UInt8.ofNat (z % 128 + 128) :: vb (z / 128) := by rw [vb,if_pos h]
theorem vb_last {z : Nat} (h : ¬ 127 < z) : vb z = [UInt8.ofNat z] := by rw [vb,if_neg h]
def zz (n : Int) : Nat := if 0 ≤ n then (2 * n).toNat else (-2 * n - 1).toNat
def numB (n : Int) : List UInt8 := vb (zz n)
def textB (s : ByteArray) : List UInt8 := numB s.size ++ s.data.toList
def textsB (l : List ByteArray) : List UInt8 := l.flatMap textB
theorem textsB_append (a b : List ByteArray) : textsB (a ++ b) = textsB a ++ textsB b := by unfold textsB;rw [List.flatMap_append]
def numsB (l : List Int) : List UInt8 := l.flatMap numB
theorem numsB_append (a b : List Int) : numsB (a ++ b) = numsB a ++ numsB b := by unfold numsB;rw [List.flatMap_append]
theorem vb_length (z : Nat) (n : Nat) (h : z < 128 ^ n) (hn : 0 < n) : (vb z).length ≤ n := by
 induction n generalizing z with
 | zero => omega
 | succ n ih =>
   by_cases h1 : 127 < z
   · rw [vb_more h1,List.length_cons]
     have h2 : z / 128 < 128 ^ n := by rw [Nat.pow_succ] at h;omega
     have hn0 : 0 < n := by
      rcases Nat.eq_zero_or_pos n with h3 | h3
      · subst h3;simp at h2;omega
      · exact h3
     have := ih (z / 128) h2 hn0
     omega
   · rw [vb_last h1];simp
theorem numB_length (n : Int) (h0 : -9223372036854775808 ≤ n) (h1 : n < 9223372036854775808) : (numB n).length ≤ 10 := by
 refine vb_length _ 10 ?_ (by omega)
 have : zz n < 18446744073709551616 := by unfold zz;split <;> omega
 have h2 : (18446744073709551616 : Nat) ≤ 128 ^ 10 := by decide
 omega
theorem xor_ones (a : Nat) (h : a < 18446744073709551616) : a ^^^ 18446744073709551615 = 18446744073709551615 - a := by
 have h1 := congrArg BitVec.toNat (BitVec.xor_allOnes (x := BitVec.ofNat 64 a))
 rw [BitVec.toNat_xor,BitVec.toNat_not,BitVec.toNat_ofNat,Nat.mod_eq_of_lt (by omega),BitVec.toNat_allOnes] at h1
 exact h1
end
section
open Go.RowKit Go.ChangeShapes Go.WideShapes Go.ChangeAt
theorem or128 (z : Nat) : bits .or .u8 ((z : Int) % 256) 128 = ((z % 128 + 128 : Nat) : Int) := by
 have : ∀ N : Fin 256,bits .or .u8 (N.val : Int) 128 = ((N.val % 128 + 128 : Nat) : Int) := by decide +kernel
 have h := this ⟨z % 256,Nat.mod_lt _ (by omega)⟩
 rw [show ((z % 256 : Nat) : Int) = (z : Int) % 256 by omega,show z % 256 % 128 = z % 128 by omega] at h
 exact h
theorem byteCells_one (b : UInt8) : Lib.byteCells [b] = [byteOf b] := rfl
theorem byteCells_append (a b : List UInt8) : Lib.byteCells (a ++ b) = Lib.byteCells a ++ Lib.byteCells b := List.map_append
set_option maxRecDepth 100000 in
set_option maxHeartbeats 1000000 in
theorem c_put (B b : Nat) (l : List UInt8) (n : Int) (w : World) (h0 : -9223372036854775808 ≤ n) (h1 : n < 9223372036854775808) (hb : Lib.IsBuilder 231 5 B b (Lib.byteCells l) w) (hl : l.length ≤ 1073741824) (hB : B ≤ w.heap.size) :
 Calls Tryz.prog 169 #[.pointer (some ⟨b,0,none⟩),.int .i64 n] w fun e w' => e = .returned (.tuple #[]) ∧ Lib.IsBuilder 231 5 B b (Lib.byteCells (l ++ numB n)) w' ∧ Below B w w' := by
 obtain ⟨Z,hZ⟩ : ∃ Z,zz n = Z := ⟨_,rfl⟩
 have hZl : Z < 18446744073709551616 := by rw [← hZ];unfold zz;split <;> omega
 have key : ∃ u d q v : Int,IntKind.u64.wrap n = u ∧ IntKind.u64.wrap (u * 2) = d ∧ n / 9223372036854775808 = q ∧ IntKind.u64.wrap q = v ∧ bits .xor .u64 d v = (Z : Int) := by
  refine ⟨_,_,_,_,rfl,rfl,rfl,rfl,?_⟩
  by_cases hn : 0 ≤ n
  · have e1 : IntKind.u64.wrap n = n := by simp [IntKind.wrap,IntKind.signed,IntKind.bits];omega
    have e2 : IntKind.u64.wrap (n * 2) = ((Z : Nat) : Int) := by rw [← hZ];unfold zz;rw [if_pos hn];simp [IntKind.wrap,IntKind.signed,IntKind.bits];omega
    have e3 : n / 9223372036854775808 = 0 := by omega
    rw [e1,e2,e3,show IntKind.u64.wrap 0 = ((0 : Nat) : Int) from rfl,u64_xor_nat Z 0 hZl (by omega),Nat.xor_zero]
  · have e1 : IntKind.u64.wrap n = n + 18446744073709551616 := by simp [IntKind.wrap,IntKind.signed,IntKind.bits];omega
    have e2 : IntKind.u64.wrap ((n + 18446744073709551616) * 2) = ((18446744073709551615 - Z : Nat) : Int) := by rw [← hZ];unfold zz;rw [if_neg hn];simp [IntKind.wrap,IntKind.signed,IntKind.bits];omega
    have e3 : n / 9223372036854775808 = -1 := by omega
    rw [e1,e2,e3,show IntKind.u64.wrap (-1) = ((18446744073709551615 : Nat) : Int) from rfl,u64_xor_nat _ _ (by omega) (by omega),xor_ones _ (by omega)]
    congr 1;omega
 obtain ⟨u,d,q,v,k1,k2,k3,k4,k5⟩ := key
 have HZ0 : Hid (vb Z = numB n) := Lib.hid (by rw [← hZ];rfl)
 have HB0 : Hid (Lib.IsBuilder 231 5 B b (Lib.byteCells (l ++ [])) w) := Lib.hid (by simpa using hb)
 clear hZ hb
 go_enter Tryz.func169,Tryz.ntmps169
 go_wp2_with fail
 clear k1 k2 k3 k4 k5
 go_loopw [4] (fun zv wr => ∃ (z : Nat) (m : List UInt8),zv = .int .u64 (z : Int) ∧ z < 18446744073709551616 ∧ Hid (m ++ vb z = numB n) ∧ Lib.IsBuilder 231 5 B b (Lib.byteCells (l ++ m)) wr ∧ Below B w wr) (fun zv _ => (intOf zv).toNat)
 case atStart => exact ⟨Z,[],rfl,hZl,HZ0,HB0.out,Below.refl _ _⟩
 case round =>
  obtain ⟨z,m,rfl,hz,HM,hbb,hbl⟩ := hrel
  have HB := Lib.hid hbb
  have HK := Lib.hid hbl
  have hml : m.length ≤ 10 := by
   have h2 := numB_length n h0 h1
   rw [← HM.out,List.length_append] at h2;omega
  clear HB0 HZ0 hbb hbl
  have hor := or128 z
  by_cases hgt : 127 < z
  · have hv : Value.int .u8 ((z % 128 + 128 : Nat) : Int) = byteOf (UInt8.ofNat (z % 128 + 128)) := by rw [byte_nat,Nat.mod_eq_of_lt (show z % 128 + 128 < 256 by omega)]
    obtain ⟨c,hc⟩ : ∃ c,UInt8.ofNat (z % 128 + 128) = c := ⟨_,rfl⟩
    have HNX : Hid ((m ++ [c]) ++ vb (z / 128) = numB n) := Lib.hid (by rw [← HM.out,vb_more hgt,hc,List.append_assoc];rfl)
    rw [hc] at hv
    obtain ⟨x,hx⟩ : ∃ x,z % 128 + 128 = x := ⟨_,rfl⟩
    rw [hx] at hor hv
    have HV := Lib.hid hv
    have hg : (127 : Int) < (z : Int) := by omega
    have hzz : z / 128 < z := by omega
    clear hv hc hx
    go_wp2_with fail
    refine (sh_Builder_WriteByte B b (Lib.byteCells (l ++ m)) (x : Int) _ HB.out (by rw [Lib.byteCells_length,List.length_append];omega) (Nat.le_trans hB HK.out.size)).mono ?_
    rintro e w2 ⟨rfl,hb2,hk2⟩
    rw [HV.out,← byteCells_one,← byteCells_append,List.append_assoc] at hb2
    have HB2 := Lib.hid hb2
    have HK2 := Lib.hid (HK.out.trans hk2)
    clear hb2 hk2
    go_wp2_with fail
    go_roundw
    case rel => exact ⟨z / 128,m ++ [c],by go_num,by omega,HNX,.inr HB2.out,HK2.out⟩
    case measure => simp [intOf];omega
  · have hv : Value.int .u8 ((z : Int)) = byteOf (UInt8.ofNat z) := by rw [byte_nat,Nat.mod_eq_of_lt (by omega)]
    obtain ⟨c,hc⟩ : ∃ c,UInt8.ofNat z = c := ⟨_,rfl⟩
    have HNX : Hid (m ++ [c] = numB n) := Lib.hid (by rw [← HM.out,vb_last hgt,hc])
    rw [hc] at hv
    have HV := Lib.hid hv
    have hg : ¬ (127 : Int) < (z : Int) := by omega
    have hmod : (z : Int) % 256 = (z : Int) := by omega
    clear hv hc hor
    go_wp2_with fail
    refine (sh_Builder_WriteByte B b (Lib.byteCells (l ++ m)) (z : Int) _ HB.out (by rw [Lib.byteCells_length,List.length_append];omega) (Nat.le_trans hB HK.out.size)).mono ?_
    rintro e w2 ⟨rfl,hb2,hk2⟩
    rw [HV.out,← byteCells_one,← byteCells_append,List.append_assoc,HNX.out] at hb2
    have HB2 := Lib.hid hb2
    have HK2 := Lib.hid (HK.out.trans hk2)
    clear hb2 hk2
    go_wp2_with fail
    go_end0
    exact ⟨rfl,.inr HB2.out,HK2.out⟩
theorem numsB_length (l : List Int) (h : ∀ n ∈ l,-9223372036854775808 ≤ n ∧ n < 9223372036854775808) : (numsB l).length ≤ 10 * l.length := by
 induction l with
 | nil => simp [numsB]
 | cons n l ih =>
   have h1 := ih (fun x hx => h x (List.mem_cons_of_mem _ hx))
   have h2 := h n (List.mem_cons_self ..)
   have h3 := numB_length n h2.1 h2.2
   show (numB n ++ numsB l).length ≤ _
   rw [List.length_append,List.length_cons];omega
theorem wf_bounds {n : Int} (h : (Lit.int .i64 n).wf = true) : -9223372036854775808 ≤ n ∧ n < 9223372036854775808 := by have := bounds_i64 h;omega
set_option maxRecDepth 100000 in
set_option maxHeartbeats 1000000 in
theorem c_nums (l : List Int) (A : Option Addr) (c : Nat) (w : World) (S : Nat → Prop) (hl : (Rp.int .i64).slice.R w S [.slice A l.length c] l) (hn : l.length ≤ 1000000) :
 Calls Tryz.prog 111 #[.slice A l.length c] w fun e w' => e = .returned (.string (bs (numsB l))) ∧ Kp No w w' := by
 have HL := Lib.hid hl
 have hall : ∀ n ∈ l,-9223372036854775808 ≤ n ∧ n < 9223372036854775808 := by
  intro n hn
  obtain ⟨i,hi⟩ := List.mem_iff_getElem?.1 hn
  obtain ⟨_,_,_,_,hw⟩ := Rp.at_int hl hi
  exact wf_bounds hw
 have HALL := Lib.hid hall
 clear hl hall
 go_enter Tryz.func111,Tryz.ntmps111
 go_wp2_with fail
 have HB0 : Hid (Lib.IsBuilder 231 5 w.heap.size w.heap.size (Lib.byteCells (numsB (l.take 0))) (w.alloc (.cells #[.pointer none,.slice none 0 0] 231))) := Lib.hid (Lib.fresh_isBuilder _ _ w)
 go_loopw [8] (fun iv wr => ∃ k : Nat,k ≤ l.length ∧ iv = .int .i64 (k : Int) ∧ Lib.IsBuilder 231 5 w.heap.size w.heap.size (Lib.byteCells (numsB (l.take k))) wr ∧ Below w.heap.size w wr) (fun iv _ => l.length - (intOf iv).toNat)
 case atStart => exact ⟨0,Nat.zero_le _,rfl,HB0.out,(Below.refl _ _).alloc (Nat.le_refl _) _⟩
 case round =>
  obtain ⟨k,hk,rfl,hbb,hbl⟩ := hrel
  have HB := Lib.hid hbb
  have HK := Lib.hid hbl
  clear HB0 hbb hbl
  by_cases hlt : k < l.length
  · obtain ⟨x,hx⟩ : ∃ x,l[k]? = some x := ⟨_,List.getElem?_eq_getElem hlt⟩
    obtain ⟨ad,rfl,_,hcell,_⟩ := Rp.at_int ((Rp.slice _).keptNo HL.out (Kp.ofBelow HK.out (Nat.le_refl _))) hx
    have hxb := HALL.out x (List.mem_of_getElem? hx)
    have hst : numsB (l.take (k + 1)) = numsB (l.take k) ++ numB x := by
     obtain ⟨h,rfl⟩ := List.getElem?_eq_some_iff.1 hx
     rw [List.take_succ_eq_append_getElem h,numsB_append]
     simp [numsB]
    have hml : (numsB (l.take k)).length ≤ 10000000 := by
     have h1 := numsB_length (l.take k) (fun n hn => HALL.out n (List.mem_of_mem_take hn))
     rw [List.length_take] at h1;omega
    have HST := Lib.hid hst
    have HML := Lib.hid hml
    clear hst hml hx
    go_wp2_with fail
    refine (c_put w.heap.size w.heap.size (numsB (l.take k)) x _ hxb.1 hxb.2 HB.out (by have := HML.out;omega) HK.out.size).mono ?_
    rintro e w2 ⟨rfl,hb2,hk2⟩
    rw [← HST.out] at hb2
    have HB2 := Lib.hid hb2
    have HK2 := Lib.hid (HK.out.trans hk2)
    clear hb2 hk2
    go_wp2_with fail
    go_roundw
    case rel => exact ⟨k + 1,by omega,by go_num,HB2.out,HK2.out⟩
    case measure => simp [intOf];omega
  · obtain rfl : k = l.length := by omega
    rw [List.take_length] at HB
    go_wp2_with fail
    refine (sh_Builder_String_any w.heap.size w.heap.size (numsB l) _ HB.out HK.out.size).mono ?_
    rintro e w2 ⟨rfl,hk2⟩
    have HK2 := Lib.hid (HK.out.trans hk2)
    clear hk2
    go_wp2_with fail
    go_ret
    exact ⟨rfl,Kp.ofBelow HK2.out (Nat.le_refl _)⟩
theorem textB_length (s : ByteArray) (hs : s.size ≤ 1048576) : (textB s).length ≤ 10 + s.size := by
 unfold textB
 have := numB_length (s.size : Int) (by omega) (by omega)
 rw [List.length_append,data_length];omega
set_option maxRecDepth 100000 in
set_option maxHeartbeats 1000000 in
theorem c_text (l : List ByteArray) (A : Option Addr) (c : Nat) (w : World) (S : Nat → Prop) (hl : Rp.str.slice.R w S [.slice A l.length c] l) (hn : ∀ s ∈ l,s.size ≤ 1048576) (hln : (textsB l).length ≤ 1073741824) :
 Calls Tryz.prog 113 #[.slice A l.length c] w fun e w' => e = .returned (.string (bs (textsB l))) ∧ Kp No w w' := by
 have HL := Lib.hid hl
 have HALL := Lib.hid hn
 have hlen : l.length ≤ maxLen := by obtain ⟨_,_,_,h1,h2,_⟩ := hl;omega
 unfold maxLen at hlen
 clear hl hn
 go_enter Tryz.func113,Tryz.ntmps113
 go_wp2_with fail
 have HB0 : Hid (Lib.IsBuilder 231 5 w.heap.size w.heap.size (Lib.byteCells (textsB (l.take 0))) (w.alloc (.cells #[.pointer none,.slice none 0 0] 231))) := Lib.hid (Lib.fresh_isBuilder _ _ w)
 go_loopw [8] (fun iv wr => ∃ k : Nat,k ≤ l.length ∧ iv = .int .i64 (k : Int) ∧ Lib.IsBuilder 231 5 w.heap.size w.heap.size (Lib.byteCells (textsB (l.take k))) wr ∧ Below w.heap.size w wr) (fun iv _ => l.length - (intOf iv).toNat)
 case atStart => exact ⟨0,Nat.zero_le _,rfl,HB0.out,(Below.refl _ _).alloc (Nat.le_refl _) _⟩
 case round =>
  obtain ⟨k,hk,rfl,hbb,hbl⟩ := hrel
  have HB := Lib.hid hbb
  have HK := Lib.hid hbl
  clear HB0 hbb hbl
  by_cases hlt : k < l.length
  · obtain ⟨x,hx⟩ : ∃ x,l[k]? = some x := ⟨_,List.getElem?_eq_getElem hlt⟩
    obtain ⟨ad,rfl,_,hcell,_⟩ := Rp.at_str ((Rp.slice _).keptNo HL.out (Kp.ofBelow HK.out (Nat.le_refl _))) hx
    have hxb := HALL.out x (List.mem_of_getElem? hx)
    have hst : textsB (l.take (k + 1)) = textsB (l.take k) ++ numB x.size ++ x.data.toList := by
     obtain ⟨h,rfl⟩ := List.getElem?_eq_some_iff.1 hx
     rw [List.take_succ_eq_append_getElem h,textsB_append]
     simp [textsB,textB,List.append_assoc]
    have hml : (textsB (l.take k)).length + (textB x).length ≤ 1073741824 := by
     have h1 : textsB l = textsB (l.take (k + 1)) ++ textsB (l.drop (k + 1)) := by rw [← textsB_append,List.take_append_drop]
     rw [h1,hst,List.length_append,List.length_append,List.length_append] at hln
     unfold textB
     rw [List.length_append];omega
    have hnb : (numB x.size).length + x.size = (textB x).length := by unfold textB;rw [List.length_append,data_length]
    have HST := Lib.hid hst
    have HML := Lib.hid hml
    have HNB := Lib.hid hnb
    clear hst hml hx hnb
    go_wp2_with fail
    refine (c_put w.heap.size w.heap.size (textsB (l.take k)) (x.size : Int) _ (by omega) (by omega) HB.out (by have := HML.out;omega) HK.out.size).mono ?_
    rintro e w2 ⟨rfl,hb2,hk2⟩
    have HB2 := Lib.hid hb2
    have HK2 := Lib.hid (HK.out.trans hk2)
    clear hb2 hk2
    go_wp2_with fail
    refine (sh_Builder_WriteString w.heap.size w.heap.size (Lib.byteCells (textsB (l.take k) ++ numB x.size)) x _ HB2.out (by rw [Lib.byteCells_length,List.length_append];have := HML.out;have := HNB.out;omega) HK2.out.size).mono ?_
    rintro e w3 ⟨rfl,hb3,hk3⟩
    rw [show Lib.strCells x = Lib.byteCells x.data.toList from rfl,← byteCells_append,← HST.out] at hb3
    have HB3 := Lib.hid hb3
    have HK3 := Lib.hid (HK2.out.trans hk3)
    clear hb3 hk3
    go_wp2_with fail
    go_roundw
    case rel => exact ⟨k + 1,by omega,by go_num,.inr HB3.out,HK3.out⟩
    case measure => simp [intOf];omega
  · obtain rfl : k = l.length := by omega
    rw [List.take_length] at HB
    go_wp2_with fail
    refine (sh_Builder_String_any w.heap.size w.heap.size (textsB l) _ HB.out HK.out.size).mono ?_
    rintro e w2 ⟨rfl,hk2⟩
    have HK2 := Lib.hid (HK.out.trans hk2)
    clear hk2
    go_wp2_with fail
    go_ret
    exact ⟨rfl,Kp.ofBelow HK2.out (Nat.le_refl _)⟩
end
section
open Go.RowKit Go.ChangeShapes Go.WideShapes Go.ChangeAt
def packB (n : Int) (l : List ByteArray) : List UInt8 := numB n ++ numB l.length ++ textsB l
theorem nums2 (n m : Int) : numsB [n,m] = numB n ++ numB m := by simp [numsB]
set_option maxRecDepth 100000 in
set_option maxHeartbeats 1000000 in
theorem c_packS (n : Int) (l : List ByteArray) (A : Option Addr) (c : Nat) (w : World) (S : Nat → Prop) (hl : Rp.str.slice.R w S [.slice A l.length c] l) (h0 : -9223372036854775808 ≤ n) (h1 : n < 9223372036854775808) (hn : ∀ s ∈ l,s.size ≤ 1048576) (hln : (textsB l).length ≤ 1000000000) (hll : l.length ≤ 1000000) :
 Calls Tryz.prog 171 #[.agg #[.int .i64 n,.slice A l.length c]] w fun e w' => e = .returned (.string (bs (packB n l))) ∧ Kp No w w' := by
 have HL := Lib.hid hl
 have HN := Lib.hid hn
 have hlen1 := numB_length n h0 h1
 have hlen2 := numB_length (l.length : Int) (by omega) (by omega)
 have HL1 := Lib.hid hlen1
 have HL2 := Lib.hid hlen2
 clear hl hn hlen1 hlen2
 go_enter Tryz.func171,Tryz.ntmps171
 go_wp2_with fail
 obtain ⟨w1,hw1⟩ : ∃ w1,w.alloc (.cells #[.int .i64 n,.slice A l.length c] 34) = w1 := ⟨_,rfl⟩
 have HB : Hid (Blk w1 w.heap.size 34 [.int .i64 n,.slice A l.length c]) := Lib.hid (by rw [← hw1];exact Blk.new w _ _)
 have HK1 : Hid (Kp No w w1) := Lib.hid (by rw [← hw1];exact (Kp.refl _ _).alloc _)
 rw [hw1]
 clear hw1
 have c0 : w1.cell? ⟨w.heap.size,0,none⟩ = some (.int .i64 n) := HB.out.cell rfl
 have c1 : w1.cell? ⟨w.heap.size,1,none⟩ = some (.slice A l.length c) := HB.out.cell rfl
 have hlt : w.heap.size < w1.heap.size := HB.out.lt
 have hne : w.heap.size ≠ w1.heap.size := Nat.ne_of_lt hlt
 have hne2 : w1.heap.size ≠ w.heap.size := fun e => hne e.symm
 refine Reg.wp_region_plan [⟨0,false,[]⟩,⟨1,false,[]⟩,⟨2,false,[]⟩,⟨3,false,[]⟩,⟨4,false,[]⟩,⟨7,false,[]⟩,⟨8,false,[]⟩,⟨5,true,[7,8]⟩,⟨6,true,[7,8]⟩,⟨9,true,[]⟩,⟨10,false,[]⟩,⟨11,false,[]⟩] rfl (by kernel_rfl) ?_
 repeat (first | (refine Reg.look rfl rfl rfl (by go_simp;rfl) rfl ?_;go_simp) | (refine Reg.skip rfl rfl rfl ?_;go_simp))
 refine Reg.act rfl ?_
 go_wp2
 (refine ⟨?anew,?_⟩;case anew => ((repeat (refine Reg.anew_cons rfl rfl (fun _ => by go_simp) ?_));exact Reg.anew_nil))
 refine Reg.act rfl ?_
 go_wp2_with fail
 refine (c_nums [n,(l.length : Int)] (some ⟨w1.heap.size,0,none⟩) 2 ((w1.alloc (.cells #[.int .i64 n,.int .i64 (l.length : Int)] 3)).drew) (· = w1.heap.size) (Rp.of_block (heap_alloc_new w1 _) rfl rfl (Nat.le_refl _) (by simp [maxLen]) (by
  intro a ha
  simp only [List.mem_cons,List.not_mem_nil,or_false] at ha
  rcases ha with rfl | rfl
  · exact WalkArith.wf_i64 ⟨h0,by omega⟩
  · exact WalkArith.wf_i64 ⟨by omega,by omega⟩)) (by simp)).mono ?_
 rintro e w2 ⟨rfl,hk2⟩
 have HK2 : Hid (Kp No w1 w2) := Lib.hid (((Kp.refl _ _).alloc _).drew.trans' hk2)
 clear hk2
 have d0 : w2.cell? ⟨w.heap.size,0,none⟩ = some (.int .i64 n) := by rw [HK2.out.cell HB.out.lt (fun x => x)];exact c0
 have d1 : w2.cell? ⟨w.heap.size,1,none⟩ = some (.slice A l.length c) := by rw [HK2.out.cell HB.out.lt (fun x => x)];exact c1
 go_wp2_with fail
 (refine ⟨?anew,?_⟩;case anew => ((repeat (refine Reg.anew_cons rfl rfl (fun _ => by go_simp) ?_));exact Reg.anew_nil))
 repeat (first | (refine Reg.look rfl rfl rfl (by go_simp;rfl) rfl ?_;go_simp) | (refine Reg.skip rfl rfl rfl ?_;go_simp))
 refine Reg.act rfl ?_
 go_wp2_with fail
 refine (c_text l A c w2 S (Rp.str.slice.keptNo HL.out (HK1.out.trans' HK2.out)) HN.out (by omega)).mono ?_
 rintro e w3 ⟨rfl,hk3⟩
 have HK3 := Lib.hid ((HK1.out.trans' HK2.out).trans' hk3)
 have hcat : bs (numsB [n,(l.length : Int)]) ++ bs (textsB l) = bs (packB n l) := by rw [bs_append,nums2];rfl
 have hs1 : (bs (numsB [n,(l.length : Int)])).size ≤ 20 := by rw [bs_size,nums2,List.length_append];have := HL1.out;have := HL2.out;omega
 have hs2 : (bs (textsB l)).size ≤ 1000000000 := by rw [bs_size];exact hln
 have HCAT := Lib.hid hcat
 generalize bs (numsB [n,(l.length : Int)]) = X at *
 generalize bs (textsB l) = Y at *
 have hg : ¬ 9223372036854775807 < X.size + Y.size := by omega
 clear hk3 hcat
 go_wp2_with fail
 (refine ⟨?anew,?_⟩;case anew => ((repeat (refine Reg.anew_cons rfl rfl (fun _ => by go_simp) ?_));exact Reg.anew_nil))
 repeat (first | (refine Reg.look rfl rfl rfl (by go_simp;rfl) rfl ?_;go_simp) | (refine Reg.skip rfl rfl rfl ?_;go_simp))
 (refine Reg.done ?_;simp only [Exit.then])
 go_wp2
 go_ret
 exact ⟨congrArg (fun b => Ending.returned (.string b)) HCAT.out,HK3.out⟩
end
section
open Go.RowKit Go.ChangeShapes Go.WideShapes Go.ChangeAt
def FrOk (cur : Array Value) (fr : Nat × Nat) : Prop := fr = (0,0) ∨ cur.size ≤ fr.1
theorem FrOk.size {cur cur' : Array Value} {fr : Nat × Nat} (h : FrOk cur fr) (hs : cur'.size = cur.size) : FrOk cur' fr := by
 rcases h with h | h
 · exact .inl h
 · exact .inr (by omega)
theorem FrOk.off {w : World} {g o : Nat} {cur : Array Value} {t : TypeId} {fr : Nat × Nat} (h : FrOk cur fr) (hg : w.heap[g]? = some (.cells cur t fr)) (ho : o < cur.size) : w.frozen? ⟨g,o,none⟩ = false := by
 obtain ⟨lo,hi⟩ := fr
 rcases h with h | h
 · injection h with h1 h2
   subst h1 h2
   simp [World.frozen?,hg]
 · have h : cur.size ≤ lo := h
   simp [World.frozen?,hg];omega
theorem run_storeCells_atM {P : Program} (g o : Nat) (t : TypeId) (fr : Nat × Nat) : ∀ (vs : List Value) (i : Nat) (cur : Array Value) (w : World),w.heap[g]? = some (.cells cur t fr) → FrOk cur fr → o + i + vs.length ≤ cur.size → (∀ v ∈ vs,v.oneCell' = true) →
 (storeCells ⟨g,o,none⟩ vs i).run P w = .ok () (w.setRow g (cur.toList.take (o + i) ++ vs ++ cur.toList.drop (o + i + vs.length)).toArray)
 | [],i,cur,w,hg,_,_,_ => by
   simp only [storeCells,List.append_nil,List.length_nil,Nat.add_zero,List.take_append_drop,Array.toArray_toList]
   rw [setRow_self w g cur t fr hg]
   rfl
 | v :: rest,i,cur,w,hg,hf,hl,h1 => by
   have hi : o + i < cur.size := by simp at hl;omega
   have hadd : (⟨g,o,none⟩ : Addr).add i = ⟨g,o + i,none⟩ := by unfold Addr.add;split <;> simp_all
   have hcell : w.cell? ⟨g,o + i,none⟩ = some cur[o + i] := by simp [World.cell?,hg,hi]
   have hfro : w.frozen? ⟨g,o + i,none⟩ = false := hf.off hg hi
   have hst : (store ((⟨g,o,none⟩ : Addr).add i) v).run P w = .ok () (w.setRow g (cur.setIfInBounds (o + i) v)) := by
    rw [hadd,run_store P w _ v _ (h1 v (by simp)),hcell]
    simp [hfro,setCell_eq_setRow w g (o + i) cur t fr v hg]
   have ih := run_storeCells_atM (P := P) g o t fr rest (i + 1) (cur.setIfInBounds (o + i) v) (w.setRow g (cur.setIfInBounds (o + i) v)) (setRow_heap w g cur _ t _ hg) (hf.size (by simp)) (by simp at hl ⊢;omega) (fun x hx => h1 x (by simp [hx]))
   simp only [storeCells,Sem.run_bind,hst,Result.andThen_ok,ih,setRow_setRow]
   congr 3
   have e := list_seg_step cur.toList (o + i) v rest (by simp at hl ⊢;omega)
   simpa [Array.toList_setIfInBounds,Nat.add_assoc] using e
def OwnM (w : World) (base : Nat) (e : TypeId) (v : Value) (l : List UInt8) : Prop :=
 (l = [] ∧ ∃ A,v = .slice A 0 0 ∧ ∀ a : Addr,A = some a → base ≤ a.block ∧ ∃ cur fr,w.heap[a.block]? = some (.cells cur e fr)) ∨
 ∃ g o cap cur fr,v = .slice (some ⟨g,o,none⟩) l.length cap ∧ base ≤ g ∧ w.heap[g]? = some (.cells cur e fr) ∧ FrOk cur fr ∧ l.length ≤ cap ∧ o + cap = cur.size ∧ cap ≤ maxLen ∧ (cur.toList.drop o).take l.length = l.map byteOf
section
variable {P : Program}
theorem room_text_atM (w : World) (t u ty e : TypeId) (hb : Bytely P t u e) (g o sLen sCap : Nat) (cur : Array Value) (fr : Nat × Nat) (hg : w.heap[g]? = some (.cells cur e fr)) (hfr : FrOk cur fr) (s : ByteArray) (hroom : sLen + s.size ≤ sCap) (hfit : o + sLen + s.size ≤ cur.size) :
 (Builtin.append_ #[t,u] ty #[.slice (some ⟨g,o,none⟩) sLen sCap,.string s]).run P w =
  .ok (.slice (some ⟨g,o,none⟩) (sLen + s.size) sCap) (w.setRow g (cur.toList.take (o + sLen) ++ Lib.strCells s ++ cur.toList.drop (o + sLen + s.size)).toArray) := by
 obtain ⟨ht,hu,_,i,hi,hz,hs1,_⟩ := hb
 have hf := Lib.run_firstCells_string (P := P) w 1 s
 have hst := run_storeCells_atM (P := P) g (o + sLen) e fr (Lib.strCells s) 0 cur w hg hfr (by simpa [Lib.strCells_length] using hfit) (Lib.strCells_oneCell s)
 simp only [Nat.add_zero,Lib.strCells_length] at hst
 simp [Builtin.append_,run_underlying ht,run_underlying hu,sizeOf,typeInfo,hi,hs1,Builtin.lenOf,hroom,hf,Addr.add_lit,hst]
theorem OwnM.made (w : World) (base : Nat) (e : TypeId) (l : List UInt8) (cells : Array Value) (cap : Nat) (hl : l.length ≤ cap) (hc : cap ≤ maxLen) (hcs : cells.size = cap) (ht : cells.toList.take l.length = l.map byteOf) (hbase : base ≤ w.heap.size) :
 OwnM (w.drew.alloc (.cells cells e)) base e (.slice (some ⟨w.heap.size,0,none⟩) l.length cap) l :=
 .inr ⟨w.heap.size,0,cap,cells,(0,0),rfl,hbase,heap_alloc_new w.drew _,.inl rfl,hl,by omega,hc,by simpa using ht⟩
theorem grownBy_newM (w : World) (o : Obj) (row : Option Nat) : w.grownBy (w.drew.alloc o) row := ⟨rfl,rfl,rfl,by simp,fun k hk _ => heap_alloc_old w.drew _ hk⟩
theorem map_byteOfM (s : ByteArray) : s.data.toList.map byteOf = Lib.strCells s := rfl
theorem OwnM.append_text (w : World) (t u ty e : TypeId) (hb : Bytely P t u e) {base : Nat} {v : Value} {l : List UInt8} (h : OwnM w base e v l) (s : ByteArray) (hlen : l.length + s.size ≤ 140737488355328) (hbase : base ≤ w.heap.size) :
 ∃ v' w',(Builtin.append_ #[t,u] ty #[v,.string s]).run P w = .ok v' w' ∧ OwnM w' base e v' (l ++ s.data.toList) ∧ w.grownBy w' v.ownBlock := by
 have hb' := hb
 obtain ⟨ht,hu,_,i,hi,hz,hs1,hby⟩ := hb'
 have hcap : ∀ need old,need ≤ 140737488355328 → grownCap w need old e ≤ maxLen := fun need old hn => grownCap_le_maxLen w need old e (by simp [maxLen];omega)
 have hz1 : (Value.int IntKind.u8 0).cells.size = 1 := rfl
 rcases h with ⟨rfl,A,rfl,hA⟩ | ⟨g,o,cap,cur,fr,rfl,hbg,hg,hfr,hlc,hoc,hcm,htk⟩
 · simp only [List.length_nil,Nat.zero_add] at hlen
   simp only [List.nil_append]
   by_cases hm : s.size = 0
   · have hd : s.data.toList = [] := List.eq_nil_of_length_eq_zero hm
     have hf := Lib.run_firstCells_string (P := P) w 1 s
     rw [hm] at hf
     have hsc : Lib.strCells s = [] := by rw [← map_byteOfM,hd];rfl
     rw [hsc] at hf
     rw [hd]
     refine ⟨.slice A 0 0,w,?_,.inl ⟨rfl,A,rfl,hA⟩,⟨rfl,rfl,rfl,Nat.le_refl _,fun _ _ _ => rfl⟩⟩
     cases A with
     | none => simp [Builtin.append_,run_underlying ht,run_underlying hu,sizeOf,typeInfo,hi,hs1,Builtin.lenOf,hm,hf]
     | some a => simp [Builtin.append_,run_underlying ht,run_underlying hu,sizeOf,typeInfo,hi,hs1,Builtin.lenOf,hm,hf,storeCells,Sem.run_pure]
   · have hge := grownCap_ge w s.size 0 e
     have hcells : ∀ c,c = ((Lib.strCells s).toArray ++ Builtin.zeroCells (Value.int .u8 0).cells (grownCap w s.size 0 e - s.size)) → OwnM (w.drew.alloc (.cells c e)) base e (.slice (some ⟨w.heap.size,0,none⟩) s.size (grownCap w s.size 0 e)) s.data.toList := by
      rintro c rfl
      refine OwnM.made w base e s.data.toList _ _ hge (hcap _ _ hlen) ?_ ?_ hbase
      · simp only [Array.size_append,List.size_toArray,size_zeroCells,hz1,Lib.strCells_length];omega
      · rw [map_byteOfM]
        simp only [Array.toList_append]
        exact List.take_left' (by rw [Lib.strCells_length];rfl)
     cases A with
     | none =>
       have hr := run_append_nil_string (P := P) w t u ty e i (.int .u8 0) ht hu hi hz s (by omega) (by omega) (by rw [hby];omega)
       exact ⟨_,_,hr,hcells _ (by congr 1;apply Array.ext';simp [Lib.strCells]),grownBy_newM _ _ _⟩
     | some a =>
       have hr := Lib.run_append_grow_string (P := P) w t u ty e i (.int .u8 0) ht hu hi hz a 0 0 [] (by simp) (by simp) s (by omega) (by omega) (by rw [hby];exact growslice_fits (by omega) (by omega))
       simp only [Nat.zero_add,Array.empty_append] at hr
       exact ⟨_,_,hr,hcells _ (by simp),grownBy_newM _ _ _⟩
 · have hlen2 : (l ++ s.data.toList).length = l.length + s.size := by rw [List.length_append,data_length]
   by_cases hroom : l.length + s.size ≤ cap
   · have hr := room_text_atM (P := P) w t u ty e hb g o l.length cap cur fr hg hfr s hroom (by omega)
     refine ⟨_,_,hr,.inr ⟨g,o,cap,_,fr,by rw [hlen2],hbg,setRow_heap w g cur _ e _ hg,hfr.size ?_,by rw [hlen2];exact hroom,?_,hcm,?_⟩,⟨rfl,rfl,rfl,by simp,fun k _ hk => setRow_other w g k _ (fun e => hk (by simp [Value.ownBlock,e]))⟩⟩
     · simp only [List.size_toArray,List.length_append,List.length_take,List.length_drop,Array.length_toList,Lib.strCells_length];omega
     · simp only [List.size_toArray,List.length_append,List.length_take,List.length_drop,Array.length_toList,Lib.strCells_length];omega
     · rw [hlen2,List.map_append,map_byteOfM,← htk]
       have hcl : cur.toList.length = o + cap := by rw [Array.length_toList];omega
       show ((cur.toList.take (o + l.length) ++ Lib.strCells s ++ cur.toList.drop (o + l.length + s.size)).drop o).take (l.length + s.size) = _
       rw [List.append_assoc,List.drop_append_of_le_length (by rw [List.length_take];omega),← List.append_assoc,List.drop_take,Nat.add_sub_cancel_left]
       exact List.take_left' (by rw [List.length_append,List.length_take,List.length_drop,Lib.strCells_length];omega)
   · have holds : ∀ j u,(l.map byteOf)[j]? = some u → w.cell? ((⟨g,o,none⟩ : Addr).add j) = some u := by
      intro j x hx
      have hj : j < l.length := by have := (List.getElem?_eq_some_iff.1 hx).1;simpa using this
      rw [← htk,List.getElem?_take_of_lt hj,List.getElem?_drop] at hx
      rw [Addr.add_lit]
      simp [World.cell?,hg]
      simpa using hx
     have hr := Lib.run_append_grow_string (P := P) w t u ty e i (.int .u8 0) ht hu hi hz ⟨g,o,none⟩ l.length cap (l.map byteOf) (by rw [hs1];simp) holds s (by omega) (by omega) (by rw [hby];exact growslice_fits (by omega) (by omega))
     have hge := grownCap_ge w (l.length + s.size) cap e
     refine ⟨_,_,hr,?_,grownBy_newM _ _ _⟩
     rw [← hlen2]
     refine OwnM.made w base e _ _ _ (by rw [hlen2];exact hge) (by rw [hlen2];exact hcap _ _ hlen) ?_ ?_ hbase
     · rw [hlen2]
       simp only [Array.size_append,List.size_toArray,List.length_map,size_zeroCells,hz1,Lib.strCells_length];omega
     · simp only [Array.toList_append,List.map_append,map_byteOfM]
       exact List.take_left' (by rw [List.length_append,List.length_map,Lib.strCells_length,hlen2])
end
namespace OwnM
variable {w w' : World} {base : Nat} {e : TypeId} {v : Value} {l : List UInt8}
theorem nil (w : World) (base : Nat) (e : TypeId) : OwnM w base e (.slice none 0 0) [] := .inl ⟨rfl,none,rfl,fun _ h => by cases h⟩
theorem shape (h : OwnM w base e v l) : ∃ A c,v = .slice A l.length c ∧ l.length ≤ c := by
 rcases h with ⟨rfl,A,rfl,_⟩ | ⟨g,o,cap,cur,fr,rfl,_,_,_,h,_⟩
 · exact ⟨A,0,rfl,Nat.le_refl _⟩
 · exact ⟨_,_,rfl,h⟩
theorem lt (h : OwnM w base e v l) : ∀ k,v.ownBlock = some k → base ≤ k ∧ k < w.heap.size := by
 intro k hk
 rcases h with ⟨_,A,rfl,hA⟩ | ⟨g,o,cap,cur,fr,rfl,hb,hg,_⟩
 · cases A with
   | none => cases hk
   | some a => have : a.block = k := by simpa [Value.ownBlock] using hk
               subst this;obtain ⟨h1,cur,fr,h2⟩ := hA a rfl;exact ⟨h1,(Array.getElem?_eq_some_iff.1 h2).1⟩
 · have : g = k := by simpa [Value.ownBlock] using hk
   subst this
   exact ⟨hb,(Array.getElem?_eq_some_iff.1 hg).1⟩
theorem block (h : OwnM w base e v l) {g : Nat} (hg : v.ownBlock = some g) : ∃ cs fr,w.heap[g]? = some (.cells cs e fr) := by
 rcases h with ⟨_,A,rfl,hA⟩ | ⟨g',o,cap,cur,fr,rfl,_,hh,_⟩
 · cases A with
   | none => cases hg
   | some a => have : a.block = g := by simpa [Value.ownBlock] using hg
               subst this;exact (hA a rfl).2
 · have : g' = g := by simpa [Value.ownBlock] using hg
   subst this;exact ⟨cur,fr,hh⟩
theorem ne_blk (h : OwnM w base e v l) {g : Nat} {e' : TypeId} {cs : Array Value} {fr' : Nat × Nat} (hb : w.heap[g]? = some (.cells cs e' fr')) (hne : e ≠ e') : v.ownBlock ≠ some g := by
 intro hg
 obtain ⟨cs',fr2,h2⟩ := h.block hg
 rw [hb] at h2
 injection h2 with h2
 injection h2 with _ h2
 exact hne h2.symm
theorem kept {T : Nat → Prop} (h : OwnM w base e v l) (hk : Kp T w w') (hv : ∀ k,v.ownBlock = some k → ¬ T k) : OwnM w' base e v l := by
 have hlt := h.lt
 rcases h with ⟨hl,A,rfl,hA⟩ | ⟨g,o,cap,cur,fr,rfl,hb,hg,r⟩
 · refine .inl ⟨hl,A,rfl,fun a ha => ?_⟩
   obtain ⟨h1,cur,fr,h2⟩ := hA a ha
   subst ha
   exact ⟨h1,cur,fr,(hk.block a.block (hlt a.block rfl).2 (hv a.block rfl)).trans h2⟩
 · exact .inr ⟨g,o,cap,cur,fr,rfl,hb,(hk.block g (hlt g rfl).2 (hv g rfl)).trans hg,r⟩
theorem keptNo (h : OwnM w base e v l) (hk : Kp No w w') : OwnM w' base e v l := h.kept hk fun _ _ x => x
theorem cell {A : Option Addr} {n c : Nat} (h : OwnM w base e (.slice A n c) l) {i : Nat} (hi : i < l.length) : ∃ g o,A = some ⟨g,o,none⟩ ∧ base ≤ g ∧ g < w.heap.size ∧ w.cell? ⟨g,o + i,none⟩ = some (byteOf (l.getD i 0)) := by
 have hlt := h.lt
 rcases h with ⟨rfl,_⟩ | ⟨g,o,cap,cur,fr,he,hb,hg,_,_,_,_,htk⟩
 · cases hi
 · injection he with h1 h2 h3
   subst h1
   refine ⟨g,o,rfl,hb,(hlt g rfl).2,?_⟩
   have hx : (l.map byteOf)[i]? = some (byteOf (l.getD i 0)) := by rw [List.getElem?_map,List.getD_eq_getElem?_getD,List.getElem?_eq_getElem hi];rfl
   rw [← htk,List.getElem?_take_of_lt hi,List.getElem?_drop] at hx
   simp [World.cell?,hg]
   simpa using hx
theorem read {A : Option Addr} {m c : Nat} (h : OwnM w base e (.slice A m c) l) {n c2 : Nat} (hn : n ≤ l.length) (h1 : n ≤ c2) (h2 : c2 ≤ maxLen) : Rp.byte.slice.R w (fun k => (Value.slice A m c).ownBlock = some k) [.slice A (l.take n).length c2] (l.take n) := by
 have hl : (l.take n).length = n := by rw [List.length_take];omega
 refine ⟨A,c2,rfl,by omega,h2,fun h0 => ?_⟩
 obtain ⟨g,o,rfl,hb,hg,_⟩ := h.cell (i := 0) (by omega)
 refine ⟨_,rfl,rfl,fun i a hi => ⟨[byteOf a],fun j u hu => ?_,rfl⟩⟩
 have hj : j = 0 := by
  have := (List.getElem?_eq_some_iff.1 hu).1
  simp at this;exact this
 subst hj
 have hi2 : i < (l.take n).length := (List.getElem?_eq_some_iff.1 hi).1
 obtain ⟨g',o',he,_,_,hc⟩ := h.cell (i := i) (by omega)
 injection he with he
 injection he with he1 he2
 subst he1 he2
 have ha : l.getD i 0 = a := by
  rw [List.getElem?_take_of_lt (by omega)] at hi
  rw [List.getD_eq_getElem?_getD,hi];rfl
 rw [ha] at hc
 have hu : byteOf a = u := by simpa using hu
 subst hu
 have hp : ((⟨g,o,none⟩ : Addr).add (i * Rp.byte.size + 0)) = ⟨g,o + i,none⟩ := by
  rw [Addr.add_lit];show (⟨g,o + (i * 1 + 0),none⟩ : Addr) = _;rw [Nat.mul_one,Nat.add_zero]
 first
  | exact hp ▸ hc
  | (simp only [Addr.add_lit] at *;simpa [Rp.byte] using hc)
theorem cut {g o n c : Nat} (h : OwnM w base e (.slice (some ⟨g,o,none⟩) n c) l) {k : Nat} (hk : k ≤ l.length) (hkc : k < c) : OwnM w base e (.slice (some ⟨g,o + k,none⟩) (l.drop k).length (c - k)) (l.drop k) := by
 rcases h with ⟨rfl,A,he,_⟩ | ⟨g',o',cap,cur,fr,he,hb,hg,hfr,h1,h2,h3,htk⟩
 · injection he with _ _ he;omega
 · injection he with e1 e2 e3
   injection e1 with e1
   injection e1 with e1 e4
   subst e1 e4 e3
   refine .inr ⟨g,o + k,c - k,cur,fr,rfl,hb,hg,hfr,by rw [List.length_drop];omega,by omega,by omega,?_⟩
   rw [List.length_drop,List.map_drop,← htk,← List.drop_drop,List.drop_take]
theorem mono (h : OwnM w base e v l) {base' : Nat} (hb : base' ≤ base) : OwnM w base' e v l := by
 rcases h with ⟨h1,A,h2,h3⟩ | ⟨g,o,cap,cur,fr,h1,h2,r⟩
 · exact .inl ⟨h1,A,h2,fun a ha => ⟨Nat.le_trans hb (h3 a ha).1,(h3 a ha).2⟩⟩
 · exact .inr ⟨g,o,cap,cur,fr,h1,Nat.le_trans hb h2,r⟩
end OwnM
theorem ownM_text {P : Program} (w : World) (t u e : TypeId) (hb : Bytely P t u e) (s : ByteArray) (hs : s.size ≤ 140737488355328) (base : Nat) (hbase : base ≤ w.heap.size) :
 ∃ c w',(convert u t (.string s)).run P w = .ok (.slice (some ⟨w.heap.size,0,none⟩) s.size c) w' ∧ OwnM w' base e (.slice (some ⟨w.heap.size,0,none⟩) s.data.toList.length c) s.data.toList ∧ Kp No w w' := by
 obtain ⟨ht,hu,he,_⟩ := hb
 have hr := run_bytes_of_string (P := P) w u t e s hu ht he
 have hge := grownCap_ge w s.size 0 e
 have hle := grownCap_le_maxLen w s.size 0 e (by simp [maxLen];omega)
 have hsz : (bytesRow s (grownCap w s.size 0 e)).size = grownCap w s.size 0 e := by
  unfold bytesRow
  rw [Array.size_append,Array.size_map,Array.size_replicate]
  show s.size + _ = _
  omega
 refine ⟨_,_,hr,.inr ⟨w.heap.size,0,_,_,_,by rw [data_length],hbase,heap_alloc_new w.drew _,.inr (Nat.le_refl _),by rw [data_length];exact hge,by omega,hle,?_⟩,((Kp.refl _ _).drew).alloc _⟩
 rw [List.drop_zero,data_length]
 unfold bytesRow
 rw [Array.toList_append,Array.toList_map]
 exact List.take_left' (by rw [List.length_map,data_length])
theorem wpList_appendM_text {P : Program} {ops : Array Oper} {rest : List Oper} {o : Oper} {a : Act} {Q : Exit → Act → World → Prop} (hgd : o.guard = none) (w : World) (sl x : Operand) (t u : TypeId)
 (ho : o.op = .call { callee := .builtin .append,args := #[sl,x],argTypes := #[t,u] }) (base : Nat) (e : TypeId) (hb : Bytely P t u e) (v : Value) (l : List UInt8) (hs : a.eval sl = v) (hown : OwnM w base e v l) (s : ByteArray) (hx : a.eval x = .string s)
 (hlen : l.length + s.size ≤ 140737488355328) (hbase : base ≤ w.heap.size)
 (h : ∀ v' w',OwnM w' base e v' (l ++ s.data.toList) → w.grownBy w' v.ownBlock → wpList P ops Q rest (a.put o.dst v') w') : wpList P ops Q (o :: rest) a w := by
 refine wpList_plain hgd fun K hK => ?_
 obtain ⟨v',w',hr,h2,h3⟩ := OwnM.append_text (P := P) w t u o.type e hb hown s hlen hbase
 unfold Oper.wp execOp
 simp only [ho,resolve,invoke,builtin,Sem.run_bind,Sem.run_pure,Result.andThen_ok,List.map_toArray,List.map_cons,List.map_nil,hs,hx,hr]
 exact hK _ _ (h v' w' h2 h3)
end
section
open Go.RowKit Go.ChangeShapes Go.WideShapes Go.ChangeAt
namespace OwnM
variable {P : Program} {w : World} {base : Nat} {e : TypeId} {l : List UInt8}
theorem run_back (src u : TypeId) (hb : Bytely P src u e) {g o n c : Nat} (h : OwnM w base e (.slice (some ⟨g,o,none⟩) n c) l) : (convert src u (.slice (some ⟨g,o,none⟩) n c)).run P w = .ok (.string (bs l)) w := by
 obtain ⟨A,c',he,_⟩ := h.shape
 injection he with _ he2 he3
 subst he2 he3
 obtain ⟨ht,hu,he,_⟩ := hb
 refine run_convert_bytes_back w src u e ⟨g,o,none⟩ c l ht he hu fun j hj => ?_
 obtain ⟨g',o',he',_,_,hc⟩ := h.cell hj
 injection he' with he'
 injection he' with e1 e2
 subst e1 e2
 have e0 : (⟨g,o,none⟩ : Addr).add j = ⟨g,o + j,none⟩ := by
  unfold Addr.add
  split
  · rename_i h;subst h;rfl
  · rfl
 rw [e0,hc,List.getD_eq_getElem?_getD,List.getElem?_eq_getElem hj];rfl
theorem turn {g n c : Nat} (h : OwnM w base e (.slice (some ⟨g,0,none⟩) n c) l) {i : Nat} (hi : i < l.length) (x : UInt8) :
 OwnM (w.setCell ⟨g,i,none⟩ (byteOf x)) base e (.slice (some ⟨g,0,none⟩) n c) (l.set i x) ∧ w.frozen? ⟨g,i,none⟩ = false ∧ w.cell? ⟨g,i,none⟩ = some (byteOf l[i]) := by
 rcases h with ⟨rfl,_⟩ | ⟨g',o,cap,cur,fr,he,hb,hg,hfr,h1,h2,h3,htk⟩
 · cases hi
 · injection he with e1 e2 e3
   injection e1 with e1
   injection e1 with e1 e4
   subst e1 e2 e3 e4
   rw [List.drop_zero] at htk
   refine ⟨.inr ⟨g,0,c,cur.setIfInBounds i (byteOf x),fr,by rw [List.length_set],hb,?_,hfr.size (by simp),by rw [List.length_set];exact h1,by simpa using h2,h3,?_⟩,hfr.off hg (by omega),?_⟩
   · simp [World.setCell,Array.getElem?_modify,hg]
   · rw [List.drop_zero,List.length_set,List.map_set,← htk]
     simp [List.take_set]
   · have h5 : (cur.toList.take l.length)[i]? = (l.map byteOf)[i]? := by rw [htk]
     rw [List.getElem?_take_of_lt hi,Array.getElem?_toList,List.getElem?_map,List.getElem?_eq_getElem hi] at h5
     simp [World.cell?,hg,h5]
theorem head {A : Option Addr} {n c : Nat} (h : OwnM w base e (.slice A n c) l) {k : Nat} (hk : k ≤ l.length) : OwnM w base e (.slice A k c) (l.take k) := by
 have hl : (l.take k).length = k := by rw [List.length_take];omega
 rcases h with ⟨rfl,A',he,hA⟩ | ⟨g,o,cap,cur,fr,he,hb,hg,hfr,h1,h2,h3,htk⟩
 · injection he with e1 e2 e3
   subst e1 e2 e3
   have : k = 0 := by simpa using hk
   subst this
   exact .inl ⟨rfl,_,rfl,hA⟩
 · injection he with e1 e2 e3
   subst e1 e3
   refine .inr ⟨g,o,c,cur,fr,by rw [hl],hb,hg,hfr,by omega,h2,h3,?_⟩
   rw [hl,List.map_take,← htk,List.take_take,Nat.min_eq_left hk]
end OwnM
end
section
open Go.RowKit Go.ChangeShapes Go.WideShapes Go.ChangeAt
def opB (o : OpL) : List UInt8 := numsB [o.n,o.epoch,o.kind,o.site,o.client,o.seq] ++ textsB [o.name,bs (packB o.size o.hashes)]
def opsB (l : List OpL) : List UInt8 := numsB [(l.length : Int)] ++ l.flatMap opB
def SmallO (o : OpL) : Prop := o.name.size ≤ 1000 ∧ o.hashes.length ≤ 1000 ∧ ∀ h ∈ o.hashes,h.size ≤ 1000
theorem textsB_le (k : Nat) (hk : k ≤ 1048576) : ∀ (l : List ByteArray),(∀ s ∈ l,s.size ≤ k) → (textsB l).length ≤ (k + 10) * l.length
 | [],_ => by simp [textsB]
 | s :: l,h => by
   have h1 := textsB_le k hk l (fun x hx => h x (List.mem_cons_of_mem _ hx))
   have h2 := h s List.mem_cons_self
   have h3 := textB_length s (by omega)
   have e : textsB (s :: l) = textB s ++ textsB l := by simp [textsB]
   rw [e,List.length_append,List.length_cons,Nat.mul_add,Nat.mul_one]
   omega
theorem packB_le (o : OpL) (hs : SmallO o) (h0 : -9223372036854775808 ≤ o.size) (h1 : o.size < 9223372036854775808) : (bs (packB o.size o.hashes)).size ≤ 1010020 := by
 have h2 := textsB_le 1000 (by omega) o.hashes hs.2.2
 have h3 := numB_length o.size h0 h1
 have h4 := numB_length (o.hashes.length : Int) (by omega) (by have := hs.2.1;omega)
 have h5 := hs.2.1
 rw [bs_size]
 unfold packB
 rw [List.length_append,List.length_append]
 omega
theorem opB_le (o : OpL) (hn : o.nums) (hs : SmallO o) : (opB o).length ≤ 1011200 := by
 obtain ⟨n1,n2,n3,n4,n5,n6,_,n8⟩ := hn
 have b8 := bounds_I64 n8
 have h1 := packB_le o hs b8.1 b8.2
 have h2 := numsB_length [o.n,o.epoch,o.kind,o.site,o.client,o.seq] (by
  intro a ha
  simp only [List.mem_cons,List.not_mem_nil,or_false] at ha
  rcases ha with rfl | rfl | rfl | rfl | rfl | rfl <;> exact bounds_I64 (by assumption))
 have h3 := textB_length o.name (by have := hs.1;omega)
 have h4 := textB_length (bs (packB o.size o.hashes)) (by omega)
 have e : textsB [o.name,bs (packB o.size o.hashes)] = textB o.name ++ textB (bs (packB o.size o.hashes)) := by simp [textsB]
 have := hs.1
 unfold opB
 rw [e,List.length_append,List.length_append]
 simp only [List.length_cons,List.length_nil] at h2
 omega
theorem flat_le {α : Type} (f : α → List UInt8) (k : Nat) : ∀ (l : List α),(∀ a ∈ l,(f a).length ≤ k) → (l.flatMap f).length ≤ k * l.length
 | [],_ => by simp
 | a :: l,h => by
   have h1 := flat_le f k l (fun x hx => h x (List.mem_cons_of_mem _ hx))
   have h2 := h a List.mem_cons_self
   rw [List.flatMap_cons,List.length_append,List.length_cons,Nat.mul_add,Nat.mul_one]
   omega
theorem flat_snoc {α : Type} (f : α → List UInt8) {l : List α} {k : Nat} {a : α} (h : l[k]? = some a) : (l.take (k + 1)).flatMap f = (l.take k).flatMap f ++ f a := by
 rw [List.take_add_one,h]
 simp
theorem vb_pos (z : Nat) : 0 < (vb z).length := by
 by_cases h : 127 < z
 · rw [vb_more h];simp
 · rw [vb_last h];simp
theorem numsB_pos (n : Int) (t : List Int) : 0 < (numsB (n :: t)).length := by
 have := vb_pos (zz n)
 unfold numsB numB
 rw [List.flatMap_cons,List.length_append]
 omega
set_option maxRecDepth 100000 in
set_option maxHeartbeats 4000000 in
theorem c_packops (l : List OpL) (A : Option Addr) (c : Nat) (w : World) (S : Nat → Prop) (hl : Rp.opl.slice.R w S [.slice A l.length c] l) (hll : l.length ≤ 1000) (hsm : ∀ o ∈ l,SmallO o) :
 Calls Tryz.prog 112 #[.slice A l.length c] w fun x w' => x = .returned (.string (bs (opsB l))) ∧ Kp No w w' := by
 have hnum : ∀ o ∈ l,o.nums := by
  intro o ho
  obtain ⟨i,hi⟩ := List.getElem?_of_mem ho
  obtain ⟨_,_,_,_,_,_,hn,_⟩ := Rp.at_opl hl hi
  exact hn
 have hl : Rp.opl.slice.R w (fun k => k < w.heap.size) [.slice A l.length c] l := Rp.opl.slice.more (Rp.opl.slice.bnd hl) (fun k hk => hk.2)
 have HL := Lib.hid hl
 have HSM := Lib.hid hsm
 have HNUM := Lib.hid hnum
 clear hl hsm hnum
 go_enter Tryz.func112,Tryz.ntmps112
 go_wp2_with fail
 refine (c_nums [(l.length : Int)] (some ⟨w.heap.size,0,none⟩) 1 (w.alloc (.cells #[.int .i64 (l.length : Int)] 3)) (· = w.heap.size) (Rp.of_block (heap_alloc_new w _) rfl rfl (Nat.le_refl _) (by simp [maxLen]) (by
  intro a ha
  simp only [List.mem_cons,List.not_mem_nil,or_false] at ha
  subst ha
  exact WalkArith.wf_i64 ⟨by omega,by omega⟩)) (by simp)).mono ?_
 rintro e w2 ⟨rfl,hk2⟩
 have hkk : Kp No w w2 := ((Kp.refl No w).alloc _).trans' hk2
 have hX : (bs (numsB [(l.length : Int)])).size ≤ 10 := by
  rw [bs_size]
  have := numsB_length [(l.length : Int)] (by intro a ha;simp only [List.mem_cons,List.not_mem_nil,or_false] at ha;subst ha;omega)
  simpa using this
 obtain ⟨c1,w3,hrun,hown,hk3⟩ := ownM_text (P := Tryz.prog) w2 163 9 5 bytely (bs (numsB [(l.length : Int)])) (by omega) w.heap.size hkk.size
 rw [bs_data] at hown
 rw [show (bs (numsB [(l.length : Int)])).size = (numsB [(l.length : Int)]).length from bs_size _] at hrun hX
 have HO3 := Lib.hid hown
 have HK3 := Lib.hid (hkk.trans' hk3)
 obtain ⟨X,hXe⟩ : ∃ X,numsB [(l.length : Int)] = X := ⟨_,rfl⟩
 have HXE := Lib.hid hXe
 rw [hXe] at hrun hX HO3 ⊢
 have HXL := Lib.hid hX
 clear hown hk3 hkk hk2 hX hXe
 go_wp2_with fail
 clear hrun
 go_loopw [3,13] (fun ov iv wr => ∃ k : Nat,k ≤ l.length ∧ iv = .int .i64 (k : Int) ∧ Hid (OwnM wr w.heap.size 5 ov (X ++ (l.take k).flatMap opB)) ∧ Hid (Kp No w wr)) (fun _ iv _ => l.length - (intOf iv).toNat)
 case atStart => exact ⟨0,Nat.zero_le _,rfl,Lib.hid (by rw [List.take_zero,List.flatMap_nil,List.append_nil];exact HO3.out),HK3⟩
 case round =>
  clear HO3 HK3
  obtain ⟨k,hk,rfl,HO,HK⟩ := hrel
  by_cases hlt : k < l.length
  · have hki : (k : Int) < (l.length : Int) := by omega
    obtain ⟨o,ho⟩ : ∃ o,l[k]? = some o := ⟨_,List.getElem?_eq_getElem hlt⟩
    obtain ⟨ad,A2,c2,rfl,_,hcell,hnum,hhs⟩ := Rp.at_opl (Rp.opl.slice.keptNo HL.out HK.out) ho
    obtain ⟨z0,z1,z2,z3,z4,z5,z6,z7,z8⟩ := opl_cells hcell
    have hos := HSM.out o (List.mem_of_getElem? ho)
    have hb8 := bounds_I64 hnum.2.2.2.2.2.2.2
    have hpl := packB_le o hos hb8.1 hb8.2
    have hbl := opB_le o hnum hos
    have hpk := fun w2 (hk : Kp (fun k => w.heap.size ≤ k) wr w2) => c_packS o.size o.hashes A2 c2 w2 _ (Rp.str.slice.kept hhs hk (fun k hk _ h => by omega)) hb8.1 hb8.2 (fun s hs => by have := hos.2.2 s hs;omega) (by have := textsB_le 1000 (by omega) o.hashes hos.2.2;have := hos.2.1;omega) (by have := hos.2.1;omega)
    have hnx := flat_snoc opB ho
    have hM := flat_le opB 1011200 (l.take k) (fun o ho => opB_le o (HNUM.out o (List.mem_of_mem_take ho)) (HSM.out o (List.mem_of_mem_take ho)))
    rw [List.length_take,Nat.min_eq_left hk] at hM
    obtain ⟨M,hMe⟩ : ∃ M,(l.take k).flatMap opB = M := ⟨_,rfl⟩
    rw [hMe] at HO hM hnx
    have HNX := Lib.hid hnx
    have HPK := Lib.hid hpk
    have HNM := Lib.hid hnum
    have HOS := Lib.hid hos
    have hXM : (X ++ M).length ≤ 2000000000 := by have := HXL.out;rw [List.length_append];omega
    have HXM := Lib.hid hXM
    clear ho hcell hhs hos hpk hnx hM hMe hXM
    obtain ⟨on,oe,ok,os,oc,oq,onm,osz,ohs⟩ := o
    simp only at *
    obtain ⟨PB,hPB⟩ : ∃ PB,bs (packB osz ohs) = PB := ⟨_,rfl⟩
    obtain ⟨Y,hY⟩ : ∃ Y,numsB [on,oe,ok,os,oc,oq] = Y := ⟨_,rfl⟩
    obtain ⟨Z,hZ⟩ : ∃ Z,textsB [onm,PB] = Z := ⟨_,rfl⟩
    have hnx2 : (l.take (k + 1)).flatMap opB = M ++ (Y ++ Z) := by rw [HNX.out];unfold opB;simp only [hPB,hY,hZ]
    have hYZ : Y.length + Z.length ≤ 1011200 := by
     unfold opB at hbl
     simp only [hPB,hY,hZ,List.length_append] at hbl
     exact hbl
    rw [hPB] at hpl HPK
    have HNX2 := Lib.hid hnx2
    have HYE := Lib.hid hY
    have HZE := Lib.hid hZ
    have HYZ := Lib.hid hYZ
    have HPL := Lib.hid hpl
    clear hPB hY hZ hnx2 hYZ hpl HNX hbl hb8
    go_wp2_with fail
    clear z0 z1 z2 z3 z4 z5 z6 z7 z8
    obtain ⟨wa,hwa⟩ : ∃ wa,wr.alloc (.cells #[.int .i64 on,.int .i64 oe,.int .i64 ok,.int .i64 os,.int .i64 oc,.int .i64 oq,.string onm,.int .i64 osz,.slice A2 ohs.length c2] 36) = wa := ⟨_,rfl⟩
    obtain ⟨x,hx⟩ : ∃ x,wr.heap.size = x := ⟨_,rfl⟩
    have hsa : wr.heap.size + 1 = wa.heap.size := by rw [← hwa];simp
    have hka : Kp No wr wa := by rw [← hwa];exact (Kp.refl _ _).alloc _
    have hba : Blk wa x 36 [.int .i64 on,.int .i64 oe,.int .i64 ok,.int .i64 os,.int .i64 oc,.int .i64 oq,.string onm,.int .i64 osz,.slice A2 ohs.length c2] := by rw [← hwa,← hx];exact Blk.new wr _ _
    rw [hsa,hwa]
    have HX := Lib.hid hx
    have HBA := Lib.hid hba
    have HKA := Lib.hid hka
    try rw [hx]
    clear hwa hx hsa hka hba
    have hnc := c_nums [on,oe,ok,os,oc,oq] (some ⟨wa.heap.size,0,none⟩) 6 (wa.alloc (.cells #[.int .i64 on,.int .i64 oe,.int .i64 ok,.int .i64 os,.int .i64 oc,.int .i64 oq] 3)) (· = wa.heap.size) (Rp.of_block (heap_alloc_new wa _) rfl rfl (Nat.le_refl _) (by simp [maxLen]) (by
     obtain ⟨n1,n2,n3,n4,n5,n6,_,_⟩ := HNM.out
     intro a ha
     simp only [List.mem_cons,List.not_mem_nil,or_false] at ha
     rcases ha with rfl | rfl | rfl | rfl | rfl | rfl <;> assumption)) (by simp)
    rw [HYE.out] at hnc
    refine hnc.mono ?_
    rintro e w4 ⟨rfl,hk4⟩
    have HK4 := Lib.hid (HKA.out.trans' (((Kp.refl No wa).alloc _).trans' hk4))
    have HB4 := Lib.hid (HBA.out.kept (((Kp.refl No wa).alloc _).trans' hk4) (fun x => x))
    have HO4 := Lib.hid (HO.out.keptNo HK4.out)
    have hys : (bs Y).size = Y.length := bs_size _
    clear hk4 hnc HBA HKA
    go_wp2_with (at_builtin;refine wpList_appendM_text rfl _ (.tmp 17) (.tmp 31) 163 9 rfl w.heap.size 5 bytely u3 (X ++ M) rfl HO4.out (bs Y) rfl ?d1 ?d2 ?_)
    case d1 => have := HXM.out;have := HYZ.out;omega
    case d2 => exact (HK.out.trans' HK4.out).size
    intro v5 w5 hown5 hgr5
    rw [bs_data] at hown5
    have hk5 : Kp (fun k => u3.ownBlock = some k) w4 w5 := (Kp.refl _ _).grown hgr5 (fun g hg _ => hg)
    have HK5 : Hid (Kp No w w5) := Lib.hid ((HK.out.trans' HK4.out).trans hk5 (fun i hi hv => absurd (HO.out.lt i hv).1 (by omega)))
    have HB5 := Lib.hid (HB4.out.kept hk5 (fun hv => by have := (HO.out.lt _ hv).2;have := HX.out;omega))
    have HO5 := Lib.hid hown5
    have HHS5 : Hid (Kp (fun k => w.heap.size ≤ k) wr w5.drew) := Lib.hid (((HK4.out.any).trans hk5 (fun i _ h => (HO.out.lt i h).1)).drew)
    clear hown5 hgr5 hk5 HO4 HB4 HK4 hys
    have y6 : w5.cell? ⟨x,6,none⟩ = some (.string onm) := Blk.cell HB5.out rfl
    have y7 : w5.cell? ⟨x,7,none⟩ = some (.int .i64 osz) := Blk.cell HB5.out rfl
    have y8 : w5.cell? ⟨x,8,none⟩ = some (.slice A2 ohs.length c2) := Blk.cell HB5.out rfl
    go_wp2_with fail
    refine Reg.wp_region_plan [⟨0,false,[]⟩,⟨1,false,[]⟩,⟨2,false,[]⟩,⟨3,false,[]⟩,⟨4,false,[]⟩,⟨5,true,[1,2]⟩,⟨6,true,[]⟩,⟨7,true,[]⟩,⟨8,true,[]⟩,⟨9,false,[]⟩] rfl (by kernel_rfl) ?_
    repeat (first | (refine Reg.look rfl rfl rfl (by go_simp;rfl) rfl ?_;go_simp) | (refine Reg.skip rfl rfl rfl ?_;go_simp))
    refine Reg.act rfl ?_
    go_wp2_with fail
    refine (HPK.out _ HHS5.out).mono ?_
    rintro e w6 ⟨rfl,hk6⟩
    have hkd : Kp No w5 w6 := ((Kp.refl No w5).drew).trans' hk6
    have HK6 := Lib.hid (HK5.out.trans' hkd)
    have hb6 := HB5.out.kept hkd (fun x => x)
    have HO6 := Lib.hid (HO5.out.keptNo hkd)
    have y6 : w6.cell? ⟨x,6,none⟩ = some (.string onm) := Blk.cell hb6 rfl
    clear y7 y8 hb6 hk6 hkd HB5 HO5 HK5 HHS5 HPK
    go_wp2_with fail
    (refine ⟨?anew,?_⟩;case anew => ((repeat (refine Reg.anew_cons rfl rfl (fun _ => by go_simp) ?_));exact Reg.anew_nil))
    repeat (first | (refine Reg.look rfl rfl rfl (by go_simp;rfl) rfl ?_;go_simp) | (refine Reg.skip rfl rfl rfl ?_;go_simp))
    refine Reg.act rfl ?_
    go_wp2
    (refine ⟨?anew,?_⟩;case anew => ((repeat (refine Reg.anew_cons rfl rfl (fun _ => by go_simp) ?_));exact Reg.anew_nil))
    repeat (first | (refine Reg.look rfl rfl rfl (by go_simp;rfl) rfl ?_;go_simp) | (refine Reg.skip rfl rfl rfl ?_;go_simp))
    have h1 : onm.size ≤ 1000 := HOS.out.1
    have h2 : PB.size ≤ 1010020 := HPL.out
    have hal : ∀ a ∈ [onm,PB],a.size ≤ 1010020 := fun a ha => by
     simp only [List.mem_cons,List.not_mem_nil,or_false] at ha
     rcases ha with rfl | rfl <;> omega
    have htx := c_text [onm,PB] (some ⟨w6.heap.size,0,none⟩) 2 (w6.alloc (.cells #[.string onm,.string PB] 9)) (· = w6.heap.size) (Rp.of_block1 rfl Value.string (heap_alloc_new w6 _) rfl rfl (Nat.le_refl _) (by simp [maxLen]) (fun a ha => ⟨rfl,by have := hal a ha;unfold maxLen;omega⟩)) (fun a ha => by have := hal a ha;omega) (by rw [HZE.out];have := HYZ.out;omega)
    clear h1 h2 hal
    rw [HZE.out] at htx
    refine Reg.act rfl ?_
    go_wp2_with fail
    refine htx.mono ?_
    rintro e w7 ⟨rfl,hk7⟩
    have hk67 : Kp No w6 w7 := ((Kp.refl No w6).alloc _).trans' hk7
    have HO7 := Lib.hid (HO6.out.keptNo hk67)
    have HK7 := Lib.hid (HK6.out.trans' hk67)
    clear hk7 hk67 htx HO6 HK6 y6
    go_wp2_with fail
    (refine ⟨?anew,?_⟩;case anew => ((repeat (refine Reg.anew_cons rfl rfl (fun _ => by go_simp) ?_));exact Reg.anew_nil))
    repeat (first | (refine Reg.look rfl rfl rfl (by go_simp;rfl) rfl ?_;go_simp) | (refine Reg.skip rfl rfl rfl ?_;go_simp))
    refine Reg.act rfl ?_
    refine wpList_appendM_text rfl _ (.tmp 33) (.tmp 40) 163 9 rfl w.heap.size 5 bytely v5 (X ++ (M ++ Y)) rfl HO7.out (bs Z) rfl ?d3 ?d4 ?_
    case d3 => have h1 := HXM.out;have h2 := HYZ.out;have h3 : (bs Z).size = Z.length := bs_size _;rw [List.length_append] at h1;rw [List.length_append,List.length_append];omega
    case d4 => exact HK7.out.size
    intro v8 w8 hown8 hgr8
    rw [bs_data] at hown8
    have hk8 : Kp (fun k => v5.ownBlock = some k) w7 w8 := (Kp.refl _ _).grown hgr8 (fun g hg _ => hg)
    have HK8 : Hid (Kp No w w8) := Lib.hid (HK7.out.trans hk8 (fun i hi hv => absurd (HO7.out.lt i hv).1 (by omega)))
    have HO8 : Hid (OwnM w8 w.heap.size 5 v8 (X ++ (l.take (k + 1)).flatMap opB)) := Lib.hid (by
     rw [HNX2.out]
     have e : X ++ (M ++ Y) ++ Z = X ++ (M ++ (Y ++ Z)) := by simp only [List.append_assoc]
     rw [← e];exact hown8)
    clear hown8 hgr8 hk8 HO7 HK7
    go_wp2_with fail
    (refine ⟨?anew,?_⟩;case anew => ((repeat (refine Reg.anew_cons rfl rfl (fun _ => by go_simp) ?_));exact Reg.anew_nil))
    repeat (first | (refine Reg.look rfl rfl rfl (by go_simp;rfl) rfl ?_;go_simp) | (refine Reg.skip rfl rfl rfl ?_;go_simp))
    (refine Reg.done ?_;simp only [Exit.then])
    go_wp2_with fail
    go_roundw
    case rel => exact ⟨k + 1,by omega,by go_num,HO8,HK8⟩
    case measure => simp [intOf];omega
  · obtain rfl : k = l.length := by omega
    have HO2 := HO.out
    rw [List.take_length] at HO2
    have hne : 0 < (X ++ l.flatMap opB).length := by
     have := numsB_pos (l.length : Int) []
     rw [HXE.out] at this
     rw [List.length_append];omega
    have HE : Hid (X ++ l.flatMap opB = opsB l) := Lib.hid (by rw [← HXE.out];rfl)
    obtain ⟨Z,hZ⟩ : ∃ Z,X ++ l.flatMap opB = Z := ⟨_,rfl⟩
    rw [hZ] at HO2 hne HE
    obtain ⟨A1,c1,rfl,_⟩ := HO2.shape
    obtain ⟨g,o,rfl,_,_,_⟩ := HO2.cell hne
    have hback := HO2.run_back (P := Tryz.prog) 163 9 bytely
    clear HO HO2 hne hZ
    go_wp2_with fail
    go_ret
    exact ⟨by rw [← HE.out];rfl,HK.out⟩
end
end Go.Proofs.YtjlbacfedfkilaaGreat
