/-
  pack: the reference's Num and Texts.
-/
import Derived.Test.YtjlbacfedfkilaaGreatGJ
namespace Go.Proofs.YtjlbacfedfkilaaGreat
open Go.RowKit Go.ChangeShapes Go.WideShapes Go.ChangeAt
set_option maxRecDepth 100000 in
theorem run_text1 (w : World) (v : Value) (b : UInt8) (hv : v = byteOf b) : (convert 163 9 (.slice (some ⟨w.heap.size,0,none⟩) 1 1)).run Tryz.prog (w.alloc (.cells #[v] 5)) = .ok (.string (bs [b])) (w.alloc (.cells #[v] 5)) := by
 subst hv
 have ho : Own Rp.byte (w.alloc (.cells #[byteOf b] 5)) No w.heap.size 5 (.slice (some ⟨w.heap.size,0,none⟩) [b].length [b].length) [b] := Own.of_cells Rp.byte_by No (heap_alloc_new w _) rfl (fun _ _ => trivial) (Nat.le_refl _) (by simp [maxLen])
 exact run_text _ _ _ _ bytely ho
set_option maxRecDepth 100000 in
set_option maxHeartbeats 1000000 in
theorem r_num (n : Int) (w : World) (h0 : -9223372036854775808 ≤ n) (h1 : n < 9223372036854775808) : Calls Tryz.prog 116 #[.int .i64 n] w fun e w' => e = .returned (.string (bs (numB n))) ∧ Kp No w w' := by
 obtain ⟨Z,hZ⟩ : ∃ Z,zz n = Z := ⟨_,rfl⟩
 have hZl : Z < 18446744073709551616 := by rw [← hZ];unfold zz;split <;> omega
 have HZ0 : Hid (vb Z = numB n) := Lib.hid (by rw [← hZ];rfl)
 have HLN : Hid ((numB n).length ≤ 10) := Lib.hid (numB_length n h0 h1)
 by_cases hn : n < 0
 · have k1 : ∃ u,IntKind.u64.wrap n = u ∧ IntKind.u64.wrap (u * 2) = ((18446744073709551616 - Z - 1 : Nat) : Int) := ⟨_,rfl,by rw [← hZ];unfold zz;rw [if_neg (by omega)];simp [IntKind.wrap,IntKind.signed,IntKind.bits];omega⟩
   obtain ⟨u,k1,k2⟩ := k1
   obtain ⟨Y,hY⟩ : ∃ Y,18446744073709551616 - Z - 1 = Y := ⟨_,rfl⟩
   rw [hY] at k2
   have k3 : IntKind.u64.wrap (-(Y : Int)) = (((18446744073709551616 - Y) % 18446744073709551616 : Nat) : Int) := by simp [IntKind.wrap,IntKind.signed,IntKind.bits];omega
   obtain ⟨X,hX⟩ : ∃ X,(18446744073709551616 - Y) % 18446744073709551616 = X := ⟨_,rfl⟩
   rw [hX] at k3
   have k4 : IntKind.u64.wrap ((X : Int) - 1) = (Z : Int) := by simp [IntKind.wrap,IntKind.signed,IntKind.bits];omega
   clear hZ hY hX
   go_enter Tryz.func116,Tryz.ntmps116
   go_wp2_with fail
   clear k1 k2 k3 k4
   go_loopw [3,4] (fun zv ov wr => ∃ (z : Nat) (m : List UInt8),zv = .int .u64 (z : Int) ∧ ov = .string (bs m) ∧ z < 18446744073709551616 ∧ Hid (m ++ vb z = numB n) ∧ Kp No w wr) (fun zv _ _ => (intOf zv).toNat)
   case atStart => exact ⟨Z,[],rfl,rfl,hZl,HZ0,Kp.refl _ _⟩
   case round =>
    obtain ⟨z,m,rfl,rfl,hz,HM,hkp⟩ := hrel
    have HK := Lib.hid hkp
    have hml : m.length ≤ 10 := by
     have h2 := HLN.out
     rw [← HM.out,List.length_append] at h2;omega
    obtain ⟨r,hr⟩ : ∃ r,bs m = r := ⟨_,rfl⟩
    have hrs : r.size ≤ 10 := by rw [← hr,bs_size];exact hml
    rw [hr]
    have HR := Lib.hid hr
    clear HZ0 hkp hml hr
    have hg1 : ¬ 9223372036854775807 < r.size + 1 := by omega
    by_cases hgt : 127 < z
    · have hv : Value.int .u8 ((z : Int) % 128 + 128) = byteOf (UInt8.ofNat (z % 128 + 128)) := by rw [byte_nat,Nat.mod_eq_of_lt (show z % 128 + 128 < 256 by omega)];congr 1
      obtain ⟨c,hc⟩ : ∃ c,UInt8.ofNat (z % 128 + 128) = c := ⟨_,rfl⟩
      have HNX : Hid ((m ++ [c]) ++ vb (z / 128) = numB n) := Lib.hid (by rw [← HM.out,vb_more hgt,hc,List.append_assoc];rfl)
      rw [hc] at hv
      have ht := run_text1 wr _ c hv
      have hcat : r ++ bs [c] = bs (m ++ [c]) := by rw [← HR.out,bs_append]
      have HCAT := Lib.hid hcat
      have hsz : (bs [c]).size = 1 := rfl
      have hg : (128 : Int) ≤ (z : Int) := by omega
      have t1 : (z : Int).tmod 128 = (z : Int) % 128 := Int.tmod_eq_emod_of_nonneg (by omega)
      have t2 : (z : Int).tdiv 128 = (z : Int) / 128 := Int.tdiv_eq_ediv_of_nonneg (by omega)
      have t3 : IntKind.u64.wrap ((z : Int) % 128) = (z : Int) % 128 := by simp [IntKind.wrap,IntKind.signed,IntKind.bits];omega
      have t4 : IntKind.u64.wrap ((z : Int) % 128 + 128) = (z : Int) % 128 + 128 := by simp [IntKind.wrap,IntKind.signed,IntKind.bits];omega
      have t5 : IntKind.u64.wrap ((z : Int) / 128) = (z : Int) / 128 := by simp [IntKind.wrap,IntKind.signed,IntKind.bits];omega
      have t6 : ((z : Int) % 128 + 128) % 256 = (z : Int) % 128 + 128 := by omega
      have t7 : IntKind.u8.wrap ((z : Int) % 128 + 128) = (z : Int) % 128 + 128 := by simp [IntKind.wrap,IntKind.signed,IntKind.bits];omega
      clear hv hc hcat
      generalize bs [c] = C at *
      go_wp2_with fail
      go_roundw
      case rel => exact ⟨z / 128,m ++ [c],by go_num,by rw [HCAT.out],by omega,HNX,HK.out.alloc _⟩
      case measure => simp [intOf];omega
    · have hv : Value.int .u8 ((z : Int)) = byteOf (UInt8.ofNat z) := by rw [byte_nat,Nat.mod_eq_of_lt (by omega)]
      obtain ⟨c,hc⟩ : ∃ c,UInt8.ofNat z = c := ⟨_,rfl⟩
      have HNX : Hid (m ++ [c] = numB n) := Lib.hid (by rw [← HM.out,vb_last hgt,hc])
      rw [hc] at hv
      have ht := run_text1 wr _ c hv
      have hcat : r ++ bs [c] = bs (numB n) := by rw [← HR.out,bs_append,HNX.out]
      have HCAT := Lib.hid hcat
      have hsz : (bs [c]).size = 1 := rfl
      have hg : ¬ (128 : Int) ≤ (z : Int) := by omega
      have t6 : (z : Int) % 256 = (z : Int) := by omega
      have t7 : IntKind.u8.wrap (z : Int) = (z : Int) := by simp [IntKind.wrap,IntKind.signed,IntKind.bits];omega
      clear hv hc hcat
      generalize bs [c] = C at *
      go_wp2_with fail
      go_ret
      exact ⟨congrArg (fun b => Ending.returned (.string b)) HCAT.out,HK.out.alloc _⟩
 · have k1 : IntKind.u64.wrap n = n := by simp [IntKind.wrap,IntKind.signed,IntKind.bits];omega
   have k2 : IntKind.u64.wrap (n * 2) = (Z : Int) := by rw [← hZ];unfold zz;rw [if_pos (by omega)];simp [IntKind.wrap,IntKind.signed,IntKind.bits];omega
   clear hZ
   go_enter Tryz.func116,Tryz.ntmps116
   go_wp2_with fail
   clear k1 k2
   go_loopw [3,4] (fun zv ov wr => ∃ (z : Nat) (m : List UInt8),zv = .int .u64 (z : Int) ∧ ov = .string (bs m) ∧ z < 18446744073709551616 ∧ Hid (m ++ vb z = numB n) ∧ Kp No w wr) (fun zv _ _ => (intOf zv).toNat)
   case atStart => exact ⟨Z,[],rfl,rfl,hZl,HZ0,Kp.refl _ _⟩
   case round =>
    obtain ⟨z,m,rfl,rfl,hz,HM,hkp⟩ := hrel
    have HK := Lib.hid hkp
    have hml : m.length ≤ 10 := by
     have h2 := HLN.out
     rw [← HM.out,List.length_append] at h2;omega
    obtain ⟨r,hr⟩ : ∃ r,bs m = r := ⟨_,rfl⟩
    have hrs : r.size ≤ 10 := by rw [← hr,bs_size];exact hml
    rw [hr]
    have HR := Lib.hid hr
    clear HZ0 hkp hml hr
    have hg1 : ¬ 9223372036854775807 < r.size + 1 := by omega
    by_cases hgt : 127 < z
    · have hv : Value.int .u8 ((z : Int) % 128 + 128) = byteOf (UInt8.ofNat (z % 128 + 128)) := by rw [byte_nat,Nat.mod_eq_of_lt (show z % 128 + 128 < 256 by omega)];congr 1
      obtain ⟨c,hc⟩ : ∃ c,UInt8.ofNat (z % 128 + 128) = c := ⟨_,rfl⟩
      have HNX : Hid ((m ++ [c]) ++ vb (z / 128) = numB n) := Lib.hid (by rw [← HM.out,vb_more hgt,hc,List.append_assoc];rfl)
      rw [hc] at hv
      have ht := run_text1 wr _ c hv
      have hcat : r ++ bs [c] = bs (m ++ [c]) := by rw [← HR.out,bs_append]
      have HCAT := Lib.hid hcat
      have hsz : (bs [c]).size = 1 := rfl
      have hg : (128 : Int) ≤ (z : Int) := by omega
      have t1 : (z : Int).tmod 128 = (z : Int) % 128 := Int.tmod_eq_emod_of_nonneg (by omega)
      have t2 : (z : Int).tdiv 128 = (z : Int) / 128 := Int.tdiv_eq_ediv_of_nonneg (by omega)
      have t3 : IntKind.u64.wrap ((z : Int) % 128) = (z : Int) % 128 := by simp [IntKind.wrap,IntKind.signed,IntKind.bits];omega
      have t4 : IntKind.u64.wrap ((z : Int) % 128 + 128) = (z : Int) % 128 + 128 := by simp [IntKind.wrap,IntKind.signed,IntKind.bits];omega
      have t5 : IntKind.u64.wrap ((z : Int) / 128) = (z : Int) / 128 := by simp [IntKind.wrap,IntKind.signed,IntKind.bits];omega
      have t6 : ((z : Int) % 128 + 128) % 256 = (z : Int) % 128 + 128 := by omega
      have t7 : IntKind.u8.wrap ((z : Int) % 128 + 128) = (z : Int) % 128 + 128 := by simp [IntKind.wrap,IntKind.signed,IntKind.bits];omega
      clear hv hc hcat
      generalize bs [c] = C at *
      go_wp2_with fail
      go_roundw
      case rel => exact ⟨z / 128,m ++ [c],by go_num,by rw [HCAT.out],by omega,HNX,HK.out.alloc _⟩
      case measure => simp [intOf];omega
    · have hv : Value.int .u8 ((z : Int)) = byteOf (UInt8.ofNat z) := by rw [byte_nat,Nat.mod_eq_of_lt (by omega)]
      obtain ⟨c,hc⟩ : ∃ c,UInt8.ofNat z = c := ⟨_,rfl⟩
      have HNX : Hid (m ++ [c] = numB n) := Lib.hid (by rw [← HM.out,vb_last hgt,hc])
      rw [hc] at hv
      have ht := run_text1 wr _ c hv
      have hcat : r ++ bs [c] = bs (numB n) := by rw [← HR.out,bs_append,HNX.out]
      have HCAT := Lib.hid hcat
      have hsz : (bs [c]).size = 1 := rfl
      have hg : ¬ (128 : Int) ≤ (z : Int) := by omega
      have t6 : (z : Int) % 256 = (z : Int) := by omega
      have t7 : IntKind.u8.wrap (z : Int) = (z : Int) := by simp [IntKind.wrap,IntKind.signed,IntKind.bits];omega
      clear hv hc hcat
      generalize bs [c] = C at *
      go_wp2_with fail
      go_ret
      exact ⟨congrArg (fun b => Ending.returned (.string b)) HCAT.out,HK.out.alloc _⟩
set_option maxRecDepth 100000 in
set_option maxHeartbeats 1000000 in
theorem r_texts (l : List ByteArray) (A : Option Addr) (c : Nat) (w : World) (S : Nat → Prop) (hl : Rp.str.slice.R w S [.slice A l.length c] l) (hn : ∀ s ∈ l,s.size ≤ 1048576) (hln : (textsB l).length ≤ 1073741824) :
 Calls Tryz.prog 117 #[.slice A l.length c] w fun e w' => e = .returned (.string (bs (textsB l))) ∧ Kp No w w' := by
 have HL := Lib.hid hl
 have HALL := Lib.hid hn
 have hlen : l.length ≤ maxLen := by obtain ⟨_,_,_,h1,h2,_⟩ := hl;omega
 unfold maxLen at hlen
 clear hl hn
 go_enter Tryz.func117,Tryz.ntmps117
 go_wp2_with fail
 go_loopw [3,4] (fun ov iv wr => ∃ k : Nat,k ≤ l.length ∧ iv = .int .i64 (k : Int) ∧ Own Rp.byte wr No w.heap.size 5 ov (textsB (l.take k)) ∧ Kp No w wr) (fun _ iv _ => l.length - (intOf iv).toNat)
 case atStart => exact ⟨0,Nat.zero_le _,rfl,Own.lit (heap_alloc_new w _) (Nat.le_refl _),(Kp.refl _ _).alloc _⟩
 case round =>
  obtain ⟨k,hk,rfl,hown,hkp⟩ := hrel
  obtain ⟨Av,cv,rfl⟩ := hown.shape
  have HO := Lib.hid hown
  have HK := Lib.hid hkp
  clear hown hkp
  by_cases hlt : k < l.length
  · obtain ⟨x,hx⟩ : ∃ x,l[k]? = some x := ⟨_,List.getElem?_eq_getElem hlt⟩
    obtain ⟨ad,rfl,had,hcell,_⟩ := Rp.at_str ((Rp.slice _).keptNo HL.out HK.out) hx
    have hxb := HALL.out x (List.mem_of_getElem? hx)
    have hst : textsB (l.take (k + 1)) = textsB (l.take k) ++ numB x.size ++ x.data.toList := by
     obtain ⟨h,rfl⟩ := List.getElem?_eq_some_iff.1 hx
     rw [List.take_succ_eq_append_getElem h,textsB_append]
     simp [textsB,textB,List.append_assoc]
    have hml : (textsB (l.take k)).length + (textB x).length ≤ 1073741824 := by
     have h1 : textsB l = textsB (l.take (k + 1)) ++ textsB (l.drop (k + 1)) := by rw [← textsB_append,List.take_append_drop]
     rw [h1,hst,List.length_append,List.length_append,List.length_append] at hln
     unfold textB
     rw [List.length_append];omega
    have hnb : (numB x.size).length + x.size = (textB x).length := by unfold textB;rw [List.length_append,data_length]
    have HST := Lib.hid hst
    have HML := Lib.hid hml
    have HNB := Lib.hid hnb
    have HX := Lib.hid hx
    obtain ⟨D,hD⟩ : ∃ D,textsB (l.take k) = D := ⟨_,rfl⟩
    rw [hD] at HO HST HML
    rw [hD]
    clear hst hml hx hnb hD had
    go_wp2_with fail
    refine (r_num (x.size : Int) _ (by omega) (by omega)).mono ?_
    rintro e w2 ⟨rfl,hk2⟩
    have HO2 := Lib.hid (HO.out.keptNo hk2)
    have HK2 := Lib.hid (HK.out.trans' hk2)
    obtain ⟨N,hN⟩ : ∃ N,numB (x.size : Int) = N := ⟨_,rfl⟩
    rw [hN] at HST HNB
    rw [hN]
    have hNs : (bs N).size = N.length := bs_size N
    clear hk2 HO HK hcell hN
    go_wp2_with (at_builtin;refine wpList_append_text rfl w2 (.tmp 12) (.tmp 18) 163 9 rfl w.heap.size 5 bytely No (.slice Av D.length cv) D rfl HO2.out (bs N) rfl ?d1 ?d2 ?_)
    case d1 => have := HML.out;have := HNB.out;rw [bs_size];omega
    case d2 => have := HK2.out.size;omega
    intro v3 w3 hown hgr
    obtain ⟨A3,c3,rfl⟩ := hown.shape
    have hkr : Kp (fun k => (Value.slice Av D.length cv).ownBlock = some k) w2 w3 := (Kp.refl _ _).grown hgr (fun g hg _ => hg)
    have HK3 := Lib.hid (HK2.out.trans hkr (fun i hi hv => absurd (HO2.out.lt i hv).1 (by omega)))
    rw [bs_data] at hown
    have HO3 := Lib.hid hown
    obtain ⟨ad3,he3,_,hcell3,_⟩ := Rp.at_str ((Rp.slice _).keptNo HL.out HK3.out) HX.out
    injection he3 with he3
    subst he3
    have hlen3 : (D ++ (bs N).data.toList).length = (D ++ N).length := by rw [bs_data]
    rw [hlen3]
    obtain ⟨E,hE⟩ : ∃ E,D ++ N = E := ⟨_,rfl⟩
    rw [hE] at HO3 HST
    rw [hE]
    have hEl : E.length + x.size ≤ 1073741824 := by rw [← hE,List.length_append];have := HML.out;have := HNB.out;omega
    clear hown hgr hkr hNs hlen3 hE
    go_wp2_with (at_builtin;refine wpList_append_text rfl w3 (.tmp 20) (.tmp 24) 163 9 rfl w.heap.size 5 bytely No (.slice A3 E.length c3) E rfl HO3.out x rfl ?d1 ?d2 ?_)
    case d1 => omega
    case d2 => have := HK3.out.size;omega
    intro v4 w4 hown hgr
    obtain ⟨A4,c4,rfl⟩ := hown.shape
    have hkr : Kp (fun k => (Value.slice A3 E.length c3).ownBlock = some k) w3 w4 := (Kp.refl _ _).grown hgr (fun g hg _ => hg)
    have HK4 := Lib.hid (HK3.out.trans hkr (fun i hi hv => absurd (HO3.out.lt i hv).1 (by omega)))
    have HO4 := Lib.hid hown
    clear hown hgr hkr hcell3
    go_wp2_with fail
    go_roundw
    case rel => exact ⟨k + 1,by omega,by go_num,by rw [HST.out];exact HO4.out,HK4.out⟩
    case measure => simp [intOf];omega
  · obtain rfl : k = l.length := by omega
    rw [List.take_length] at HO
    rw [List.take_length]
    have ht := run_text (P := Tryz.prog) wr 163 9 5 bytely HO.out
    go_wp2_with fail
    go_ret
    exact ⟨rfl,HK.out⟩
end Go.Proofs.YtjlbacfedfkilaaGreat
