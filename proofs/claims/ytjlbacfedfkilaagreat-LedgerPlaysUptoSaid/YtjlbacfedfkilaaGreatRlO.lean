/-
  The document's ledger as bytes: Nums, Ops, Pack.
-/
import Derived.Test.YtjlbacfedfkilaaGreatGJ
import Derived.Test.YtjlbacfedfkilaaGreatH7P
import Derived.Test.YtjlbacfedfkilaaGreatPackW
import Derived.Test.YtjlbacfedfkilaaGreatGL
namespace Go.Proofs.YtjlbacfedfkilaaGreat
open Go.RowKit Go.ChangeShapes Go.WideShapes Go.ChangeAt
set_option maxRecDepth 100000 in
set_option maxHeartbeats 1000000 in
theorem r_nums (l : List Int) (A : Option Addr) (c : Nat) (w : World) (S : Nat → Prop) (hl : (Rp.int .i64).slice.R w S [.slice A l.length c] l) (hn : l.length ≤ 1000000) :
 Calls Tryz.prog 114 #[.slice A l.length c] w fun e w' => e = .returned (.string (bs (numsB l))) ∧ Kp No w w' := by
 have HL := Lib.hid hl
 have hall : ∀ n ∈ l,-9223372036854775808 ≤ n ∧ n < 9223372036854775808 := by
  intro n hn
  obtain ⟨i,hi⟩ := List.mem_iff_getElem?.1 hn
  obtain ⟨_,_,_,_,hw⟩ := Rp.at_int hl hi
  exact wf_bounds hw
 have HALL := Lib.hid hall
 clear hl hall
 go_enter Tryz.func114,Tryz.ntmps114
 go_wp2_with fail
 go_loopw [3,4] (fun ov iv wr => ∃ k : Nat,k ≤ l.length ∧ iv = .int .i64 (k : Int) ∧ Own Rp.byte wr No w.heap.size 5 ov (numsB (l.take k)) ∧ Kp No w wr) (fun _ iv _ => l.length - (intOf iv).toNat)
 case atStart => exact ⟨0,Nat.zero_le _,rfl,Own.lit (heap_alloc_new w _) (Nat.le_refl _),(Kp.refl _ _).alloc _⟩
 case round =>
  obtain ⟨k,hk,rfl,hown,hkp⟩ := hrel
  obtain ⟨Av,cv,rfl⟩ := hown.shape
  have HO := Lib.hid hown
  have HK := Lib.hid hkp
  clear hown hkp
  by_cases hlt : k < l.length
  · have hki : (k : Int) < (l.length : Int) := by omega
    obtain ⟨x,hx⟩ : ∃ x,l[k]? = some x := ⟨_,List.getElem?_eq_getElem hlt⟩
    obtain ⟨ad,rfl,_,hcell,_⟩ := Rp.at_int ((Rp.slice _).keptNo HL.out HK.out) hx
    have hxb := HALL.out x (List.mem_of_getElem? hx)
    have hst : numsB (l.take (k + 1)) = numsB (l.take k) ++ numB x := by
     obtain ⟨h,rfl⟩ := List.getElem?_eq_some_iff.1 hx
     rw [List.take_succ_eq_append_getElem h,numsB_append]
     simp [numsB]
    have hml : (numsB (l.take k)).length ≤ 10000000 := by
     have h1 := numsB_length (l.take k) (fun n hn => HALL.out n (List.mem_of_mem_take hn))
     rw [List.length_take] at h1;omega
    have hnl := numB_length x hxb.1 hxb.2
    have HST := Lib.hid hst
    have HML := Lib.hid hml
    have HNB := Lib.hid hnl
    have HXB := Lib.hid hxb
    obtain ⟨D,hD⟩ : ∃ D,numsB (l.take k) = D := ⟨_,rfl⟩
    rw [hD] at HO HST HML
    rw [hD]
    clear hst hml hx hnl hxb hD
    go_wp2_with fail
    refine (r_num x _ HXB.out.1 HXB.out.2).mono ?_
    rintro e w2 ⟨rfl,hk2⟩
    have HO2 := Lib.hid (HO.out.keptNo hk2)
    have HK2 := Lib.hid (HK.out.trans' hk2)
    obtain ⟨N,hN⟩ : ∃ N,numB x = N := ⟨_,rfl⟩
    rw [hN] at HST HNB
    rw [hN]
    have hNs : (bs N).size = N.length := bs_size N
    clear hk2 HO HK hcell hN
    go_wp2_with (at_builtin;refine wpList_append_text rfl w2 (.tmp 12) (.tmp 17) 163 9 rfl w.heap.size 5 bytely No (.slice Av D.length cv) D rfl HO2.out (bs N) rfl ?d1 ?d2 ?_)
    case d1 => have := HML.out;have := HNB.out;rw [bs_size];omega
    case d2 => have := HK2.out.size;omega
    intro v3 w3 hown hgr
    obtain ⟨A3,c3,rfl⟩ := hown.shape
    have hkr : Kp (fun k => (Value.slice Av D.length cv).ownBlock = some k) w2 w3 := (Kp.refl _ _).grown hgr (fun g hg _ => hg)
    have HK3 := Lib.hid (HK2.out.trans hkr (fun i hi hv => absurd (HO2.out.lt i hv).1 (by omega)))
    rw [bs_data] at hown
    have HO3 := Lib.hid hown
    clear hown hgr hkr hNs
    go_wp2_with fail
    go_roundw
    case rel => exact ⟨k + 1,by omega,by go_num,by rw [HST.out];simpa [bs_data] using HO3.out,HK3.out⟩
    case measure => simp [intOf];omega
  · obtain rfl : k = l.length := by omega
    rw [List.take_length] at HO
    rw [List.take_length]
    have ht := run_text (P := Tryz.prog) wr 163 9 5 bytely HO.out
    go_wp2_with fail
    go_ret
    exact ⟨rfl,HK.out⟩
set_option maxRecDepth 100000 in
set_option maxHeartbeats 4000000 in
theorem r_ops11 (l : List OpL) (A : Option Addr) (c : Nat) (w : World) (S : Nat → Prop) (hl : Rp.opl.slice.R w S [.slice A l.length c] l) (hll : l.length ≤ 1000) (hsm : ∀ o ∈ l,SmallO o) :
 Calls Tryz.prog 115 #[.slice A l.length c] w fun x w' => x = .returned (.string (bs (opsB l))) ∧ Kp No w w' := by
 have hnum : ∀ o ∈ l,o.nums := by
  intro o ho
  obtain ⟨i,hi⟩ := List.getElem?_of_mem ho
  obtain ⟨_,_,_,_,_,_,hn,_⟩ := Rp.at_opl hl hi
  exact hn
 have hl : Rp.opl.slice.R w (fun k => k < w.heap.size) [.slice A l.length c] l := Rp.opl.slice.more (Rp.opl.slice.bnd hl) (fun k hk => hk.2)
 have HL := Lib.hid hl
 have HSM := Lib.hid hsm
 have HNUM := Lib.hid hnum
 clear hl hsm hnum
 go_enter Tryz.func115,Tryz.ntmps115
 go_wp2_with fail
 refine (r_num (l.length : Int) w (by omega) (by omega)).mono ?_
 rintro e w2 ⟨rfl,hkk⟩
 have hnn : numB (l.length : Int) = numsB [(l.length : Int)] := by simp [numsB]
 rw [hnn]
 clear hnn
 have hX : (bs (numsB [(l.length : Int)])).size ≤ 10 := by
  rw [bs_size]
  have := numsB_length [(l.length : Int)] (by intro a ha;simp only [List.mem_cons,List.not_mem_nil,or_false] at ha;subst ha;omega)
  simpa using this
 obtain ⟨c1,w3,hrun,hown,hk3⟩ := ownM_text (P := Tryz.prog) w2 163 9 5 bytely (bs (numsB [(l.length : Int)])) (by omega) w.heap.size hkk.size
 rw [bs_data] at hown
 rw [show (bs (numsB [(l.length : Int)])).size = (numsB [(l.length : Int)]).length from bs_size _] at hrun hX
 have HO3 := Lib.hid hown
 have HK3 := Lib.hid (hkk.trans' hk3)
 obtain ⟨X,hXe⟩ : ∃ X,numsB [(l.length : Int)] = X := ⟨_,rfl⟩
 have HXE := Lib.hid hXe
 rw [hXe] at hrun hX HO3 ⊢
 have HXL := Lib.hid hX
 clear hown hk3 hkk hX hXe
 go_wp2_with fail
 clear hrun
 go_loopw [3,4] (fun ov iv wr => ∃ k : Nat,k ≤ l.length ∧ iv = .int .i64 (k : Int) ∧ Hid (OwnM wr w.heap.size 5 ov (X ++ (l.take k).flatMap opB)) ∧ Hid (Kp No w wr)) (fun _ iv _ => l.length - (intOf iv).toNat)
 case atStart => exact ⟨0,Nat.zero_le _,rfl,Lib.hid (by rw [List.take_zero,List.flatMap_nil,List.append_nil];exact HO3.out),HK3⟩
 case round =>
  clear HO3 HK3
  obtain ⟨k,hk,rfl,HO,HK⟩ := hrel
  by_cases hlt : k < l.length
  · have hki : (k : Int) < (l.length : Int) := by omega
    obtain ⟨o,ho⟩ : ∃ o,l[k]? = some o := ⟨_,List.getElem?_eq_getElem hlt⟩
    obtain ⟨ad,A2,c2,rfl,_,hcell,hnum,hhs⟩ := Rp.at_opl (Rp.opl.slice.keptNo HL.out HK.out) ho
    obtain ⟨z0,z1,z2,z3,z4,z5,z6,z7,z8⟩ := opl_cells hcell
    have hos := HSM.out o (List.mem_of_getElem? ho)
    have hb8 := bounds_I64 hnum.2.2.2.2.2.2.2
    have hpl := packB_le o hos hb8.1 hb8.2
    have hbl := opB_le o hnum hos
    have hpk := fun w2 (hk : Kp (fun k => w.heap.size ≤ k) wr w2) => r_packS o.size o.hashes A2 c2 w2 _ (Rp.str.slice.kept hhs hk (fun k hk _ h => by omega)) hb8.1 hb8.2 (fun s hs => by have := hos.2.2 s hs;omega) (by have := textsB_le 1000 (by omega) o.hashes hos.2.2;have := hos.2.1;omega) (by have := hos.2.1;omega)
    have hnx := flat_snoc opB ho
    have hM := flat_le opB 1011200 (l.take k) (fun o ho => opB_le o (HNUM.out o (List.mem_of_mem_take ho)) (HSM.out o (List.mem_of_mem_take ho)))
    rw [List.length_take,Nat.min_eq_left hk] at hM
    obtain ⟨M,hMe⟩ : ∃ M,(l.take k).flatMap opB = M := ⟨_,rfl⟩
    rw [hMe] at HO hM hnx
    have HNX := Lib.hid hnx
    have HPK := Lib.hid hpk
    have HNM := Lib.hid hnum
    have HOS := Lib.hid hos
    have hXM : (X ++ M).length ≤ 2000000000 := by have := HXL.out;rw [List.length_append];omega
    have HXM := Lib.hid hXM
    clear ho hcell hhs hos hpk hnx hM hMe hXM
    obtain ⟨on,oe,ok,os,oc,oq,onm,osz,ohs⟩ := o
    simp only at *
    obtain ⟨PB,hPB⟩ : ∃ PB,bs (packB osz ohs) = PB := ⟨_,rfl⟩
    obtain ⟨Y,hY⟩ : ∃ Y,numsB [on,oe,ok,os,oc,oq] = Y := ⟨_,rfl⟩
    obtain ⟨Z,hZ⟩ : ∃ Z,textsB [onm,PB] = Z := ⟨_,rfl⟩
    have hnx2 : (l.take (k + 1)).flatMap opB = M ++ (Y ++ Z) := by rw [HNX.out];unfold opB;simp only [hPB,hY,hZ]
    have hYZ : Y.length + Z.length ≤ 1011200 := by
     unfold opB at hbl
     simp only [hPB,hY,hZ,List.length_append] at hbl
     exact hbl
    rw [hPB] at hpl HPK
    have HNX2 := Lib.hid hnx2
    have HYE := Lib.hid hY
    have HZE := Lib.hid hZ
    have HYZ := Lib.hid hYZ
    have HPL := Lib.hid hpl
    clear hPB hY hZ hnx2 hYZ hpl HNX hbl hb8
    go_wp2_with fail
    clear z0 z1 z2 z3 z4 z5 z6 z7 z8
    obtain ⟨wa,hwa⟩ : ∃ wa,wr.alloc (.cells #[.int .i64 on,.int .i64 oe,.int .i64 ok,.int .i64 os,.int .i64 oc,.int .i64 oq,.string onm,.int .i64 osz,.slice A2 ohs.length c2] 36) = wa := ⟨_,rfl⟩
    obtain ⟨x,hx⟩ : ∃ x,wr.heap.size = x := ⟨_,rfl⟩
    have hsa : wr.heap.size + 1 = wa.heap.size := by rw [← hwa];simp
    have hka : Kp No wr wa := by rw [← hwa];exact (Kp.refl _ _).alloc _
    have hba : Blk wa x 36 [.int .i64 on,.int .i64 oe,.int .i64 ok,.int .i64 os,.int .i64 oc,.int .i64 oq,.string onm,.int .i64 osz,.slice A2 ohs.length c2] := by rw [← hwa,← hx];exact Blk.new wr _ _
    rw [hsa,hwa]
    have HX := Lib.hid hx
    have HBA := Lib.hid hba
    have HKA := Lib.hid hka
    try rw [hx]
    clear hwa hx hsa hka hba
    have hnc := r_nums [on,oe,ok,os,oc,oq] (some ⟨wa.heap.size,0,none⟩) 6 (wa.alloc (.cells #[.int .i64 on,.int .i64 oe,.int .i64 ok,.int .i64 os,.int .i64 oc,.int .i64 oq] 3)) (· = wa.heap.size) (Rp.of_block (heap_alloc_new wa _) rfl rfl (Nat.le_refl _) (by simp [maxLen]) (by
     obtain ⟨n1,n2,n3,n4,n5,n6,_,_⟩ := HNM.out
     intro a ha
     simp only [List.mem_cons,List.not_mem_nil,or_false] at ha
     rcases ha with rfl | rfl | rfl | rfl | rfl | rfl <;> assumption)) (by simp)
    rw [HYE.out] at hnc
    refine hnc.mono ?_
    rintro e w4 ⟨rfl,hk4⟩
    have HK4 := Lib.hid (HKA.out.trans' (((Kp.refl No wa).alloc _).trans' hk4))
    have HB4 := Lib.hid (HBA.out.kept (((Kp.refl No wa).alloc _).trans' hk4) (fun x => x))
    have HO4 := Lib.hid (HO.out.keptNo HK4.out)
    have hys : (bs Y).size = Y.length := bs_size _
    clear hk4 hnc HBA HKA
    go_wp2_with (at_builtin;refine wpList_appendM_text rfl _ (.tmp 20) (.tmp 34) 163 9 rfl w.heap.size 5 bytely u3 (X ++ M) rfl HO4.out (bs Y) rfl ?d1 ?d2 ?_)
    case d1 => have := HXM.out;have := HYZ.out;omega
    case d2 => exact (HK.out.trans' HK4.out).size
    intro v5 w5 hown5 hgr5
    rw [bs_data] at hown5
    have hk5 : Kp (fun k => u3.ownBlock = some k) w4 w5 := (Kp.refl _ _).grown hgr5 (fun g hg _ => hg)
    have HK5 : Hid (Kp No w w5) := Lib.hid ((HK.out.trans' HK4.out).trans hk5 (fun i hi hv => absurd (HO.out.lt i hv).1 (by omega)))
    have HB5 := Lib.hid (HB4.out.kept hk5 (fun hv => by have := (HO.out.lt _ hv).2;have := HX.out;omega))
    have HO5 := Lib.hid hown5
    have HHS5 : Hid (Kp (fun k => w.heap.size ≤ k) wr w5.drew) := Lib.hid (((HK4.out.any).trans hk5 (fun i _ h => (HO.out.lt i h).1)).drew)
    clear hown5 hgr5 hk5 HO4 HB4 HK4 hys
    have y6 : w5.cell? ⟨x,6,none⟩ = some (.string onm) := Blk.cell HB5.out rfl
    have y7 : w5.cell? ⟨x,7,none⟩ = some (.int .i64 osz) := Blk.cell HB5.out rfl
    have y8 : w5.cell? ⟨x,8,none⟩ = some (.slice A2 ohs.length c2) := Blk.cell HB5.out rfl
    go_wp2_with fail
    refine Reg.wp_region_plan [⟨0,false,[]⟩,⟨1,false,[]⟩,⟨2,false,[]⟩,⟨3,false,[]⟩,⟨4,false,[]⟩,⟨5,true,[1,2]⟩,⟨6,true,[]⟩,⟨7,true,[]⟩,⟨8,true,[]⟩,⟨9,false,[]⟩] rfl (by kernel_rfl) ?_
    repeat (first | (refine Reg.look rfl rfl rfl (by go_simp;rfl) rfl ?_;go_simp) | (refine Reg.skip rfl rfl rfl ?_;go_simp))
    refine Reg.act rfl ?_
    go_wp2_with fail
    refine (HPK.out _ HHS5.out).mono ?_
    rintro e w6 ⟨rfl,hk6⟩
    have hkd : Kp No w5 w6 := ((Kp.refl No w5).drew).trans' hk6
    have HK6 := Lib.hid (HK5.out.trans' hkd)
    have hb6 := HB5.out.kept hkd (fun x => x)
    have HO6 := Lib.hid (HO5.out.keptNo hkd)
    have y6 : w6.cell? ⟨x,6,none⟩ = some (.string onm) := Blk.cell hb6 rfl
    clear y7 y8 hb6 hk6 hkd HB5 HO5 HK5 HHS5 HPK
    go_wp2_with fail
    (refine ⟨?anew,?_⟩;case anew => ((repeat (refine Reg.anew_cons rfl rfl (fun _ => by go_simp) ?_));exact Reg.anew_nil))
    repeat (first | (refine Reg.look rfl rfl rfl (by go_simp;rfl) rfl ?_;go_simp) | (refine Reg.skip rfl rfl rfl ?_;go_simp))
    refine Reg.act rfl ?_
    go_wp2
    (refine ⟨?anew,?_⟩;case anew => ((repeat (refine Reg.anew_cons rfl rfl (fun _ => by go_simp) ?_));exact Reg.anew_nil))
    repeat (first | (refine Reg.look rfl rfl rfl (by go_simp;rfl) rfl ?_;go_simp) | (refine Reg.skip rfl rfl rfl ?_;go_simp))
    have h1 : onm.size ≤ 1000 := HOS.out.1
    have h2 : PB.size ≤ 1010020 := HPL.out
    have hal : ∀ a ∈ [onm,PB],a.size ≤ 1010020 := fun a ha => by
     simp only [List.mem_cons,List.not_mem_nil,or_false] at ha
     rcases ha with rfl | rfl <;> omega
    have htx := r_texts [onm,PB] (some ⟨w6.heap.size,0,none⟩) 2 (w6.alloc (.cells #[.string onm,.string PB] 9)) (· = w6.heap.size) (Rp.of_block1 rfl Value.string (heap_alloc_new w6 _) rfl rfl (Nat.le_refl _) (by simp [maxLen]) (fun a ha => ⟨rfl,by have := hal a ha;unfold maxLen;omega⟩)) (fun a ha => by have := hal a ha;omega) (by rw [HZE.out];have := HYZ.out;omega)
    clear h1 h2 hal
    rw [HZE.out] at htx
    refine Reg.act rfl ?_
    go_wp2_with fail
    refine htx.mono ?_
    rintro e w7 ⟨rfl,hk7⟩
    have hk67 : Kp No w6 w7 := ((Kp.refl No w6).alloc _).trans' hk7
    have HO7 := Lib.hid (HO6.out.keptNo hk67)
    have HK7 := Lib.hid (HK6.out.trans' hk67)
    clear hk7 hk67 htx HO6 HK6 y6
    go_wp2_with fail
    (refine ⟨?anew,?_⟩;case anew => ((repeat (refine Reg.anew_cons rfl rfl (fun _ => by go_simp) ?_));exact Reg.anew_nil))
    repeat (first | (refine Reg.look rfl rfl rfl (by go_simp;rfl) rfl ?_;go_simp) | (refine Reg.skip rfl rfl rfl ?_;go_simp))
    refine Reg.act rfl ?_
    refine wpList_appendM_text rfl _ (.tmp 36) (.tmp 43) 163 9 rfl w.heap.size 5 bytely v5 (X ++ (M ++ Y)) rfl HO7.out (bs Z) rfl ?d3 ?d4 ?_
    case d3 => have h1 := HXM.out;have h2 := HYZ.out;have h3 : (bs Z).size = Z.length := bs_size _;rw [List.length_append] at h1;rw [List.length_append,List.length_append];omega
    case d4 => exact HK7.out.size
    intro v8 w8 hown8 hgr8
    rw [bs_data] at hown8
    have hk8 : Kp (fun k => v5.ownBlock = some k) w7 w8 := (Kp.refl _ _).grown hgr8 (fun g hg _ => hg)
    have HK8 : Hid (Kp No w w8) := Lib.hid (HK7.out.trans hk8 (fun i hi hv => absurd (HO7.out.lt i hv).1 (by omega)))
    have HO8 : Hid (OwnM w8 w.heap.size 5 v8 (X ++ (l.take (k + 1)).flatMap opB)) := Lib.hid (by
     rw [HNX2.out]
     have e : X ++ (M ++ Y) ++ Z = X ++ (M ++ (Y ++ Z)) := by simp only [List.append_assoc]
     rw [← e];exact hown8)
    clear hown8 hgr8 hk8 HO7 HK7
    go_wp2_with fail
    (refine ⟨?anew,?_⟩;case anew => ((repeat (refine Reg.anew_cons rfl rfl (fun _ => by go_simp) ?_));exact Reg.anew_nil))
    repeat (first | (refine Reg.look rfl rfl rfl (by go_simp;rfl) rfl ?_;go_simp) | (refine Reg.skip rfl rfl rfl ?_;go_simp))
    (refine Reg.done ?_;simp only [Exit.then])
    go_wp2_with fail
    go_roundw
    case rel => exact ⟨k + 1,by omega,by go_num,HO8,HK8⟩
    case measure => simp [intOf];omega
  · obtain rfl : k = l.length := by omega
    have HO2 := HO.out
    rw [List.take_length] at HO2
    have hne : 0 < (X ++ l.flatMap opB).length := by
     have := numsB_pos (l.length : Int) []
     rw [HXE.out] at this
     rw [List.length_append];omega
    have HE : Hid (X ++ l.flatMap opB = opsB l) := Lib.hid (by rw [← HXE.out];rfl)
    obtain ⟨Z,hZ⟩ : ∃ Z,X ++ l.flatMap opB = Z := ⟨_,rfl⟩
    rw [hZ] at HO2 hne HE
    obtain ⟨A1,c1,rfl,_⟩ := HO2.shape
    obtain ⟨g,o,rfl,_,_,_⟩ := HO2.cell hne
    have hback := HO2.run_back (P := Tryz.prog) 163 9 bytely
    clear HO HO2 hne hZ
    go_wp2_with fail
    go_ret
    exact ⟨by rw [← HE.out];rfl,HK.out⟩
set_option maxRecDepth 100000 in
set_option maxHeartbeats 8000000 in
theorem r_lpack (B l : Nat) (L : LV) (F S : Nat → Prop) (w : World) (h : RLAt w l L F S) (hok : OkL B L) (hB : B ≤ 800000) (hlo : LostOk L) : Calls Tryz.prog 62 #[.pointer (some ⟨l,0,none⟩)] w fun x w' => x = .returned (.string (bs (packL L))) ∧ Kp No w w' := by
 obtain ⟨ov,gv,hin,_⟩ := h
 obtain ⟨A,c,rfl⟩ := hin.ops.shape
 obtain ⟨A',c',rfl⟩ := hin.gone.shape
 have hlen := hok.len
 have hlost := hok.lost
 have k0 := Blk.cell hin.blk (i := 0) rfl
 have k1 := Blk.cell hin.blk (i := 1) rfl
 have k2 := Blk.cell hin.blk (i := 2) rfl
 have k3 := Blk.cell hin.blk (i := 3) rfl
 have hltl := Blk.lt hin.blk
 have hpo : ∀ W,Kp No w W → Calls Tryz.prog 115 #[.slice A L.ops.length c] W fun x w' => x = .returned (.string (bs (opsB L.ops))) ∧ Kp No W w' := fun W hk =>
  r_ops11 L.ops A c W _ (Rp.opl.slice.keptNo hin.ops.readFrom hk) (by omega) (fun o ho => (hok.okOf ho).small)
 have hlr := Rp.opl.slice.more (Rp.opl.slice.bnd hin.gone.readFrom) (S' := fun k => k < w.heap.size) (fun k hk => hk.2)
 have hn1 : ∀ (W : World) g,Blk W g 3 [.int .i64 L.fence,.int .i64 L.settled] → Calls Tryz.prog 114 #[.slice (some ⟨g,0,none⟩) 2 2] W fun x w' => x = .returned (.string (bs (numsB [L.fence,L.settled]))) ∧ Kp No W w' := fun W g hb =>
  r_nums [L.fence,L.settled] (some ⟨g,0,none⟩) 2 W (· = g) (Rp.of_block hb rfl rfl (Nat.le_refl _) (by simp [maxLen]) (by
   have h1 := hok.fence0
   have h2 := hok.settled
   intro a ha
   simp only [List.mem_cons,List.not_mem_nil,or_false] at ha
   rcases ha with rfl | rfl <;> exact WalkArith.wf_i64 ⟨by omega,by omega⟩)) (by simp)
 have hn2 : ∀ (W : World),Calls Tryz.prog 116 #[.int .i64 (L.lost.length : Int)] W fun x w' => x = .returned (.string (bs (numsB [(L.lost.length : Int)]))) ∧ Kp No W w' := fun W => by
  have h := r_num (L.lost.length : Int) W (by omega) (by omega)
  have hnn : numB (L.lost.length : Int) = numsB [(L.lost.length : Int)] := by simp [numsB]
  rw [hnn] at h
  exact h
 have hz1 : (bs (numsB [L.fence,L.settled])).size ≤ 20 := by
  rw [bs_size]
  have h1 := hok.fence0
  have h2 := hok.settled
  have := numsB_length [L.fence,L.settled] (by intro a ha;simp only [List.mem_cons,List.not_mem_nil,or_false] at ha;rcases ha with rfl | rfl <;> omega)
  simpa using this
 have hz3 : (bs (numsB [(L.lost.length : Int)])).size ≤ 10 := by
  rw [bs_size]
  have := numsB_length [(L.lost.length : Int)] (by intro a ha;simp only [List.mem_cons,List.not_mem_nil,or_false] at ha;subst ha;omega)
  simpa using this
 have hz2 : (bs (opsB L.ops)).size ≤ 100000000 := by
  rw [bs_size]
  unfold opsB
  have h1 := numsB_length [(L.ops.length : Int)] (by intro a ha;simp only [List.mem_cons,List.not_mem_nil,or_false] at ha;subst ha;omega)
  have h2 := flat_le opB 1011200 L.ops (fun o ho => by
   obtain ⟨i,hi⟩ := List.getElem?_of_mem ho
   obtain ⟨_,_,_,_,_,_,hn,_⟩ := Rp.at_opl hin.ops.readFrom hi
   exact opB_le o hn (hok.okOf ho).small)
  rw [List.length_append]
  simp only [List.length_cons,List.length_nil] at h1
  omega
 have hcat : bs (numsB [L.fence,L.settled]) ++ bs (opsB L.ops) ++ bs (numsB [(L.lost.length : Int)]) = bs (packH L) := by
  rw [bs_append,bs_append];rfl
 have hXl : (packH L).length ≤ 100000030 := by
  rw [← bs_size,← hcat,ByteArray.size_append,ByteArray.size_append];omega
 have HPL : Hid (packL L = packH L ++ L.lost.flatMap goneB) := Lib.hid rfl
 obtain ⟨X,hX⟩ : ∃ X,packH L = X := ⟨_,rfl⟩
 obtain ⟨n,hn⟩ : ∃ n,L.ops.length = n := ⟨_,rfl⟩
 obtain ⟨m,hm⟩ : ∃ m,L.lost.length = m := ⟨_,rfl⟩
 obtain ⟨f,hf⟩ : ∃ f,L.fence = f := ⟨_,rfl⟩
 obtain ⟨s,hs⟩ : ∃ s,L.settled = s := ⟨_,rfl⟩
 simp only [hn,hm,hf,hs,hX] at k0 k1 k2 k3 hpo hn1 hn2 hz1 hz3 hcat HPL hlost hXl
 obtain ⟨t1,ht1⟩ : ∃ t,bs (numsB [f,s]) = t := ⟨_,rfl⟩
 obtain ⟨t2,ht2⟩ : ∃ t,bs (opsB L.ops) = t := ⟨_,rfl⟩
 obtain ⟨t3,ht3⟩ : ∃ t,bs (numsB [(m : Int)]) = t := ⟨_,rfl⟩
 simp only [ht1,ht2,ht3] at hpo hn1 hn2 hz1 hz2 hz3 hcat
 have HQ0 := Lib.hid k0
 have HQ1 := Lib.hid k1
 have HQ2 := Lib.hid k2
 have HQ3 := Lib.hid k3
 have HLT := Lib.hid hltl
 have HPO := Lib.hid hpo
 have HN1 := Lib.hid hn1
 have HN2 := Lib.hid hn2
 have HT := Lib.hid hcat
 have HXL := Lib.hid hXl
 have HM := Lib.hid hm
 have HLR : Hid (Rp.opl.slice.R w (fun k => k < w.heap.size) [.slice A' L.lost.length c'] L.lost) := Lib.hid hlr
 have HLO := Lib.hid hlo
 have hg1 : ¬ 9223372036854775807 < t1.size + t2.size := by omega
 have hg3 : ¬ 9223372036854775807 < t1.size + t2.size + t3.size := by omega
 have hg2 : ¬ 9223372036854775807 < (t1 ++ t2).size + t3.size := by rw [ByteArray.size_append];omega
 clear k0 k1 k2 k3
 clear hpo hn1 hn2 hcat hXl hX ht1 ht2 ht3 hn hm hf hs hlr hin hok hlo hlen
 go_enter Tryz.func62,Tryz.ntmps62
 go_upto_region 1 with fail
 go_cut [3] (fun v wx => v = .string (bs X) ∧ Hid (Kp No w wx))
 case first =>
  obtain ⟨wd,hwd⟩ : ∃ x,w.drew = x := ⟨_,rfl⟩
  have HKD : Hid (Kp No w wd) := Lib.hid (by rw [← hwd];exact (Kp.refl _ _).drew)
  have k0 : wd.cell? ⟨l,0,none⟩ = some (.slice A n c) := (HKD.out.cell HLT.out (fun x => x)).trans HQ0.out
  have k1 : wd.cell? ⟨l,1,none⟩ = some (.slice A' m c') := (HKD.out.cell HLT.out (fun x => x)).trans HQ1.out
  have k2 : wd.cell? ⟨l,2,none⟩ = some (.int .i64 f) := (HKD.out.cell HLT.out (fun x => x)).trans HQ2.out
  have k3 : wd.cell? ⟨l,3,none⟩ = some (.int .i64 s) := (HKD.out.cell HLT.out (fun x => x)).trans HQ3.out
  refine Reg.wp_region_plan [⟨0,false,[]⟩,⟨1,false,[]⟩,⟨2,false,[]⟩,⟨3,false,[]⟩,⟨4,false,[]⟩,⟨5,false,[]⟩,⟨6,false,[]⟩,⟨7,false,[]⟩,⟨10,false,[]⟩,⟨11,false,[]⟩,⟨12,false,[]⟩,⟨13,false,[]⟩,⟨16,false,[]⟩,⟨17,false,[]⟩,⟨18,false,[]⟩,⟨19,false,[]⟩,⟨20,false,[]⟩,⟨8,true,[11,12,13,17,18,19,20]⟩,⟨9,true,[11,12,13,17,18,19,20]⟩,⟨14,true,[17,18,19,20]⟩,⟨15,false,[]⟩,⟨21,true,[15]⟩,⟨22,false,[]⟩,⟨23,false,[]⟩] rfl (by kernel_rfl) ?_
  rw [hwd]
  clear hwd
  repeat (first | (refine Reg.look rfl rfl rfl (by go_simp;rfl) rfl ?_;go_simp) | (refine Reg.skip rfl rfl rfl ?_;go_simp))
  refine Reg.act rfl ?_
  obtain ⟨wa,hw2⟩ : ∃ x,wd.alloc (.cells #[.int .i64 f,.int .i64 s] 3) = x := ⟨_,rfl⟩
  obtain ⟨g1,hg⟩ : ∃ x,wd.heap.size = x := ⟨_,rfl⟩
  have hkb : Kp No wd wa := by rw [← hw2];exact (Kp.refl _ _).alloc _
  have HB1 : Hid (Blk wa g1 3 [.int .i64 f,.int .i64 s]) := Lib.hid (by rw [← hw2,← hg];exact Blk.new wd _ _)
  have HKa := Lib.hid (HKD.out.trans' hkb)
  clear k0 k1 k2 k3 hkb
  go_wp2_with fail
  clear hw2 hg
  have k0 : wa.cell? ⟨l,0,none⟩ = some (.slice A n c) := (HKa.out.cell HLT.out (fun x => x)).trans HQ0.out
  have k1 : wa.cell? ⟨l,1,none⟩ = some (.slice A' m c') := (HKa.out.cell HLT.out (fun x => x)).trans HQ1.out
  have k2 : wa.cell? ⟨l,2,none⟩ = some (.int .i64 f) := (HKa.out.cell HLT.out (fun x => x)).trans HQ2.out
  have k3 : wa.cell? ⟨l,3,none⟩ = some (.int .i64 s) := (HKa.out.cell HLT.out (fun x => x)).trans HQ3.out
  (refine ⟨?anew,?_⟩;case anew => ((repeat (refine Reg.anew_cons rfl rfl (fun _ => by go_simp) ?_));exact Reg.anew_nil))
  repeat (first | (refine Reg.look rfl rfl rfl (by go_simp;rfl) rfl ?_;go_simp) | (refine Reg.skip rfl rfl rfl ?_;go_simp))
  refine Reg.act rfl ?_
  clear k0 k1 k2 k3
  go_wp2_with fail
  refine (HN1.out wa g1 HB1.out).mono ?_
  rintro e wb ⟨rfl,hkb⟩
  have HKb := Lib.hid (HKa.out.trans' hkb)
  clear hkb
  have k0 : wb.cell? ⟨l,0,none⟩ = some (.slice A n c) := (HKb.out.cell HLT.out (fun x => x)).trans HQ0.out
  have k1 : wb.cell? ⟨l,1,none⟩ = some (.slice A' m c') := (HKb.out.cell HLT.out (fun x => x)).trans HQ1.out
  have k2 : wb.cell? ⟨l,2,none⟩ = some (.int .i64 f) := (HKb.out.cell HLT.out (fun x => x)).trans HQ2.out
  have k3 : wb.cell? ⟨l,3,none⟩ = some (.int .i64 s) := (HKb.out.cell HLT.out (fun x => x)).trans HQ3.out
  go_wp2_with fail
  (refine ⟨?anew,?_⟩;case anew => ((repeat (refine Reg.anew_cons rfl rfl (fun _ => by go_simp) ?_));exact Reg.anew_nil))
  repeat (first | (refine Reg.look rfl rfl rfl (by go_simp;rfl) rfl ?_;go_simp) | (refine Reg.skip rfl rfl rfl ?_;go_simp))
  refine Reg.act rfl ?_
  clear k0 k1 k2 k3
  go_wp2_with fail
  refine (HPO.out wb HKb.out).mono ?_
  rintro e wc ⟨rfl,hkb⟩
  have HKc := Lib.hid (HKb.out.trans' hkb)
  clear hkb
  have k0 : wc.cell? ⟨l,0,none⟩ = some (.slice A n c) := (HKc.out.cell HLT.out (fun x => x)).trans HQ0.out
  have k1 : wc.cell? ⟨l,1,none⟩ = some (.slice A' m c') := (HKc.out.cell HLT.out (fun x => x)).trans HQ1.out
  have k2 : wc.cell? ⟨l,2,none⟩ = some (.int .i64 f) := (HKc.out.cell HLT.out (fun x => x)).trans HQ2.out
  have k3 : wc.cell? ⟨l,3,none⟩ = some (.int .i64 s) := (HKc.out.cell HLT.out (fun x => x)).trans HQ3.out
  go_wp2_with fail
  (refine ⟨?anew,?_⟩;case anew => ((repeat (refine Reg.anew_cons rfl rfl (fun _ => by go_simp) ?_));exact Reg.anew_nil))
  repeat (first | (refine Reg.look rfl rfl rfl (by go_simp;rfl) rfl ?_;go_simp) | (refine Reg.skip rfl rfl rfl ?_;go_simp))
  refine Reg.act rfl ?_
  clear k0 k1 k2 k3
  go_wp2_with fail
  refine (HN2.out wc).mono ?_
  rintro e we ⟨rfl,hkb⟩
  have HKe := Lib.hid (HKc.out.trans' hkb)
  clear hkb
  have k0 : we.cell? ⟨l,0,none⟩ = some (.slice A n c) := (HKe.out.cell HLT.out (fun x => x)).trans HQ0.out
  have k1 : we.cell? ⟨l,1,none⟩ = some (.slice A' m c') := (HKe.out.cell HLT.out (fun x => x)).trans HQ1.out
  have k2 : we.cell? ⟨l,2,none⟩ = some (.int .i64 f) := (HKe.out.cell HLT.out (fun x => x)).trans HQ2.out
  have k3 : we.cell? ⟨l,3,none⟩ = some (.int .i64 s) := (HKe.out.cell HLT.out (fun x => x)).trans HQ3.out
  go_wp2_with fail
  (refine ⟨?anew,?_⟩;case anew => ((repeat (refine Reg.anew_cons rfl rfl (fun _ => by go_simp) ?_));exact Reg.anew_nil))
  repeat (first | (refine Reg.look rfl rfl rfl (by go_simp;rfl) rfl ?_;go_simp) | (refine Reg.skip rfl rfl rfl ?_;go_simp))
  clear k0 k1 k2 k3
  (refine Reg.done ?_;simp only [Exit.then])
  go_wp2_with fail
  go_meet
  exact ⟨by rw [← HT.out],HKe⟩
 case rest =>
  obtain ⟨rfl,HK0⟩ := hcut
  obtain ⟨T0,hT0⟩ : ∃ T0,bs X = T0 := ⟨_,rfl⟩
  have HT0 := Lib.hid hT0
  have HTS0 : Hid (T0.size = X.length) := Lib.hid (by rw [← hT0,bs_size])
  rw [hT0]
  clear hT0 hg1 hg2 hg3 hz1 hz2 hz3 HN1 HN2 HPO HT HQ0 HQ2 HQ3
  go_wp2_with fail
  go_loopw [3,4] (fun sv iv wr => ∃ (k : Nat) (t : ByteArray),k ≤ m ∧ iv = .int .i64 (k : Int) ∧ sv = .string t ∧ (t.size : Int) ≤ 200000000 ∧ Hid (t = bs (X ++ (L.lost.take k).flatMap goneB)) ∧ Hid (Kp No w wr)) (fun _ iv _ => m - (intOf iv).toNat)
  case atStart => exact ⟨0,T0,Nat.zero_le _,rfl,rfl,by have h1 := HTS0.out;have h2 := HXL.out;omega,Lib.hid (by rw [List.take_zero,List.flatMap_nil,List.append_nil];exact HT0.out.symm),HK0⟩
  case round =>
   clear HK0
   obtain ⟨k,t,hk,rfl,rfl,hts,HTE,HKR⟩ := hrel
   have k1 : wr.cell? ⟨l,1,none⟩ = some (.slice A' m c') := (HKR.out.cell HLT.out (fun x => x)).trans HQ1.out
   by_cases hlt : k < m
   case neg =>
    obtain rfl : k = m := by omega
    have HE : Hid (t = bs (packL L)) := Lib.hid (by rw [HTE.out,HPL.out,List.take_of_length_le (by have := HM.out;omega)])
    clear hk hlt
    go_wp2_with fail
    go_ret
    exact ⟨by rw [HE.out];rfl,HKR.out⟩
   case pos =>
    have hki : (k : Int) < (m : Int) := by omega
    have hk0 : (0 : Int) ≤ (k : Int) := by omega
    obtain ⟨o,ho⟩ : ∃ o,L.lost[k]? = some o := ⟨_,List.getElem?_eq_getElem (by have := HM.out;omega)⟩
    have hlr := HLR.out
    obtain ⟨ad,A2,c2,hA,_,hcell,hnum,_⟩ := Rp.at_opl (Rp.opl.slice.keptNo hlr HKR.out) ho
    subst hA
    obtain ⟨z0,z1,z2,z3,z4,z5,z6,z7,z8⟩ := opl_cells hcell
    have hos := HLO.out o (List.mem_of_getElem? ho)
    have hbl := goneB_le o hnum hos
    have hnx := flat_snoc goneB ho
    have hM := flat_le goneB 100 (L.lost.take (k + 1)) (fun o ho => by
     have ho := List.mem_of_mem_take ho
     obtain ⟨i,hi⟩ := List.getElem?_of_mem ho
     obtain ⟨_,_,_,_,_,_,hn,_⟩ := Rp.at_opl hlr hi
     exact goneB_le o hn (HLO.out o ho))
    rw [List.length_take,Nat.min_eq_left (by have := HM.out;omega)] at hM
    obtain ⟨on,oe,ok,os,oc,oq,onm,osz,ohs⟩ := o
    simp only at *
    obtain ⟨Y,hY⟩ : ∃ Y,numsB [on,oe,ok,os,oc,oq,osz] = Y := ⟨_,rfl⟩
    obtain ⟨Z,hZ⟩ : ∃ Z,textsB [onm] = Z := ⟨_,rfl⟩
    have hgb : goneB ⟨on,oe,ok,os,oc,oq,onm,osz,ohs⟩ = Y ++ Z := by unfold goneB;simp only [hY,hZ]
    rw [hgb] at hbl hnx
    rw [List.length_append] at hbl
    have hnu : ∀ (W : World) g,Blk W g 3 [.int .i64 on,.int .i64 oe,.int .i64 ok,.int .i64 os,.int .i64 oc,.int .i64 oq,.int .i64 osz] → Calls Tryz.prog 114 #[.slice (some ⟨g,0,none⟩) 7 7] W fun x w' => x = .returned (.string (bs Y)) ∧ Kp No W w' := fun W g hb => by
     have h := r_nums [on,oe,ok,os,oc,oq,osz] (some ⟨g,0,none⟩) 7 W (· = g) (Rp.of_block hb rfl rfl (Nat.le_refl _) (by simp [maxLen]) (by
      obtain ⟨n1,n2,n3,n4,n5,n6,_,n8⟩ := hnum
      intro a ha
      simp only [List.mem_cons,List.not_mem_nil,or_false] at ha
      rcases ha with rfl | rfl | rfl | rfl | rfl | rfl | rfl <;> assumption)) (by simp)
     rw [hY] at h
     exact h
    have htx : ∀ (W : World) g,Blk W g 9 [.string onm] → Calls Tryz.prog 117 #[.slice (some ⟨g,0,none⟩) 1 1] W fun x w' => x = .returned (.string (bs Z)) ∧ Kp No W w' := fun W g hb => by
     have h := r_texts [onm] (some ⟨g,0,none⟩) 1 W (· = g) (Rp.of_block1 rfl Value.string hb rfl rfl (Nat.le_refl _) (by simp [maxLen]) (fun a ha => ⟨rfl,by simp only [List.mem_cons,List.not_mem_nil,or_false] at ha;subst ha;unfold maxLen;omega⟩)) (fun a ha => by simp only [List.mem_cons,List.not_mem_nil,or_false] at ha;subst ha;omega) (by rw [hZ];omega)
     rw [hZ] at h
     exact h
    obtain ⟨YB,hYB⟩ : ∃ YB,bs Y = YB := ⟨_,rfl⟩
    obtain ⟨ZB,hZB⟩ : ∃ ZB,bs Z = ZB := ⟨_,rfl⟩
    rw [hYB] at hnu
    rw [hZB] at htx
    have hys : YB.size = Y.length := by rw [← hYB,bs_size]
    have hzs : ZB.size = Z.length := by rw [← hZB,bs_size]
    have hq1 : ¬ 9223372036854775807 < YB.size + ZB.size := by omega
    have hq2 : ¬ 9223372036854775807 < t.size + (YB.size + ZB.size) := by omega
    have hq3 : ¬ 9223372036854775807 < t.size + (YB ++ ZB).size := by rw [ByteArray.size_append];omega
    have hte : t ++ (YB ++ ZB) = bs (X ++ (L.lost.take (k + 1)).flatMap goneB) := by
     rw [HTE.out,← hYB,← hZB,bs_append,bs_append,hnx,List.append_assoc]
    have htsz : ((t ++ (YB ++ ZB)).size : Int) ≤ 200000000 := by
     rw [hte,bs_size,List.length_append]
     have := HXL.out
     omega
    have HTN : Hid (((t ++ (YB ++ ZB)).size : Int) ≤ 200000000 ∧ t ++ (YB ++ ZB) = bs (X ++ (L.lost.take (k + 1)).flatMap goneB)) := Lib.hid ⟨htsz,hte⟩
    have HNU := Lib.hid hnu
    have HTX := Lib.hid htx
    clear ho hcell hM hnum hlr hos hbl hnx hY hZ hgb hnu htx hYB hZB hys hzs hte htsz
    obtain ⟨wa,hwa⟩ : ∃ wa,wr.alloc (.cells #[.int .i64 on,.int .i64 oe,.int .i64 ok,.int .i64 os,.int .i64 oc,.int .i64 oq,.string onm,.int .i64 osz,.slice A2 ohs.length c2] 36) = wa := ⟨_,rfl⟩
    obtain ⟨x,hx⟩ : ∃ x,wr.heap.size = x := ⟨_,rfl⟩
    have hka : Kp No wr wa := by rw [← hwa];exact (Kp.refl _ _).alloc _
    have HBX : Hid (Blk wa x 36 [.int .i64 on,.int .i64 oe,.int .i64 ok,.int .i64 os,.int .i64 oc,.int .i64 oq,.string onm,.int .i64 osz,.slice A2 ohs.length c2]) := Lib.hid (by rw [← hwa,← hx];exact Blk.new wr _ _)
    have HKA := Lib.hid hka
    clear hka
    go_upto_region 6 with fail
    clear z0 z1 z2 z3 z4 z5 z6 z7 z8 k1
    try rw [hwa]
    try rw [hx]
    clear hwa hx
    obtain ⟨wd,hwd⟩ : ∃ v,wa.drew = v := ⟨_,rfl⟩
    have HKD : Hid (Kp No wa wd) := Lib.hid (by rw [← hwd];exact (Kp.refl _ _).drew)
    have hyb := HBX.out.kept HKD.out (fun z => z)
    have y0 : wd.cell? ⟨x,0,none⟩ = some _ := Blk.cell hyb rfl
    have y1 : wd.cell? ⟨x,1,none⟩ = some _ := Blk.cell hyb rfl
    have y2 : wd.cell? ⟨x,2,none⟩ = some _ := Blk.cell hyb rfl
    have y3 : wd.cell? ⟨x,3,none⟩ = some _ := Blk.cell hyb rfl
    have y4 : wd.cell? ⟨x,4,none⟩ = some _ := Blk.cell hyb rfl
    have y5 : wd.cell? ⟨x,5,none⟩ = some _ := Blk.cell hyb rfl
    have y6 : wd.cell? ⟨x,6,none⟩ = some _ := Blk.cell hyb rfl
    have y7 : wd.cell? ⟨x,7,none⟩ = some _ := Blk.cell hyb rfl
    clear hyb
    refine Reg.wp_region_tree (.look 0 (.look 1 (.look 2 (.look 3 (.look 4 (.look 5 (.look 6 (.look 7 (.look 8 (.look 9 (.look 10 (.look 11 (.look 12 (.look 13 (.look 14 (.look 15 (.look 18 (.look 19 (.two 16 [18,19] (.two 17 [18,19] (.one 20 [] (.one 21 [] (.look 22 (.look 23 (.look 24 (.done)))))) 20 [] (.one 17 [] (.one 21 [] (.look 22 (.look 23 (.look 24 (.done))))))) 20 [1,2,3,4,5,6,7,8,9,10,11,12,13,14,15] (.one 16 [] (.one 17 [] (.one 21 [] (.look 22 (.look 23 (.look 24 (.done)))))))))))))))))))))))))) [16,17,20,21] rfl (by kernel_rfl) ?_
    rw [hwd]
    clear hwd
    repeat (first | (refine Reg.lookT rfl rfl rfl (by go_simp;rfl) rfl ?_;go_simp))
    refine Reg.twoT rfl rfl ?_ ?_
    · skip
      obtain ⟨wb,hw2⟩ : ∃ v,wd.alloc (.cells #[.int .i64 on,.int .i64 oe,.int .i64 ok,.int .i64 os,.int .i64 oc,.int .i64 oq,.int .i64 osz] 3) = v := ⟨_,rfl⟩
      obtain ⟨ga,hg2⟩ : ∃ v,wd.heap.size = v := ⟨_,rfl⟩
      have hkb : Kp No wd wb := by rw [← hw2];exact (Kp.refl _ _).alloc _
      have HBA : Hid (Blk wb ga 3 [.int .i64 on,.int .i64 oe,.int .i64 ok,.int .i64 os,.int .i64 oc,.int .i64 oq,.int .i64 osz]) := Lib.hid (by rw [← hw2,← hg2];exact Blk.new wd _ _)
      have HKb := Lib.hid (HKD.out.trans' hkb)
      clear y0 y1 y2 y3 y4 y5 y6 y7
      go_wp2_with fail
      clear hw2 hg2
      have hyb := HBX.out.kept HKb.out (fun z => z)
      have y0 : wb.cell? ⟨x,0,none⟩ = some _ := Blk.cell hyb rfl
      have y1 : wb.cell? ⟨x,1,none⟩ = some _ := Blk.cell hyb rfl
      have y2 : wb.cell? ⟨x,2,none⟩ = some _ := Blk.cell hyb rfl
      have y3 : wb.cell? ⟨x,3,none⟩ = some _ := Blk.cell hyb rfl
      have y4 : wb.cell? ⟨x,4,none⟩ = some _ := Blk.cell hyb rfl
      have y5 : wb.cell? ⟨x,5,none⟩ = some _ := Blk.cell hyb rfl
      have y6 : wb.cell? ⟨x,6,none⟩ = some _ := Blk.cell hyb rfl
      have y7 : wb.cell? ⟨x,7,none⟩ = some _ := Blk.cell hyb rfl
      clear hyb
      (refine ⟨?anew,?_⟩;case anew => ((repeat (refine Reg.anew_cons rfl rfl (fun _ => by go_simp) ?_));exact Reg.anew_nil))
      repeat (first | (refine Reg.lookT rfl rfl rfl (by go_simp;rfl) rfl ?_;go_simp))
      refine Reg.twoT rfl rfl ?_ ?_
      · skip
        clear y0 y1 y2 y3 y4 y5 y6 y7
        go_wp2_with fail
        refine (HNU.out wb ga HBA.out).mono ?_
        rintro e wc ⟨rfl,hkb⟩
        have HKc := Lib.hid (HKb.out.trans' hkb)
        have hyb := HBX.out.kept HKc.out (fun z => z)
        have y0 : wc.cell? ⟨x,0,none⟩ = some _ := Blk.cell hyb rfl
        have y1 : wc.cell? ⟨x,1,none⟩ = some _ := Blk.cell hyb rfl
        have y2 : wc.cell? ⟨x,2,none⟩ = some _ := Blk.cell hyb rfl
        have y3 : wc.cell? ⟨x,3,none⟩ = some _ := Blk.cell hyb rfl
        have y4 : wc.cell? ⟨x,4,none⟩ = some _ := Blk.cell hyb rfl
        have y5 : wc.cell? ⟨x,5,none⟩ = some _ := Blk.cell hyb rfl
        have y6 : wc.cell? ⟨x,6,none⟩ = some _ := Blk.cell hyb rfl
        have y7 : wc.cell? ⟨x,7,none⟩ = some _ := Blk.cell hyb rfl
        clear hyb
        go_wp2_with fail
        (refine ⟨?anew,?_⟩;case anew => ((repeat (refine Reg.anew_cons rfl rfl (fun _ => by go_simp) ?_));exact Reg.anew_nil))
        repeat (first | (refine Reg.lookT rfl rfl rfl (by go_simp;rfl) rfl ?_;go_simp))
        refine Reg.oneT rfl ?_
        obtain ⟨we,hw2⟩ : ∃ v,wc.alloc (.cells #[.string onm] 9) = v := ⟨_,rfl⟩
        obtain ⟨gb,hg2⟩ : ∃ v,wc.heap.size = v := ⟨_,rfl⟩
        have hkb : Kp No wc we := by rw [← hw2];exact (Kp.refl _ _).alloc _
        have HBB : Hid (Blk we gb 9 [.string onm]) := Lib.hid (by rw [← hw2,← hg2];exact Blk.new wc _ _)
        have HKe := Lib.hid (HKc.out.trans' hkb)
        clear y0 y1 y2 y3 y4 y5 y6 y7
        go_wp2_with fail
        clear hw2 hg2
        have hyb := HBX.out.kept HKe.out (fun z => z)
        have y0 : we.cell? ⟨x,0,none⟩ = some _ := Blk.cell hyb rfl
        have y1 : we.cell? ⟨x,1,none⟩ = some _ := Blk.cell hyb rfl
        have y2 : we.cell? ⟨x,2,none⟩ = some _ := Blk.cell hyb rfl
        have y3 : we.cell? ⟨x,3,none⟩ = some _ := Blk.cell hyb rfl
        have y4 : we.cell? ⟨x,4,none⟩ = some _ := Blk.cell hyb rfl
        have y5 : we.cell? ⟨x,5,none⟩ = some _ := Blk.cell hyb rfl
        have y6 : we.cell? ⟨x,6,none⟩ = some _ := Blk.cell hyb rfl
        have y7 : we.cell? ⟨x,7,none⟩ = some _ := Blk.cell hyb rfl
        clear hyb
        (refine ⟨?anew,?_⟩;case anew => ((repeat (refine Reg.anew_cons rfl rfl (fun _ => by go_simp) ?_));exact Reg.anew_nil))
        repeat (first | (refine Reg.lookT rfl rfl rfl (by go_simp;rfl) rfl ?_;go_simp))
        refine Reg.oneT rfl ?_
        clear y0 y1 y2 y3 y4 y5 y6 y7
        go_wp2_with fail
        refine (HTX.out we gb HBB.out).mono ?_
        rintro e wf ⟨rfl,hkb⟩
        have HKf := Lib.hid (HKe.out.trans' hkb)
        have hyb := HBX.out.kept HKf.out (fun z => z)
        have y0 : wf.cell? ⟨x,0,none⟩ = some _ := Blk.cell hyb rfl
        have y1 : wf.cell? ⟨x,1,none⟩ = some _ := Blk.cell hyb rfl
        have y2 : wf.cell? ⟨x,2,none⟩ = some _ := Blk.cell hyb rfl
        have y3 : wf.cell? ⟨x,3,none⟩ = some _ := Blk.cell hyb rfl
        have y4 : wf.cell? ⟨x,4,none⟩ = some _ := Blk.cell hyb rfl
        have y5 : wf.cell? ⟨x,5,none⟩ = some _ := Blk.cell hyb rfl
        have y6 : wf.cell? ⟨x,6,none⟩ = some _ := Blk.cell hyb rfl
        have y7 : wf.cell? ⟨x,7,none⟩ = some _ := Blk.cell hyb rfl
        clear hyb
        go_wp2_with fail
        (refine ⟨?anew,?_⟩;case anew => ((repeat (refine Reg.anew_cons rfl rfl (fun _ => by go_simp) ?_));exact Reg.anew_nil))
        repeat (first | (refine Reg.lookT rfl rfl rfl (by go_simp;rfl) rfl ?_;go_simp))
        clear y0 y1 y2 y3 y4 y5 y6 y7
        refine Reg.doneT ?_
        simp only [Exit.then]
        go_wp2_with fail
        go_roundw
        case rel => exact ⟨k + 1,_,by omega,by go_num,rfl,HTN.out.1,Lib.hid HTN.out.2,Lib.hid ((HKR.out.trans' HKA.out).trans' HKf.out)⟩
        case measure => simp [intOf];omega
      · skip
        obtain ⟨wc,hw2⟩ : ∃ v,wb.alloc (.cells #[.string onm] 9) = v := ⟨_,rfl⟩
        obtain ⟨gb,hg2⟩ : ∃ v,wb.heap.size = v := ⟨_,rfl⟩
        have hkb : Kp No wb wc := by rw [← hw2];exact (Kp.refl _ _).alloc _
        have HBB : Hid (Blk wc gb 9 [.string onm]) := Lib.hid (by rw [← hw2,← hg2];exact Blk.new wb _ _)
        have HKc := Lib.hid (HKb.out.trans' hkb)
        clear y0 y1 y2 y3 y4 y5 y6 y7
        go_wp2_with fail
        clear hw2 hg2
        have hyb := HBX.out.kept HKc.out (fun z => z)
        have y0 : wc.cell? ⟨x,0,none⟩ = some _ := Blk.cell hyb rfl
        have y1 : wc.cell? ⟨x,1,none⟩ = some _ := Blk.cell hyb rfl
        have y2 : wc.cell? ⟨x,2,none⟩ = some _ := Blk.cell hyb rfl
        have y3 : wc.cell? ⟨x,3,none⟩ = some _ := Blk.cell hyb rfl
        have y4 : wc.cell? ⟨x,4,none⟩ = some _ := Blk.cell hyb rfl
        have y5 : wc.cell? ⟨x,5,none⟩ = some _ := Blk.cell hyb rfl
        have y6 : wc.cell? ⟨x,6,none⟩ = some _ := Blk.cell hyb rfl
        have y7 : wc.cell? ⟨x,7,none⟩ = some _ := Blk.cell hyb rfl
        clear hyb
        have HBA := Lib.hid (HBA.out.kept hkb (fun x => x))
        (refine ⟨?anew,?_⟩;case anew => ((repeat (refine Reg.anew_cons rfl rfl (fun _ => by go_simp) ?_));exact Reg.anew_nil))
        repeat (first | (refine Reg.lookT rfl rfl rfl (by go_simp;rfl) rfl ?_;go_simp))
        refine Reg.oneT rfl ?_
        clear y0 y1 y2 y3 y4 y5 y6 y7
        go_wp2_with fail
        refine (HNU.out wc ga HBA.out).mono ?_
        rintro e we ⟨rfl,hkb⟩
        have HKe := Lib.hid (HKc.out.trans' hkb)
        have hyb := HBX.out.kept HKe.out (fun z => z)
        have y0 : we.cell? ⟨x,0,none⟩ = some _ := Blk.cell hyb rfl
        have y1 : we.cell? ⟨x,1,none⟩ = some _ := Blk.cell hyb rfl
        have y2 : we.cell? ⟨x,2,none⟩ = some _ := Blk.cell hyb rfl
        have y3 : we.cell? ⟨x,3,none⟩ = some _ := Blk.cell hyb rfl
        have y4 : we.cell? ⟨x,4,none⟩ = some _ := Blk.cell hyb rfl
        have y5 : we.cell? ⟨x,5,none⟩ = some _ := Blk.cell hyb rfl
        have y6 : we.cell? ⟨x,6,none⟩ = some _ := Blk.cell hyb rfl
        have y7 : we.cell? ⟨x,7,none⟩ = some _ := Blk.cell hyb rfl
        clear hyb
        go_wp2_with fail
        have HBB := Lib.hid (HBB.out.kept hkb (fun x => x))
        (refine ⟨?anew,?_⟩;case anew => ((repeat (refine Reg.anew_cons rfl rfl (fun _ => by go_simp) ?_));exact Reg.anew_nil))
        repeat (first | (refine Reg.lookT rfl rfl rfl (by go_simp;rfl) rfl ?_;go_simp))
        refine Reg.oneT rfl ?_
        clear y0 y1 y2 y3 y4 y5 y6 y7
        go_wp2_with fail
        refine (HTX.out we gb HBB.out).mono ?_
        rintro e wf ⟨rfl,hkb⟩
        have HKf := Lib.hid (HKe.out.trans' hkb)
        have hyb := HBX.out.kept HKf.out (fun z => z)
        have y0 : wf.cell? ⟨x,0,none⟩ = some _ := Blk.cell hyb rfl
        have y1 : wf.cell? ⟨x,1,none⟩ = some _ := Blk.cell hyb rfl
        have y2 : wf.cell? ⟨x,2,none⟩ = some _ := Blk.cell hyb rfl
        have y3 : wf.cell? ⟨x,3,none⟩ = some _ := Blk.cell hyb rfl
        have y4 : wf.cell? ⟨x,4,none⟩ = some _ := Blk.cell hyb rfl
        have y5 : wf.cell? ⟨x,5,none⟩ = some _ := Blk.cell hyb rfl
        have y6 : wf.cell? ⟨x,6,none⟩ = some _ := Blk.cell hyb rfl
        have y7 : wf.cell? ⟨x,7,none⟩ = some _ := Blk.cell hyb rfl
        clear hyb
        go_wp2_with fail
        (refine ⟨?anew,?_⟩;case anew => ((repeat (refine Reg.anew_cons rfl rfl (fun _ => by go_simp) ?_));exact Reg.anew_nil))
        repeat (first | (refine Reg.lookT rfl rfl rfl (by go_simp;rfl) rfl ?_;go_simp))
        clear y0 y1 y2 y3 y4 y5 y6 y7
        refine Reg.doneT ?_
        simp only [Exit.then]
        go_wp2_with fail
        go_roundw
        case rel => exact ⟨k + 1,_,by omega,by go_num,rfl,HTN.out.1,Lib.hid HTN.out.2,Lib.hid ((HKR.out.trans' HKA.out).trans' HKf.out)⟩
        case measure => simp [intOf];omega
    · skip
      obtain ⟨wb,hw2⟩ : ∃ v,wd.alloc (.cells #[.string onm] 9) = v := ⟨_,rfl⟩
      obtain ⟨gb,hg2⟩ : ∃ v,wd.heap.size = v := ⟨_,rfl⟩
      have hkb : Kp No wd wb := by rw [← hw2];exact (Kp.refl _ _).alloc _
      have HBB : Hid (Blk wb gb 9 [.string onm]) := Lib.hid (by rw [← hw2,← hg2];exact Blk.new wd _ _)
      have HKb := Lib.hid (HKD.out.trans' hkb)
      clear y0 y1 y2 y3 y4 y5 y6 y7
      go_wp2_with fail
      clear hw2 hg2
      have hyb := HBX.out.kept HKb.out (fun z => z)
      have y0 : wb.cell? ⟨x,0,none⟩ = some _ := Blk.cell hyb rfl
      have y1 : wb.cell? ⟨x,1,none⟩ = some _ := Blk.cell hyb rfl
      have y2 : wb.cell? ⟨x,2,none⟩ = some _ := Blk.cell hyb rfl
      have y3 : wb.cell? ⟨x,3,none⟩ = some _ := Blk.cell hyb rfl
      have y4 : wb.cell? ⟨x,4,none⟩ = some _ := Blk.cell hyb rfl
      have y5 : wb.cell? ⟨x,5,none⟩ = some _ := Blk.cell hyb rfl
      have y6 : wb.cell? ⟨x,6,none⟩ = some _ := Blk.cell hyb rfl
      have y7 : wb.cell? ⟨x,7,none⟩ = some _ := Blk.cell hyb rfl
      clear hyb
      (refine ⟨?anew,?_⟩;case anew => ((repeat (refine Reg.anew_cons rfl rfl (fun _ => by go_simp) ?_));exact Reg.anew_nil))
      repeat (first | (refine Reg.lookT rfl rfl rfl (by go_simp;rfl) rfl ?_;go_simp))
      refine Reg.oneT rfl ?_
      obtain ⟨wc,hw2⟩ : ∃ v,wb.alloc (.cells #[.int .i64 on,.int .i64 oe,.int .i64 ok,.int .i64 os,.int .i64 oc,.int .i64 oq,.int .i64 osz] 3) = v := ⟨_,rfl⟩
      obtain ⟨ga,hg2⟩ : ∃ v,wb.heap.size = v := ⟨_,rfl⟩
      have hkb : Kp No wb wc := by rw [← hw2];exact (Kp.refl _ _).alloc _
      have HBA : Hid (Blk wc ga 3 [.int .i64 on,.int .i64 oe,.int .i64 ok,.int .i64 os,.int .i64 oc,.int .i64 oq,.int .i64 osz]) := Lib.hid (by rw [← hw2,← hg2];exact Blk.new wb _ _)
      have HKc := Lib.hid (HKb.out.trans' hkb)
      clear y0 y1 y2 y3 y4 y5 y6 y7
      go_wp2_with fail
      clear hw2 hg2
      have hyb := HBX.out.kept HKc.out (fun z => z)
      have y0 : wc.cell? ⟨x,0,none⟩ = some _ := Blk.cell hyb rfl
      have y1 : wc.cell? ⟨x,1,none⟩ = some _ := Blk.cell hyb rfl
      have y2 : wc.cell? ⟨x,2,none⟩ = some _ := Blk.cell hyb rfl
      have y3 : wc.cell? ⟨x,3,none⟩ = some _ := Blk.cell hyb rfl
      have y4 : wc.cell? ⟨x,4,none⟩ = some _ := Blk.cell hyb rfl
      have y5 : wc.cell? ⟨x,5,none⟩ = some _ := Blk.cell hyb rfl
      have y6 : wc.cell? ⟨x,6,none⟩ = some _ := Blk.cell hyb rfl
      have y7 : wc.cell? ⟨x,7,none⟩ = some _ := Blk.cell hyb rfl
      clear hyb
      have HBB := Lib.hid (HBB.out.kept hkb (fun x => x))
      (refine ⟨?anew,?_⟩;case anew => ((repeat (refine Reg.anew_cons rfl rfl (fun _ => by go_simp) ?_));exact Reg.anew_nil))
      repeat (first | (refine Reg.lookT rfl rfl rfl (by go_simp;rfl) rfl ?_;go_simp))
      refine Reg.oneT rfl ?_
      clear y0 y1 y2 y3 y4 y5 y6 y7
      go_wp2_with fail
      refine (HNU.out wc ga HBA.out).mono ?_
      rintro e we ⟨rfl,hkb⟩
      have HKe := Lib.hid (HKc.out.trans' hkb)
      have hyb := HBX.out.kept HKe.out (fun z => z)
      have y0 : we.cell? ⟨x,0,none⟩ = some _ := Blk.cell hyb rfl
      have y1 : we.cell? ⟨x,1,none⟩ = some _ := Blk.cell hyb rfl
      have y2 : we.cell? ⟨x,2,none⟩ = some _ := Blk.cell hyb rfl
      have y3 : we.cell? ⟨x,3,none⟩ = some _ := Blk.cell hyb rfl
      have y4 : we.cell? ⟨x,4,none⟩ = some _ := Blk.cell hyb rfl
      have y5 : we.cell? ⟨x,5,none⟩ = some _ := Blk.cell hyb rfl
      have y6 : we.cell? ⟨x,6,none⟩ = some _ := Blk.cell hyb rfl
      have y7 : we.cell? ⟨x,7,none⟩ = some _ := Blk.cell hyb rfl
      clear hyb
      go_wp2_with fail
      have HBB := Lib.hid (HBB.out.kept hkb (fun x => x))
      (refine ⟨?anew,?_⟩;case anew => ((repeat (refine Reg.anew_cons rfl rfl (fun _ => by go_simp) ?_));exact Reg.anew_nil))
      repeat (first | (refine Reg.lookT rfl rfl rfl (by go_simp;rfl) rfl ?_;go_simp))
      refine Reg.oneT rfl ?_
      clear y0 y1 y2 y3 y4 y5 y6 y7
      go_wp2_with fail
      refine (HTX.out we gb HBB.out).mono ?_
      rintro e wf ⟨rfl,hkb⟩
      have HKf := Lib.hid (HKe.out.trans' hkb)
      have hyb := HBX.out.kept HKf.out (fun z => z)
      have y0 : wf.cell? ⟨x,0,none⟩ = some _ := Blk.cell hyb rfl
      have y1 : wf.cell? ⟨x,1,none⟩ = some _ := Blk.cell hyb rfl
      have y2 : wf.cell? ⟨x,2,none⟩ = some _ := Blk.cell hyb rfl
      have y3 : wf.cell? ⟨x,3,none⟩ = some _ := Blk.cell hyb rfl
      have y4 : wf.cell? ⟨x,4,none⟩ = some _ := Blk.cell hyb rfl
      have y5 : wf.cell? ⟨x,5,none⟩ = some _ := Blk.cell hyb rfl
      have y6 : wf.cell? ⟨x,6,none⟩ = some _ := Blk.cell hyb rfl
      have y7 : wf.cell? ⟨x,7,none⟩ = some _ := Blk.cell hyb rfl
      clear hyb
      go_wp2_with fail
      (refine ⟨?anew,?_⟩;case anew => ((repeat (refine Reg.anew_cons rfl rfl (fun _ => by go_simp) ?_));exact Reg.anew_nil))
      repeat (first | (refine Reg.lookT rfl rfl rfl (by go_simp;rfl) rfl ?_;go_simp))
      clear y0 y1 y2 y3 y4 y5 y6 y7
      refine Reg.doneT ?_
      simp only [Exit.then]
      go_wp2_with fail
      go_roundw
      case rel => exact ⟨k + 1,_,by omega,by go_num,rfl,HTN.out.1,Lib.hid HTN.out.2,Lib.hid ((HKR.out.trans' HKA.out).trans' HKf.out)⟩
      case measure => simp [intOf];omega
end Go.Proofs.YtjlbacfedfkilaaGreat
