/-
  (*Ledger).Pack: a ledger as bytes.
-/
import Derived.Test.YtjlbacfedfkilaaGreatGJ
import Derived.Test.YtjlbacfedfkilaaGreatLedQ
import Derived.Test.YtjlbacfedfkilaaGreatLedR
import Derived.Test.YtjlbacfedfkilaaGreatRegT
import Derived.Deep.DeepCutAuto
namespace Go.Proofs.YtjlbacfedfkilaaGreat
open Go.RowKit Go.ChangeShapes Go.WideShapes Go.ChangeAt
def goneB (o : OpL) : List UInt8 := numsB [o.n,o.epoch,o.kind,o.site,o.client,o.seq,o.size] ++ textsB [o.name]
def packH (L : LV) : List UInt8 := numsB [L.fence,L.settled] ++ opsB L.ops ++ numsB [(L.lost.length : Int)]
def packL (L : LV) : List UInt8 := packH L ++ L.lost.flatMap goneB
def LostOk (L : LV) : Prop := ∀ o ∈ L.lost,o.name.size ≤ 16
theorem okP.name {o : OpL} (h : okP o) : o.name.size ≤ 16 := by
 rcases h.2 with ⟨_,h,_⟩ | ⟨_,h,_⟩ | ⟨_,h⟩
 · exact h.2.2.2.2.2
 · exact h.2.2.2.2.2
 · have := h.2.2.1;omega
theorem LostOk.apply {B : Nat} {L : LV} (h : LostOk L) (hok : OkL B L) (c : CmdL) : LostOk (applyL c L).2 := by
 obtain ⟨k,m,_,hl,_⟩ := (apply_went c L).ex
 intro o ho
 rw [hl] at ho
 rcases List.mem_append.1 ho with ho | ho
 · exact h o ho
 · obtain ⟨x,hx,rfl⟩ := List.mem_map.1 ho
   exact (hok.okOf (List.mem_of_mem_drop hx)).name
theorem LostOk.new (q r : Int) : LostOk (newL q r) := fun o ho => absurd ho (by simp [newL])
theorem okSheet.size32 {n : Int} {l : List ByteArray} (h : okSheet n l = true) : ∀ s ∈ l,s.size = 32 := by
 unfold okSheet at h
 rw [Bool.and_eq_true,List.all_eq_true] at h
 intro s hs
 have := h.2 s hs
 simpa using this
theorem okP.small {o : OpL} (h : okP o) : SmallO o := by
 refine ⟨by have := h.name;omega,by have := h.hashes;omega,fun s hs => ?_⟩
 have h0 : o.hashes.length ≠ 0 := fun e => by rw [List.eq_nil_of_length_eq_zero e] at hs;exact absurd hs List.not_mem_nil
 rcases h.2 with ⟨_,_,h⟩ | ⟨_,_,h⟩ | ⟨_,h⟩
 · have := okSheet.size32 h s hs;omega
 · exact absurd h.2 h0
 · exact absurd h.2.2.2.2 h0
theorem goneB_le (o : OpL) (hn : o.nums) (hs : o.name.size ≤ 16) : (goneB o).length ≤ 100 := by
 obtain ⟨n1,n2,n3,n4,n5,n6,_,n8⟩ := hn
 have h2 := numsB_length [o.n,o.epoch,o.kind,o.site,o.client,o.seq,o.size] (by
  intro a ha
  simp only [List.mem_cons,List.not_mem_nil,or_false] at ha
  rcases ha with rfl | rfl | rfl | rfl | rfl | rfl | rfl <;> exact bounds_I64 (by assumption))
 have h3 := textB_length o.name (by omega)
 have e : textsB [o.name] = textB o.name := by simp [textsB]
 unfold goneB
 rw [e,List.length_append]
 simp only [List.length_cons,List.length_nil] at h2
 omega
set_option maxRecDepth 100000 in
set_option maxHeartbeats 8000000 in
theorem l_pack (B l : Nat) (L : LV) (F : Nat → Prop) (w : World) (h : LAt w l L F) (hok : OkL B L) (hB : B ≤ 800000) (hlo : LostOk L) : Calls Tryz.prog 61 #[.pointer (some ⟨l,0,none⟩)] w fun x w' => x = .returned (.string (bs (packL L))) ∧ Kp No w w' := by
 obtain ⟨b1,b2,ov,lv,S,hin,_⟩ := h
 obtain ⟨A,c,rfl⟩ := hin.oshape
 obtain ⟨A',c',rfl⟩ := hin.lshape
 have hlen := hok.len
 have hlost := hok.lost
 have q3 := Blk.cell hin.fat.blk (i := 5) rfl
 have q4 := Blk.cell hin.fat.blk (i := 6) rfl
 have k7 := Blk.cell hin.fat.blk (i := 7) rfl
 have k8 := Blk.cell hin.fat.blk (i := 8) rfl
 have hltl := Blk.lt hin.fat.blk
 have hpo : ∀ W,Kp No w W → Calls Tryz.prog 112 #[.slice A L.ops.length c] W fun x w' => x = .returned (.string (bs (opsB L.ops))) ∧ Kp No W w' := fun W hk =>
  c_packops L.ops A c W _ (Rp.opl.slice.keptNo hin.ops.readFrom hk) (by omega) (fun o ho => (hok.okOf ho).small)
 have hlr := Rp.opl.slice.more (Rp.opl.slice.bnd hin.lost.readFrom) (S' := fun k => k < w.heap.size) (fun k hk => hk.2)
 have hn1 : ∀ (W : World) g,Blk W g 3 [.int .i64 L.fence,.int .i64 L.settled] → Calls Tryz.prog 111 #[.slice (some ⟨g,0,none⟩) 2 2] W fun x w' => x = .returned (.string (bs (numsB [L.fence,L.settled]))) ∧ Kp No W w' := fun W g hb =>
  c_nums [L.fence,L.settled] (some ⟨g,0,none⟩) 2 W (· = g) (Rp.of_block hb rfl rfl (Nat.le_refl _) (by simp [maxLen]) (by
   have h1 := hok.fence0
   have h2 := hok.settled
   intro a ha
   simp only [List.mem_cons,List.not_mem_nil,or_false] at ha
   rcases ha with rfl | rfl <;> exact WalkArith.wf_i64 ⟨by omega,by omega⟩)) (by simp)
 have hn2 : ∀ (W : World) g,Blk W g 3 [.int .i64 (L.lost.length : Int)] → Calls Tryz.prog 111 #[.slice (some ⟨g,0,none⟩) 1 1] W fun x w' => x = .returned (.string (bs (numsB [(L.lost.length : Int)]))) ∧ Kp No W w' := fun W g hb =>
  c_nums [(L.lost.length : Int)] (some ⟨g,0,none⟩) 1 W (· = g) (Rp.of_block hb rfl rfl (Nat.le_refl _) (by simp [maxLen]) (by
   intro a ha
   simp only [List.mem_cons,List.not_mem_nil,or_false] at ha
   subst ha
   exact WalkArith.wf_i64 ⟨by omega,by omega⟩)) (by simp)
 have hz1 : (bs (numsB [L.fence,L.settled])).size ≤ 20 := by
  rw [bs_size]
  have h1 := hok.fence0
  have h2 := hok.settled
  have := numsB_length [L.fence,L.settled] (by intro a ha;simp only [List.mem_cons,List.not_mem_nil,or_false] at ha;rcases ha with rfl | rfl <;> omega)
  simpa using this
 have hz3 : (bs (numsB [(L.lost.length : Int)])).size ≤ 10 := by
  rw [bs_size]
  have := numsB_length [(L.lost.length : Int)] (by intro a ha;simp only [List.mem_cons,List.not_mem_nil,or_false] at ha;subst ha;omega)
  simpa using this
 have hz2 : (bs (opsB L.ops)).size ≤ 100000000 := by
  rw [bs_size]
  unfold opsB
  have h1 := numsB_length [(L.ops.length : Int)] (by intro a ha;simp only [List.mem_cons,List.not_mem_nil,or_false] at ha;subst ha;omega)
  have h2 := flat_le opB 1011200 L.ops (fun o ho => by
   obtain ⟨i,hi⟩ := List.getElem?_of_mem ho
   obtain ⟨_,_,_,_,_,_,hn,_⟩ := Rp.at_opl hin.ops.readFrom hi
   exact opB_le o hn (hok.okOf ho).small)
  rw [List.length_append]
  simp only [List.length_cons,List.length_nil] at h1
  omega
 have hcat : (bs (numsB [L.fence,L.settled]) ++ bs (opsB L.ops) ++ bs (numsB [(L.lost.length : Int)])).data.toList = packH L := by
  rw [bs_append,bs_append];rfl
 have hszs : (bs (numsB [L.fence,L.settled]) ++ bs (opsB L.ops) ++ bs (numsB [(L.lost.length : Int)])).size = (packH L).length := by
  rw [bs_append,bs_append,bs_size];rfl
 have HPL : Hid (packL L = packH L ++ L.lost.flatMap goneB) := Lib.hid rfl
 obtain ⟨X,hX⟩ : ∃ X,packH L = X := ⟨_,rfl⟩
 have hXp : 0 < X.length := by
  rw [← hX]
  unfold packH
  have := numsB_pos L.fence [L.settled]
  rw [List.length_append,List.length_append];omega
 obtain ⟨n,hn⟩ : ∃ n,L.ops.length = n := ⟨_,rfl⟩
 obtain ⟨m,hm⟩ : ∃ m,L.lost.length = m := ⟨_,rfl⟩
 obtain ⟨f,hf⟩ : ∃ f,L.fence = f := ⟨_,rfl⟩
 obtain ⟨s,hs⟩ : ∃ s,L.settled = s := ⟨_,rfl⟩
 simp only [hn,hm,hf,hs,hX] at q3 q4 k7 k8 hpo hn1 hn2 hz1 hz3 hcat hszs HPL hlost
 obtain ⟨t1,ht1⟩ : ∃ t,bs (numsB [f,s]) = t := ⟨_,rfl⟩
 obtain ⟨t2,ht2⟩ : ∃ t,bs (opsB L.ops) = t := ⟨_,rfl⟩
 obtain ⟨t3,ht3⟩ : ∃ t,bs (numsB [(m : Int)]) = t := ⟨_,rfl⟩
 simp only [ht1,ht2,ht3] at hpo hn1 hn2 hz1 hz2 hz3 hcat hszs
 have hXl : X.length ≤ 100000030 := by rw [← hszs,ByteArray.size_append,ByteArray.size_append];omega
 have HQ5 := Lib.hid q3
 have HQ6 := Lib.hid q4
 have HQ7 := Lib.hid k7
 have HQ8 := Lib.hid k8
 have HLT := Lib.hid hltl
 have HPO := Lib.hid hpo
 have HN1 := Lib.hid hn1
 have HN2 := Lib.hid hn2
 have HT := Lib.hid hcat
 have HTS := Lib.hid hszs
 have HXP := Lib.hid hXp
 have HXL := Lib.hid hXl
 have HM := Lib.hid hm
 have HLR : Hid (Rp.opl.slice.R w (fun k => k < w.heap.size) [.slice A' L.lost.length c'] L.lost) := Lib.hid hlr
 have HLO := Lib.hid hlo
 have hg1 : ¬ 9223372036854775807 < t1.size + t2.size := by omega
 have hg3 : ¬ 9223372036854775807 < t1.size + t2.size + t3.size := by omega
 have hg2 : ¬ 9223372036854775807 < (t1 ++ t2).size + t3.size := by rw [ByteArray.size_append];omega
 clear k7 k8 q3 q4
 clear hpo hn1 hn2 hcat hszs hXp hXl hX ht1 ht2 ht3 hn hm hf hs hlr hin hok hlo hlen
 go_enter Tryz.func61,Tryz.ntmps61
 go_upto_region 3 with fail
 go_cut [3] (fun v wx => Hid (OwnM wx w.heap.size 5 v X) ∧ Hid (Kp No w wx))
 case first =>
  have k5 := HQ5.out
  have k6 := HQ6.out
  have k7 := HQ7.out
  have k8 := HQ8.out
  refine Reg.wp_region_tree (.look 0 (.look 1 (.look 2 (.look 3 (.look 4 (.look 5 (.look 6 (.look 7 (.look 10 (.look 11 (.look 12 (.look 13 (.look 16 (.look 17 (.look 18 (.look 19 (.look 20 (.two 8 [11,12,13,17,18,19,20] (.two 9 [11,12,13,17,18,19,20] (.two 14 [17,18,19,20] (.look 15 (.one 21 [15] (.one 22 [15] (.look 23 (.one 24 [] (.look 25 (.done))))))) 21 [11,12,13] (.one 14 [] (.look 15 (.one 22 [15] (.look 23 (.one 24 [] (.look 25 (.done)))))))) 21 [11,12,13] (.one 9 [11,12,13] (.one 14 [] (.look 15 (.one 22 [15] (.look 23 (.one 24 [] (.look 25 (.done))))))))) 21 [1,2,3,5,6,7,11,12,13] (.one 8 [11,12,13] (.one 9 [11,12,13] (.one 14 [] (.look 15 (.one 22 [15] (.look 23 (.one 24 [] (.look 25 (.done))))))))))))))))))))))))))) [8,9,14,21,22,24] rfl (by kernel_rfl) ?_
  repeat (first | (refine Reg.lookT rfl rfl rfl (by go_simp;rfl) rfl ?_;go_simp))
  obtain ⟨wd,hwd⟩ : ∃ x,w.drew = x := ⟨_,rfl⟩
  have HKD : Hid (Kp No w wd) := Lib.hid (by rw [← hwd];exact (Kp.refl _ _).drew)
  rw [hwd]
  clear hwd k5 k6 k7 k8
  have k5 : wd.cell? ⟨l,5,none⟩ = some (.slice A n c) := (HKD.out.cell HLT.out (fun x => x)).trans HQ5.out
  have k6 : wd.cell? ⟨l,6,none⟩ = some (.slice A' m c') := (HKD.out.cell HLT.out (fun x => x)).trans HQ6.out
  have k7 : wd.cell? ⟨l,7,none⟩ = some (.int .i64 f) := (HKD.out.cell HLT.out (fun x => x)).trans HQ7.out
  have k8 : wd.cell? ⟨l,8,none⟩ = some (.int .i64 s) := (HKD.out.cell HLT.out (fun x => x)).trans HQ8.out
  refine Reg.twoT rfl rfl ?_ ?_
  · skip
    obtain ⟨wa,hw2⟩ : ∃ x,wd.alloc (.cells #[.int .i64 f,.int .i64 s] 3) = x := ⟨_,rfl⟩
    obtain ⟨g1,hg2⟩ : ∃ x,wd.heap.size = x := ⟨_,rfl⟩
    have HKa : Hid (Kp No w wa) := Lib.hid (by rw [← hw2];exact HKD.out.alloc _)
    have HB1 : Hid (Blk wa g1 3 [.int .i64 f,.int .i64 s]) := Lib.hid (by rw [← hw2,← hg2];exact Blk.new wd _ _)
    have hkb : Kp No wd wa := by rw [← hw2];exact (Kp.refl _ _).alloc _
    clear k5 k6 k7 k8
    go_wp2_with fail
    clear hw2 hg2
    have k5 : wa.cell? ⟨l,5,none⟩ = some (.slice A n c) := (HKa.out.cell HLT.out (fun x => x)).trans HQ5.out
    have k6 : wa.cell? ⟨l,6,none⟩ = some (.slice A' m c') := (HKa.out.cell HLT.out (fun x => x)).trans HQ6.out
    have k7 : wa.cell? ⟨l,7,none⟩ = some (.int .i64 f) := (HKa.out.cell HLT.out (fun x => x)).trans HQ7.out
    have k8 : wa.cell? ⟨l,8,none⟩ = some (.int .i64 s) := (HKa.out.cell HLT.out (fun x => x)).trans HQ8.out
    (refine ⟨?anew,?_⟩;case anew => ((repeat (refine Reg.anew_cons rfl rfl (fun _ => by go_simp) ?_));exact Reg.anew_nil))
    repeat (first | (refine Reg.lookT rfl rfl rfl (by go_simp;rfl) rfl ?_;go_simp))
    refine Reg.twoT rfl rfl ?_ ?_
    · skip
      clear k5 k6 k7 k8
      go_wp2_with fail
      refine (HN1.out wa g1 HB1.out).mono ?_
      rintro e wb ⟨rfl,hkb⟩
      have HKb := Lib.hid (HKa.out.trans' hkb)
      have k5 : wb.cell? ⟨l,5,none⟩ = some (.slice A n c) := (HKb.out.cell HLT.out (fun x => x)).trans HQ5.out
      have k6 : wb.cell? ⟨l,6,none⟩ = some (.slice A' m c') := (HKb.out.cell HLT.out (fun x => x)).trans HQ6.out
      have k7 : wb.cell? ⟨l,7,none⟩ = some (.int .i64 f) := (HKb.out.cell HLT.out (fun x => x)).trans HQ7.out
      have k8 : wb.cell? ⟨l,8,none⟩ = some (.int .i64 s) := (HKb.out.cell HLT.out (fun x => x)).trans HQ8.out
      go_wp2_with fail
      (refine ⟨?anew,?_⟩;case anew => ((repeat (refine Reg.anew_cons rfl rfl (fun _ => by go_simp) ?_));exact Reg.anew_nil))
      repeat (first | (refine Reg.lookT rfl rfl rfl (by go_simp;rfl) rfl ?_;go_simp))
      refine Reg.twoT rfl rfl ?_ ?_
      · skip
        clear k5 k6 k7 k8
        go_wp2_with fail
        refine (HPO.out wb HKb.out).mono ?_
        rintro e wc ⟨rfl,hkb⟩
        have HKc := Lib.hid (HKb.out.trans' hkb)
        have k5 : wc.cell? ⟨l,5,none⟩ = some (.slice A n c) := (HKc.out.cell HLT.out (fun x => x)).trans HQ5.out
        have k6 : wc.cell? ⟨l,6,none⟩ = some (.slice A' m c') := (HKc.out.cell HLT.out (fun x => x)).trans HQ6.out
        have k7 : wc.cell? ⟨l,7,none⟩ = some (.int .i64 f) := (HKc.out.cell HLT.out (fun x => x)).trans HQ7.out
        have k8 : wc.cell? ⟨l,8,none⟩ = some (.int .i64 s) := (HKc.out.cell HLT.out (fun x => x)).trans HQ8.out
        go_wp2_with fail
        (refine ⟨?anew,?_⟩;case anew => ((repeat (refine Reg.anew_cons rfl rfl (fun _ => by go_simp) ?_));exact Reg.anew_nil))
        repeat (first | (refine Reg.lookT rfl rfl rfl (by go_simp;rfl) rfl ?_;go_simp))
        refine Reg.oneT rfl ?_
        obtain ⟨we,hw2⟩ : ∃ x,wc.alloc (.cells #[.int .i64 (m : Int)] 3) = x := ⟨_,rfl⟩
        obtain ⟨g2,hg2⟩ : ∃ x,wc.heap.size = x := ⟨_,rfl⟩
        have HKe : Hid (Kp No w we) := Lib.hid (by rw [← hw2];exact HKc.out.alloc _)
        have HB2 : Hid (Blk we g2 3 [.int .i64 (m : Int)]) := Lib.hid (by rw [← hw2,← hg2];exact Blk.new wc _ _)
        have hkb : Kp No wc we := by rw [← hw2];exact (Kp.refl _ _).alloc _
        clear k5 k6 k7 k8
        go_wp2_with fail
        clear hw2 hg2
        have k5 : we.cell? ⟨l,5,none⟩ = some (.slice A n c) := (HKe.out.cell HLT.out (fun x => x)).trans HQ5.out
        have k6 : we.cell? ⟨l,6,none⟩ = some (.slice A' m c') := (HKe.out.cell HLT.out (fun x => x)).trans HQ6.out
        have k7 : we.cell? ⟨l,7,none⟩ = some (.int .i64 f) := (HKe.out.cell HLT.out (fun x => x)).trans HQ7.out
        have k8 : we.cell? ⟨l,8,none⟩ = some (.int .i64 s) := (HKe.out.cell HLT.out (fun x => x)).trans HQ8.out
        (refine ⟨?anew,?_⟩;case anew => ((repeat (refine Reg.anew_cons rfl rfl (fun _ => by go_simp) ?_));exact Reg.anew_nil))
        repeat (first | (refine Reg.lookT rfl rfl rfl (by go_simp;rfl) rfl ?_;go_simp))
        refine Reg.oneT rfl ?_
        clear k5 k6 k7 k8
        go_wp2_with fail
        refine (HN2.out we g2 HB2.out).mono ?_
        rintro e wf ⟨rfl,hkb⟩
        have HKf := Lib.hid (HKe.out.trans' hkb)
        have k5 : wf.cell? ⟨l,5,none⟩ = some (.slice A n c) := (HKf.out.cell HLT.out (fun x => x)).trans HQ5.out
        have k6 : wf.cell? ⟨l,6,none⟩ = some (.slice A' m c') := (HKf.out.cell HLT.out (fun x => x)).trans HQ6.out
        have k7 : wf.cell? ⟨l,7,none⟩ = some (.int .i64 f) := (HKf.out.cell HLT.out (fun x => x)).trans HQ7.out
        have k8 : wf.cell? ⟨l,8,none⟩ = some (.int .i64 s) := (HKf.out.cell HLT.out (fun x => x)).trans HQ8.out
        go_wp2_with fail
        (refine ⟨?anew,?_⟩;case anew => ((repeat (refine Reg.anew_cons rfl rfl (fun _ => by go_simp) ?_));exact Reg.anew_nil))
        repeat (first | (refine Reg.lookT rfl rfl rfl (by go_simp;rfl) rfl ?_;go_simp))
        obtain ⟨c1,w3,hrun,hown,hk3⟩ := ownM_text (P := Tryz.prog) wf 163 9 5 bytely (t1 ++ t2 ++ t3) (by rw [ByteArray.size_append,ByteArray.size_append];omega) w.heap.size HKf.out.size
        rw [HT.out] at hown
        have hsz := HTS.out
        rw [hsz] at hrun
        have HO3 := Lib.hid hown
        have HK3 := Lib.hid (HKf.out.trans' hk3)
        clear hown hk3
        refine Reg.oneT rfl ?_
        go_wp2_with fail
        clear hrun
        refine ⟨Reg.anew_nil,?_⟩
        repeat (first | (refine Reg.lookT rfl rfl rfl (by go_simp;rfl) rfl ?_;go_simp))
        refine Reg.doneT ?_
        simp only [Exit.then]
        go_wp2_with fail
        go_meet
        exact ⟨HO3,HK3⟩
      · skip
        obtain ⟨wc,hw2⟩ : ∃ x,wb.alloc (.cells #[.int .i64 (m : Int)] 3) = x := ⟨_,rfl⟩
        obtain ⟨g2,hg2⟩ : ∃ x,wb.heap.size = x := ⟨_,rfl⟩
        have HKc : Hid (Kp No w wc) := Lib.hid (by rw [← hw2];exact HKb.out.alloc _)
        have HB2 : Hid (Blk wc g2 3 [.int .i64 (m : Int)]) := Lib.hid (by rw [← hw2,← hg2];exact Blk.new wb _ _)
        have hkb : Kp No wb wc := by rw [← hw2];exact (Kp.refl _ _).alloc _
        clear k5 k6 k7 k8
        go_wp2_with fail
        clear hw2 hg2
        have k5 : wc.cell? ⟨l,5,none⟩ = some (.slice A n c) := (HKc.out.cell HLT.out (fun x => x)).trans HQ5.out
        have k6 : wc.cell? ⟨l,6,none⟩ = some (.slice A' m c') := (HKc.out.cell HLT.out (fun x => x)).trans HQ6.out
        have k7 : wc.cell? ⟨l,7,none⟩ = some (.int .i64 f) := (HKc.out.cell HLT.out (fun x => x)).trans HQ7.out
        have k8 : wc.cell? ⟨l,8,none⟩ = some (.int .i64 s) := (HKc.out.cell HLT.out (fun x => x)).trans HQ8.out
        (refine ⟨?anew,?_⟩;case anew => ((repeat (refine Reg.anew_cons rfl rfl (fun _ => by go_simp) ?_));exact Reg.anew_nil))
        repeat (first | (refine Reg.lookT rfl rfl rfl (by go_simp;rfl) rfl ?_;go_simp))
        refine Reg.oneT rfl ?_
        clear k5 k6 k7 k8
        go_wp2_with fail
        refine (HPO.out wc HKc.out).mono ?_
        rintro e we ⟨rfl,hkb⟩
        have HKe := Lib.hid (HKc.out.trans' hkb)
        have k5 : we.cell? ⟨l,5,none⟩ = some (.slice A n c) := (HKe.out.cell HLT.out (fun x => x)).trans HQ5.out
        have k6 : we.cell? ⟨l,6,none⟩ = some (.slice A' m c') := (HKe.out.cell HLT.out (fun x => x)).trans HQ6.out
        have k7 : we.cell? ⟨l,7,none⟩ = some (.int .i64 f) := (HKe.out.cell HLT.out (fun x => x)).trans HQ7.out
        have k8 : we.cell? ⟨l,8,none⟩ = some (.int .i64 s) := (HKe.out.cell HLT.out (fun x => x)).trans HQ8.out
        go_wp2_with fail
        have HB2 := Lib.hid (HB2.out.kept hkb (fun x => x))
        (refine ⟨?anew,?_⟩;case anew => ((repeat (refine Reg.anew_cons rfl rfl (fun _ => by go_simp) ?_));exact Reg.anew_nil))
        repeat (first | (refine Reg.lookT rfl rfl rfl (by go_simp;rfl) rfl ?_;go_simp))
        refine Reg.oneT rfl ?_
        clear k5 k6 k7 k8
        go_wp2_with fail
        refine (HN2.out we g2 HB2.out).mono ?_
        rintro e wf ⟨rfl,hkb⟩
        have HKf := Lib.hid (HKe.out.trans' hkb)
        have k5 : wf.cell? ⟨l,5,none⟩ = some (.slice A n c) := (HKf.out.cell HLT.out (fun x => x)).trans HQ5.out
        have k6 : wf.cell? ⟨l,6,none⟩ = some (.slice A' m c') := (HKf.out.cell HLT.out (fun x => x)).trans HQ6.out
        have k7 : wf.cell? ⟨l,7,none⟩ = some (.int .i64 f) := (HKf.out.cell HLT.out (fun x => x)).trans HQ7.out
        have k8 : wf.cell? ⟨l,8,none⟩ = some (.int .i64 s) := (HKf.out.cell HLT.out (fun x => x)).trans HQ8.out
        go_wp2_with fail
        (refine ⟨?anew,?_⟩;case anew => ((repeat (refine Reg.anew_cons rfl rfl (fun _ => by go_simp) ?_));exact Reg.anew_nil))
        repeat (first | (refine Reg.lookT rfl rfl rfl (by go_simp;rfl) rfl ?_;go_simp))
        obtain ⟨c1,w3,hrun,hown,hk3⟩ := ownM_text (P := Tryz.prog) wf 163 9 5 bytely (t1 ++ t2 ++ t3) (by rw [ByteArray.size_append,ByteArray.size_append];omega) w.heap.size HKf.out.size
        rw [HT.out] at hown
        have hsz := HTS.out
        rw [hsz] at hrun
        have HO3 := Lib.hid hown
        have HK3 := Lib.hid (HKf.out.trans' hk3)
        clear hown hk3
        refine Reg.oneT rfl ?_
        go_wp2_with fail
        clear hrun
        refine ⟨Reg.anew_nil,?_⟩
        repeat (first | (refine Reg.lookT rfl rfl rfl (by go_simp;rfl) rfl ?_;go_simp))
        refine Reg.doneT ?_
        simp only [Exit.then]
        go_wp2_with fail
        go_meet
        exact ⟨HO3,HK3⟩
    · skip
      obtain ⟨wb,hw2⟩ : ∃ x,wa.alloc (.cells #[.int .i64 (m : Int)] 3) = x := ⟨_,rfl⟩
      obtain ⟨g2,hg2⟩ : ∃ x,wa.heap.size = x := ⟨_,rfl⟩
      have HKb : Hid (Kp No w wb) := Lib.hid (by rw [← hw2];exact HKa.out.alloc _)
      have HB2 : Hid (Blk wb g2 3 [.int .i64 (m : Int)]) := Lib.hid (by rw [← hw2,← hg2];exact Blk.new wa _ _)
      have hkb : Kp No wa wb := by rw [← hw2];exact (Kp.refl _ _).alloc _
      clear k5 k6 k7 k8
      go_wp2_with fail
      clear hw2 hg2
      have k5 : wb.cell? ⟨l,5,none⟩ = some (.slice A n c) := (HKb.out.cell HLT.out (fun x => x)).trans HQ5.out
      have k6 : wb.cell? ⟨l,6,none⟩ = some (.slice A' m c') := (HKb.out.cell HLT.out (fun x => x)).trans HQ6.out
      have k7 : wb.cell? ⟨l,7,none⟩ = some (.int .i64 f) := (HKb.out.cell HLT.out (fun x => x)).trans HQ7.out
      have k8 : wb.cell? ⟨l,8,none⟩ = some (.int .i64 s) := (HKb.out.cell HLT.out (fun x => x)).trans HQ8.out
      have HB1 := Lib.hid (HB1.out.kept hkb (fun x => x))
      (refine ⟨?anew,?_⟩;case anew => ((repeat (refine Reg.anew_cons rfl rfl (fun _ => by go_simp) ?_));exact Reg.anew_nil))
      repeat (first | (refine Reg.lookT rfl rfl rfl (by go_simp;rfl) rfl ?_;go_simp))
      refine Reg.oneT rfl ?_
      clear k5 k6 k7 k8
      go_wp2_with fail
      refine (HN1.out wb g1 HB1.out).mono ?_
      rintro e wc ⟨rfl,hkb⟩
      have HKc := Lib.hid (HKb.out.trans' hkb)
      have k5 : wc.cell? ⟨l,5,none⟩ = some (.slice A n c) := (HKc.out.cell HLT.out (fun x => x)).trans HQ5.out
      have k6 : wc.cell? ⟨l,6,none⟩ = some (.slice A' m c') := (HKc.out.cell HLT.out (fun x => x)).trans HQ6.out
      have k7 : wc.cell? ⟨l,7,none⟩ = some (.int .i64 f) := (HKc.out.cell HLT.out (fun x => x)).trans HQ7.out
      have k8 : wc.cell? ⟨l,8,none⟩ = some (.int .i64 s) := (HKc.out.cell HLT.out (fun x => x)).trans HQ8.out
      go_wp2_with fail
      have HB2 := Lib.hid (HB2.out.kept hkb (fun x => x))
      (refine ⟨?anew,?_⟩;case anew => ((repeat (refine Reg.anew_cons rfl rfl (fun _ => by go_simp) ?_));exact Reg.anew_nil))
      repeat (first | (refine Reg.lookT rfl rfl rfl (by go_simp;rfl) rfl ?_;go_simp))
      refine Reg.oneT rfl ?_
      clear k5 k6 k7 k8
      go_wp2_with fail
      refine (HPO.out wc HKc.out).mono ?_
      rintro e we ⟨rfl,hkb⟩
      have HKe := Lib.hid (HKc.out.trans' hkb)
      have k5 : we.cell? ⟨l,5,none⟩ = some (.slice A n c) := (HKe.out.cell HLT.out (fun x => x)).trans HQ5.out
      have k6 : we.cell? ⟨l,6,none⟩ = some (.slice A' m c') := (HKe.out.cell HLT.out (fun x => x)).trans HQ6.out
      have k7 : we.cell? ⟨l,7,none⟩ = some (.int .i64 f) := (HKe.out.cell HLT.out (fun x => x)).trans HQ7.out
      have k8 : we.cell? ⟨l,8,none⟩ = some (.int .i64 s) := (HKe.out.cell HLT.out (fun x => x)).trans HQ8.out
      go_wp2_with fail
      have HB2 := Lib.hid (HB2.out.kept hkb (fun x => x))
      (refine ⟨?anew,?_⟩;case anew => ((repeat (refine Reg.anew_cons rfl rfl (fun _ => by go_simp) ?_));exact Reg.anew_nil))
      repeat (first | (refine Reg.lookT rfl rfl rfl (by go_simp;rfl) rfl ?_;go_simp))
      refine Reg.oneT rfl ?_
      clear k5 k6 k7 k8
      go_wp2_with fail
      refine (HN2.out we g2 HB2.out).mono ?_
      rintro e wf ⟨rfl,hkb⟩
      have HKf := Lib.hid (HKe.out.trans' hkb)
      have k5 : wf.cell? ⟨l,5,none⟩ = some (.slice A n c) := (HKf.out.cell HLT.out (fun x => x)).trans HQ5.out
      have k6 : wf.cell? ⟨l,6,none⟩ = some (.slice A' m c') := (HKf.out.cell HLT.out (fun x => x)).trans HQ6.out
      have k7 : wf.cell? ⟨l,7,none⟩ = some (.int .i64 f) := (HKf.out.cell HLT.out (fun x => x)).trans HQ7.out
      have k8 : wf.cell? ⟨l,8,none⟩ = some (.int .i64 s) := (HKf.out.cell HLT.out (fun x => x)).trans HQ8.out
      go_wp2_with fail
      (refine ⟨?anew,?_⟩;case anew => ((repeat (refine Reg.anew_cons rfl rfl (fun _ => by go_simp) ?_));exact Reg.anew_nil))
      repeat (first | (refine Reg.lookT rfl rfl rfl (by go_simp;rfl) rfl ?_;go_simp))
      obtain ⟨c1,w3,hrun,hown,hk3⟩ := ownM_text (P := Tryz.prog) wf 163 9 5 bytely (t1 ++ t2 ++ t3) (by rw [ByteArray.size_append,ByteArray.size_append];omega) w.heap.size HKf.out.size
      rw [HT.out] at hown
      have hsz := HTS.out
      rw [hsz] at hrun
      have HO3 := Lib.hid hown
      have HK3 := Lib.hid (HKf.out.trans' hk3)
      clear hown hk3
      refine Reg.oneT rfl ?_
      go_wp2_with fail
      clear hrun
      refine ⟨Reg.anew_nil,?_⟩
      repeat (first | (refine Reg.lookT rfl rfl rfl (by go_simp;rfl) rfl ?_;go_simp))
      refine Reg.doneT ?_
      simp only [Exit.then]
      go_wp2_with fail
      go_meet
      exact ⟨HO3,HK3⟩
  · skip
    obtain ⟨wa,hw2⟩ : ∃ x,wd.alloc (.cells #[.int .i64 (m : Int)] 3) = x := ⟨_,rfl⟩
    obtain ⟨g2,hg2⟩ : ∃ x,wd.heap.size = x := ⟨_,rfl⟩
    have HKa : Hid (Kp No w wa) := Lib.hid (by rw [← hw2];exact HKD.out.alloc _)
    have HB2 : Hid (Blk wa g2 3 [.int .i64 (m : Int)]) := Lib.hid (by rw [← hw2,← hg2];exact Blk.new wd _ _)
    have hkb : Kp No wd wa := by rw [← hw2];exact (Kp.refl _ _).alloc _
    clear k5 k6 k7 k8
    go_wp2_with fail
    clear hw2 hg2
    have k5 : wa.cell? ⟨l,5,none⟩ = some (.slice A n c) := (HKa.out.cell HLT.out (fun x => x)).trans HQ5.out
    have k6 : wa.cell? ⟨l,6,none⟩ = some (.slice A' m c') := (HKa.out.cell HLT.out (fun x => x)).trans HQ6.out
    have k7 : wa.cell? ⟨l,7,none⟩ = some (.int .i64 f) := (HKa.out.cell HLT.out (fun x => x)).trans HQ7.out
    have k8 : wa.cell? ⟨l,8,none⟩ = some (.int .i64 s) := (HKa.out.cell HLT.out (fun x => x)).trans HQ8.out
    (refine ⟨?anew,?_⟩;case anew => ((repeat (refine Reg.anew_cons rfl rfl (fun _ => by go_simp) ?_));exact Reg.anew_nil))
    repeat (first | (refine Reg.lookT rfl rfl rfl (by go_simp;rfl) rfl ?_;go_simp))
    refine Reg.oneT rfl ?_
    obtain ⟨wb,hw2⟩ : ∃ x,wa.alloc (.cells #[.int .i64 f,.int .i64 s] 3) = x := ⟨_,rfl⟩
    obtain ⟨g1,hg2⟩ : ∃ x,wa.heap.size = x := ⟨_,rfl⟩
    have HKb : Hid (Kp No w wb) := Lib.hid (by rw [← hw2];exact HKa.out.alloc _)
    have HB1 : Hid (Blk wb g1 3 [.int .i64 f,.int .i64 s]) := Lib.hid (by rw [← hw2,← hg2];exact Blk.new wa _ _)
    have hkb : Kp No wa wb := by rw [← hw2];exact (Kp.refl _ _).alloc _
    clear k5 k6 k7 k8
    go_wp2_with fail
    clear hw2 hg2
    have k5 : wb.cell? ⟨l,5,none⟩ = some (.slice A n c) := (HKb.out.cell HLT.out (fun x => x)).trans HQ5.out
    have k6 : wb.cell? ⟨l,6,none⟩ = some (.slice A' m c') := (HKb.out.cell HLT.out (fun x => x)).trans HQ6.out
    have k7 : wb.cell? ⟨l,7,none⟩ = some (.int .i64 f) := (HKb.out.cell HLT.out (fun x => x)).trans HQ7.out
    have k8 : wb.cell? ⟨l,8,none⟩ = some (.int .i64 s) := (HKb.out.cell HLT.out (fun x => x)).trans HQ8.out
    have HB2 := Lib.hid (HB2.out.kept hkb (fun x => x))
    (refine ⟨?anew,?_⟩;case anew => ((repeat (refine Reg.anew_cons rfl rfl (fun _ => by go_simp) ?_));exact Reg.anew_nil))
    repeat (first | (refine Reg.lookT rfl rfl rfl (by go_simp;rfl) rfl ?_;go_simp))
    refine Reg.oneT rfl ?_
    clear k5 k6 k7 k8
    go_wp2_with fail
    refine (HN1.out wb g1 HB1.out).mono ?_
    rintro e wc ⟨rfl,hkb⟩
    have HKc := Lib.hid (HKb.out.trans' hkb)
    have k5 : wc.cell? ⟨l,5,none⟩ = some (.slice A n c) := (HKc.out.cell HLT.out (fun x => x)).trans HQ5.out
    have k6 : wc.cell? ⟨l,6,none⟩ = some (.slice A' m c') := (HKc.out.cell HLT.out (fun x => x)).trans HQ6.out
    have k7 : wc.cell? ⟨l,7,none⟩ = some (.int .i64 f) := (HKc.out.cell HLT.out (fun x => x)).trans HQ7.out
    have k8 : wc.cell? ⟨l,8,none⟩ = some (.int .i64 s) := (HKc.out.cell HLT.out (fun x => x)).trans HQ8.out
    go_wp2_with fail
    have HB2 := Lib.hid (HB2.out.kept hkb (fun x => x))
    (refine ⟨?anew,?_⟩;case anew => ((repeat (refine Reg.anew_cons rfl rfl (fun _ => by go_simp) ?_));exact Reg.anew_nil))
    repeat (first | (refine Reg.lookT rfl rfl rfl (by go_simp;rfl) rfl ?_;go_simp))
    refine Reg.oneT rfl ?_
    clear k5 k6 k7 k8
    go_wp2_with fail
    refine (HPO.out wc HKc.out).mono ?_
    rintro e we ⟨rfl,hkb⟩
    have HKe := Lib.hid (HKc.out.trans' hkb)
    have k5 : we.cell? ⟨l,5,none⟩ = some (.slice A n c) := (HKe.out.cell HLT.out (fun x => x)).trans HQ5.out
    have k6 : we.cell? ⟨l,6,none⟩ = some (.slice A' m c') := (HKe.out.cell HLT.out (fun x => x)).trans HQ6.out
    have k7 : we.cell? ⟨l,7,none⟩ = some (.int .i64 f) := (HKe.out.cell HLT.out (fun x => x)).trans HQ7.out
    have k8 : we.cell? ⟨l,8,none⟩ = some (.int .i64 s) := (HKe.out.cell HLT.out (fun x => x)).trans HQ8.out
    go_wp2_with fail
    have HB2 := Lib.hid (HB2.out.kept hkb (fun x => x))
    (refine ⟨?anew,?_⟩;case anew => ((repeat (refine Reg.anew_cons rfl rfl (fun _ => by go_simp) ?_));exact Reg.anew_nil))
    repeat (first | (refine Reg.lookT rfl rfl rfl (by go_simp;rfl) rfl ?_;go_simp))
    refine Reg.oneT rfl ?_
    clear k5 k6 k7 k8
    go_wp2_with fail
    refine (HN2.out we g2 HB2.out).mono ?_
    rintro e wf ⟨rfl,hkb⟩
    have HKf := Lib.hid (HKe.out.trans' hkb)
    have k5 : wf.cell? ⟨l,5,none⟩ = some (.slice A n c) := (HKf.out.cell HLT.out (fun x => x)).trans HQ5.out
    have k6 : wf.cell? ⟨l,6,none⟩ = some (.slice A' m c') := (HKf.out.cell HLT.out (fun x => x)).trans HQ6.out
    have k7 : wf.cell? ⟨l,7,none⟩ = some (.int .i64 f) := (HKf.out.cell HLT.out (fun x => x)).trans HQ7.out
    have k8 : wf.cell? ⟨l,8,none⟩ = some (.int .i64 s) := (HKf.out.cell HLT.out (fun x => x)).trans HQ8.out
    go_wp2_with fail
    (refine ⟨?anew,?_⟩;case anew => ((repeat (refine Reg.anew_cons rfl rfl (fun _ => by go_simp) ?_));exact Reg.anew_nil))
    repeat (first | (refine Reg.lookT rfl rfl rfl (by go_simp;rfl) rfl ?_;go_simp))
    obtain ⟨c1,w3,hrun,hown,hk3⟩ := ownM_text (P := Tryz.prog) wf 163 9 5 bytely (t1 ++ t2 ++ t3) (by rw [ByteArray.size_append,ByteArray.size_append];omega) w.heap.size HKf.out.size
    rw [HT.out] at hown
    have hsz := HTS.out
    rw [hsz] at hrun
    have HO3 := Lib.hid hown
    have HK3 := Lib.hid (HKf.out.trans' hk3)
    clear hown hk3
    refine Reg.oneT rfl ?_
    go_wp2_with fail
    clear hrun
    refine ⟨Reg.anew_nil,?_⟩
    repeat (first | (refine Reg.lookT rfl rfl rfl (by go_simp;rfl) rfl ?_;go_simp))
    refine Reg.doneT ?_
    simp only [Exit.then]
    go_wp2_with fail
    go_meet
    exact ⟨HO3,HK3⟩
 case rest =>
  obtain ⟨HO0,HK0⟩ := hcut
  have k6 : wc.cell? ⟨l,6,none⟩ = some (.slice A' m c') := (HK0.out.cell HLT.out (fun x => x)).trans HQ6.out
  go_wp2_with fail
  clear k6 HPO HN1 HN2 hg1 hg2 hg3 hz1 hz2 hz3 HQ5 HQ6 HQ7 HQ8 HT HTS
  go_loopw [3,38] (fun ov iv wr => ∃ k : Nat,k ≤ m ∧ iv = .int .i64 (k : Int) ∧ Hid (OwnM wr w.heap.size 5 ov (X ++ (L.lost.take k).flatMap goneB)) ∧ Hid (Kp No w wr)) (fun _ iv _ => m - (intOf iv).toNat)
  case atStart => exact ⟨0,Nat.zero_le _,rfl,Lib.hid (by rw [List.take_zero,List.flatMap_nil,List.append_nil];exact HO0.out),HK0⟩
  case round =>
   clear HO0 HK0
   obtain ⟨k,hk,rfl,HO,HK⟩ := hrel
   by_cases hlt : k < m
   · have hki : (k : Int) < (m : Int) := by omega
     obtain ⟨o,ho⟩ : ∃ o,L.lost[k]? = some o := ⟨_,List.getElem?_eq_getElem (by have := HM.out;omega)⟩
     have hlr := HLR.out
     obtain ⟨ad,A2,c2,hA,_,hcell,hnum,_⟩ := Rp.at_opl (Rp.opl.slice.keptNo hlr HK.out) ho
     subst hA
     obtain ⟨z0,z1,z2,z3,z4,z5,z6,z7,z8⟩ := opl_cells hcell
     have hos := HLO.out o (List.mem_of_getElem? ho)
     have hbl := goneB_le o hnum hos
     have hnx := flat_snoc goneB ho
     have hM := flat_le goneB 100 (L.lost.take k) (fun o ho => by
      have ho := List.mem_of_mem_take ho
      obtain ⟨i,hi⟩ := List.getElem?_of_mem ho
      obtain ⟨_,_,_,_,_,_,hn,_⟩ := Rp.at_opl hlr hi
      exact goneB_le o hn (HLO.out o ho))
     rw [List.length_take,Nat.min_eq_left (by have := HM.out;omega)] at hM
     obtain ⟨M,hMe⟩ : ∃ M,(L.lost.take k).flatMap goneB = M := ⟨_,rfl⟩
     rw [hMe] at HO hM hnx
     have HNM := Lib.hid hnum
     have hXM : (X ++ M).length ≤ 200000000 := by have := HXL.out;rw [List.length_append];omega
     have HXM := Lib.hid hXM
     clear ho hcell hM hMe hXM hnum hlr
     obtain ⟨on,oe,ok,os,oc,oq,onm,osz,ohs⟩ := o
     simp only at *
     obtain ⟨Y,hY⟩ : ∃ Y,numsB [on,oe,ok,os,oc,oq,osz] = Y := ⟨_,rfl⟩
     obtain ⟨Z,hZ⟩ : ∃ Z,textsB [onm] = Z := ⟨_,rfl⟩
     have hnx2 : (L.lost.take (k + 1)).flatMap goneB = M ++ (Y ++ Z) := by rw [hnx];unfold goneB;simp only [hY,hZ]
     have hYZ : Y.length + Z.length ≤ 100 := by
      unfold goneB at hbl
      simp only [hY,hZ,List.length_append] at hbl
      exact hbl
     have HNX2 := Lib.hid hnx2
     have HYE := Lib.hid hY
     have HZE := Lib.hid hZ
     have HYZ := Lib.hid hYZ
     have HOS := Lib.hid hos
     clear hY hZ hnx2 hYZ hnx hbl hos
     go_wp2_with fail
     clear z0 z1 z2 z3 z4 z5 z6 z7 z8
     obtain ⟨wa,hwa⟩ : ∃ wa,wr.alloc (.cells #[.int .i64 on,.int .i64 oe,.int .i64 ok,.int .i64 os,.int .i64 oc,.int .i64 oq,.string onm,.int .i64 osz,.slice A2 ohs.length c2] 36) = wa := ⟨_,rfl⟩
     obtain ⟨x,hx⟩ : ∃ x,wr.heap.size = x := ⟨_,rfl⟩
     have hsa : wr.heap.size + 1 = wa.heap.size := by rw [← hwa];simp
     have hka : Kp No wr wa := by rw [← hwa];exact (Kp.refl _ _).alloc _
     have hba : Blk wa x 36 [.int .i64 on,.int .i64 oe,.int .i64 ok,.int .i64 os,.int .i64 oc,.int .i64 oq,.string onm,.int .i64 osz,.slice A2 ohs.length c2] := by rw [← hwa,← hx];exact Blk.new wr _ _
     rw [hsa,hwa]
     have HX := Lib.hid hx
     have HBA := Lib.hid hba
     have HKA := Lib.hid hka
     try rw [hx]
     clear hwa hx hsa hka hba
     have hnc := c_nums [on,oe,ok,os,oc,oq,osz] (some ⟨wa.heap.size,0,none⟩) 7 (wa.alloc (.cells #[.int .i64 on,.int .i64 oe,.int .i64 ok,.int .i64 os,.int .i64 oc,.int .i64 oq,.int .i64 osz] 3)) (· = wa.heap.size) (Rp.of_block (heap_alloc_new wa _) rfl rfl (Nat.le_refl _) (by simp [maxLen]) (by
      obtain ⟨n1,n2,n3,n4,n5,n6,_,n8⟩ := HNM.out
      intro a ha
      simp only [List.mem_cons,List.not_mem_nil,or_false] at ha
      rcases ha with rfl | rfl | rfl | rfl | rfl | rfl | rfl <;> assumption)) (by simp)
     rw [HYE.out] at hnc
     refine hnc.mono ?_
     rintro e w4 ⟨rfl,hk4⟩
     have HK4 := Lib.hid (HKA.out.trans' (((Kp.refl No wa).alloc _).trans' hk4))
     have HB4 := Lib.hid (HBA.out.kept (((Kp.refl No wa).alloc _).trans' hk4) (fun x => x))
     have HO4 := Lib.hid (HO.out.keptNo HK4.out)
     have hys : (bs Y).size = Y.length := bs_size _
     clear hk4 hnc HBA HKA
     go_wp2_with (at_builtin;refine wpList_appendM_text rfl _ (.tmp 42) (.tmp 59) 163 9 rfl w.heap.size 5 bytely u3 (X ++ M) rfl HO4.out (bs Y) rfl ?d1 ?d2 ?_)
     case d1 => have := HXM.out;have := HYZ.out;omega
     case d2 => exact (HK.out.trans' HK4.out).size
     intro v5 w5 hown5 hgr5
     rw [bs_data] at hown5
     have hk5 : Kp (fun k => u3.ownBlock = some k) w4 w5 := (Kp.refl _ _).grown hgr5 (fun g hg _ => hg)
     have HK5 : Hid (Kp No w w5) := Lib.hid ((HK.out.trans' HK4.out).trans hk5 (fun i hi hv => absurd (HO.out.lt i hv).1 (by omega)))
     have HB5 := Lib.hid (HB4.out.kept hk5 (fun hv => by have := (HO.out.lt _ hv).2;have := HX.out;omega))
     have HO5 := Lib.hid hown5
     clear hown5 hgr5 hk5 HO4 HB4 HK4 hys
     have y6 : w5.cell? ⟨x,6,none⟩ = some (.string onm) := Blk.cell HB5.out rfl
     have h1 : onm.size ≤ 16 := HOS.out
     have htx := c_text [onm] (some ⟨w5.heap.size,0,none⟩) 1 (w5.alloc (.cells #[.string onm] 9)) (· = w5.heap.size) (Rp.of_block1 rfl Value.string (heap_alloc_new w5 _) rfl rfl (Nat.le_refl _) (by simp [maxLen]) (fun a ha => ⟨rfl,by simp only [List.mem_cons,List.not_mem_nil,or_false] at ha;subst ha;unfold maxLen;omega⟩)) (fun a ha => by simp only [List.mem_cons,List.not_mem_nil,or_false] at ha;subst ha;omega) (by rw [HZE.out];have := HYZ.out;omega)
     rw [HZE.out] at htx
     have HTX := Lib.hid htx
     clear h1 htx
     go_wp2_with fail
     refine HTX.out.mono ?_
     rintro e w7 ⟨rfl,hk7⟩
     have hk57 : Kp No w5 w7 := ((Kp.refl No w5).alloc _).trans' hk7
     have HO7 := Lib.hid (HO5.out.keptNo hk57)
     have HK7 := Lib.hid (HK5.out.trans' hk57)
     clear hk7 hk57 HTX HO5 HK5 HB5 y6
     go_wp2_with (at_builtin;refine wpList_appendM_text rfl _ (.tmp 61) (.tmp 65) 163 9 rfl w.heap.size 5 bytely v5 (X ++ (M ++ Y)) rfl HO7.out (bs Z) rfl ?d3 ?d4 ?_)
     case d3 => have h1 := HXM.out;have h2 := HYZ.out;have h3 : (bs Z).size = Z.length := bs_size _;rw [List.length_append] at h1;rw [List.length_append,List.length_append];omega
     case d4 => exact HK7.out.size
     intro v8 w8 hown8 hgr8
     rw [bs_data] at hown8
     have hk8 : Kp (fun k => v5.ownBlock = some k) w7 w8 := (Kp.refl _ _).grown hgr8 (fun g hg _ => hg)
     have HK8 : Hid (Kp No w w8) := Lib.hid (HK7.out.trans hk8 (fun i hi hv => absurd (HO7.out.lt i hv).1 (by omega)))
     have HO8 : Hid (OwnM w8 w.heap.size 5 v8 (X ++ (L.lost.take (k + 1)).flatMap goneB)) := Lib.hid (by
      rw [HNX2.out]
      exact hown8)
     clear hown8 hgr8 hk8 HO7 HK7
     go_wp2_with fail
     go_roundw
     case rel => exact ⟨k + 1,by omega,by go_num,HO8,HK8⟩
     case measure => simp [intOf];omega
   · obtain rfl : k = m := by omega
     have HO2 := HO.out
     rw [List.take_of_length_le (by have := HM.out;omega)] at HO2
     have hne : 0 < (X ++ L.lost.flatMap goneB).length := by have := HXP.out;rw [List.length_append];omega
     have HE : Hid (packL L = X ++ L.lost.flatMap goneB) := HPL
     obtain ⟨Z,hZ⟩ : ∃ Z,X ++ L.lost.flatMap goneB = Z := ⟨_,rfl⟩
     rw [hZ] at HO2 hne HE
     obtain ⟨A1,c1,rfl,_⟩ := HO2.shape
     obtain ⟨g,o,rfl,_,_,_⟩ := HO2.cell hne
     have hback := HO2.run_back (P := Tryz.prog) 163 9 bytely
     clear HO HO2 hne hZ HPL
     go_wp2_with fail
     go_ret
     exact ⟨by rw [HE.out];rfl,HK.out⟩
end Go.Proofs.YtjlbacfedfkilaaGreat
