/-
  The document's Row.
-/
import Derived.Test.YtjlbacfedfkilaaGreatDeed5
namespace Go.Proofs.YtjlbacfedfkilaaGreat
open Go.RowKit Go.ChangeShapes Go.WideShapes Go.ChangeAt
set_option maxRecDepth 100000 in
set_option maxHeartbeats 4000000 in
theorem r_row (n e : Int) (l : List OpL) (A : Option Addr) (c : Nat) (w : World) (S : Nat → Prop) (hl : Rp.opl.slice.R w S [.slice A l.length c] l) (hll : l.length ≤ 1000000) (hsm : ∀ o ∈ l,o.hashes.length ≤ 1000000) :
 Calls Tryz.prog 101 #[.agg #[.int .i64 n,.int .i64 e],.slice A l.length c] w fun x w' => x = .returned (.bool (rowB n e l)) ∧ Kp No w w' := by
 have HL := Lib.hid hl
 have HSM := Lib.hid hsm
 have HK : Hid (Kp No w (w.alloc (.cells #[.int .i64 n,.int .i64 e] 42))) := Lib.hid ((Kp.refl _ _).alloc _)
 clear hl hsm
 by_cases hs : spotP n e
 case neg =>
  have HS : Hid (rowB n e l = false) := Lib.hid (by unfold rowB;rw [decide_eq_false hs];rfl)
  rw [HS.out]
  unfold spotP at hs
  by_cases h1 : n < 0
  · skip
    clear HS
    go_enter Tryz.func101,Tryz.ntmps101
    go_wp2_with fail
    go_ret
    exact ⟨rfl,HK.out⟩
  by_cases h2 : 80 < n
  · skip
    clear HS
    go_enter Tryz.func101,Tryz.ntmps101
    go_wp2_with fail
    go_ret
    exact ⟨rfl,HK.out⟩
  by_cases h3 : e < 0
  · skip
    clear HS
    go_enter Tryz.func101,Tryz.ntmps101
    go_wp2_with fail
    go_ret
    exact ⟨rfl,HK.out⟩
  by_cases h4 : 16 < e
  · skip
    clear HS
    go_enter Tryz.func101,Tryz.ntmps101
    go_wp2_with fail
    go_ret
    exact ⟨rfl,HK.out⟩
  by_cases h5 : n = 0
  · have h6 : (e == 0) = false := beq_eq_false_iff_ne.2 (fun h => hs ⟨by omega,by omega,by omega,by omega,by omega⟩)
    subst h5
    clear hs
    clear HS
    go_enter Tryz.func101,Tryz.ntmps101
    go_wp2_with fail
    go_ret
    exact ⟨rfl,HK.out⟩
  · have h6 : e = 0 := by omega
    have h7 : (n == 0) = false := beq_eq_false_iff_ne.2 h5
    subst h6
    clear hs
    clear HS
    go_enter Tryz.func101,Tryz.ntmps101
    go_wp2_with fail
    go_ret
    exact ⟨rfl,HK.out⟩
 case pos =>
  have hrow : rowB n e l = rowGo n e (-1) l := by unfold rowB;rw [decide_eq_true hs];rfl
  rw [hrow]
  obtain ⟨R,hR⟩ : ∃ R,rowGo n e (-1) l = R := ⟨_,rfl⟩
  rw [hR]
  have HR := Lib.hid hR
  obtain ⟨s1,s2,s3,s4,s5⟩ := hs
  have hne : ((n == 0) != (e == 0)) = false := by
   by_cases h : n = 0
   · rw [h,s5.1 h];rfl
   · rw [beq_eq_false_iff_ne.2 h,beq_eq_false_iff_ne.2 (fun h2 => h (s5.2 h2))];rfl
  have hne2 : ((n == 0) == (e == 0)) = true := by
   by_cases h : n = 0
   · rw [h,s5.1 h];rfl
   · rw [beq_eq_false_iff_ne.2 h,beq_eq_false_iff_ne.2 (fun h2 => h (s5.2 h2))];rfl
  clear hrow hR s5
  go_enter Tryz.func101,Tryz.ntmps101
  go_wp2_with fail
  obtain ⟨b,hb⟩ : ∃ b,w.heap.size = b := ⟨_,rfl⟩
  obtain ⟨w1,hw1⟩ : ∃ w1,w.alloc (.cells #[.int .i64 n,.int .i64 e] 42) = w1 := ⟨_,rfl⟩
  have hb1 : Blk w1 b 42 [.int .i64 n,.int .i64 e] := by rw [← hw1,← hb];exact Blk.new w _ _
  rw [hw1] at HK
  rw [hw1,hb]
  have HB1 := Lib.hid hb1
  clear hb hw1 hb1 hne hne2
  go_loopw [5] (fun iv wr => ∃ (i : Nat) (pn pe ps : Int),i ≤ l.length ∧ iv = .int .i64 (i : Int) ∧ pn = n + i ∧ (i = 0 → pe = e ∧ ps < 0) ∧ Hid (∀ q,0 < i → l[i - 1]? = some q → q.epoch = pe ∧ q.site = ps ∧ 0 ≤ ps) ∧ Hid (Blk wr b 42 [.int .i64 n,.int .i64 e]) ∧ Hid (R = rowGo pn pe ps (l.drop i)) ∧ Hid (Kp No w wr)) (fun iv _ => l.length - (intOf iv).toNat)
  case atStart => exact ⟨0,n,e,-1,Nat.zero_le _,rfl,by omega,fun _ => ⟨rfl,by omega⟩,Lib.hid (fun q h => absurd h (by omega)),HB1,Lib.hid (by rw [← HR.out];rfl),HK⟩
  case round =>
   clear HB1 HK HR
   obtain ⟨i,pn,pe,ps,hi,rfl,hpn,hz,HQ,HB,HR,HK⟩ := hrel
   by_cases hlt : i < l.length
   · have hli : (i : Int) < (l.length : Int) := by omega
     obtain ⟨o,ho⟩ : ∃ o,l[i]? = some o := ⟨_,List.getElem?_eq_getElem hlt⟩
     have hR2 := HR.out
     rw [dropC ho,rowGo] at hR2
     have HR2 := Lib.hid hR2
     have hos := HSM.out o (List.mem_of_getElem? ho)
     obtain ⟨ad,A2,c2,hA,_,hcell,hnum,hhs⟩ := Rp.at_opl (Rp.opl.slice.keptNo HL.out HK.out) ho
     obtain ⟨z0,z1,z2,z3,z4,z5,z6,z7,z8⟩ := opl_cells hcell
     have hchk := fun w2 (hk : Kp No wr w2) => r_rightop o A2 c2 w2 S (Rp.str.slice.keptNo hhs hk) (bounds_I64 hnum.2.2.2.2.2.2.2) hos
     obtain ⟨K,hK⟩ : ∃ K,okOp o = K := ⟨_,rfl⟩
     have hKP : K = true ↔ okP o := by rw [← hK];unfold okOp;exact decide_eq_true_iff
     rw [hK] at hchk
     have HCHK := Lib.hid hchk
     have HKP := Lib.hid hKP
     have HO := Lib.hid ho
     have b0 : wr.cell? ⟨b,0,none⟩ = some (.int .i64 n) := Blk.cell HB.out rfl
     have b1 : wr.cell? ⟨b,1,none⟩ = some (.int .i64 e) := Blk.cell HB.out rfl
     have hbw : b < wr.heap.size := Blk.lt HB.out
     clear hR2 hos hcell hnum hhs hchk hK hKP HR
     unfold opV at HCHK
     by_cases h0 : i = 0
     · have hi0 : ¬ (0 : Int) < (i : Int) := by omega
       have hi0b : decide ((0 : Int) < (i : Int)) = false := decide_eq_false hi0
       obtain ⟨hpe,hps⟩ := hz h0
       subst hpe hA
       clear ho hz h0 HQ
       obtain ⟨on,oe,ok,os,oc,oq,onm,osz,ohs⟩ := o
       simp only at *
       go_wp2_with fail
       refine (HCHK.out _ ((Kp.refl _ _).alloc _)).mono ?_
       rintro x w2 ⟨rfl,hk2⟩
       have hkk : Kp No wr w2 := ((Kp.refl No wr).alloc _).trans' hk2
       have hop := Blk.kept (Blk.new wr [.int .i64 on,.int .i64 oe,.int .i64 ok,.int .i64 os,.int .i64 oc,.int .i64 oq,.string onm,.int .i64 osz,.slice A2 ohs.length c2] 36) hk2 (fun x => x)
       obtain ⟨g,hg⟩ : ∃ g,wr.heap.size = g := ⟨_,rfl⟩
       rw [hg] at hop
       rw [hg]
       have HB2 := Lib.hid (Blk.kept HB.out hkk (fun x => x))
       have HK2 := Lib.hid (HK.out.trans' hkk)
       have y0 : w2.cell? ⟨g,0,none⟩ = some _ := Blk.cell hop rfl
       have y1 : w2.cell? ⟨g,1,none⟩ = some _ := Blk.cell hop rfl
       have y2 : w2.cell? ⟨g,2,none⟩ = some _ := Blk.cell hop rfl
       have y3 : w2.cell? ⟨g,3,none⟩ = some _ := Blk.cell hop rfl
       have e0 : w2.cell? ⟨b,0,none⟩ = some (.int .i64 n) := Blk.cell HB2.out rfl
       clear hkk hk2 hop hg z0 z1 z2 z3 z4 z5 z6 z7 z8 b0 b1 HB HK HCHK hbw
       have hno : K = false → R = false := fun h => by rw [HR2.out,decide_eq_false (fun h2 => by have := HKP.out.2 h2.1;rw [h] at this;cases this)];rfl
       cases K with
       | false =>
         have HF := Lib.hid (hno rfl)
         clear hno
         go_wp2_with fail
         go_ret
         exact ⟨by rw [HF.out];rfl,HK2.out⟩
       | true =>
         have HOK := Lib.hid (HKP.out.1 rfl)
         have HN2 : Hid (∀ q,0 < i + 1 → l[i + 1 - 1]? = some q → q.epoch = oe ∧ q.site = os ∧ 0 ≤ os) := Lib.hid (fun q _ hq => by rw [Nat.add_sub_cancel,HO.out] at hq;injection hq with hq;subst hq;exact ⟨rfl,rfl,HOK.out.1.2.2.2.2.1⟩)
         have hon := HOK.out.1
         unfold placeP reignP at hon
         obtain ⟨hp1,hp2,_,_,_,_⟩ := hon
         simp only at hp1 hp2
         have hpl : n + 1 + (i : Int) = pn + 1 := by omega
         clear hno HKP HO
         by_cases hn : on = pn + 1
         case neg =>
          have hnb : (on == pn + 1) = false := beq_eq_false_iff_ne.2 hn
          have HF : Hid (R = false) := Lib.hid (by rw [HR2.out,decide_eq_false (fun h2 => hn h2.2.1)];rfl)
          go_wp2_with fail
          go_ret
          exact ⟨by rw [HF.out];rfl,HK2.out⟩
         have hnb : (on == pn + 1) = true := beq_iff_eq.2 hn
         have hnb2 : (on != pn + 1) = false := by rw [bne,hnb];rfl
         by_cases he : oe = pe
         · have hel : decide (oe < pe) = false := decide_eq_false (by omega)
           have heg : decide (pe < oe) = false := decide_eq_false (by omega)
           have heb : (oe == pe) = true := beq_iff_eq.2 he
           by_cases k3 : ok = 3
           · have k3b : (ok == 3) = true := beq_iff_eq.2 k3
             have HF : Hid (R = false) := Lib.hid (by rw [HR2.out,decide_eq_false (fun h2 => by rcases h2.2.2 with h | h;exact absurd h.2 (by show ¬ pe < oe;omega);exact h.1 k3)];rfl)
             clear he k3
             go_wp2_with fail
             go_quiet (fail)
             go_wp2_with fail
             go_ret
             exact ⟨by rw [HF.out];rfl,HK2.out.drewN _⟩
           · have k3b : (ok == 3) = false := beq_eq_false_iff_ne.2 k3
             have HG : Hid (R = rowGo (pn + 1) oe os (l.drop (i + 1))) := Lib.hid (by rw [HR2.out,decide_eq_true (show nextP pn pe ps _ from ⟨HOK.out,hn,.inr ⟨k3,he,.inl (by omega)⟩⟩)];show rowGo on oe os _ = _;rw [hn])
             clear he k3
             go_wp2_with fail
             go_quiet (fail)
             go_wp2_with fail
             go_roundw
             case rel => exact ⟨i + 1,pn + 1,oe,os,by omega,by go_num,by omega,fun h => by omega,HN2,Lib.hid (HB2.out.kept ((Kp.refl No w2).drewN _) (fun x => x)),HG,Lib.hid (HK2.out.drewN _)⟩
             case measure => simp [intOf];omega
         · have heb : (oe == pe) = false := beq_eq_false_iff_ne.2 he
           by_cases hlt2 : oe < pe
           · have hel : decide (oe < pe) = true := decide_eq_true hlt2
             have HF : Hid (R = false) := Lib.hid (by rw [HR2.out,decide_eq_false (fun h2 => by rcases h2.2.2 with h | h;exact absurd h.2 (by show ¬ pe < oe;omega);exact he h.2.1)];rfl)
             clear he hlt2
             go_wp2_with fail
             go_quiet (fail)
             go_wp2_with fail
             go_ret
             exact ⟨by rw [HF.out];rfl,HK2.out.drewN _⟩
           · have hel : decide (oe < pe) = false := decide_eq_false hlt2
             have hgt : pe < oe := by omega
             have heg : decide (pe < oe) = true := decide_eq_true hgt
             by_cases k3 : ok = 3
             · have k3b : (ok == 3) = true := beq_iff_eq.2 k3
               have k3c : (ok != 3) = false := by rw [bne,k3b];rfl
               have HG : Hid (R = rowGo (pn + 1) oe os (l.drop (i + 1))) := Lib.hid (by rw [HR2.out,decide_eq_true (show nextP pn pe ps _ from ⟨HOK.out,hn,.inl ⟨k3,hgt⟩⟩)];show rowGo on oe os _ = _;rw [hn])
               clear he hlt2 hgt k3
               go_wp2_with fail
               go_quiet (fail)
               go_wp2_with fail
               go_roundw
               case rel => exact ⟨i + 1,pn + 1,oe,os,by omega,by go_num,by omega,fun h => by omega,HN2,Lib.hid (HB2.out.kept ((Kp.refl No w2).drewN _) (fun x => x)),HG,Lib.hid (HK2.out.drewN _)⟩
               case measure => simp [intOf];omega
             · have k3b : (ok == 3) = false := beq_eq_false_iff_ne.2 k3
               have k3c : (ok != 3) = true := by rw [bne,k3b];rfl
               have HF : Hid (R = false) := Lib.hid (by rw [HR2.out,decide_eq_false (fun h2 => by rcases h2.2.2 with h | h;exact k3 h.1;exact he h.2.1)];rfl)
               clear he hlt2 hgt k3
               go_wp2_with fail
               go_quiet (fail)
               go_wp2_with fail
               go_ret
               exact ⟨by rw [HF.out];rfl,HK2.out.drewN _⟩
     · have hi0 : (0 : Int) < (i : Int) := by omega
       have hi0b : decide ((0 : Int) < (i : Int)) = true := decide_eq_true hi0
       obtain ⟨j,hj⟩ : ∃ j,i = j + 1 := ⟨i - 1,by omega⟩
       obtain ⟨q,hq⟩ : ∃ q,l[j]? = some q := ⟨_,List.getElem?_eq_getElem (by omega)⟩
       obtain ⟨hqe,hqs,hq0⟩ := HQ.out q (by omega) (by rw [hj,Nat.add_sub_cancel];exact hq)
       obtain ⟨ad2,A3,c3,hA2,_,hcq,_,_⟩ := Rp.at_opl (Rp.opl.slice.keptNo HL.out HK.out) hq
       rw [hA] at hA2
       injection hA2 with hA2
       subst hA2 hA
       obtain ⟨_,q1,_,q3,_,_,_,_,_⟩ := opl_cells hcq
       rw [hqe] at q1
       rw [hqs] at q3
       have hij : (i : Int) - 1 = (j : Int) := by omega
       have hjl : (j : Int) < (l.length : Int) := by omega
       have hj0 : ¬ (j : Int) < 0 := by omega
       have hqw : (ad.add (j * 9)).block < wr.heap.size := by
        have h := lt_of_cell q1
        exact h
       clear ho hz h0 HQ hcq hq hqe hqs hj
       obtain ⟨on,oe,ok,os,oc,oq,onm,osz,ohs⟩ := o
       simp only at *
       go_wp2_with fail
       refine (HCHK.out _ ((Kp.refl _ _).alloc _)).mono ?_
       rintro x w2 ⟨rfl,hk2⟩
       have hkk : Kp No wr w2 := ((Kp.refl No wr).alloc _).trans' hk2
       have hop := Blk.kept (Blk.new wr [.int .i64 on,.int .i64 oe,.int .i64 ok,.int .i64 os,.int .i64 oc,.int .i64 oq,.string onm,.int .i64 osz,.slice A2 ohs.length c2] 36) hk2 (fun x => x)
       obtain ⟨g,hg⟩ : ∃ g,wr.heap.size = g := ⟨_,rfl⟩
       rw [hg] at hop
       rw [hg]
       have HB2 := Lib.hid (Blk.kept HB.out hkk (fun x => x))
       have HK2 := Lib.hid (HK.out.trans' hkk)
       have y0 : w2.cell? ⟨g,0,none⟩ = some _ := Blk.cell hop rfl
       have y1 : w2.cell? ⟨g,1,none⟩ = some _ := Blk.cell hop rfl
       have y2 : w2.cell? ⟨g,2,none⟩ = some _ := Blk.cell hop rfl
       have y3 : w2.cell? ⟨g,3,none⟩ = some _ := Blk.cell hop rfl
       have e0 : w2.cell? ⟨b,0,none⟩ = some (.int .i64 n) := Blk.cell HB2.out rfl
       have hl3 := lt_of_cell q3
       have q3b := (hkk.cell hl3 (fun x => x)).trans q3
       clear hl3
       clear hkk hk2 hop hg z0 z1 z2 z3 z4 z5 z6 z7 z8 b0 b1 q1 q3 HB HK HCHK hbw hqw
       have hno : K = false → R = false := fun h => by rw [HR2.out,decide_eq_false (fun h2 => by have := HKP.out.2 h2.1;rw [h] at this;cases this)];rfl
       cases K with
       | false =>
         have HF := Lib.hid (hno rfl)
         clear hno
         go_wp2_with fail
         go_ret
         exact ⟨by rw [HF.out];rfl,HK2.out⟩
       | true =>
         have HOK := Lib.hid (HKP.out.1 rfl)
         have HN2 : Hid (∀ q,0 < i + 1 → l[i + 1 - 1]? = some q → q.epoch = oe ∧ q.site = os ∧ 0 ≤ os) := Lib.hid (fun q _ hq => by rw [Nat.add_sub_cancel,HO.out] at hq;injection hq with hq;subst hq;exact ⟨rfl,rfl,HOK.out.1.2.2.2.2.1⟩)
         have hon := HOK.out.1
         unfold placeP reignP at hon
         obtain ⟨hp1,hp2,_,_,_,_⟩ := hon
         simp only at hp1 hp2
         have hpl : n + 1 + (i : Int) = pn + 1 := by omega
         clear hno HKP HO
         by_cases hn : on = pn + 1
         case neg =>
          have hnb : (on == pn + 1) = false := beq_eq_false_iff_ne.2 hn
          have HF : Hid (R = false) := Lib.hid (by rw [HR2.out,decide_eq_false (fun h2 => hn h2.2.1)];rfl)
          go_wp2_with fail
          go_ret
          exact ⟨by rw [HF.out];rfl,HK2.out⟩
         have hnb : (on == pn + 1) = true := beq_iff_eq.2 hn
         have hnb2 : (on != pn + 1) = false := by rw [bne,hnb];rfl
         by_cases he : oe = pe
         · have hel : decide (oe < pe) = false := decide_eq_false (by omega)
           have heg : decide (pe < oe) = false := decide_eq_false (by omega)
           have heb : (oe == pe) = true := beq_iff_eq.2 he
           by_cases k3 : ok = 3
           · have k3b : (ok == 3) = true := beq_iff_eq.2 k3
             have HF : Hid (R = false) := Lib.hid (by rw [HR2.out,decide_eq_false (fun h2 => by rcases h2.2.2 with h | h;exact absurd h.2 (by show ¬ pe < oe;omega);exact h.1 k3)];rfl)
             clear he k3
             go_wp2_with fail
             go_quiet (fail)
             go_wp2_with fail
             go_ret
             exact ⟨by rw [HF.out];rfl,HK2.out.drewN _⟩
           · have k3b : (ok == 3) = false := beq_eq_false_iff_ne.2 k3
             have hsn : ¬ ps < 0 := by omega
             by_cases hss : os = ps
             · have hssb : (os == ps) = true := beq_iff_eq.2 hss
               have hssc : (os != ps) = false := by rw [bne,hssb];rfl
               have HG : Hid (R = rowGo (pn + 1) oe os (l.drop (i + 1))) := Lib.hid (by rw [HR2.out,decide_eq_true (show nextP pn pe ps _ from ⟨HOK.out,hn,.inr ⟨k3,he,.inr hss⟩⟩)];show rowGo on oe os _ = _;rw [hn])
               clear he k3 hss
               go_wp2_with fail
               go_quiet (fail)
               go_wp2_with fail
               go_roundw
               case rel => exact ⟨i + 1,pn + 1,oe,os,by omega,by go_num,by omega,fun h => by omega,HN2,Lib.hid (HB2.out.kept ((Kp.refl No w2).drewN _) (fun x => x)),HG,Lib.hid (HK2.out.drewN _)⟩
               case measure => simp [intOf];omega
             · have hssb : (os == ps) = false := beq_eq_false_iff_ne.2 hss
               have hssc : (os != ps) = true := by rw [bne,hssb];rfl
               have HF : Hid (R = false) := Lib.hid (by rw [HR2.out,decide_eq_false (fun h2 => by rcases h2.2.2 with h | h;exact k3 h.1;rcases h.2.2 with h | h;exact hsn h;exact hss h)];rfl)
               clear he k3 hss
               go_wp2_with fail
               go_quiet (fail)
               go_wp2_with fail
               go_ret
               exact ⟨by rw [HF.out];rfl,HK2.out.drewN _⟩
         · have heb : (oe == pe) = false := beq_eq_false_iff_ne.2 he
           by_cases hlt2 : oe < pe
           · have hel : decide (oe < pe) = true := decide_eq_true hlt2
             have HF : Hid (R = false) := Lib.hid (by rw [HR2.out,decide_eq_false (fun h2 => by rcases h2.2.2 with h | h;exact absurd h.2 (by show ¬ pe < oe;omega);exact he h.2.1)];rfl)
             clear he hlt2
             go_wp2_with fail
             go_quiet (fail)
             go_wp2_with fail
             go_ret
             exact ⟨by rw [HF.out];rfl,HK2.out.drewN _⟩
           · have hel : decide (oe < pe) = false := decide_eq_false hlt2
             have hgt : pe < oe := by omega
             have heg : decide (pe < oe) = true := decide_eq_true hgt
             by_cases k3 : ok = 3
             · have k3b : (ok == 3) = true := beq_iff_eq.2 k3
               have k3c : (ok != 3) = false := by rw [bne,k3b];rfl
               have HG : Hid (R = rowGo (pn + 1) oe os (l.drop (i + 1))) := Lib.hid (by rw [HR2.out,decide_eq_true (show nextP pn pe ps _ from ⟨HOK.out,hn,.inl ⟨k3,hgt⟩⟩)];show rowGo on oe os _ = _;rw [hn])
               clear he hlt2 hgt k3
               go_wp2_with fail
               go_quiet (fail)
               go_wp2_with fail
               go_roundw
               case rel => exact ⟨i + 1,pn + 1,oe,os,by omega,by go_num,by omega,fun h => by omega,HN2,Lib.hid (HB2.out.kept ((Kp.refl No w2).drewN _) (fun x => x)),HG,Lib.hid (HK2.out.drewN _)⟩
               case measure => simp [intOf];omega
             · have k3b : (ok == 3) = false := beq_eq_false_iff_ne.2 k3
               have k3c : (ok != 3) = true := by rw [bne,k3b];rfl
               have HF : Hid (R = false) := Lib.hid (by rw [HR2.out,decide_eq_false (fun h2 => by rcases h2.2.2 with h | h;exact k3 h.1;exact he h.2.1)];rfl)
               clear he hlt2 hgt k3
               go_wp2_with fail
               go_quiet (fail)
               go_wp2_with fail
               go_ret
               exact ⟨by rw [HF.out];rfl,HK2.out.drewN _⟩
   · obtain rfl : i = l.length := by omega
     have HT : Hid (R = true) := Lib.hid (by rw [HR.out,List.drop_length];rfl)
     go_wp2_with fail
     go_ret
     exact ⟨by rw [HT.out];rfl,HK.out⟩
end Go.Proofs.YtjlbacfedfkilaaGreat
