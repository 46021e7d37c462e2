/-
  deed.Check: which commands may be.
-/
import Derived.Test.YtjlbacfedfkilaaGreatGC
namespace Go.Proofs.YtjlbacfedfkilaaGreat
open Go.RowKit Go.ChangeShapes Go.WideShapes Go.ChangeAt
def noneP (o : OpL) : Prop := o.n = 0 ∧ o.epoch = 0 ∧ o.kind = 0 ∧ o.site = 0 ∧ blankP o
instance (o : OpL) : Decidable (noneP o) := by unfold noneP;exact inferInstance
def shortP (c : CmdL) : Prop := c.after = 0 ∧ c.since = 0 ∧ c.ops.length = 0
instance (c : CmdL) : Decidable (shortP c) := by unfold shortP;exact inferInstance
def nobodyP (c : CmdL) : Prop := c.epoch = 0 ∧ c.site = 0
instance (c : CmdL) : Decidable (nobodyP c) := by unfold nobodyP;exact inferInstance
def tagP (n : Int) : Prop := 0 ≤ n ∧ n ≤ 1099511627776
instance (n : Int) : Decidable (tagP n) := by unfold tagP;exact inferInstance
def ownP (o : OpL) : Prop := o.n = 0 ∧ o.epoch = 0 ∧ o.site = 0 ∧ o.kind ≠ 3
instance (o : OpL) : Decidable (ownP o) := by unfold ownP;exact inferInstance
def OpL.placed (o : OpL) (n e s : Int) : OpL := { o with n := n,epoch := e,site := s }
def shipP (c : CmdL) : Prop := c.ops.length ≤ 8 ∧ c.since ≤ c.epoch
instance (c : CmdL) : Decidable (shipP c) := by unfold shipP;exact inferInstance
def markP (c : CmdL) : Prop := 1 ≤ c.after ∧ c.after ≤ 80 ∧ 1 ≤ c.since ∧ c.since ≤ c.epoch
instance (c : CmdL) : Decidable (markP c) := by unfold markP;exact inferInstance
theorem noneP_b (o : OpL) : decide (noneP o) = ((o.n == 0) && ((o.epoch == 0) && ((o.kind == 0) && ((o.site == 0) && decide (blankP o))))) := by
 rw [Bool.eq_iff_iff,decide_eq_true_iff];simp [noneP]
theorem shortP_b (c : CmdL) : decide (shortP c) = ((c.after == 0) && ((c.since == 0) && ((c.ops.length : Int) == 0))) := by
 rw [Bool.eq_iff_iff,decide_eq_true_iff];simp [shortP]
theorem nobodyP_b (c : CmdL) : decide (nobodyP c) = ((c.epoch == 0) && (c.site == 0)) := by
 rw [Bool.eq_iff_iff,decide_eq_true_iff];simp [nobodyP]
theorem ownP_b (o : OpL) : decide (ownP o) = ((o.n == 0) && ((o.epoch == 0) && ((o.site == 0) && (o.kind != 3)))) := by
 rw [Bool.eq_iff_iff,decide_eq_true_iff];simp [ownP]
def okC (c : CmdL) : Bool :=
 if c.kind = 0 then decide (noneP c.op) && (decide (shortP c) && (decide (nobodyP c) && decide (c.tag = 0)))
 else if c.kind = 1 then decide (ownP c.op) && (decide (shortP c) && (decide (tagP c.tag) && okOp (c.op.placed 1 c.epoch c.site)))
 else if c.kind = 2 then decide (noneP c.op) && (decide (shortP c) && (decide (nobodyP c) && decide (tagP c.tag)))
 else if c.kind = 3 then (decide (noneP c.op) && (decide (c.tag = 0) && (decide (reignP c.epoch c.site) && (decide (shipP c) && rowB c.after c.since c.ops)))) && c.ops.all (fun o => decide (o.epoch ≤ c.epoch))
 else if c.kind = 4 then decide (noneP c.op) && (decide (shortP c) && (decide (c.tag = 0) && decide (reignP c.epoch c.site)))
 else if c.kind = 5 then decide (noneP c.op) && (decide (c.ops.length = 0) && (decide (c.tag = 0) && (decide (reignP c.epoch c.site) && decide (markP c))))
 else false
def cmdV (c : CmdL) (hv ov : Value) : Value := .agg #[.int .i64 c.kind,.int .i64 c.epoch,.int .i64 c.site,.int .i64 c.op.n,.int .i64 c.op.epoch,.int .i64 c.op.kind,.int .i64 c.op.site,.int .i64 c.op.client,.int .i64 c.op.seq,.string c.op.name,.int .i64 c.op.size,hv,.int .i64 c.after,.int .i64 c.since,ov,.int .i64 c.tag]
set_option maxRecDepth 100000 in
theorem c_tagged (n : Int) (w : World) : Calls Tryz.prog 90 #[.int .i64 n] w fun x w' => x = .returned (.bool (decide (tagP n))) ∧ w' = w := by
 by_cases h : tagP n
 · rw [decide_eq_true h]
   obtain ⟨h1,h2⟩ := h
   go_enter Tryz.func90,Tryz.ntmps90
   go_wp2_with fail
   go_ret
   exact ⟨rfl,rfl⟩
 · rw [decide_eq_false h]
   unfold tagP at h
   have HN := Lib.hid h
   clear h
   go_enter Tryz.func90,Tryz.ntmps90
   go_wp2_with fail
   all_goals
    go_ret
    first
     | exact ⟨rfl,rfl⟩
     | (exfalso;have := HN.out;omega)
     | (refine ⟨?_,rfl⟩;have := HN.out;simp;omega)
set_option maxRecDepth 100000 in
set_option maxHeartbeats 4000000 in
theorem c_checkC (c : CmdL) (A B : Option Addr) (ca cb : Nat) (w : World) (S : Nat → Prop) (hh : Rp.str.slice.R w S [.slice A c.op.hashes.length ca] c.op.hashes) (ho : Rp.opl.slice.R w S [.slice B c.ops.length cb] c.ops) (hsz : -9223372036854775808 ≤ c.op.size ∧ c.op.size < 9223372036854775808)
 (hll : c.op.hashes.length ≤ 1000000) (hol : c.ops.length ≤ 1000000) (hsm : ∀ o ∈ c.ops,o.hashes.length ≤ 1000000) :
 Calls Tryz.prog 33 #[cmdV c (.slice A c.op.hashes.length ca) (.slice B c.ops.length cb)] w fun x w' => x = .returned (.int .i64 (if okC c then 0 else 3)) ∧ Kp No w w' := by
 have hbl := fun w1 => c_blank c.op A ca w1
 have hcp := fun w1 (hk : Kp No w w1) => c_checkop (c.op.placed 1 c.epoch c.site) A ca w1 S (Rp.str.slice.keptNo hh hk) hsz hll
 have hrw := fun w1 (hk : Kp No w w1) => c_row c.after c.since c.ops B cb w1 S (Rp.opl.slice.keptNo ho hk) hol hsm
 have hrg := fun w1 => c_reigned c.epoch c.site w1
 have htg := fun w1 => c_tagged c.tag w1
 have HBL := Lib.hid hbl
 have HCP := Lib.hid hcp
 have HRW := Lib.hid hrw
 have HRG := Lib.hid hrg
 have HTG := Lib.hid htg
 have HO := Lib.hid ho
 obtain ⟨b0,e0⟩ : ∃ b,(c.op.n == 0) = b := ⟨_,rfl⟩
 obtain ⟨b1,e1⟩ : ∃ b,(c.op.epoch == 0) = b := ⟨_,rfl⟩
 obtain ⟨b2,e2⟩ : ∃ b,(c.op.kind == 0) = b := ⟨_,rfl⟩
 obtain ⟨b3,e3⟩ : ∃ b,(c.op.site == 0) = b := ⟨_,rfl⟩
 obtain ⟨b4,e4⟩ : ∃ b,(c.op.kind != 3) = b := ⟨_,rfl⟩
 obtain ⟨b5,e5⟩ : ∃ b,decide (blankP c.op) = b := ⟨_,rfl⟩
 obtain ⟨c0,f0⟩ : ∃ b,(c.after == 0) = b := ⟨_,rfl⟩
 obtain ⟨c1,f1⟩ : ∃ b,(c.since == 0) = b := ⟨_,rfl⟩
 obtain ⟨c2,f2⟩ : ∃ b,((c.ops.length : Int) == 0) = b := ⟨_,rfl⟩
 obtain ⟨d0,g0⟩ : ∃ b,(c.epoch == 0) = b := ⟨_,rfl⟩
 obtain ⟨d1,g1⟩ : ∃ b,(c.site == 0) = b := ⟨_,rfl⟩
 obtain ⟨t0,h0⟩ : ∃ b,(c.tag == 0) = b := ⟨_,rfl⟩
 obtain ⟨t1,h1⟩ : ∃ b,decide (tagP c.tag) = b := ⟨_,rfl⟩
 obtain ⟨r1,hr1⟩ : ∃ b,decide (reignP c.epoch c.site) = b := ⟨_,rfl⟩
 obtain ⟨o1,ho1⟩ : ∃ b,okOp (c.op.placed 1 c.epoch c.site) = b := ⟨_,rfl⟩
 obtain ⟨w1,hw1⟩ : ∃ b,rowB c.after c.since c.ops = b := ⟨_,rfl⟩
 obtain ⟨N,hN⟩ : ∃ N,decide (noneP c.op) = N := ⟨_,rfl⟩
 obtain ⟨Sh,hS⟩ : ∃ Sh,decide (shortP c) = Sh := ⟨_,rfl⟩
 obtain ⟨Nb,hB⟩ : ∃ Nb,decide (nobodyP c) = Nb := ⟨_,rfl⟩
 obtain ⟨Ow,hOw⟩ : ∃ Ow,decide (ownP c.op) = Ow := ⟨_,rfl⟩
 obtain ⟨K,hK⟩ : ∃ K,okC c = K := ⟨_,rfl⟩
 rw [hK]
 obtain ⟨R,hR⟩ : ∃ R : Int,(if K = true then 0 else 3) = R := ⟨_,rfl⟩
 rw [hR]
 have HR := Lib.hid hR
 have HN : Hid (N = (b0 && (b1 && (b2 && (b3 && b5))))) := Lib.hid (by rw [← hN,noneP_b,e0,e1,e2,e3,e5])
 have HS : Hid (Sh = (c0 && (c1 && c2))) := Lib.hid (by rw [← hS,shortP_b,f0,f1,f2])
 have HNB : Hid (Nb = (d0 && d1)) := Lib.hid (by rw [← hB,nobodyP_b,g0,g1])
 have HOW : Hid (Ow = (b0 && (b1 && (b3 && b4)))) := Lib.hid (by rw [← hOw,ownP_b,e0,e1,e3,e4])
 have hT : decide (c.tag = 0) = t0 := by rw [← h0];rfl
 have hC2 : decide (c.ops.length = 0) = c2 := by rw [← f2,Bool.eq_iff_iff];simp
 have hKE := hK.symm
 unfold okC at hKE
 rw [hN,hS,hB,hOw,hT,h1,ho1,hr1,hw1,hC2] at hKE
 have HKE := Lib.hid hKE
 rw [hw1] at HRW
 rw [ho1] at HCP
 rw [hr1] at HRG
 rw [h1] at HTG
 rw [e5] at HBL
 unfold shipP markP at HKE
 unfold cmdV
 unfold OpL.placed opV at *
 obtain ⟨k,ep,st,⟨on,oe,ok,os,oc,oq,onm,osz,ohs⟩,af,si,ops,tg⟩ := c
 simp only at *
 clear hbl hcp hrw hrg htg ho hN hS hB hK hR hh hOw hT hC2 hKE h1 ho1 hr1 hw1 e5
 go_enter Tryz.func33,Tryz.ntmps33
 go_upto_region 1 with fail
 obtain ⟨g,hg⟩ : ∃ g,w.heap.size = g := ⟨_,rfl⟩
 obtain ⟨wa,hwa⟩ : ∃ wa,w.alloc (.cells #[.int .i64 k,.int .i64 ep,.int .i64 st,.int .i64 on,.int .i64 oe,.int .i64 ok,.int .i64 os,.int .i64 oc,.int .i64 oq,.string onm,.int .i64 osz,.slice A ohs.length ca,.int .i64 af,.int .i64 si,.slice B ops.length cb,.int .i64 tg] 39) = wa := ⟨_,rfl⟩
 have hk1 : Kp No w wa := by rw [← hwa];exact (Kp.refl _ _).alloc _
 have hb1 : Blk wa g 39 [.int .i64 k,.int .i64 ep,.int .i64 st,.int .i64 on,.int .i64 oe,.int .i64 ok,.int .i64 os,.int .i64 oc,.int .i64 oq,.string onm,.int .i64 osz,.slice A ohs.length ca,.int .i64 af,.int .i64 si,.slice B ops.length cb,.int .i64 tg] := by rw [← hwa,← hg];exact Blk.new w _ _
 have HK1 := Lib.hid hk1
 have HB1 := Lib.hid hb1
 have z0 : wa.cell? ⟨g,0,none⟩ = some _ := Blk.cell hb1 rfl
 have z1 : wa.cell? ⟨g,1,none⟩ = some _ := Blk.cell hb1 rfl
 have z2 : wa.cell? ⟨g,2,none⟩ = some _ := Blk.cell hb1 rfl
 have z3 : wa.cell? ⟨g,3,none⟩ = some _ := Blk.cell hb1 rfl
 have z4 : wa.cell? ⟨g,4,none⟩ = some _ := Blk.cell hb1 rfl
 have z5 : wa.cell? ⟨g,5,none⟩ = some _ := Blk.cell hb1 rfl
 have z6 : wa.cell? ⟨g,6,none⟩ = some _ := Blk.cell hb1 rfl
 have z7 : wa.cell? ⟨g,7,none⟩ = some _ := Blk.cell hb1 rfl
 have z8 : wa.cell? ⟨g,8,none⟩ = some _ := Blk.cell hb1 rfl
 have z9 : wa.cell? ⟨g,9,none⟩ = some _ := Blk.cell hb1 rfl
 have z10 : wa.cell? ⟨g,10,none⟩ = some _ := Blk.cell hb1 rfl
 have z11 : wa.cell? ⟨g,11,none⟩ = some _ := Blk.cell hb1 rfl
 have z12 : wa.cell? ⟨g,12,none⟩ = some _ := Blk.cell hb1 rfl
 have z13 : wa.cell? ⟨g,13,none⟩ = some _ := Blk.cell hb1 rfl
 have z14 : wa.cell? ⟨g,14,none⟩ = some _ := Blk.cell hb1 rfl
 have z15 : wa.cell? ⟨g,15,none⟩ = some _ := Blk.cell hb1 rfl
 rw [hwa,hg]
 clear hwa hg hk1 hb1
 go_cut [3] (fun b wx => b = .bool N ∧ Hid (Kp No wa wx))
 case first =>
  rename_i y0 y1 y2 y3 y4 y5 y6
  revert y0
  as_aux_lemma =>
   intros
   cases b0
   · skip
     go_wp2_with fail
     go_meet
     exact ⟨by rw [HN.out];rfl,Lib.hid (Kp.refl _ _)⟩
   cases b1
   · skip
     go_wp2_with fail
     go_meet
     exact ⟨by rw [HN.out];rfl,Lib.hid (Kp.refl _ _)⟩
   cases b2
   · skip
     go_wp2_with fail
     go_meet
     exact ⟨by rw [HN.out];rfl,Lib.hid (Kp.refl _ _)⟩
   cases b3
   · skip
     go_wp2_with fail
     go_meet
     exact ⟨by rw [HN.out];rfl,Lib.hid (Kp.refl _ _)⟩
   go_wp2_with fail
   refine (HBL.out _).mono ?_
   rintro e w' ⟨rfl,hk⟩
   have HKX := Lib.hid hk
   clear hk
   go_wp2_with fail
   go_meet
   exact ⟨by rw [HN.out];rfl,HKX⟩
 case rest =>
 obtain ⟨rfl,HKX⟩ := hcut
 have hbx := Blk.kept HB1.out HKX.out (fun x => x)
 have HKW := Lib.hid (HK1.out.trans' HKX.out)
 have HBW := Lib.hid hbx
 clear z0 z1 z2 z3 z4 z5 z6 z7 z8 z9 z10 z11 z12 z13 z14 z15 HB1 HK1 HKX HBL
 have z0 : wc.cell? ⟨g,0,none⟩ = some _ := Blk.cell hbx rfl
 have z1 : wc.cell? ⟨g,1,none⟩ = some _ := Blk.cell hbx rfl
 have z2 : wc.cell? ⟨g,2,none⟩ = some _ := Blk.cell hbx rfl
 have z3 : wc.cell? ⟨g,3,none⟩ = some _ := Blk.cell hbx rfl
 have z4 : wc.cell? ⟨g,4,none⟩ = some _ := Blk.cell hbx rfl
 have z5 : wc.cell? ⟨g,5,none⟩ = some _ := Blk.cell hbx rfl
 have z6 : wc.cell? ⟨g,6,none⟩ = some _ := Blk.cell hbx rfl
 have z7 : wc.cell? ⟨g,7,none⟩ = some _ := Blk.cell hbx rfl
 have z8 : wc.cell? ⟨g,8,none⟩ = some _ := Blk.cell hbx rfl
 have z9 : wc.cell? ⟨g,9,none⟩ = some _ := Blk.cell hbx rfl
 have z10 : wc.cell? ⟨g,10,none⟩ = some _ := Blk.cell hbx rfl
 have z11 : wc.cell? ⟨g,11,none⟩ = some _ := Blk.cell hbx rfl
 have z12 : wc.cell? ⟨g,12,none⟩ = some _ := Blk.cell hbx rfl
 have z13 : wc.cell? ⟨g,13,none⟩ = some _ := Blk.cell hbx rfl
 have z14 : wc.cell? ⟨g,14,none⟩ = some _ := Blk.cell hbx rfl
 have z15 : wc.cell? ⟨g,15,none⟩ = some _ := Blk.cell hbx rfl
 clear hbx
 go_upto_region 2 with fail
 go_cut [4] (fun b wz => b = .bool Sh ∧ wz = wc)
 case first =>
  rename_i y0 y1 y2 y3 y4 y5 y6
  revert y0
  as_aux_lemma =>
   intros
   cases c0
   · skip
     go_wp2_with fail
     go_meet
     exact ⟨by rw [HS.out];rfl,rfl⟩
   cases c1
   · skip
     go_wp2_with fail
     go_meet
     exact ⟨by rw [HS.out];rfl,rfl⟩
   go_wp2_with fail
   go_meet
   exact ⟨by rw [HS.out];rfl,rfl⟩
 case rest =>
 obtain ⟨rfl,rfl⟩ := hcut
 go_upto_region 3 with fail
 go_cut [5] (fun b wz => b = .bool Nb ∧ wz = wc)
 case first =>
  rename_i y0 y1 y2 y3 y4 y5 y6
  revert y0
  as_aux_lemma =>
   intros
   cases d0
   · skip
     go_wp2_with fail
     go_meet
     exact ⟨by rw [HNB.out];rfl,rfl⟩
   go_wp2_with fail
   go_meet
   exact ⟨by rw [HNB.out];rfl,rfl⟩
 case rest =>
 obtain ⟨rfl,rfl⟩ := hcut
 by_cases k0 : k = 0
 · subst k0
   rw [if_pos rfl] at HKE
   clear HCP HRW HRG HTG
   rename_i y0
   revert y0
   as_aux_lemma =>
    intros
    cases N
    · skip
      go_wp2_with fail
      go_ret
      exact ⟨by rw [← HR.out,HKE.out];rfl,HKW.out⟩
    cases Sh
    · skip
      go_wp2_with fail
      go_ret
      exact ⟨by rw [← HR.out,HKE.out];rfl,HKW.out⟩
    cases Nb
    · skip
      go_wp2_with fail
      go_ret
      exact ⟨by rw [← HR.out,HKE.out];rfl,HKW.out⟩
    cases t0
    all_goals
     go_wp2_with fail
     go_ret
     exact ⟨by rw [← HR.out,HKE.out];rfl,HKW.out⟩
 rw [if_neg k0] at HKE
 have k0b : (k == 0) = false := beq_eq_false_iff_ne.2 k0
 clear k0
 by_cases k1 : k = 1
 · subst k1
   rw [if_pos rfl] at HKE
   clear HRW HRG
   rename_i y0
   revert y0
   as_aux_lemma =>
    intros
    skip
    go_upto_region 10 with fail
    obtain ⟨o,ho⟩ : ∃ o,wc.heap.size = o := ⟨_,rfl⟩
    obtain ⟨wb,hwb⟩ : ∃ wb,wc.alloc (.cells #[.int .i64 on,.int .i64 oe,.int .i64 ok,.int .i64 os,.int .i64 oc,.int .i64 oq,.string onm,.int .i64 osz,.slice A ohs.length ca] 36) = wb := ⟨_,rfl⟩
    have hkb : Kp No wc wb := by rw [← hwb];exact (Kp.refl _ _).alloc _
    have hbo : Blk wb o 36 [.int .i64 on,.int .i64 oe,.int .i64 ok,.int .i64 os,.int .i64 oc,.int .i64 oq,.string onm,.int .i64 osz,.slice A ohs.length ca] := by rw [← hwb,← ho];exact Blk.new wc _ _
    have hbg := Blk.kept HBW.out hkb (fun x => x)
    have hgo : g ≠ o := by have := Blk.lt HBW.out;omega
    have HKB := Lib.hid (HKW.out.trans' hkb)
    have HBO := Lib.hid hbo
    have HBG := Lib.hid hbg
    have how : w.heap.size ≤ o := by rw [← ho];exact HKW.out.size
    have HOWN := Lib.hid how
    clear z0 z1 z2 z3 z4 z5 z6 z7 z8 z9 z10 z11 z12 z13 z14 z15 how
    rw [hwb,ho]
    clear HBW HKW hwb ho hkb
    have y0 : wb.cell? ⟨o,0,none⟩ = some _ := Blk.cell hbo rfl
    have y1 : wb.cell? ⟨o,1,none⟩ = some _ := Blk.cell hbo rfl
    have y2 : wb.cell? ⟨o,2,none⟩ = some _ := Blk.cell hbo rfl
    have y3 : wb.cell? ⟨o,3,none⟩ = some _ := Blk.cell hbo rfl
    have y4 : wb.cell? ⟨o,4,none⟩ = some _ := Blk.cell hbo rfl
    have y5 : wb.cell? ⟨o,5,none⟩ = some _ := Blk.cell hbo rfl
    have y6 : wb.cell? ⟨o,6,none⟩ = some _ := Blk.cell hbo rfl
    have y7 : wb.cell? ⟨o,7,none⟩ = some _ := Blk.cell hbo rfl
    have y8 : wb.cell? ⟨o,8,none⟩ = some _ := Blk.cell hbo rfl
    have z1 : wb.cell? ⟨g,1,none⟩ = some _ := Blk.cell hbg rfl
    have z2 : wb.cell? ⟨g,2,none⟩ = some _ := Blk.cell hbg rfl
    clear hbo hbg
    go_cut [8] (fun b wz => b = .bool Ow ∧ wz = wb)
    case first =>
     cases b0
     · skip
       go_wp2_with fail
       go_meet
       exact ⟨by rw [HOW.out];rfl,rfl⟩
     cases b1
     · skip
       go_wp2_with fail
       go_meet
       exact ⟨by rw [HOW.out];rfl,rfl⟩
     cases b3
     · skip
       go_wp2_with fail
       go_meet
       exact ⟨by rw [HOW.out];rfl,rfl⟩
     cases b4
     all_goals
      go_wp2_with fail
      go_meet
      exact ⟨by rw [HOW.out];rfl,rfl⟩
    case rest =>
    obtain ⟨rfl,rfl⟩ := hcut
    clear y0 y1 y2 y3 y4 y5 y6 y7 y8
    have f0 := Blk.fr HBO.out 0
    have f1 := Blk.fr HBO.out 1
    have f3 := Blk.fr HBO.out 3
    have y0 : wc.cell? ⟨o,0,none⟩ = some _ := Blk.cell HBO.out rfl
    have y1 : wc.cell? ⟨o,1,none⟩ = some _ := Blk.cell HBO.out rfl
    have y3 : wc.cell? ⟨o,3,none⟩ = some _ := Blk.cell HBO.out rfl
    go_upto_region 11 with fail
    refine Reg.wp_region_plan [⟨0,false,[]⟩,⟨1,false,[]⟩,⟨2,false,[]⟩,⟨3,false,[]⟩,⟨4,false,[]⟩,⟨5,true,[0,1,2,3]⟩,⟨6,false,[]⟩,⟨7,true,[2,3]⟩,⟨8,false,[]⟩,⟨9,true,[]⟩] rfl (by kernel_rfl) ?_
    repeat (first | (refine Reg.look rfl rfl rfl (by go_simp;rfl) rfl ?_;go_simp) | (refine Reg.skip rfl rfl rfl ?_;go_simp))
    refine Reg.act rfl ?_
    go_wp2_with fail
    (refine ⟨?anew,?_⟩;case anew => ((repeat (refine Reg.anew_cons rfl rfl (fun _ => by go_simp) ?_));exact Reg.anew_nil))
    repeat (first | (refine Reg.look rfl rfl rfl (by go_simp;rfl) rfl ?_;go_simp) | (refine Reg.skip rfl rfl rfl ?_;go_simp))
    refine Reg.act rfl ?_
    go_wp2_with fail
    (refine ⟨?anew,?_⟩;case anew => ((repeat (refine Reg.anew_cons rfl rfl (fun _ => by go_simp) ?_));exact Reg.anew_nil))
    repeat (first | (refine Reg.look rfl rfl rfl (by go_simp;rfl) rfl ?_;go_simp) | (refine Reg.skip rfl rfl rfl ?_;go_simp))
    refine Reg.act rfl ?_
    go_wp2_with fail
    (refine ⟨?anew,?_⟩;case anew => ((repeat (refine Reg.anew_cons rfl rfl (fun _ => by go_simp) ?_));exact Reg.anew_nil))
    repeat (first | (refine Reg.look rfl rfl rfl (by go_simp;rfl) rfl ?_;go_simp) | (refine Reg.skip rfl rfl rfl ?_;go_simp))
    (refine Reg.done ?_;simp only [Exit.then])
    obtain ⟨w4,hw4⟩ : ∃ w4,(((wc.setCell ⟨o,0,none⟩ (.int .i64 1)).setCell ⟨o,1,none⟩ (.int .i64 ep)).setCell ⟨o,3,none⟩ (.int .i64 st)).drew = w4 := ⟨_,rfl⟩
    have hk4 : Kp (· = o) wc w4 := by rw [← hw4];exact ((((Kp.refl (· = o) wc).setCell (p := ⟨o,0,none⟩) (fun _ => rfl) _).setCell (p := ⟨o,1,none⟩) (fun _ => rfl) _).setCell (p := ⟨o,3,none⟩) (fun _ => rfl) _).drew
    have hb4 : Blk w4 o 36 [.int .i64 1,.int .i64 ep,.int .i64 ok,.int .i64 st,.int .i64 oc,.int .i64 oq,.string onm,.int .i64 osz,.slice A ohs.length ca] := by rw [← hw4];exact Blk.set (Blk.set (Blk.set HBO.out 0 (.int .i64 1)) 1 (.int .i64 ep)) 3 (.int .i64 st)
    have hg4 := Blk.kept HBG.out hk4 (fun h => hgo h)
    have HK4 : Hid (Kp No w w4) := Lib.hid (HKB.out.trans hk4 (fun i hi e => absurd HOWN.out (by omega)))
    rw [hw4]
    clear hw4 hk4 y0 y1 y3 z1 z2 HBO HBG HKB HOWN f0 f1 f3
    have y0 : w4.cell? ⟨o,0,none⟩ = some _ := Blk.cell hb4 rfl
    have y1 : w4.cell? ⟨o,1,none⟩ = some _ := Blk.cell hb4 rfl
    have y2 : w4.cell? ⟨o,2,none⟩ = some _ := Blk.cell hb4 rfl
    have y3 : w4.cell? ⟨o,3,none⟩ = some _ := Blk.cell hb4 rfl
    have y4 : w4.cell? ⟨o,4,none⟩ = some _ := Blk.cell hb4 rfl
    have y5 : w4.cell? ⟨o,5,none⟩ = some _ := Blk.cell hb4 rfl
    have y6 : w4.cell? ⟨o,6,none⟩ = some _ := Blk.cell hb4 rfl
    have y7 : w4.cell? ⟨o,7,none⟩ = some _ := Blk.cell hb4 rfl
    have y8 : w4.cell? ⟨o,8,none⟩ = some _ := Blk.cell hb4 rfl
    have z15 : w4.cell? ⟨g,15,none⟩ = some _ := Blk.cell hg4 rfl
    clear hb4 hg4
    cases Ow
    · skip
      go_wp2_with fail
      go_ret
      exact ⟨by rw [← HR.out,HKE.out];rfl,HK4.out⟩
    cases Sh
    · skip
      go_wp2_with fail
      go_ret
      exact ⟨by rw [← HR.out,HKE.out];rfl,HK4.out⟩
    go_wp2_with fail
    refine (HTG.out _).mono ?_
    rintro e w' ⟨rfl,rfl⟩
    cases t1
    · skip
      go_wp2_with fail
      go_ret
      exact ⟨by rw [← HR.out,HKE.out];rfl,HK4.out⟩
    cases o1
    all_goals
     simp only [Bool.false_eq_true,if_false,if_true] at HCP
     go_wp2_with fail
     refine (HCP.out _ HK4.out).mono ?_
     rintro e w' ⟨rfl,hk⟩
     have HK5 := Lib.hid (HK4.out.trans' hk)
     clear hk HK4
     go_wp2_with fail
     go_ret
     exact ⟨by rw [← HR.out,HKE.out];rfl,HK5.out⟩
 rw [if_neg k1] at HKE
 have k1b : (k == 1) = false := beq_eq_false_iff_ne.2 k1
 clear k1 HCP
 by_cases k2 : k = 2
 · subst k2
   rw [if_pos rfl] at HKE
   clear HRW HRG
   rename_i y0
   revert y0
   as_aux_lemma =>
    intros
    skip
    cases N
    · skip
      go_wp2_with fail
      go_ret
      exact ⟨by rw [← HR.out,HKE.out];rfl,HKW.out⟩
    cases Sh
    · skip
      go_wp2_with fail
      go_ret
      exact ⟨by rw [← HR.out,HKE.out];rfl,HKW.out⟩
    cases Nb
    · skip
      go_wp2_with fail
      go_ret
      exact ⟨by rw [← HR.out,HKE.out];rfl,HKW.out⟩
    go_wp2_with fail
    refine (HTG.out _).mono ?_
    rintro e w' ⟨rfl,rfl⟩
    cases t1
    all_goals
     go_wp2_with fail
     go_ret
     exact ⟨by rw [← HR.out,HKE.out];rfl,HKW.out⟩
 rw [if_neg k2] at HKE
 have k2b : (k == 2) = false := beq_eq_false_iff_ne.2 k2
 clear k2 HTG
 by_cases k3 : k = 3
 · subst k3
   rw [if_pos rfl] at HKE
   rename_i y0
   revert y0
   as_aux_lemma =>
    intros
    skip
    obtain ⟨l1,hl1⟩ : ∃ b,decide (ops.length ≤ 8) = b := ⟨_,rfl⟩
    obtain ⟨l2,hl2⟩ : ∃ b,decide (si ≤ ep) = b := ⟨_,rfl⟩
    obtain ⟨V,hV⟩ : ∃ V,(N && (t0 && (r1 && (decide (ops.length ≤ 8 ∧ si ≤ ep) && w1)))) = V := ⟨_,rfl⟩
    rw [hV] at HKE
    have hV2 : V = (N && (t0 && (r1 && (l1 && (l2 && w1))))) := by
     rw [← hV,← hl1,← hl2]
     congr 3
     rw [← Bool.and_assoc]
     congr 1
     rw [Bool.eq_iff_iff];simp
    have HV := Lib.hid hV2
    have hq : ops.all (fun o => decide (o.epoch ≤ ep)) = ops.all (fun o => decide (o.epoch ≤ ep)) := rfl
    have hol8 : (ops.length : Int) ≤ 8 ↔ ops.length ≤ 8 := by omega
    have HL1 := Lib.hid hl1
    have HL2 := Lib.hid hl2
    have HOL8 := Lib.hid hol8
    clear hV hV2 hq hl1 hl2 hol8
    go_upto_region 16 with fail
    go_cut [6] (fun b wx => b = .bool V ∧ Hid (Kp No wc wx))
    case first =>
     cases N
     · skip
       go_wp2_with fail
       go_meet
       exact ⟨by rw [HV.out];rfl,Lib.hid (Kp.refl _ _)⟩
     cases t0
     · skip
       go_wp2_with fail
       go_meet
       exact ⟨by rw [HV.out];rfl,Lib.hid (Kp.refl _ _)⟩
     go_wp2_with fail
     refine (HRG.out _).mono ?_
     rintro e w' ⟨rfl,rfl⟩
     cases r1
     · skip
       go_wp2_with fail
       go_meet
       exact ⟨by rw [HV.out];rfl,Lib.hid (Kp.refl _ _)⟩
     cases l1
     · have l1n : ¬ (ops.length : Int) ≤ 8 := fun h => by have := decide_eq_false_iff_not.1 HL1.out;exact this (HOL8.out.1 h)
       go_wp2_with fail
       go_meet
       exact ⟨by rw [HV.out];rfl,Lib.hid (Kp.refl _ _)⟩
     have l1p : (ops.length : Int) ≤ 8 := HOL8.out.2 (decide_eq_true_iff.1 HL1.out)
     cases l2
     · have l2n : decide (si ≤ ep) = false := HL2.out
       go_wp2_with fail
       go_meet
       exact ⟨by rw [HV.out];rfl,Lib.hid (Kp.refl _ _)⟩
     have l2p : si ≤ ep := decide_eq_true_iff.1 HL2.out
     go_wp2_with fail
     refine (HRW.out _ HKW.out).mono ?_
     rintro e w' ⟨rfl,hk⟩
     have HKX := Lib.hid hk
     clear hk
     go_wp2_with fail
     go_meet
     exact ⟨by rw [HV.out];rfl,HKX⟩
    case rest =>
    obtain ⟨rfl,HKX⟩ := hcut
    have hbx := Blk.kept HBW.out HKX.out (fun x => x)
    have HK2 := Lib.hid (HKW.out.trans' HKX.out)
    have HB2 := Lib.hid hbx
    clear z0 z1 z2 z3 z4 z5 z6 z7 z8 z9 z10 z11 z12 z13 z14 z15 HBW HKW HKX HV HRG HRW HL1 HL2 HOL8
    have z1 : wc.cell? ⟨g,1,none⟩ = some _ := Blk.cell hbx rfl
    have z14 : wc.cell? ⟨g,14,none⟩ = some _ := Blk.cell hbx rfl
    clear hbx e0 e1 e2 e3 e4 f0 f1 f2 g0 g1 h0
    go_wp2_with fail
    go_loopw [6,174] (fun bv iv wr => ∃ i : Nat,i ≤ ops.length ∧ bv = .bool (V && (ops.take i).all (fun o => decide (o.epoch ≤ ep))) ∧ iv = .int .i64 (i : Int) ∧ Hid (Blk wr g 39 [.int .i64 3,.int .i64 ep,.int .i64 st,.int .i64 on,.int .i64 oe,.int .i64 ok,.int .i64 os,.int .i64 oc,.int .i64 oq,.string onm,.int .i64 osz,.slice A ohs.length ca,.int .i64 af,.int .i64 si,.slice B ops.length cb,.int .i64 tg]) ∧ Hid (Kp No w wr)) (fun _ iv _ => ops.length - (intOf iv).toNat)
    case atStart => exact ⟨0,Nat.zero_le _,by simp,rfl,HB2,HK2⟩
    case round =>
     clear HB2 HK2 z1 z14
     obtain ⟨i,hi,rfl,rfl,HB,HK⟩ := hrel
     have z1 : wr.cell? ⟨g,1,none⟩ = some _ := Blk.cell HB.out rfl
     by_cases hlt : i < ops.length
     · have hli : (i : Int) < (ops.length : Int) := by omega
       obtain ⟨o,ho⟩ : ∃ o,ops[i]? = some o := ⟨_,List.getElem?_eq_getElem hlt⟩
       obtain ⟨ad,A2,c2,rfl,_,hcell,hnum,hhs⟩ := Rp.at_opl (Rp.opl.slice.keptNo HO.out HK.out) ho
       obtain ⟨y0,y1,y2,y3,y4,y5,y6,y7,y8⟩ := opl_cells hcell
       obtain ⟨q,hq⟩ : ∃ q,decide (o.epoch ≤ ep) = q := ⟨_,rfl⟩
       have hstep : (V && (ops.take (i + 1)).all (fun o => decide (o.epoch ≤ ep))) = ((V && (ops.take i).all (fun o => decide (o.epoch ≤ ep))) && q) := by
        rw [List.take_add_one,ho,List.all_append,← Bool.and_assoc]
        simp [hq]
       have HST := Lib.hid hstep
       obtain ⟨U,hU⟩ : ∃ U,(V && (ops.take i).all (fun o => decide (o.epoch ≤ ep))) = U := ⟨_,rfl⟩
       rw [hU] at HST
       rw [hU]
       clear hstep hU ho hcell hnum hhs HKE
       obtain ⟨xn,xe,xk,xs,xc,xq,xnm,xsz,xhs⟩ := o
       simp only at *
       have hlg : wr.heap.size ≠ g := by have := Blk.lt HB.out;omega
       have HB3 := Lib.hid (Blk.kept HB.out ((Kp.refl No wr).alloc (.cells #[.int .i64 xn,.int .i64 xe,.int .i64 xk,.int .i64 xs,.int .i64 xc,.int .i64 xq,.string xnm,.int .i64 xsz,.slice A2 xhs.length c2] 36)) (fun x => x))
       have z1n : (wr.alloc (.cells #[.int .i64 xn,.int .i64 xe,.int .i64 xk,.int .i64 xs,.int .i64 xc,.int .i64 xq,.string xnm,.int .i64 xsz,.slice A2 xhs.length c2] 36)).cell? ⟨g,1,none⟩ = some _ := Blk.cell HB3.out rfl
       cases U
       all_goals
        go_wp2_with fail
        go_roundw
        case rel => exact ⟨i + 1,by omega,by rw [HST.out];rfl,by go_num,HB3,Lib.hid (HK.out.alloc _)⟩
        case measure => simp [intOf];omega
     · obtain rfl : i = ops.length := by omega
       have hU : (V && (ops.take ops.length).all (fun o => decide (o.epoch ≤ ep))) = K := by rw [List.take_length,HKE.out]
       rw [hU]
       clear hU HKE
       cases K
       all_goals
        go_wp2_with fail
        go_ret
        exact ⟨by rw [← HR.out];rfl,HK.out⟩
 rw [if_neg k3] at HKE
 have k3b : (k == 3) = false := beq_eq_false_iff_ne.2 k3
 clear k3 HRW
 by_cases k4 : k = 4
 · subst k4
   rw [if_pos rfl] at HKE
   rename_i y0
   revert y0
   as_aux_lemma =>
    intros
    skip
    cases N
    · skip
      go_wp2_with fail
      go_ret
      exact ⟨by rw [← HR.out,HKE.out];rfl,HKW.out⟩
    cases Sh
    · skip
      go_wp2_with fail
      go_ret
      exact ⟨by rw [← HR.out,HKE.out];rfl,HKW.out⟩
    cases t0
    · skip
      go_wp2_with fail
      go_ret
      exact ⟨by rw [← HR.out,HKE.out];rfl,HKW.out⟩
    go_wp2_with fail
    refine (HRG.out _).mono ?_
    rintro e w' ⟨rfl,rfl⟩
    cases r1
    all_goals
     go_wp2_with fail
     go_ret
     exact ⟨by rw [← HR.out,HKE.out];rfl,HKW.out⟩
 rw [if_neg k4] at HKE
 have k4b : (k == 4) = false := beq_eq_false_iff_ne.2 k4
 clear k4
 by_cases k5 : k = 5
 · subst k5
   rw [if_pos rfl] at HKE
   rename_i y0
   revert y0
   as_aux_lemma =>
    intros
    skip
    cases N
    · skip
      go_wp2_with fail
      go_ret
      exact ⟨by rw [← HR.out,HKE.out];rfl,HKW.out⟩
    cases c2
    · skip
      go_wp2_with fail
      go_ret
      exact ⟨by rw [← HR.out,HKE.out];rfl,HKW.out⟩
    cases t0
    · skip
      go_wp2_with fail
      go_ret
      exact ⟨by rw [← HR.out,HKE.out];rfl,HKW.out⟩
    go_wp2_with fail
    refine (HRG.out _).mono ?_
    rintro e w' ⟨rfl,rfl⟩
    cases r1
    · skip
      go_wp2_with fail
      go_ret
      exact ⟨by rw [← HR.out,HKE.out];rfl,HKW.out⟩
    by_cases m1 : 1 ≤ af
    · by_cases m2 : af ≤ 80
      · by_cases m3 : 1 ≤ si
        · by_cases m4 : si ≤ ep
          · have hm : decide (1 ≤ af ∧ af ≤ 80 ∧ 1 ≤ si ∧ si ≤ ep) = true := decide_eq_true ⟨m1,m2,m3,m4⟩
            rw [hm] at HKE
            clear hm
            go_wp2_with fail
            go_ret
            exact ⟨by rw [← HR.out,HKE.out];rfl,HKW.out⟩
          · have hm : decide (1 ≤ af ∧ af ≤ 80 ∧ 1 ≤ si ∧ si ≤ ep) = false := decide_eq_false (fun h => m4 h.2.2.2)
            rw [hm] at HKE
            have m4b : decide (si ≤ ep) = false := decide_eq_false m4
            clear hm m4
            go_wp2_with fail
            go_ret
            exact ⟨by rw [← HR.out,HKE.out];rfl,HKW.out⟩
        · have hm : decide (1 ≤ af ∧ af ≤ 80 ∧ 1 ≤ si ∧ si ≤ ep) = false := decide_eq_false (fun h => m3 h.2.2.1)
          rw [hm] at HKE
          clear hm
          go_wp2_with fail
          go_ret
          exact ⟨by rw [← HR.out,HKE.out];rfl,HKW.out⟩
      · have hm : decide (1 ≤ af ∧ af ≤ 80 ∧ 1 ≤ si ∧ si ≤ ep) = false := decide_eq_false (fun h => m2 h.2.1)
        rw [hm] at HKE
        clear hm
        go_wp2_with fail
        go_ret
        exact ⟨by rw [← HR.out,HKE.out];rfl,HKW.out⟩
    · have hm : decide (1 ≤ af ∧ af ≤ 80 ∧ 1 ≤ si ∧ si ≤ ep) = false := decide_eq_false (fun h => m1 h.1)
      rw [hm] at HKE
      clear hm
      go_wp2_with fail
      go_ret
      exact ⟨by rw [← HR.out,HKE.out];rfl,HKW.out⟩
 rw [if_neg k5] at HKE
 have k5b : (k == 5) = false := beq_eq_false_iff_ne.2 k5
 clear k5 HRG
 rename_i y0
 revert y0
 as_aux_lemma =>
  intros
  skip
  go_wp2_with fail
  go_ret
  exact ⟨by rw [← HR.out,HKE.out];rfl,HKW.out⟩
end Go.Proofs.YtjlbacfedfkilaaGreat
