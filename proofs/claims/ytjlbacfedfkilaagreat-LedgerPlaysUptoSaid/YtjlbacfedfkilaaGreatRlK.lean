/-
  The document's commands: Right.
-/
import Derived.Test.YtjlbacfedfkilaaGreatDeed7
import Derived.Test.YtjlbacfedfkilaaGreatRow
import Derived.Test.YtjlbacfedfkilaaGreatGH
namespace Go.Proofs.YtjlbacfedfkilaaGreat
open Go.RowKit Go.ChangeShapes Go.WideShapes Go.ChangeAt
theorem rowGo_rise : ∀ (l : List OpL) (n e s : Int),rowGo n e s l = true → e ≤ (rowEnd n e s l).2.1 ∧ ∀ o ∈ l,o.epoch ≤ (rowEnd n e s l).2.1
 | [],n,e,s,_ => ⟨Int.le_refl _,fun o ho => by simp at ho⟩
 | o1 :: t,n,e,s,h => by
   unfold rowGo at h
   rw [Bool.and_eq_true,decide_eq_true_iff] at h
   obtain ⟨h1,h2⟩ := rowGo_rise t o1.n o1.epoch o1.site h.2
   have h3 : e ≤ o1.epoch := by rcases h.1.2.2 with h3 | h3 <;> omega
   unfold rowEnd
   refine ⟨Int.le_trans h3 h1,fun o ho => ?_⟩
   rcases List.mem_cons.1 ho with rfl | ho
   · exact h1
   · exact h2 o ho
theorem row_all {n e : Int} {l : List OpL} (h : rowB n e l = true) (ep : Int) {m : Nat} {o : OpL} (hl : l.length = m + 1) (ho : l[m]? = some o) : (l.all fun o => decide (o.epoch ≤ ep)) = decide (o.epoch ≤ ep) := by
 unfold rowB at h
 rw [Bool.and_eq_true] at h
 have h1 := (rowGo_rise l n e (-1) h.2).2
 have h2 := rowEnd_take ho n e (-1)
 rw [List.take_of_length_le (by omega)] at h2
 rw [h2] at h1
 rw [Bool.eq_iff_iff,List.all_eq_true,decide_eq_true_iff]
 constructor
 · intro h3
   have := h3 o (List.mem_of_getElem? ho)
   simpa using this
 · intro h3 x hx
   have := h1 x hx
   simp only at this
   rw [decide_eq_true_iff];omega
theorem okOp_site {o : OpL} {e s : Int} (h : decide (reignP e s) = false) : okOp (o.placed 1 e s) = false := by
 unfold okOp
 rw [decide_eq_false_iff_not] at h ⊢
 intro h2
 exact h h2.1.2.2
theorem reign_b (e s : Int) : decide (reignP e s) = (decide (1 ≤ e) && (decide (e ≤ 16) && (decide (0 ≤ s) && decide (s ≤ 1)))) := by
 rw [Bool.eq_iff_iff,decide_eq_true_iff];simp [reignP]
theorem tag_b (n : Int) : decide (tagP n) = (decide (0 ≤ n) && decide (n ≤ 1099511627776)) := by
 rw [Bool.eq_iff_iff,decide_eq_true_iff];simp [tagP]
theorem mark_b (af si ep : Int) : decide (1 ≤ af ∧ af ≤ 80 ∧ 1 ≤ si ∧ si ≤ ep) = (decide (1 ≤ af) && (decide (af ≤ 80) && (decide (1 ≤ si) && decide (si ≤ ep)))) := by
 rw [Bool.eq_iff_iff,decide_eq_true_iff];simp
theorem and_pl (N Sh X : Bool) : (N && (Sh && X)) = ((N && Sh) && X) := by cases N <;> rfl
set_option maxRecDepth 100000 in
set_option maxHeartbeats 8000000 in
theorem r_rightC (c : CmdL) (A B : Option Addr) (ca cb : Nat) (w : World) (S : Nat → Prop) (hh : Rp.str.slice.R w S [.slice A c.op.hashes.length ca] c.op.hashes) (ho : Rp.opl.slice.R w S [.slice B c.ops.length cb] c.ops) (hsz : -9223372036854775808 ≤ c.op.size ∧ c.op.size < 9223372036854775808)
 (hll : c.op.hashes.length ≤ 1000000) (hol : c.ops.length ≤ 1000000) (hsm : ∀ o ∈ c.ops,o.hashes.length ≤ 1000000) :
 Calls Tryz.prog 39 #[cmdV c (.slice A c.op.hashes.length ca) (.slice B c.ops.length cb)] w fun x w' => x = .returned (.bool (okC c)) ∧ Kp No w w' := by
 have hbl := fun w1 => r_zero c.op A ca w1
 have hcp := fun w1 (hk : Kp No w w1) => r_rightop (c.op.placed 1 c.epoch c.site) A ca w1 S (Rp.str.slice.keptNo hh hk) hsz hll
 have hrw := fun w1 (hk : Kp No w w1) => r_row c.after c.since c.ops B cb w1 S (Rp.opl.slice.keptNo ho hk) hol hsm
 have HBL := Lib.hid hbl
 have HCP := Lib.hid hcp
 have HRW := Lib.hid hrw
 have HO := Lib.hid ho
 obtain ⟨b0,e0⟩ : ∃ b,(c.op.n == 0) = b := ⟨_,rfl⟩
 obtain ⟨b1,e1⟩ : ∃ b,(c.op.epoch == 0) = b := ⟨_,rfl⟩
 obtain ⟨b2,e2⟩ : ∃ b,(c.op.kind == 0) = b := ⟨_,rfl⟩
 obtain ⟨b3,e3⟩ : ∃ b,(c.op.site == 0) = b := ⟨_,rfl⟩
 obtain ⟨b4,e4⟩ : ∃ b,(c.op.kind != 3) = b := ⟨_,rfl⟩
 obtain ⟨b5,e5⟩ : ∃ b,decide (blankP c.op) = b := ⟨_,rfl⟩
 obtain ⟨c0,f0⟩ : ∃ b,(c.after == 0) = b := ⟨_,rfl⟩
 obtain ⟨c1,f1⟩ : ∃ b,(c.since == 0) = b := ⟨_,rfl⟩
 obtain ⟨c2,f2⟩ : ∃ b,((c.ops.length : Int) == 0) = b := ⟨_,rfl⟩
 obtain ⟨d0,g0⟩ : ∃ b,(c.epoch == 0) = b := ⟨_,rfl⟩
 obtain ⟨d1,g1⟩ : ∃ b,(c.site == 0) = b := ⟨_,rfl⟩
 obtain ⟨t0,h0⟩ : ∃ b,(c.tag == 0) = b := ⟨_,rfl⟩
 obtain ⟨t1,h1⟩ : ∃ b,decide (tagP c.tag) = b := ⟨_,rfl⟩
 obtain ⟨r1,hr1⟩ : ∃ b,decide (reignP c.epoch c.site) = b := ⟨_,rfl⟩
 obtain ⟨o1,ho1⟩ : ∃ b,okOp (c.op.placed 1 c.epoch c.site) = b := ⟨_,rfl⟩
 obtain ⟨w1,hw1⟩ : ∃ b,rowB c.after c.since c.ops = b := ⟨_,rfl⟩
 obtain ⟨N,hN⟩ : ∃ N,decide (noneP c.op) = N := ⟨_,rfl⟩
 obtain ⟨Ow,hOw⟩ : ∃ Ow,decide (ownP c.op) = Ow := ⟨_,rfl⟩
 obtain ⟨Pl,hPl⟩ : ∃ Pl,(N && (c0 && (c1 && c2))) = Pl := ⟨_,rfl⟩
 obtain ⟨K,hK⟩ : ∃ K,okC c = K := ⟨_,rfl⟩
 rw [hK]
 have HN : Hid (N = (b0 && (b1 && (b2 && (b3 && b5))))) := Lib.hid (by rw [← hN,noneP_b,e0,e1,e2,e3,e5])
 have HOW : Hid (Ow = (b0 && (b1 && (b3 && b4)))) := Lib.hid (by rw [← hOw,ownP_b,e0,e1,e3,e4])
 have HPL : Hid (Pl = (N && (c0 && (c1 && c2)))) := Lib.hid hPl.symm
 have hS : decide (shortP c) = (c0 && (c1 && c2)) := by rw [shortP_b,f0,f1,f2]
 have hB : decide (nobodyP c) = (d0 && d1) := by rw [nobodyP_b,g0,g1]
 have hT : decide (c.tag = 0) = t0 := by rw [← h0];rfl
 have hC2 : decide (c.ops.length = 0) = c2 := by rw [← f2,Bool.eq_iff_iff];simp
 have HO1 : Hid (r1 = false → o1 = false) := Lib.hid (fun h => by rw [← ho1];exact okOp_site (by rw [hr1,h]))
 have HR1 : Hid (r1 = (decide (1 ≤ c.epoch) && (decide (c.epoch ≤ 16) && (decide (0 ≤ c.site) && decide (c.site ≤ 1))))) := Lib.hid (by rw [← hr1,reign_b])
 have HT1 : Hid (t1 = (decide (0 ≤ c.tag) && decide (c.tag ≤ 1099511627776))) := Lib.hid (by rw [← h1,tag_b])
 have HW1 : Hid (rowB c.after c.since c.ops = w1) := Lib.hid hw1
 have hKE := hK.symm
 unfold okC at hKE
 rw [hN,hS,hB,hOw,hT,h1,ho1,hr1,hw1,hC2] at hKE
 have HKE := Lib.hid hKE
 rw [hw1] at HRW
 rw [ho1] at HCP
 rw [e5] at HBL
 unfold shipP markP at HKE
 unfold cmdV
 unfold OpL.placed opV at *
 obtain ⟨k,ep,st,⟨on,oe,ok,os,oc,oq,onm,osz,ohs⟩,af,si,ops,tg⟩ := c
 simp only at *
 clear hbl hcp hrw ho hN hS hB hK hh hOw hT hC2 hKE h1 ho1 hr1 hw1 e5 hPl hsz hll hol hsm
 go_enter Tryz.func39,Tryz.ntmps39
 go_upto_region 1 with fail
 obtain ⟨g,hg⟩ : ∃ g,w.heap.size = g := ⟨_,rfl⟩
 obtain ⟨wa,hwa⟩ : ∃ wa,w.alloc (.cells #[.int .i64 k,.int .i64 ep,.int .i64 st,.int .i64 on,.int .i64 oe,.int .i64 ok,.int .i64 os,.int .i64 oc,.int .i64 oq,.string onm,.int .i64 osz,.slice A ohs.length ca,.int .i64 af,.int .i64 si,.slice B ops.length cb,.int .i64 tg] 39) = wa := ⟨_,rfl⟩
 have hk1 : Kp No w wa := by rw [← hwa];exact (Kp.refl _ _).alloc _
 have hb1 : Blk wa g 39 [.int .i64 k,.int .i64 ep,.int .i64 st,.int .i64 on,.int .i64 oe,.int .i64 ok,.int .i64 os,.int .i64 oc,.int .i64 oq,.string onm,.int .i64 osz,.slice A ohs.length ca,.int .i64 af,.int .i64 si,.slice B ops.length cb,.int .i64 tg] := by rw [← hwa,← hg];exact Blk.new w _ _
 have HK1 := Lib.hid hk1
 have HB1 := Lib.hid hb1
 have z0 : wa.cell? ⟨g,0,none⟩ = some _ := Blk.cell hb1 rfl
 have z1 : wa.cell? ⟨g,1,none⟩ = some _ := Blk.cell hb1 rfl
 have z2 : wa.cell? ⟨g,2,none⟩ = some _ := Blk.cell hb1 rfl
 have z3 : wa.cell? ⟨g,3,none⟩ = some _ := Blk.cell hb1 rfl
 have z4 : wa.cell? ⟨g,4,none⟩ = some _ := Blk.cell hb1 rfl
 have z5 : wa.cell? ⟨g,5,none⟩ = some _ := Blk.cell hb1 rfl
 have z6 : wa.cell? ⟨g,6,none⟩ = some _ := Blk.cell hb1 rfl
 have z7 : wa.cell? ⟨g,7,none⟩ = some _ := Blk.cell hb1 rfl
 have z8 : wa.cell? ⟨g,8,none⟩ = some _ := Blk.cell hb1 rfl
 have z9 : wa.cell? ⟨g,9,none⟩ = some _ := Blk.cell hb1 rfl
 have z10 : wa.cell? ⟨g,10,none⟩ = some _ := Blk.cell hb1 rfl
 have z11 : wa.cell? ⟨g,11,none⟩ = some _ := Blk.cell hb1 rfl
 have z12 : wa.cell? ⟨g,12,none⟩ = some _ := Blk.cell hb1 rfl
 have z13 : wa.cell? ⟨g,13,none⟩ = some _ := Blk.cell hb1 rfl
 have z14 : wa.cell? ⟨g,14,none⟩ = some _ := Blk.cell hb1 rfl
 have z15 : wa.cell? ⟨g,15,none⟩ = some _ := Blk.cell hb1 rfl
 rw [hwa,hg]
 clear hwa hg hk1 hb1
 go_cut [3] (fun b wx => b = .bool N ∧ Hid (Kp No wa wx))
 case first =>
  clear_value *
  as_aux_lemma =>
   cases b0
   · skip
     go_wp2_with fail
     go_meet
     exact ⟨by rw [HN.out];rfl,Lib.hid (Kp.refl _ _)⟩
   cases b1
   · skip
     go_wp2_with fail
     go_meet
     exact ⟨by rw [HN.out];rfl,Lib.hid (Kp.refl _ _)⟩
   cases b2
   · skip
     go_wp2_with fail
     go_meet
     exact ⟨by rw [HN.out];rfl,Lib.hid (Kp.refl _ _)⟩
   cases b3
   · skip
     go_wp2_with fail
     go_meet
     exact ⟨by rw [HN.out];rfl,Lib.hid (Kp.refl _ _)⟩
   go_wp2_with fail
   refine (HBL.out _).mono ?_
   rintro e w' ⟨rfl,hk⟩
   have HKX := Lib.hid hk
   clear hk
   go_wp2_with fail
   go_meet
   exact ⟨by rw [HN.out];rfl,HKX⟩
 case rest =>
 obtain ⟨rfl,HKX⟩ := hcut
 have hbx := Blk.kept HB1.out HKX.out (fun x => x)
 have HKW := Lib.hid (HK1.out.trans' HKX.out)
 have HBW := Lib.hid hbx
 clear z0 z1 z2 z3 z4 z5 z6 z7 z8 z9 z10 z11 z12 z13 z14 z15 HB1 HK1 HKX HBL
 have z0 : wc.cell? ⟨g,0,none⟩ = some _ := Blk.cell hbx rfl
 have z1 : wc.cell? ⟨g,1,none⟩ = some _ := Blk.cell hbx rfl
 have z2 : wc.cell? ⟨g,2,none⟩ = some _ := Blk.cell hbx rfl
 have z3 : wc.cell? ⟨g,3,none⟩ = some _ := Blk.cell hbx rfl
 have z4 : wc.cell? ⟨g,4,none⟩ = some _ := Blk.cell hbx rfl
 have z5 : wc.cell? ⟨g,5,none⟩ = some _ := Blk.cell hbx rfl
 have z6 : wc.cell? ⟨g,6,none⟩ = some _ := Blk.cell hbx rfl
 have z7 : wc.cell? ⟨g,7,none⟩ = some _ := Blk.cell hbx rfl
 have z8 : wc.cell? ⟨g,8,none⟩ = some _ := Blk.cell hbx rfl
 have z9 : wc.cell? ⟨g,9,none⟩ = some _ := Blk.cell hbx rfl
 have z10 : wc.cell? ⟨g,10,none⟩ = some _ := Blk.cell hbx rfl
 have z11 : wc.cell? ⟨g,11,none⟩ = some _ := Blk.cell hbx rfl
 have z12 : wc.cell? ⟨g,12,none⟩ = some _ := Blk.cell hbx rfl
 have z13 : wc.cell? ⟨g,13,none⟩ = some _ := Blk.cell hbx rfl
 have z14 : wc.cell? ⟨g,14,none⟩ = some _ := Blk.cell hbx rfl
 have z15 : wc.cell? ⟨g,15,none⟩ = some _ := Blk.cell hbx rfl
 clear hbx
 go_upto_region 2 with fail
 go_cut [4] (fun b wz => b = .bool r1 ∧ wz = wc)
 case first =>
  clear_value *
  as_aux_lemma =>
   by_cases p1 : 1 ≤ ep
   case neg =>
    rw [decide_eq_false p1] at HR1
    go_wp2_with fail
    go_meet
    exact ⟨by rw [HR1.out];rfl,rfl⟩
   by_cases p2 : ep ≤ 16
   case neg =>
    rw [decide_eq_true p1,decide_eq_false p2] at HR1
    go_wp2_with fail
    go_meet
    exact ⟨by rw [HR1.out];rfl,rfl⟩
   by_cases p3 : 0 ≤ st
   case neg =>
    rw [decide_eq_true p1,decide_eq_true p2,decide_eq_false p3] at HR1
    go_wp2_with fail
    go_meet
    exact ⟨by rw [HR1.out];rfl,rfl⟩
   by_cases p4 : st ≤ 1
   case neg =>
    rw [decide_eq_true p1,decide_eq_true p2,decide_eq_true p3,decide_eq_false p4] at HR1
    go_wp2_with fail
    go_meet
    exact ⟨by rw [HR1.out];rfl,rfl⟩
   rw [decide_eq_true p1,decide_eq_true p2,decide_eq_true p3,decide_eq_true p4] at HR1
   go_wp2_with fail
   go_meet
   exact ⟨by rw [HR1.out];rfl,rfl⟩
 case rest =>
 obtain ⟨rfl,rfl⟩ := hcut
 go_upto_region 3 with fail
 go_cut [5] (fun b wz => b = .bool Pl ∧ wz = wc)
 case first =>
  clear_value *
  as_aux_lemma =>
   cases N
   · skip
     go_wp2_with fail
     go_meet
     exact ⟨by rw [HPL.out];rfl,rfl⟩
   cases c0
   · skip
     go_wp2_with fail
     go_meet
     exact ⟨by rw [HPL.out];rfl,rfl⟩
   cases c1
   · skip
     go_wp2_with fail
     go_meet
     exact ⟨by rw [HPL.out];rfl,rfl⟩
   cases c2
   all_goals
    go_wp2_with fail
    go_meet
    exact ⟨by rw [HPL.out];rfl,rfl⟩
 case rest =>
 obtain ⟨rfl,rfl⟩ := hcut
 go_upto_region 4 with fail
 go_cut [6] (fun b wz => b = .bool t1 ∧ wz = wc)
 case first =>
  clear_value *
  as_aux_lemma =>
   by_cases p1 : 0 ≤ tg
   case neg =>
    rw [decide_eq_false p1] at HT1
    go_wp2_with fail
    go_meet
    exact ⟨by rw [HT1.out];rfl,rfl⟩
   by_cases p2 : tg ≤ 1099511627776
   case neg =>
    rw [decide_eq_true p1,decide_eq_false p2] at HT1
    go_wp2_with fail
    go_meet
    exact ⟨by rw [HT1.out];rfl,rfl⟩
   rw [decide_eq_true p1,decide_eq_true p2] at HT1
   go_wp2_with fail
   go_meet
   exact ⟨by rw [HT1.out];rfl,rfl⟩
 case rest =>
 obtain ⟨rfl,rfl⟩ := hcut
 by_cases k0 : k = 0
 · subst k0
   rw [if_pos rfl] at HKE
   have HKE : Hid (K = (Pl && (d0 && (d1 && t0)))) := Lib.hid (by rw [HKE.out,and_pl,← HPL.out];cases d0 <;> rfl)
   clear HCP HRW
   rename_i y0
   revert y0
   as_aux_lemma =>
    intros
    cases Pl
    · skip
      go_wp2_with fail
      go_ret
      exact ⟨by rw [HKE.out];rfl,HKW.out⟩
    cases d0
    · skip
      go_wp2_with fail
      go_ret
      exact ⟨by rw [HKE.out];rfl,HKW.out⟩
    cases d1
    · skip
      go_wp2_with fail
      go_ret
      exact ⟨by rw [HKE.out];rfl,HKW.out⟩
    cases t0
    all_goals
     go_wp2_with fail
     go_ret
     exact ⟨by rw [HKE.out];rfl,HKW.out⟩
 rw [if_neg k0] at HKE
 have k0b : (k == 0) = false := beq_eq_false_iff_ne.2 k0
 clear k0
 by_cases k1 : k = 1
 · subst k1
   rw [if_pos rfl] at HKE
   clear HRW
   rename_i y0
   revert y0
   as_aux_lemma =>
    intros
    skip
    go_upto_region 10 with fail
    obtain ⟨o,ho⟩ : ∃ o,wc.heap.size = o := ⟨_,rfl⟩
    obtain ⟨wb,hwb⟩ : ∃ wb,wc.alloc (.cells #[.int .i64 on,.int .i64 oe,.int .i64 ok,.int .i64 os,.int .i64 oc,.int .i64 oq,.string onm,.int .i64 osz,.slice A ohs.length ca] 36) = wb := ⟨_,rfl⟩
    have hkb : Kp No wc wb := by rw [← hwb];exact (Kp.refl _ _).alloc _
    have hbo : Blk wb o 36 [.int .i64 on,.int .i64 oe,.int .i64 ok,.int .i64 os,.int .i64 oc,.int .i64 oq,.string onm,.int .i64 osz,.slice A ohs.length ca] := by rw [← hwb,← ho];exact Blk.new wc _ _
    have hbg := Blk.kept HBW.out hkb (fun x => x)
    have hgo : g ≠ o := by have := Blk.lt HBW.out;omega
    have HKB := Lib.hid (HKW.out.trans' hkb)
    have HBO := Lib.hid hbo
    have HBG := Lib.hid hbg
    have how : w.heap.size ≤ o := by rw [← ho];exact HKW.out.size
    have HOWN := Lib.hid how
    clear z0 z1 z2 z3 z4 z5 z6 z7 z8 z9 z10 z11 z12 z13 z14 z15 how
    rw [hwb,ho]
    clear HBW HKW hwb ho hkb
    have y0 : wb.cell? ⟨o,0,none⟩ = some _ := Blk.cell hbo rfl
    have y1 : wb.cell? ⟨o,1,none⟩ = some _ := Blk.cell hbo rfl
    have y2 : wb.cell? ⟨o,2,none⟩ = some _ := Blk.cell hbo rfl
    have y3 : wb.cell? ⟨o,3,none⟩ = some _ := Blk.cell hbo rfl
    have y4 : wb.cell? ⟨o,4,none⟩ = some _ := Blk.cell hbo rfl
    have y5 : wb.cell? ⟨o,5,none⟩ = some _ := Blk.cell hbo rfl
    have y6 : wb.cell? ⟨o,6,none⟩ = some _ := Blk.cell hbo rfl
    have y7 : wb.cell? ⟨o,7,none⟩ = some _ := Blk.cell hbo rfl
    have y8 : wb.cell? ⟨o,8,none⟩ = some _ := Blk.cell hbo rfl
    clear hbo
    go_cut [119] (fun b wz => b = .bool (!Ow) ∧ wz = wb)
    case first =>
     cases b0
     · have n0 : (on != 0) = true := by rw [bne,e0];rfl
       go_wp2_with fail
       go_meet
       exact ⟨by rw [HOW.out];rfl,rfl⟩
     have n0 : (on != 0) = false := by rw [bne,e0];rfl
     cases b1
     · have n1 : (oe != 0) = true := by rw [bne,e1];rfl
       go_wp2_with fail
       go_meet
       exact ⟨by rw [HOW.out];rfl,rfl⟩
     have n1 : (oe != 0) = false := by rw [bne,e1];rfl
     cases b3
     · have n3 : (os != 0) = true := by rw [bne,e3];rfl
       go_wp2_with fail
       go_meet
       exact ⟨by rw [HOW.out];rfl,rfl⟩
     have n3 : (os != 0) = false := by rw [bne,e3];rfl
     cases b4
     · have n4 : (ok == 3) = true := by have h := e4;rw [bne,Bool.not_eq_false'] at h;exact h
       go_wp2_with fail
       go_meet
       exact ⟨by rw [HOW.out];rfl,rfl⟩
     · have n4 : (ok == 3) = false := by have h := e4;rw [bne,Bool.not_eq_true'] at h;exact h
       go_wp2_with fail
       go_meet
       exact ⟨by rw [HOW.out];rfl,rfl⟩
    case rest =>
    obtain ⟨rfl,rfl⟩ := hcut
    clear y0 y1 y2 y3 y4 y5 y6 y7 y8
    have f0 := Blk.fr HBO.out 0
    have f1 := Blk.fr HBO.out 1
    have f3 := Blk.fr HBO.out 3
    have y0 : wc.cell? ⟨o,0,none⟩ = some _ := Blk.cell HBO.out rfl
    have y1 : wc.cell? ⟨o,1,none⟩ = some _ := Blk.cell HBO.out rfl
    have y2 : wc.cell? ⟨o,2,none⟩ = some _ := Blk.cell HBO.out rfl
    have y3 : wc.cell? ⟨o,3,none⟩ = some _ := Blk.cell HBO.out rfl
    have y4 : wc.cell? ⟨o,4,none⟩ = some _ := Blk.cell HBO.out rfl
    have y5 : wc.cell? ⟨o,5,none⟩ = some _ := Blk.cell HBO.out rfl
    have y6 : wc.cell? ⟨o,6,none⟩ = some _ := Blk.cell HBO.out rfl
    have y7 : wc.cell? ⟨o,7,none⟩ = some _ := Blk.cell HBO.out rfl
    have y8 : wc.cell? ⟨o,8,none⟩ = some _ := Blk.cell HBO.out rfl
    have z1 : wc.cell? ⟨g,1,none⟩ = some _ := Blk.cell HBG.out rfl
    have z2 : wc.cell? ⟨g,2,none⟩ = some _ := Blk.cell HBG.out rfl
    cases Ow
    · skip
      go_wp2_with fail
      go_ret
      exact ⟨by rw [HKE.out];rfl,HKB.out⟩
    clear y2 y4 y5 y6 y7 y8
    go_upto_region 15 with fail
    obtain ⟨w4,hw4⟩ : ∃ w4,(((wc.setCell ⟨o,0,none⟩ (.int .i64 1)).setCell ⟨o,1,none⟩ (.int .i64 ep)).setCell ⟨o,3,none⟩ (.int .i64 st)) = w4 := ⟨_,rfl⟩
    have hk4 : Kp (· = o) wc w4 := by rw [← hw4];exact (((Kp.refl (· = o) wc).setCell (p := ⟨o,0,none⟩) (fun _ => rfl) _).setCell (p := ⟨o,1,none⟩) (fun _ => rfl) _).setCell (p := ⟨o,3,none⟩) (fun _ => rfl) _
    have hb4 : Blk w4 o 36 [.int .i64 1,.int .i64 ep,.int .i64 ok,.int .i64 st,.int .i64 oc,.int .i64 oq,.string onm,.int .i64 osz,.slice A ohs.length ca] := by rw [← hw4];exact Blk.set (Blk.set (Blk.set HBO.out 0 _) 1 _) 3 _
    have hg4 := Blk.kept HBG.out hk4 (fun h => hgo h)
    have HK4 : Hid (Kp No w w4) := Lib.hid (HKB.out.trans hk4 (fun i hi e => absurd HOWN.out (by omega)))
    rw [hw4]
    clear hw4 hk4 y0 y1 y3 z1 z2 HBO HBG HKB HOWN f0 f1 f3
    have y0 : w4.cell? ⟨o,0,none⟩ = some _ := Blk.cell hb4 rfl
    have y1 : w4.cell? ⟨o,1,none⟩ = some _ := Blk.cell hb4 rfl
    have y2 : w4.cell? ⟨o,2,none⟩ = some _ := Blk.cell hb4 rfl
    have y3 : w4.cell? ⟨o,3,none⟩ = some _ := Blk.cell hb4 rfl
    have y4 : w4.cell? ⟨o,4,none⟩ = some _ := Blk.cell hb4 rfl
    have y5 : w4.cell? ⟨o,5,none⟩ = some _ := Blk.cell hb4 rfl
    have y6 : w4.cell? ⟨o,6,none⟩ = some _ := Blk.cell hb4 rfl
    have y7 : w4.cell? ⟨o,7,none⟩ = some _ := Blk.cell hb4 rfl
    have y8 : w4.cell? ⟨o,8,none⟩ = some _ := Blk.cell hb4 rfl
    have z12 : w4.cell? ⟨g,12,none⟩ = some _ := Blk.cell hg4 rfl
    have z13 : w4.cell? ⟨g,13,none⟩ = some _ := Blk.cell hg4 rfl
    have z14 : w4.cell? ⟨g,14,none⟩ = some _ := Blk.cell hg4 rfl
    clear hb4
    cases r1
    · have HKE : Hid (K = false) := Lib.hid (by rw [HKE.out,HO1.out rfl];cases c0 <;> cases c1 <;> cases c2 <;> cases t1 <;> rfl)
      go_wp2_with fail
      go_ret
      exact ⟨by rw [HKE.out];rfl,HK4.out⟩
    cases t1
    · have HKE : Hid (K = false) := Lib.hid (by rw [HKE.out];cases c0 <;> cases c1 <;> cases c2 <;> rfl)
      go_wp2_with fail
      go_ret
      exact ⟨by rw [HKE.out];rfl,HK4.out⟩
    go_wp2_with fail
    refine (HCP.out _ HK4.out).mono ?_
    rintro e w' ⟨rfl,hk⟩
    have hg5 := Blk.kept hg4 hk (fun h => h)
    have HK5 := Lib.hid (HK4.out.trans' hk)
    clear hk HK4 y0 y1 y2 y3 y4 y5 y6 y7 y8 z12 z13 z14 hg4
    have z12 : w'.cell? ⟨g,12,none⟩ = some _ := Blk.cell hg5 rfl
    have z13 : w'.cell? ⟨g,13,none⟩ = some _ := Blk.cell hg5 rfl
    have z14 : w'.cell? ⟨g,14,none⟩ = some _ := Blk.cell hg5 rfl
    clear hg5
    cases o1
    · have HKE : Hid (K = false) := Lib.hid (by rw [HKE.out];cases c0 <;> cases c1 <;> cases c2 <;> rfl)
      go_wp2_with fail
      go_ret
      exact ⟨by rw [HKE.out];rfl,HK5.out⟩
    cases c0
    · skip
      go_wp2_with fail
      go_ret
      exact ⟨by rw [HKE.out];rfl,HK5.out⟩
    cases c1
    · skip
      go_wp2_with fail
      go_ret
      exact ⟨by rw [HKE.out];rfl,HK5.out⟩
    cases c2
    all_goals
     go_wp2_with fail
     go_ret
     exact ⟨by rw [HKE.out];rfl,HK5.out⟩
 rw [if_neg k1] at HKE
 have k1b : (k == 1) = false := beq_eq_false_iff_ne.2 k1
 clear k1 HCP
 by_cases k2 : k = 2
 · subst k2
   rw [if_pos rfl] at HKE
   have HKE : Hid (K = (Pl && (d0 && (d1 && t1)))) := Lib.hid (by rw [HKE.out,and_pl,← HPL.out];cases d0 <;> rfl)
   clear HRW
   rename_i y0
   revert y0
   as_aux_lemma =>
    intros
    cases Pl
    · skip
      go_wp2_with fail
      go_ret
      exact ⟨by rw [HKE.out];rfl,HKW.out⟩
    cases d0
    · skip
      go_wp2_with fail
      go_ret
      exact ⟨by rw [HKE.out];rfl,HKW.out⟩
    cases d1
    · skip
      go_wp2_with fail
      go_ret
      exact ⟨by rw [HKE.out];rfl,HKW.out⟩
    cases t1
    all_goals
     go_wp2_with fail
     go_ret
     exact ⟨by rw [HKE.out];rfl,HKW.out⟩
 rw [if_neg k2] at HKE
 have k2b : (k == 2) = false := beq_eq_false_iff_ne.2 k2
 clear k2
 by_cases k3 : k = 3
 · subst k3
   rw [if_pos rfl] at HKE
   rename_i y0
   revert y0
   as_aux_lemma =>
    intros
    skip
    obtain ⟨l1,hl1⟩ : ∃ b,decide (ops.length ≤ 8) = b := ⟨_,rfl⟩
    obtain ⟨l2,hl2⟩ : ∃ b,decide (si ≤ ep) = b := ⟨_,rfl⟩
    obtain ⟨V,hV⟩ : ∃ V,(N && (t0 && (r1 && (decide (ops.length ≤ 8 ∧ si ≤ ep) && w1)))) = V := ⟨_,rfl⟩
    rw [hV] at HKE
    have hV2 : V = (N && (r1 && (t0 && (l1 && (l2 && w1))))) := by
     rw [← hV,← hl1,← hl2,show decide (ops.length ≤ 8 ∧ si ≤ ep) = (decide (ops.length ≤ 8) && decide (si ≤ ep)) by rw [Bool.eq_iff_iff];simp]
     cases N <;> cases t0 <;> cases r1 <;> cases decide (ops.length ≤ 8) <;> rfl
    have HV := Lib.hid hV2
    have hol8 : (8 : Int) < (ops.length : Int) ↔ ¬ ops.length ≤ 8 := by omega
    have HL1 := Lib.hid hl1
    have HL2 := Lib.hid hl2
    have HOL8 := Lib.hid hol8
    have nt : (tg != 0) = !t0 := by rw [bne,h0]
    clear hV hV2 hl1 hl2 hol8
    go_upto_region 19 with fail
    go_cut [203] (fun b wx => b = .bool (!V) ∧ Hid (Kp No wc wx))
    case first =>
     cases N
     · skip
       go_wp2_with fail
       go_meet
       exact ⟨by rw [HV.out];rfl,Lib.hid (Kp.refl _ _)⟩
     cases r1
     · skip
       go_wp2_with fail
       go_meet
       exact ⟨by rw [HV.out];rfl,Lib.hid (Kp.refl _ _)⟩
     cases t0
     · skip
       go_wp2_with fail
       go_meet
       exact ⟨by rw [HV.out];rfl,Lib.hid (Kp.refl _ _)⟩
     cases l1
     · have l1n : (8 : Int) < (ops.length : Int) := HOL8.out.2 (decide_eq_false_iff_not.1 HL1.out)
       go_wp2_with fail
       go_meet
       exact ⟨by rw [HV.out];rfl,Lib.hid (Kp.refl _ _)⟩
     have l1p : ¬ (8 : Int) < (ops.length : Int) := fun h => HOL8.out.1 h (decide_eq_true_iff.1 HL1.out)
     cases l2
     · have l2n : ep < si := Int.not_le.1 (decide_eq_false_iff_not.1 HL2.out)
       go_wp2_with fail
       go_meet
       exact ⟨by rw [HV.out];rfl,Lib.hid (Kp.refl _ _)⟩
     have l2p : ¬ ep < si := Int.not_lt.2 (decide_eq_true_iff.1 HL2.out)
     go_wp2_with fail
     refine (HRW.out _ HKW.out).mono ?_
     rintro e w' ⟨rfl,hk⟩
     have HKX := Lib.hid hk
     clear hk
     go_wp2_with fail
     go_meet
     exact ⟨by rw [HV.out];rfl,HKX⟩
    case rest =>
    obtain ⟨rfl,HKX⟩ := hcut
    have hbx := Blk.kept HBW.out HKX.out (fun x => x)
    have HK2 := Lib.hid (HKW.out.trans' HKX.out)
    have HB2 := Lib.hid hbx
    have HL1 := HL1
    clear z0 z1 z2 z3 z4 z5 z6 z7 z8 z9 z10 z11 z12 z13 z14 z15 HBW HKW HKX HRW HOL8 nt
    have z1 : wc.cell? ⟨g,1,none⟩ = some _ := Blk.cell hbx rfl
    have z14 : wc.cell? ⟨g,14,none⟩ = some _ := Blk.cell hbx rfl
    clear hbx e0 e1 e2 e3 e4 f0 f1 f2 g0 g1 h0
    cases V
    · skip
      go_wp2_with fail
      go_ret
      exact ⟨by rw [HKE.out];rfl,HK2.out⟩
    have hw1 : rowB af si ops = true := by
     rw [HW1.out]
     have h := HV.out
     revert h
     cases N <;> cases r1 <;> cases t0 <;> cases l1 <;> cases l2 <;> cases w1 <;> simp
    have hol : ops.length ≤ 8 := by
     have h := HV.out
     have h2 := HL1.out
     cases l1
     · exfalso
       revert h
       cases N <;> cases r1 <;> cases t0 <;> simp
     · exact decide_eq_true_iff.1 h2
    rcases Nat.eq_zero_or_pos ops.length with hz | hz
    · have hn : ops = [] := List.eq_nil_of_length_eq_zero hz
      subst hn
      have HKE2 : Hid (K = true) := Lib.hid (by rw [HKE.out];rfl)
      have zc : (((([] : List OpL).length : Nat) : Int) == 0) = true := rfl
      clear HKE HL1 hw1 hol hz
      simp only [List.length_nil] at *
      go_upto_region 21 with fail
      go_quiet (fail)
      go_wp2_with fail
      go_ret
      exact ⟨by rw [HKE2.out];rfl,HK2.out.drewN _⟩
    · obtain ⟨m,hm⟩ : ∃ m,ops.length = m + 1 := ⟨ops.length - 1,by omega⟩
      obtain ⟨o,ho⟩ : ∃ o,ops[m]? = some o := ⟨_,List.getElem?_eq_getElem (by omega)⟩
      have HKE2 : Hid (K = decide (o.epoch ≤ ep)) := Lib.hid (by rw [HKE.out,row_all hw1 ep hm ho];rfl)
      obtain ⟨ad,A2,c2',rfl,_,hcell,hnum,hhs⟩ := Rp.at_opl (Rp.opl.slice.keptNo HO.out HK2.out) ho
      have y1 := (opl_cells hcell).2.1
      have hm9 : m ≤ 8 := by omega
      have hwm : IntKind.i64.wrap (m : Int) = (m : Int) := by rw [IntKind.wrap_i64];omega
      have hmlt : (m : Int) < (m : Int) + 1 := by omega
      have hm0 : (0 : Int) ≤ (m : Int) := by omega
      have hmz : ((m : Int) + 1 == 0) = false := beq_eq_false_iff_ne.2 (by omega)
      rw [hm] at z14
      clear hcell hnum hhs ho HKE hw1 hol hz HL1
      go_upto_region 21 with fail
      go_quiet (fail)
      go_wp2_with fail
      go_ret
      exact ⟨by rw [HKE2.out];rfl,HK2.out.drewN _⟩
 rw [if_neg k3] at HKE
 have k3b : (k == 3) = false := beq_eq_false_iff_ne.2 k3
 clear k3 HRW
 by_cases k4 : k = 4
 · subst k4
   rw [if_pos rfl] at HKE
   have HKE : Hid (K = (Pl && (r1 && t0))) := Lib.hid (by rw [HKE.out,and_pl,← HPL.out];cases Pl <;> cases t0 <;> cases r1 <;> rfl)
   rename_i y0
   revert y0
   as_aux_lemma =>
    intros
    cases Pl
    · skip
      go_wp2_with fail
      go_ret
      exact ⟨by rw [HKE.out];rfl,HKW.out⟩
    cases r1
    · skip
      go_wp2_with fail
      go_ret
      exact ⟨by rw [HKE.out];rfl,HKW.out⟩
    cases t0
    all_goals
     go_wp2_with fail
     go_ret
     exact ⟨by rw [HKE.out];rfl,HKW.out⟩
 rw [if_neg k4] at HKE
 have k4b : (k == 4) = false := beq_eq_false_iff_ne.2 k4
 clear k4
 by_cases k5 : k = 5
 · subst k5
   rw [if_pos rfl,mark_b] at HKE
   have HKE : Hid (K = (N && (r1 && (t0 && (c2 && (decide (1 ≤ af) && (decide (af ≤ 80) && (decide (1 ≤ si) && decide (si ≤ ep))))))))) := Lib.hid (by rw [HKE.out];cases N <;> cases t0 <;> cases r1 <;> cases c2 <;> rfl)
   rename_i y0
   revert y0
   as_aux_lemma =>
    intros
    cases N
    · skip
      go_wp2_with fail
      go_ret
      exact ⟨by rw [HKE.out];rfl,HKW.out⟩
    cases r1
    · skip
      go_wp2_with fail
      go_ret
      exact ⟨by rw [HKE.out];rfl,HKW.out⟩
    cases t0
    · skip
      go_wp2_with fail
      go_ret
      exact ⟨by rw [HKE.out];rfl,HKW.out⟩
    cases c2
    · skip
      go_wp2_with fail
      go_ret
      exact ⟨by rw [HKE.out];rfl,HKW.out⟩
    by_cases m1 : 1 ≤ af
    case neg =>
     rw [decide_eq_false m1] at HKE
     go_wp2_with fail
     go_ret
     exact ⟨by rw [HKE.out];rfl,HKW.out⟩
    by_cases m2 : af ≤ 80
    case neg =>
     rw [decide_eq_true m1,decide_eq_false m2] at HKE
     go_wp2_with fail
     go_ret
     exact ⟨by rw [HKE.out];rfl,HKW.out⟩
    by_cases m3 : 1 ≤ si
    case neg =>
     rw [decide_eq_true m1,decide_eq_true m2,decide_eq_false m3] at HKE
     go_wp2_with fail
     go_ret
     exact ⟨by rw [HKE.out];rfl,HKW.out⟩
    by_cases m4 : si ≤ ep
    case neg =>
     rw [decide_eq_true m1,decide_eq_true m2,decide_eq_true m3,decide_eq_false m4] at HKE
     go_wp2_with fail
     go_ret
     exact ⟨by rw [HKE.out];rfl,HKW.out⟩
    rw [decide_eq_true m1,decide_eq_true m2,decide_eq_true m3,decide_eq_true m4] at HKE
    go_wp2_with fail
    go_ret
    exact ⟨by rw [HKE.out];rfl,HKW.out⟩
 rw [if_neg k5] at HKE
 have k5b : (k == 5) = false := beq_eq_false_iff_ne.2 k5
 clear k5
 rename_i y0
 revert y0
 as_aux_lemma =>
  intros
  skip
  go_wp2_with fail
  go_ret
  exact ⟨by rw [HKE.out];rfl,HKW.out⟩
end Go.Proofs.YtjlbacfedfkilaaGreat
