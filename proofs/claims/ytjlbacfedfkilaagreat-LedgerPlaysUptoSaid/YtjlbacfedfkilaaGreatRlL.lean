/-
  The document's ledger: Apply.
-/
import Derived.Test.YtjlbacfedfkilaaGreatRlJ
import Derived.Test.YtjlbacfedfkilaaGreatRlK
namespace Go.Proofs.YtjlbacfedfkilaaGreat
open Go.RowKit Go.ChangeShapes Go.WideShapes Go.ChangeAt
set_option maxRecDepth 100000 in
set_option maxHeartbeats 8000000 in
theorem r_lapply (c : CmdL) (A Bo : Option Addr) (ca cb : Nat) (SA : Nat → Prop) (B : Nat) (l : Nat) (L : LV) (F S : Nat → Prop) (w : World) (h : RLAt w l L F S) (hok : OkL B L) (hB : B ≤ 800000) (hh : Rp.str.slice.R w SA [.slice A c.op.hashes.length ca] c.op.hashes) (ho : Rp.opl.slice.R w SA [.slice Bo c.ops.length cb] c.ops) (hsb : ∀ k,SA k → k < w.heap.size → ¬ F k)
 (hsz : -9223372036854775808 ≤ c.op.size ∧ c.op.size < 9223372036854775808) (hll : c.op.hashes.length ≤ 1000000) (hol : c.ops.length ≤ 1000000) (hsm : ∀ o ∈ c.ops,o.hashes.length ≤ 1000000) :
 Calls Tryz.prog 13 #[.pointer (some ⟨l,0,none⟩),cmdV c (.slice A c.op.hashes.length ca) (.slice Bo c.ops.length cb)] w fun x w' => x = .returned (doneV (applyL c L).1) ∧ ∃ F' S',RLAt w' l (applyL c L).2 F' S' ∧ UpdS F S w w' F' S' := by
 obtain ⟨⟨⟨p0,p1,p2⟩,LP⟩,hP⟩ : ∃ P,applyL c L = P := ⟨_,rfl⟩
 rw [hP]
 have HP := Lib.hid hP
 have HOK := Lib.hid hok
 have HBB := Lib.hid hB
 have HH := Lib.hid hh
 have HO := Lib.hid ho
 have HSB := Lib.hid hsb
 have hchk := fun w1 (hk : Kp No w w1) => r_rightC c A Bo ca cb w1 SA (Rp.str.slice.keptNo hh hk) (Rp.opl.slice.keptNo ho hk) hsz hll hol hsm
 have HCHK := Lib.hid hchk
 obtain ⟨hn,hhn⟩ : ∃ hn,c.op.hashes.length = hn := ⟨_,rfl⟩
 obtain ⟨on,hon⟩ : ∃ on,c.ops.length = on := ⟨_,rfl⟩
 have HHN := Lib.hid hhn
 have HON := Lib.hid hon
 obtain ⟨K,hK⟩ : ∃ K,okC c = K := ⟨_,rfl⟩
 have HOKC := Lib.hid hK
 have hchk2 := HCHK.out
 rw [hhn,hon,hK] at hchk2
 unfold cmdV at hchk2
 have HCHK := Lib.hid hchk2
 rw [hhn,hon]
 clear hP hok hB hh ho hsb hchk hhn hon hK hchk2 hsz hll hol hsm
 obtain ⟨x,hx⟩ : ∃ x,w.heap.size = x := ⟨_,rfl⟩
 obtain ⟨h1,h2,h3,h4⟩ := r_begin h c (.slice A hn ca) (.slice Bo on cb)
 have hfx : ¬ (F x ∨ S x) ∧ ¬ (F (x + 1) ∨ S (x + 1)) := ⟨fun e => by have := h.lt e;omega,fun e => by have := h.lt e;omega⟩
 have HFX := Lib.hid hfx
 obtain ⟨wa,hwa⟩ : ∃ wa,(w.alloc (.cells (cmdC c (.slice A hn ca) (.slice Bo on cb)).toArray 39)).alloc (.cells #[.int .i64 0,.int .i64 0,.int .i64 0] 44) = wa := ⟨_,rfl⟩
 rw [hwa] at h1 h2 h3 h4
 rw [hx] at h3 h4
 unfold cmdC at h3 hwa
 have HA := Lib.hid h1
 have HK := Lib.hid h2
 have HC := Lib.hid h3
 have HD := Lib.hid h4
 have HX := Lib.hid hx
 have hxl1 : l ≠ x := fun e => hfx.1 (.inl (e ▸ h.self))
 have hxl2 : l ≠ x + 1 := fun e => hfx.2 (.inl (e ▸ h.self))
 clear h1 h2 h4 h hfx
 unfold cmdV
 obtain ⟨ck,ep,st,op,an,ae,ops,tg⟩ := c
 simp only at *
 have z0 : wa.cell? ⟨x,0,none⟩ = some _ := Blk.cell h3 rfl
 have z1 : wa.cell? ⟨x,1,none⟩ = some _ := Blk.cell h3 rfl
 have z2 : wa.cell? ⟨x,2,none⟩ = some _ := Blk.cell h3 rfl
 have z3 : wa.cell? ⟨x,3,none⟩ = some _ := Blk.cell h3 rfl
 have z4 : wa.cell? ⟨x,4,none⟩ = some _ := Blk.cell h3 rfl
 have z5 : wa.cell? ⟨x,5,none⟩ = some _ := Blk.cell h3 rfl
 have z6 : wa.cell? ⟨x,6,none⟩ = some _ := Blk.cell h3 rfl
 have z7 : wa.cell? ⟨x,7,none⟩ = some _ := Blk.cell h3 rfl
 have z8 : wa.cell? ⟨x,8,none⟩ = some _ := Blk.cell h3 rfl
 have z9 : wa.cell? ⟨x,9,none⟩ = some _ := Blk.cell h3 rfl
 have z10 : wa.cell? ⟨x,10,none⟩ = some _ := Blk.cell h3 rfl
 have z11 : wa.cell? ⟨x,11,none⟩ = some _ := Blk.cell h3 rfl
 have z12 : wa.cell? ⟨x,12,none⟩ = some _ := Blk.cell h3 rfl
 have z13 : wa.cell? ⟨x,13,none⟩ = some _ := Blk.cell h3 rfl
 have z14 : wa.cell? ⟨x,14,none⟩ = some _ := Blk.cell h3 rfl
 have z15 : wa.cell? ⟨x,15,none⟩ = some _ := Blk.cell h3 rfl
 clear h3
 go_enter Tryz.func13,Tryz.ntmps13
 go_wp2_with fail
 clear hwa hx
 refine (HCHK.out wa HK.out).mono ?_
 rintro e w1 ⟨rfl,hk1⟩
 have hc1 := HC.out.kept hk1 (fun x => x)
 have HC1 := Lib.hid hc1
 have HA1 := Lib.hid (HA.out.keptNo hk1)
 have HD1 := Lib.hid (HD.out.kept hk1 (fun x => x))
 have HK1 := Lib.hid (HK.out.trans' hk1)
 have HKU : Hid (UpdS F S w w1 F S) := Lib.hid (UpdS.none HK1.out.any)
 have HS1 : Hid (x + 1 < w1.heap.size) := Lib.hid (Blk.lt HD1.out)
 clear hk1 z0 z1 z2 z3 z4 z5 z6 z7 z8 z9 z10 z11 z12 z13 z14 z15 HA HD HK HCHK HC
 have z0 : w1.cell? ⟨x,0,none⟩ = some _ := Blk.cell hc1 rfl
 have z1 : w1.cell? ⟨x,1,none⟩ = some _ := Blk.cell hc1 rfl
 have z2 : w1.cell? ⟨x,2,none⟩ = some _ := Blk.cell hc1 rfl
 have z3 : w1.cell? ⟨x,3,none⟩ = some _ := Blk.cell hc1 rfl
 have z4 : w1.cell? ⟨x,4,none⟩ = some _ := Blk.cell hc1 rfl
 have z5 : w1.cell? ⟨x,5,none⟩ = some _ := Blk.cell hc1 rfl
 have z6 : w1.cell? ⟨x,6,none⟩ = some _ := Blk.cell hc1 rfl
 have z7 : w1.cell? ⟨x,7,none⟩ = some _ := Blk.cell hc1 rfl
 have z8 : w1.cell? ⟨x,8,none⟩ = some _ := Blk.cell hc1 rfl
 have z9 : w1.cell? ⟨x,9,none⟩ = some _ := Blk.cell hc1 rfl
 have z10 : w1.cell? ⟨x,10,none⟩ = some _ := Blk.cell hc1 rfl
 have z11 : w1.cell? ⟨x,11,none⟩ = some _ := Blk.cell hc1 rfl
 have z12 : w1.cell? ⟨x,12,none⟩ = some _ := Blk.cell hc1 rfl
 have z13 : w1.cell? ⟨x,13,none⟩ = some _ := Blk.cell hc1 rfl
 have z14 : w1.cell? ⟨x,14,none⟩ = some _ := Blk.cell hc1 rfl
 have z15 : w1.cell? ⟨x,15,none⟩ = some _ := Blk.cell hc1 rfl
 clear hc1
 have hpp := HP.out
 unfold applyL at hpp
 rw [HOKC.out] at hpp
 rename_i y0 y1 y2 y3 y4 y5 y6
 cases K
 · revert y0
   as_aux_lemma =>
    intro y0
    intros
    rw [if_neg (by simp)] at hpp
    simp only [failD,Prod.mk.injEq] at hpp
    obtain ⟨⟨rfl,rfl,rfl⟩,rfl⟩ := hpp
    clear HP z0 z1 z2 z3 z4 z5 z6 z7 z8 z9 z10 z11 z12 z13 z14 z15
    obtain ⟨w9,hw9⟩ : ∃ v,w1 = v := ⟨_,rfl⟩
    obtain ⟨F',hF'⟩ : ∃ F',F = F' := ⟨_,rfl⟩
    obtain ⟨S',hS'⟩ : ∃ S',S = S' := ⟨_,rfl⟩
    have h9a := HA1.out
    have h9d := HD1.out
    have h9u : UpdS F S w1 w1 F S := UpdS.none (Kp.refl _ _)
    rw [hF',hS'] at h9a
    rw [show UpdS F S w1 w1 F S = UpdS F S w1 w1 F' S' by rw [hF',hS']] at h9u
    rw [hw9] at h9a h9d
    rw [show UpdS F S w1 w1 F' S' = UpdS F S w1 w9 F' S' by rw [hw9]] at h9u
    have H9A := Lib.hid h9a
    have H9U := Lib.hid h9u
    have H9D := Lib.hid h9d
    have g0 := Blk.fr h9d 0
    have g1 := Blk.fr h9d 1
    have g2 := Blk.fr h9d 2
    have u0 : w9.cell? ⟨x + 1,0,none⟩ = some _ := Blk.cell h9d rfl
    have u1 : w9.cell? ⟨x + 1,1,none⟩ = some _ := Blk.cell h9d rfl
    have u2 : w9.cell? ⟨x + 1,2,none⟩ = some _ := Blk.cell h9d rfl
    rw [hw9]
    clear h9a h9u h9d hw9 hF' hS'
    go_wp2_with fail
    clear g0 g1 g2 u0 u1 u2
    obtain ⟨hkf,hbf⟩ := done_stored H9D.out (.int .i64 3) (.int .i64 0) (.int .i64 0)
    have hwx : w.heap.size = x := HX.out
    have hnf : ∀ k,F' k ∨ S' k → k ≠ x + 1 := fun k hk e => by
     rcases hk with hk | hk
     · rcases H9U.out.foot k hk with h | h
       · exact HFX.out.2 (.inl (e ▸ h))
       · have := HS1.out;omega
     · rcases H9U.out.sfoot k hk with h | h
       · exact HFX.out.2 (Or.symm (e ▸ h))
       · have := HS1.out;omega
    have hAf := H9A.out.kept hkf (fun k hk e => hnf k hk e)
    have hU0 : UpdS F S w w9 F' S' := HKU.out.trans H9U.out
    have hKf := hU0.kp.trans hkf (fun i hi e => absurd hi (by omega))
    exact bodyPost_ret (results_cell_row rfl _ _ (x + 1) _ _ _ _ rfl hbf Tryz.underlying44 rfl (by kernel_rfl)) rfl ⟨rfl,F',S',hAf,⟨hKf,hU0.foot,hU0.sfoot,hU0.more⟩⟩
 rw [if_pos rfl] at hpp
 have hokc := HOKC.out
 unfold okC at hokc
 simp only at hokc hpp
 have HPP := Lib.hid hpp
 have HOC := Lib.hid hokc
 clear hpp hokc HP HOKC
 by_cases k1 : ck = 1
 · revert y0
   as_aux_lemma =>
    intro y0
    intros
    subst k1
    have hpe := HPP.out
    have hoc := HOC.out
    rw [if_pos rfl] at hpe
    rw [if_neg (by decide),if_pos rfl] at hoc
    simp only [Bool.and_eq_true,decide_eq_true_iff] at hoc
    obtain ⟨h1,q1,q2,h4⟩ := hoc
    clear q1 q2
    have h4 : okP (op.placed 1 ep st) := of_decide_eq_true h4
    have h5 : op.kind ≠ 3 := h1.2.2.2
    have HPE := Lib.hid hpe
    have H4 := Lib.hid h4
    have H5 := Lib.hid h5
    clear hpe h1 h4 h5 HPP HOC
    have hcall := r_ldo ⟨1,ep,st,op,an,ae,ops,tg⟩ A ca (.slice Bo ops.length cb) SA B l L F S w1 HA1.out HOK.out (Rp.str.slice.keptNo HH.out HK1.out) H4.out H5.out
    rw [HHN.out,HON.out,HPE.out] at hcall
    unfold cmdV at hcall
    simp only at hcall
    have HCALL := Lib.hid hcall
    clear hcall
    go_wp2_with fail
    refine HCALL.out.mono ?_
    rintro e w9 ⟨rfl,F',S',h9a,h9u⟩
    have h9d := HD1.out.kept h9u.kp (fun e => HFX.out.2 (.inl e))
    have H9A := Lib.hid h9a
    have H9U := Lib.hid h9u
    have H9D := Lib.hid h9d
    have g0 := Blk.fr h9d 0
    have g1 := Blk.fr h9d 1
    have g2 := Blk.fr h9d 2
    have u0 : w9.cell? ⟨x + 1,0,none⟩ = some _ := Blk.cell h9d rfl
    have u1 : w9.cell? ⟨x + 1,1,none⟩ = some _ := Blk.cell h9d rfl
    have u2 : w9.cell? ⟨x + 1,2,none⟩ = some _ := Blk.cell h9d rfl
    unfold doneV
    clear h9a h9u h9d z0 z1 z2 z3 z4 z5 z6 z7 z8 z9 z10 z11 z12 z13 z14 z15 HCALL
    go_wp2_with fail
    clear g0 g1 g2 u0 u1 u2
    obtain ⟨hkf,hbf⟩ := done_stored H9D.out (.int .i64 p0) (.int .i64 p1) (.int .i64 p2)
    have hwx : w.heap.size = x := HX.out
    have hnf : ∀ k,F' k ∨ S' k → k ≠ x + 1 := fun k hk e => by
     rcases hk with hk | hk
     · rcases H9U.out.foot k hk with h | h
       · exact HFX.out.2 (.inl (e ▸ h))
       · have := HS1.out;omega
     · rcases H9U.out.sfoot k hk with h | h
       · exact HFX.out.2 (Or.symm (e ▸ h))
       · have := HS1.out;omega
    have hAf := H9A.out.kept hkf (fun k hk e => hnf k hk e)
    have hU0 : UpdS F S w w9 F' S' := HKU.out.trans H9U.out
    have hKf := hU0.kp.trans hkf (fun i hi e => absurd hi (by omega))
    exact bodyPost_ret (results_cell_row rfl _ _ (x + 1) _ _ _ _ rfl hbf Tryz.underlying44 rfl (by kernel_rfl)) rfl ⟨rfl,F',S',hAf,⟨hKf,hU0.foot,hU0.sfoot,hU0.more⟩⟩
 have k1b : (ck == 1) = false := beq_eq_false_iff_ne.2 k1
 by_cases k3 : ck = 3
 · revert y0
   as_aux_lemma =>
    intro y0
    intros
    subst k3
    have hpe := HPP.out
    have hoc := HOC.out
    rw [if_neg (by decide),if_pos rfl] at hpe
    rw [if_neg (by decide),if_neg (by decide),if_neg (by decide),if_pos rfl] at hoc
    simp only [Bool.and_eq_true,decide_eq_true_iff] at hoc
    obtain ⟨⟨q1,q2,h1,h2,h4⟩,q3⟩ := hoc
    clear q1 q2 q3
    have HPE := Lib.hid hpe
    have H1 := Lib.hid h1
    have H2 := Lib.hid h2
    have H4 := Lib.hid h4
    have HSB1 : Hid (∀ k,(SA k ∧ k < w.heap.size) → k < w1.heap.size → ¬ F k) := Lib.hid (fun k hk _ => HSB.out k hk.1 hk.2)
    have HO1 : Hid (Rp.opl.slice.R w1 (fun k => SA k ∧ k < w.heap.size) [.slice Bo ops.length cb] ops) := Lib.hid (Rp.opl.slice.keptNo (Rp.opl.slice.bnd HO.out) HK1.out)
    clear hpe h1 h2 h4 HPP HOC k1 k1b
    have hcall := r_lship ⟨3,ep,st,op,an,ae,ops,tg⟩ (.slice A op.hashes.length ca) Bo cb _ B l L F S w1 HA1.out HOK.out HBB.out HO1.out HSB1.out H1.out H2.out H4.out
    rw [HHN.out,HON.out,HPE.out] at hcall
    unfold cmdV at hcall
    simp only at hcall
    have HCALL := Lib.hid hcall
    clear hcall
    go_wp2_with fail
    refine HCALL.out.mono ?_
    rintro e w9 ⟨rfl,F',S',h9a,h9u⟩
    have h9d := HD1.out.kept h9u.kp (fun e => HFX.out.2 (.inl e))
    have H9A := Lib.hid h9a
    have H9U := Lib.hid h9u
    have H9D := Lib.hid h9d
    have g0 := Blk.fr h9d 0
    have g1 := Blk.fr h9d 1
    have g2 := Blk.fr h9d 2
    have u0 : w9.cell? ⟨x + 1,0,none⟩ = some _ := Blk.cell h9d rfl
    have u1 : w9.cell? ⟨x + 1,1,none⟩ = some _ := Blk.cell h9d rfl
    have u2 : w9.cell? ⟨x + 1,2,none⟩ = some _ := Blk.cell h9d rfl
    unfold doneV
    clear h9a h9u h9d z0 z1 z2 z3 z4 z5 z6 z7 z8 z9 z10 z11 z12 z13 z14 z15 HCALL
    go_wp2_with fail
    clear g0 g1 g2 u0 u1 u2
    obtain ⟨hkf,hbf⟩ := done_stored H9D.out (.int .i64 p0) (.int .i64 p1) (.int .i64 p2)
    have hwx : w.heap.size = x := HX.out
    have hnf : ∀ k,F' k ∨ S' k → k ≠ x + 1 := fun k hk e => by
     rcases hk with hk | hk
     · rcases H9U.out.foot k hk with h | h
       · exact HFX.out.2 (.inl (e ▸ h))
       · have := HS1.out;omega
     · rcases H9U.out.sfoot k hk with h | h
       · exact HFX.out.2 (Or.symm (e ▸ h))
       · have := HS1.out;omega
    have hAf := H9A.out.kept hkf (fun k hk e => hnf k hk e)
    have hU0 : UpdS F S w w9 F' S' := HKU.out.trans H9U.out
    have hKf := hU0.kp.trans hkf (fun i hi e => absurd hi (by omega))
    exact bodyPost_ret (results_cell_row rfl _ _ (x + 1) _ _ _ _ rfl hbf Tryz.underlying44 rfl (by kernel_rfl)) rfl ⟨rfl,F',S',hAf,⟨hKf,hU0.foot,hU0.sfoot,hU0.more⟩⟩
 have k3b : (ck == 3) = false := beq_eq_false_iff_ne.2 k3
 by_cases k5 : ck = 5
 · revert y0
   as_aux_lemma =>
    intro y0
    intros
    subst k5
    have hpe := HPP.out
    have hoc := HOC.out
    rw [if_neg (by decide),if_neg (by decide),if_neg (by decide),if_pos rfl] at hpe
    rw [if_neg (by decide),if_neg (by decide),if_neg (by decide),if_neg (by decide),if_neg (by decide),if_pos rfl] at hoc
    simp only [Bool.and_eq_true,decide_eq_true_iff] at hoc
    obtain ⟨q1,q2,q3,q4,h1⟩ := hoc
    clear q1 q2 q3 q4
    have HPE := Lib.hid hpe
    have H1 := Lib.hid h1
    clear hpe h1 HPP HOC k1 k1b k3 k3b
    have hcall := r_lmark ⟨5,ep,st,op,an,ae,ops,tg⟩ (.slice A op.hashes.length ca) (.slice Bo ops.length cb) B l L F S w1 HA1.out HOK.out H1.out
    rw [HHN.out,HON.out,HPE.out] at hcall
    unfold cmdV at hcall
    simp only at hcall
    have HCALL := Lib.hid hcall
    clear hcall
    go_wp2_with fail
    refine HCALL.out.mono ?_
    rintro e w9 ⟨rfl,F',S',h9a,h9u⟩
    have h9d := HD1.out.kept h9u.kp (fun e => HFX.out.2 (.inl e))
    have H9A := Lib.hid h9a
    have H9U := Lib.hid h9u
    have H9D := Lib.hid h9d
    have g0 := Blk.fr h9d 0
    have g1 := Blk.fr h9d 1
    have g2 := Blk.fr h9d 2
    have u0 : w9.cell? ⟨x + 1,0,none⟩ = some _ := Blk.cell h9d rfl
    have u1 : w9.cell? ⟨x + 1,1,none⟩ = some _ := Blk.cell h9d rfl
    have u2 : w9.cell? ⟨x + 1,2,none⟩ = some _ := Blk.cell h9d rfl
    unfold doneV
    clear h9a h9u h9d z0 z1 z2 z3 z4 z5 z6 z7 z8 z9 z10 z11 z12 z13 z14 z15 HCALL
    go_wp2_with fail
    clear g0 g1 g2 u0 u1 u2
    obtain ⟨hkf,hbf⟩ := done_stored H9D.out (.int .i64 p0) (.int .i64 p1) (.int .i64 p2)
    have hwx : w.heap.size = x := HX.out
    have hnf : ∀ k,F' k ∨ S' k → k ≠ x + 1 := fun k hk e => by
     rcases hk with hk | hk
     · rcases H9U.out.foot k hk with h | h
       · exact HFX.out.2 (.inl (e ▸ h))
       · have := HS1.out;omega
     · rcases H9U.out.sfoot k hk with h | h
       · exact HFX.out.2 (Or.symm (e ▸ h))
       · have := HS1.out;omega
    have hAf := H9A.out.kept hkf (fun k hk e => hnf k hk e)
    have hU0 : UpdS F S w w9 F' S' := HKU.out.trans H9U.out
    have hKf := hU0.kp.trans hkf (fun i hi e => absurd hi (by omega))
    exact bodyPost_ret (results_cell_row rfl _ _ (x + 1) _ _ _ _ rfl hbf Tryz.underlying44 rfl (by kernel_rfl)) rfl ⟨rfl,F',S',hAf,⟨hKf,hU0.foot,hU0.sfoot,hU0.more⟩⟩
 have k5b : (ck == 5) = false := beq_eq_false_iff_ne.2 k5
 by_cases k4 : ck = 4
 · revert y0
   as_aux_lemma =>
    intro y0
    intros
    subst k4
    have hpe := HPP.out
    have hoc := HOC.out
    rw [if_neg (by decide),if_neg (by decide),if_pos rfl] at hpe
    rw [if_neg (by decide),if_neg (by decide),if_neg (by decide),if_neg (by decide),if_pos rfl] at hoc
    simp only [Bool.and_eq_true,decide_eq_true_iff] at hoc
    obtain ⟨q1,q2,q3,h1⟩ := hoc
    clear q1 q2 q3
    unfold reignL at hpe
    simp only at hpe
    have HPE := Lib.hid hpe
    have H1 := Lib.hid h1
    clear hpe h1 HPP HOC k1 k1b k3 k3b k5 k5b
    obtain ⟨fe,hfe⟩ : ∃ v,L.fence = v := ⟨_,rfl⟩
    obtain ⟨nn,hnn⟩ : ∃ v,L.ops.length = v := ⟨_,rfl⟩
    obtain ⟨Ao,co,gv,hbl,hat⟩ := HA1.out.at_
    have k0 : w1.cell? ⟨l,0,none⟩ = some (.slice Ao nn co) := hnn ▸ Blk.cell hbl rfl
    have k2 : w1.cell? ⟨l,2,none⟩ = some (.int .i64 fe) := hfe ▸ Blk.cell hbl rfl
    have f2 := Blk.fr hbl 2
    have HFE := Lib.hid hfe
    have HNN := Lib.hid hnn
    clear hbl hat hfe hnn z2 z3 z4 z5 z6 z7 z8 z9 z10 z11 z12 z13 z14 z15
    have hpe := HPE.out
    rw [HFE.out,HNN.out] at hpe
    by_cases he : ep ≤ fe
    case pos =>
     rw [if_pos he] at hpe
     simp only [failD,Prod.mk.injEq] at hpe
     obtain ⟨⟨rfl,rfl,rfl⟩,rfl⟩ := hpe
     clear HPE
     go_upto_region 11 with fail
     go_quiet (fail)
     clear k0 k2 f2 z0 z1
     obtain ⟨w9,hw9⟩ : ∃ v,(w1.drewN nq) = v := ⟨_,rfl⟩
     obtain ⟨F',hF'⟩ : ∃ F',F = F' := ⟨_,rfl⟩
     obtain ⟨S',hS'⟩ : ∃ S',S = S' := ⟨_,rfl⟩
     have hk9 : Kp No w1 w9 := by rw [← hw9];exact (Kp.refl _ _).drewN _
     have h9a := HA1.out.keptNo hk9
     have h9d := HD1.out.kept hk9 (fun h => h)
     have h9u : UpdS F S w1 w9 F S := UpdS.none hk9.any
     rw [hF',hS'] at h9a
     rw [show UpdS F S w1 w9 F S = UpdS F S w1 w9 F' S' by rw [hF',hS']] at h9u
     have H9A := Lib.hid h9a
     have H9U := Lib.hid h9u
     have H9D := Lib.hid h9d
     have g0 := Blk.fr h9d 0
     have g1 := Blk.fr h9d 1
     have g2 := Blk.fr h9d 2
     have u0 : w9.cell? ⟨x + 1,0,none⟩ = some _ := Blk.cell h9d rfl
     have u1 : w9.cell? ⟨x + 1,1,none⟩ = some _ := Blk.cell h9d rfl
     have u2 : w9.cell? ⟨x + 1,2,none⟩ = some _ := Blk.cell h9d rfl
     rw [hw9]
     clear h9a h9u h9d hk9 hw9 hF' hS'
     go_wp2_with fail
     clear g0 g1 g2 u0 u1 u2
     obtain ⟨hkf,hbf⟩ := done_stored H9D.out (.int .i64 120) (.int .i64 0) (.int .i64 0)
     have hwx : w.heap.size = x := HX.out
     have hnf : ∀ k,F' k ∨ S' k → k ≠ x + 1 := fun k hk e => by
      rcases hk with hk | hk
      · rcases H9U.out.foot k hk with h | h
        · exact HFX.out.2 (.inl (e ▸ h))
        · have := HS1.out;omega
      · rcases H9U.out.sfoot k hk with h | h
        · exact HFX.out.2 (Or.symm (e ▸ h))
        · have := HS1.out;omega
     have hAf := H9A.out.kept hkf (fun k hk e => hnf k hk e)
     have hU0 : UpdS F S w w9 F' S' := HKU.out.trans H9U.out
     have hKf := hU0.kp.trans hkf (fun i hi e => absurd hi (by omega))
     exact bodyPost_ret (results_cell_row rfl _ _ (x + 1) _ _ _ _ rfl hbf Tryz.underlying44 rfl (by kernel_rfl)) rfl ⟨rfl,F',S',hAf,⟨hKf,hU0.foot,hU0.sfoot,hU0.more⟩⟩
    case neg =>
    rw [if_neg he] at hpe
    by_cases hf : (80 : Int) ≤ (nn : Int)
    case pos =>
     rw [if_pos hf] at hpe
     simp only [failD,Prod.mk.injEq] at hpe
     obtain ⟨⟨rfl,rfl,rfl⟩,rfl⟩ := hpe
     clear HPE
     go_upto_region 11 with fail
     go_quiet (fail)
     go_upto_region 14 with fail
     clear k0 k2 f2 z0 z1
     obtain ⟨w9,hw9⟩ : ∃ v,(w1.drewN nq) = v := ⟨_,rfl⟩
     obtain ⟨F',hF'⟩ : ∃ F',F = F' := ⟨_,rfl⟩
     obtain ⟨S',hS'⟩ : ∃ S',S = S' := ⟨_,rfl⟩
     have hk9 : Kp No w1 w9 := by rw [← hw9];exact (Kp.refl _ _).drewN _
     have h9a := HA1.out.keptNo hk9
     have h9d := HD1.out.kept hk9 (fun h => h)
     have h9u : UpdS F S w1 w9 F S := UpdS.none hk9.any
     rw [hF',hS'] at h9a
     rw [show UpdS F S w1 w9 F S = UpdS F S w1 w9 F' S' by rw [hF',hS']] at h9u
     have H9A := Lib.hid h9a
     have H9U := Lib.hid h9u
     have H9D := Lib.hid h9d
     have g0 := Blk.fr h9d 0
     have g1 := Blk.fr h9d 1
     have g2 := Blk.fr h9d 2
     have u0 : w9.cell? ⟨x + 1,0,none⟩ = some _ := Blk.cell h9d rfl
     have u1 : w9.cell? ⟨x + 1,1,none⟩ = some _ := Blk.cell h9d rfl
     have u2 : w9.cell? ⟨x + 1,2,none⟩ = some _ := Blk.cell h9d rfl
     rw [hw9]
     clear h9a h9u h9d hk9 hw9 hF' hS'
     go_wp2_with fail
     clear g0 g1 g2 u0 u1 u2
     obtain ⟨hkf,hbf⟩ := done_stored H9D.out (.int .i64 125) (.int .i64 0) (.int .i64 0)
     have hwx : w.heap.size = x := HX.out
     have hnf : ∀ k,F' k ∨ S' k → k ≠ x + 1 := fun k hk e => by
      rcases hk with hk | hk
      · rcases H9U.out.foot k hk with h | h
        · exact HFX.out.2 (.inl (e ▸ h))
        · have := HS1.out;omega
      · rcases H9U.out.sfoot k hk with h | h
        · exact HFX.out.2 (Or.symm (e ▸ h))
        · have := HS1.out;omega
     have hAf := H9A.out.kept hkf (fun k hk e => hnf k hk e)
     have hU0 : UpdS F S w w9 F' S' := HKU.out.trans H9U.out
     have hKf := hU0.kp.trans hkf (fun i hi e => absurd hi (by omega))
     exact bodyPost_ret (results_cell_row rfl _ _ (x + 1) _ _ _ _ rfl hbf Tryz.underlying44 rfl (by kernel_rfl)) rfl ⟨rfl,F',S',hAf,⟨hKf,hU0.foot,hU0.sfoot,hU0.more⟩⟩
    case neg =>
    rw [if_neg hf] at hpe
    have HPE2 := Lib.hid hpe
    clear hpe HPE
    go_upto_region 11 with fail
    go_quiet (fail)
    go_upto_region 16 with fail
    have hks : Kp (· = l) w1 ((w1.drewN nq).setCell ⟨l,2,none⟩ (.int .i64 ep)) := ((Kp.refl (· = l) w1).drewN _).setCell (p := ⟨l,2,none⟩) (fun _ => rfl) _
    have hA5 := (HA1.out.keptNo ((Kp.refl No w1).drewN nq)).fence ep
    have hD5 := HD1.out.kept hks (fun e => hxl2 e.symm)
    have hC5 := HC1.out.kept hks (fun e => hxl1 e.symm)
    obtain ⟨w5,hw5⟩ : ∃ w5,(w1.drewN nq).setCell ⟨l,2,none⟩ (.int .i64 ep) = w5 := ⟨_,rfl⟩
    rw [hw5] at hks hA5 hD5 hC5
    rw [hw5]
    clear hw5 k0 k2 f2 z0 z1
    have z1 : w5.cell? ⟨x,1,none⟩ = some (.int .i64 ep) := Blk.cell hC5 rfl
    have z2 : w5.cell? ⟨x,2,none⟩ = some (.int .i64 st) := Blk.cell hC5 rfl
    have HA5 := Lib.hid hA5
    have HD5 := Lib.hid hD5
    have HU5 : Hid (UpdS F S w1 w5 F S) := Lib.hid (UpdS.none ((Kp.refl F w1).trans hks (fun i _ e => by rw [e];exact HA1.out.self)))
    clear hks hA5 hD5 hC5
    go_wp2_with fail
    refine (r_lappendA reignOp ep st none 0 No l { L with fence := ep } F S w5 HA5.out ⟨none,0,rfl,Nat.le_refl _,by simp,fun h => absurd h (by simp [reignOp])⟩ ?hnum (by simp [reignOp]) (by show L.ops.length ≤ 1000;rw [HNN.out];omega)).mono ?_
    case hnum =>
     have h1 := H1.out
     unfold reignP at h1
     show OpL.nums ⟨((L.ops.length : Nat) : Int) + 1,ep,3,st,0,0,ByteArray.empty,0,[]⟩
     rw [HNN.out]
     exact ⟨I64.of (by simp only;omega),I64.of (by simp only;omega),I64.of (by simp only;omega),I64.of (by simp only;omega),I64.of (by simp only;omega),I64.of (by simp only;omega),by simp [maxLen],I64.of (by simp only;omega)⟩
    rintro e w9 ⟨rfl,F',S',h9a,h9u5⟩
    rw [HPE2.out] at h9a ⊢
    have h9d := HD5.out.kept h9u5.kp (fun e => HFX.out.2 (.inl e))
    have h9u := HU5.out.trans h9u5
    have H9A := Lib.hid h9a
    have H9U := Lib.hid h9u
    have H9D := Lib.hid h9d
    have g0 := Blk.fr h9d 0
    have g1 := Blk.fr h9d 1
    have g2 := Blk.fr h9d 2
    have u0 : w9.cell? ⟨x + 1,0,none⟩ = some _ := Blk.cell h9d rfl
    have u1 : w9.cell? ⟨x + 1,1,none⟩ = some _ := Blk.cell h9d rfl
    have u2 : w9.cell? ⟨x + 1,2,none⟩ = some _ := Blk.cell h9d rfl
    unfold doneV
    clear h9a h9u h9d h9u5 z1 z2
    go_wp2_with fail
    clear g0 g1 g2 u0 u1 u2
    obtain ⟨hkf,hbf⟩ := done_stored H9D.out (.int .i64 p0) (.int .i64 p1) (.int .i64 p2)
    have hwx : w.heap.size = x := HX.out
    have hnf : ∀ k,F' k ∨ S' k → k ≠ x + 1 := fun k hk e => by
     rcases hk with hk | hk
     · rcases H9U.out.foot k hk with h | h
       · exact HFX.out.2 (.inl (e ▸ h))
       · have := HS1.out;omega
     · rcases H9U.out.sfoot k hk with h | h
       · exact HFX.out.2 (Or.symm (e ▸ h))
       · have := HS1.out;omega
    have hAf := H9A.out.kept hkf (fun k hk e => hnf k hk e)
    have hU0 : UpdS F S w w9 F' S' := HKU.out.trans H9U.out
    have hKf := hU0.kp.trans hkf (fun i hi e => absurd hi (by omega))
    exact bodyPost_ret (results_cell_row rfl _ _ (x + 1) _ _ _ _ rfl hbf Tryz.underlying44 rfl (by kernel_rfl)) rfl ⟨rfl,F',S',hAf,⟨hKf,hU0.foot,hU0.sfoot,hU0.more⟩⟩
 have k4b : (ck == 4) = false := beq_eq_false_iff_ne.2 k4
 revert y0
 as_aux_lemma =>
  intro y0
  intros
  have hpe := HPP.out
  rw [if_neg k1,if_neg k3,if_neg k4,if_neg k5] at hpe
  simp only [Prod.mk.injEq] at hpe
  obtain ⟨⟨rfl,hlp⟩,rfl⟩ := hpe
  have hlast := r_llast l L F S w1 HA1.out (by have := HOK.out.len;omega)
  rw [hlp] at hlast
  have HLAST := Lib.hid hlast
  clear hlp hlast HPP HOC k1 k3 k4 k5
  go_wp2_with fail
  refine HLAST.out.mono ?_
  rintro e w9 ⟨rfl,hk9⟩
  obtain ⟨F',hF'⟩ : ∃ F',F = F' := ⟨_,rfl⟩
  obtain ⟨S',hS'⟩ : ∃ S',S = S' := ⟨_,rfl⟩
  have h9a := HA1.out.keptNo hk9
  have h9d := HD1.out.kept hk9 (fun x => x)
  have h9u : UpdS F S w1 w9 F S := UpdS.none hk9.any
  rw [hF',hS'] at h9a
  rw [show UpdS F S w1 w9 F S = UpdS F S w1 w9 F' S' by rw [hF',hS']] at h9u
  have H9A := Lib.hid h9a
  have H9U := Lib.hid h9u
  have H9D := Lib.hid h9d
  have g0 := Blk.fr h9d 0
  have g1 := Blk.fr h9d 1
  have g2 := Blk.fr h9d 2
  have u0 : w9.cell? ⟨x + 1,0,none⟩ = some _ := Blk.cell h9d rfl
  have u1 : w9.cell? ⟨x + 1,1,none⟩ = some _ := Blk.cell h9d rfl
  have u2 : w9.cell? ⟨x + 1,2,none⟩ = some _ := Blk.cell h9d rfl
  clear h9a h9u h9d hk9 hF' hS' z0 z1 z2 z3 z4 z5 z6 z7 z8 z9 z10 z11 z12 z13 z14 z15 HLAST
  go_wp2_with fail
  clear g0 g1 g2 u0 u1 u2
  obtain ⟨hkf,hbf⟩ := done_stored H9D.out (.int .i64 0) (.int .i64 p1) (.int .i64 p2)
  have hwx : w.heap.size = x := HX.out
  have hnf : ∀ k,F' k ∨ S' k → k ≠ x + 1 := fun k hk e => by
   rcases hk with hk | hk
   · rcases H9U.out.foot k hk with h | h
     · exact HFX.out.2 (.inl (e ▸ h))
     · have := HS1.out;omega
   · rcases H9U.out.sfoot k hk with h | h
     · exact HFX.out.2 (Or.symm (e ▸ h))
     · have := HS1.out;omega
  have hAf := H9A.out.kept hkf (fun k hk e => hnf k hk e)
  have hU0 : UpdS F S w w9 F' S' := HKU.out.trans H9U.out
  have hKf := hU0.kp.trans hkf (fun i hi e => absurd hi (by omega))
  exact bodyPost_ret (results_cell_row rfl _ _ (x + 1) _ _ _ _ rfl hbf Tryz.underlying44 rfl (by kernel_rfl)) rfl ⟨rfl,F',S',hAf,⟨hKf,hU0.foot,hU0.sfoot,hU0.more⟩⟩
end Go.Proofs.YtjlbacfedfkilaaGreat
