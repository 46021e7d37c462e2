/-
  (*Ledger).Apply.
-/
import Derived.Test.YtbncblnchcmgbaaShip
import Derived.Test.YtbncblnchcmgbaaLedD
import Derived.Test.YtbncblnchcmgbaaLast
import Derived.Test.YtbncblnchcmgbaaLedP
namespace Go.Proofs.Ytbncblnchcmgbaa
open Go.RowKit Go.ChangeShapes Go.WideShapes Go.ChangeAt

set_option maxRecDepth 100000 in
set_option maxHeartbeats 8000000 in
theorem a_apply (c : CmdL) (A Bo : Option Addr) (ca cb : Nat) (SA : Nat → Prop) (B : Nat) (l : Nat) (L : LV) (F : Nat → Prop) (w : World) (h : LAt w l L F) (hok : OkL B L) (hB : B ≤ 800000) (hh : Rp.str.slice.R w SA [.slice A c.op.hashes.length ca] c.op.hashes) (ho : Rp.opl.slice.R w SA [.slice Bo c.ops.length cb] c.ops) (hsb : ∀ k, SA k → k < w.heap.size → ¬ F k)
    (hsz : -9223372036854775808 ≤ c.op.size ∧ c.op.size < 9223372036854775808) (hll : c.op.hashes.length ≤ 1000000) (hol : c.ops.length ≤ 1000000) (hsm : ∀ o ∈ c.ops, o.hashes.length ≤ 1000000) :
    Calls Try.prog 40 #[.pointer (some ⟨l, 0, none⟩), cmdV c (.slice A c.op.hashes.length ca) (.slice Bo c.ops.length cb)] w fun x w' => x = .returned (doneV (applyL c L).1) ∧ ∃ F', LAt w' l (applyL c L).2 F' ∧ Upd F w w' F' := by
  obtain ⟨⟨⟨p0, p1, p2⟩, LP⟩, hP⟩ : ∃ P, applyL c L = P := ⟨_, rfl⟩
  rw [hP]
  have HP := Lib.hid hP
  have HOK := Lib.hid hok
  have HBB := Lib.hid hB
  have HH := Lib.hid hh
  have HO := Lib.hid ho
  have HSB := Lib.hid hsb
  have hchk := fun w1 (hk : Kp No w w1) => c_checkC c A Bo ca cb w1 SA (Rp.str.slice.keptNo hh hk) (Rp.opl.slice.keptNo ho hk) hsz hll hol hsm
  have HCHK := Lib.hid hchk
  obtain ⟨hn, hhn⟩ : ∃ hn, c.op.hashes.length = hn := ⟨_, rfl⟩
  obtain ⟨on, hon⟩ : ∃ on, c.ops.length = on := ⟨_, rfl⟩
  have HHN := Lib.hid hhn
  have HON := Lib.hid hon
  obtain ⟨K, hK⟩ : ∃ K, okC c = K := ⟨_, rfl⟩
  have HOKC := Lib.hid hK
  have hchk2 := HCHK.out
  rw [hhn, hon, hK] at hchk2
  unfold cmdV at hchk2
  have HCHK := Lib.hid hchk2
  rw [hhn, hon]
  clear hP hok hB hh ho hsb hchk hhn hon hK hchk2 hsz hll hol hsm
  obtain ⟨x, hx⟩ : ∃ x, w.heap.size = x := ⟨_, rfl⟩
  obtain ⟨h1, h2, h3, h4, h5⟩ := begin_ h c (.slice A hn ca) (.slice Bo on cb)
  have hfx : ¬ F x ∧ ¬ F (x + 1) := ⟨fun e => by have := h.lt _ e; omega, fun e => by have := h.lt _ e; omega⟩
  have HFX := Lib.hid hfx
  obtain ⟨wa, hwa⟩ : ∃ wa, (w.alloc (.cells (cmdC c (.slice A hn ca) (.slice Bo on cb)).toArray 44)).alloc (.cells #[.int .i64 0, .int .i64 0, .int .i64 0] 95) = wa := ⟨_, rfl⟩
  rw [hwa] at h1 h2 h3 h4 h5
  rw [hx] at h3 h4 h5
  unfold cmdC at h3 hwa
  have HA := Lib.hid h1
  have HK := Lib.hid h2
  have HC := Lib.hid h3
  have HD := Lib.hid h4
  have HSA := Lib.hid h5
  have HX := Lib.hid hx
  clear h1 h2 h4 h5 h hfx
  unfold cmdV
  obtain ⟨ck, ep, st, op, an, ae, ops, tg⟩ := c
  simp only at *
  have z0 : wa.cell? ⟨x, 0, none⟩ = some _ := Blk.cell h3 rfl
  have z1 : wa.cell? ⟨x, 1, none⟩ = some _ := Blk.cell h3 rfl
  have z2 : wa.cell? ⟨x, 2, none⟩ = some _ := Blk.cell h3 rfl
  have z3 : wa.cell? ⟨x, 3, none⟩ = some _ := Blk.cell h3 rfl
  have z4 : wa.cell? ⟨x, 4, none⟩ = some _ := Blk.cell h3 rfl
  have z5 : wa.cell? ⟨x, 5, none⟩ = some _ := Blk.cell h3 rfl
  have z6 : wa.cell? ⟨x, 6, none⟩ = some _ := Blk.cell h3 rfl
  have z7 : wa.cell? ⟨x, 7, none⟩ = some _ := Blk.cell h3 rfl
  have z8 : wa.cell? ⟨x, 8, none⟩ = some _ := Blk.cell h3 rfl
  have z9 : wa.cell? ⟨x, 9, none⟩ = some _ := Blk.cell h3 rfl
  have z10 : wa.cell? ⟨x, 10, none⟩ = some _ := Blk.cell h3 rfl
  have z11 : wa.cell? ⟨x, 11, none⟩ = some _ := Blk.cell h3 rfl
  have z12 : wa.cell? ⟨x, 12, none⟩ = some _ := Blk.cell h3 rfl
  have z13 : wa.cell? ⟨x, 13, none⟩ = some _ := Blk.cell h3 rfl
  have z14 : wa.cell? ⟨x, 14, none⟩ = some _ := Blk.cell h3 rfl
  have z15 : wa.cell? ⟨x, 15, none⟩ = some _ := Blk.cell h3 rfl
  clear h3
  go_enter Try.func40, Try.ntmps40
  go_wp2_with fail
  clear hwa hx
  refine (HCHK.out wa HK.out).mono ?_
  rintro e w1 ⟨rfl, hk1⟩
  have hc1 := HC.out.kept hk1 (fun x => x)
  have HA1 := Lib.hid (HA.out.keptNo hk1)
  have HD1 := Lib.hid (HD.out.kept hk1 (fun x => x))
  have HK1 := Lib.hid (HK.out.trans' hk1)
  have HS1 : Hid (x + 1 < w1.heap.size) := Lib.hid (by have h1 := HSA.out; have h2 := hk1.size; omega)
  clear hk1 z0 z1 z2 z3 z4 z5 z6 z7 z8 z9 z10 z11 z12 z13 z14 z15 HA HD HK HCHK HSA HC
  have z0 : w1.cell? ⟨x, 0, none⟩ = some _ := Blk.cell hc1 rfl
  have z1 : w1.cell? ⟨x, 1, none⟩ = some _ := Blk.cell hc1 rfl
  have z2 : w1.cell? ⟨x, 2, none⟩ = some _ := Blk.cell hc1 rfl
  have z3 : w1.cell? ⟨x, 3, none⟩ = some _ := Blk.cell hc1 rfl
  have z4 : w1.cell? ⟨x, 4, none⟩ = some _ := Blk.cell hc1 rfl
  have z5 : w1.cell? ⟨x, 5, none⟩ = some _ := Blk.cell hc1 rfl
  have z6 : w1.cell? ⟨x, 6, none⟩ = some _ := Blk.cell hc1 rfl
  have z7 : w1.cell? ⟨x, 7, none⟩ = some _ := Blk.cell hc1 rfl
  have z8 : w1.cell? ⟨x, 8, none⟩ = some _ := Blk.cell hc1 rfl
  have z9 : w1.cell? ⟨x, 9, none⟩ = some _ := Blk.cell hc1 rfl
  have z10 : w1.cell? ⟨x, 10, none⟩ = some _ := Blk.cell hc1 rfl
  have z11 : w1.cell? ⟨x, 11, none⟩ = some _ := Blk.cell hc1 rfl
  have z12 : w1.cell? ⟨x, 12, none⟩ = some _ := Blk.cell hc1 rfl
  have z13 : w1.cell? ⟨x, 13, none⟩ = some _ := Blk.cell hc1 rfl
  have z14 : w1.cell? ⟨x, 14, none⟩ = some _ := Blk.cell hc1 rfl
  have z15 : w1.cell? ⟨x, 15, none⟩ = some _ := Blk.cell hc1 rfl
  clear hc1
  have hpp := HP.out
  unfold applyL at hpp
  rw [HOKC.out] at hpp
  rename_i y0 y1 y2 y3 y4 y5 y6
  cases K
  · revert y0
    as_aux_lemma =>
      intro y0
      intros
      rw [if_neg (by simp)] at hpp
      simp only [failD, Prod.mk.injEq] at hpp
      obtain ⟨⟨rfl, rfl, rfl⟩, rfl⟩ := hpp
      clear HP z0 z1 z2 z3 z4 z5 z6 z7 z8 z9 z10 z11 z12 z13 z14 z15
      go_wp2_with fail
      refine (l_failed 3 _).mono ?_
      rintro e w9 ⟨rfl, hk9⟩
      have h9k := HK1.out.trans' hk9
      have h9a := HA1.out.keptNo hk9
      have h9d := HD1.out.kept hk9 (fun x => x)
      have H9K := Lib.hid h9k
      have H9A := Lib.hid h9a
      have H9D := Lib.hid h9d
      have g0 := Blk.fr h9d 0
      have g1 := Blk.fr h9d 1
      have g2 := Blk.fr h9d 2
      have u0 : w9.cell? ⟨x + 1, 0, none⟩ = some _ := Blk.cell h9d rfl
      have u1 : w9.cell? ⟨x + 1, 1, none⟩ = some _ := Blk.cell h9d rfl
      have u2 : w9.cell? ⟨x + 1, 2, none⟩ = some _ := Blk.cell h9d rfl
      clear hk9 h9k h9a h9d
      go_wp2_with fail
      clear g0 g1 g2 u0 u1 u2
      obtain ⟨hkf, hbf⟩ := done_stored H9D.out (.int .i64 3) (.int .i64 0) (.int .i64 0)
      have hwx : w.heap.size = x := HX.out
      have hAf := H9A.out.kept hkf (fun k hk e => HFX.out.2 (e ▸ hk))
      have hKf := H9K.out.trans hkf (fun i hi e => absurd hi (by omega))
      exact bodyPost_ret (results_cell_row rfl _ _ (x + 1) _ _ _ _ rfl hbf Try.underlying95 rfl (by kernel_rfl)) rfl ⟨rfl, F, hAf, hKf.any, fun k hk => .inl hk⟩
  rw [if_pos rfl] at hpp
  have hokc := HOKC.out
  unfold okC at hokc
  simp only at hokc hpp
  have HPP := Lib.hid hpp
  have HOC := Lib.hid hokc
  clear hpp hokc HP HOKC
  by_cases k1 : ck = 1
  · revert y0
    as_aux_lemma =>
      intro y0
      intros
      subst k1
      have hpe := HPP.out
      have hoc := HOC.out
      rw [if_pos rfl] at hpe
      rw [if_neg (by decide), if_pos rfl] at hoc
      simp only [Bool.and_eq_true, decide_eq_true_iff] at hoc
      obtain ⟨h1, q1, q2, h4⟩ := hoc
      clear q1 q2
      have h4 : okP (op.placed 1 ep st) := of_decide_eq_true h4
      have h5 : op.kind ≠ 3 := h1.2.2.2
      have HPE := Lib.hid hpe
      have H4 := Lib.hid h4
      have H5 := Lib.hid h5
      clear hpe h1 h4 h5 HPP HOC
      have hcall := a_do ⟨1, ep, st, op, an, ae, ops, tg⟩ A ca (.slice Bo ops.length cb) SA B l L F w1 HA1.out HOK.out (Rp.str.slice.keptNo HH.out HK1.out) H4.out H5.out
      rw [HHN.out, HON.out, HPE.out] at hcall
      unfold cmdV at hcall
      simp only at hcall
      have HCALL := Lib.hid hcall
      clear hcall
      go_wp2_with fail
      refine HCALL.out.mono ?_
      rintro e w9 ⟨rfl, F', h9a, h9u⟩
      have h9d := HD1.out.kept h9u.kp (fun e => HFX.out.2 e)
      have H9A := Lib.hid h9a
      have H9U := Lib.hid h9u
      have H9D := Lib.hid h9d
      have g0 := Blk.fr h9d 0
      have g1 := Blk.fr h9d 1
      have g2 := Blk.fr h9d 2
      have u0 : w9.cell? ⟨x + 1, 0, none⟩ = some _ := Blk.cell h9d rfl
      have u1 : w9.cell? ⟨x + 1, 1, none⟩ = some _ := Blk.cell h9d rfl
      have u2 : w9.cell? ⟨x + 1, 2, none⟩ = some _ := Blk.cell h9d rfl
      unfold doneV
      clear h9a h9u h9d z0 z1 z2 z3 z4 z5 z6 z7 z8 z9 z10 z11 z12 z13 z14 z15 HCALL
      go_wp2_with fail
      clear g0 g1 g2 u0 u1 u2
      obtain ⟨hkf, hbf⟩ := done_stored H9D.out (.int .i64 p0) (.int .i64 p1) (.int .i64 p2)
      have hwx : w.heap.size = x := HX.out
      have hnf : ∀ k, F' k → k ≠ x + 1 := fun k hk e => by
        rcases H9U.out.foot k hk with h | h
        · exact HFX.out.2 (e ▸ h)
        · have := HS1.out; omega
      have hAf := H9A.out.kept hkf (fun k hk e => hnf k hk e)
      have hKf := ((HK1.out.any).trans H9U.out.kp (fun _ _ e => e)).trans hkf (fun i hi e => absurd hi (by omega))
      have hF' : ∀ k, F' k → F k ∨ w.heap.size ≤ k := fun k hk => by
        rcases H9U.out.foot k hk with h | h
        · exact .inl h
        · exact .inr (Nat.le_trans HK1.out.size h)
      exact bodyPost_ret (results_cell_row rfl _ _ (x + 1) _ _ _ _ rfl hbf Try.underlying95 rfl (by kernel_rfl)) rfl ⟨rfl, F', hAf, hKf, hF'⟩
  have k1b : (ck == 1) = false := beq_eq_false_iff_ne.2 k1
  by_cases k3 : ck = 3
  · revert y0
    as_aux_lemma =>
      intro y0
      intros
      subst k3
      have hpe := HPP.out
      have hoc := HOC.out
      rw [if_neg (by decide), if_pos rfl] at hpe
      rw [if_neg (by decide), if_neg (by decide), if_neg (by decide), if_pos rfl] at hoc
      simp only [Bool.and_eq_true, decide_eq_true_iff] at hoc
      obtain ⟨⟨q1, q2, h1, h2, h4⟩, q3⟩ := hoc
      clear q1 q2 q3
      have HPE := Lib.hid hpe
      have H1 := Lib.hid h1
      have H2 := Lib.hid h2
      have H4 := Lib.hid h4
      have HSB1 : Hid (∀ k, (SA k ∧ k < w.heap.size) → k < w1.heap.size → ¬ F k) := Lib.hid (fun k hk _ => HSB.out k hk.1 hk.2)
      have HO1 : Hid (Rp.opl.slice.R w1 (fun k => SA k ∧ k < w.heap.size) [.slice Bo ops.length cb] ops) := Lib.hid (Rp.opl.slice.keptNo (Rp.opl.slice.bnd HO.out) HK1.out)
      clear hpe h1 h2 h4 HPP HOC k1 k1b
      have hcall := a_ship ⟨3, ep, st, op, an, ae, ops, tg⟩ (.slice A op.hashes.length ca) Bo cb _ B l L F w1 HA1.out HOK.out HBB.out HO1.out HSB1.out H1.out H2.out H4.out
      rw [HHN.out, HON.out, HPE.out] at hcall
      unfold cmdV at hcall
      simp only at hcall
      have HCALL := Lib.hid hcall
      clear hcall
      go_wp2_with fail
      refine HCALL.out.mono ?_
      rintro e w9 ⟨rfl, F', h9a, h9u⟩
      have h9d := HD1.out.kept h9u.kp (fun e => HFX.out.2 e)
      have H9A := Lib.hid h9a
      have H9U := Lib.hid h9u
      have H9D := Lib.hid h9d
      have g0 := Blk.fr h9d 0
      have g1 := Blk.fr h9d 1
      have g2 := Blk.fr h9d 2
      have u0 : w9.cell? ⟨x + 1, 0, none⟩ = some _ := Blk.cell h9d rfl
      have u1 : w9.cell? ⟨x + 1, 1, none⟩ = some _ := Blk.cell h9d rfl
      have u2 : w9.cell? ⟨x + 1, 2, none⟩ = some _ := Blk.cell h9d rfl
      unfold doneV
      clear h9a h9u h9d z0 z1 z2 z3 z4 z5 z6 z7 z8 z9 z10 z11 z12 z13 z14 z15 HCALL
      go_wp2_with fail
      clear g0 g1 g2 u0 u1 u2
      obtain ⟨hkf, hbf⟩ := done_stored H9D.out (.int .i64 p0) (.int .i64 p1) (.int .i64 p2)
      have hwx : w.heap.size = x := HX.out
      have hnf : ∀ k, F' k → k ≠ x + 1 := fun k hk e => by
        rcases H9U.out.foot k hk with h | h
        · exact HFX.out.2 (e ▸ h)
        · have := HS1.out; omega
      have hAf := H9A.out.kept hkf (fun k hk e => hnf k hk e)
      have hKf := ((HK1.out.any).trans H9U.out.kp (fun _ _ e => e)).trans hkf (fun i hi e => absurd hi (by omega))
      have hF' : ∀ k, F' k → F k ∨ w.heap.size ≤ k := fun k hk => by
        rcases H9U.out.foot k hk with h | h
        · exact .inl h
        · exact .inr (Nat.le_trans HK1.out.size h)
      exact bodyPost_ret (results_cell_row rfl _ _ (x + 1) _ _ _ _ rfl hbf Try.underlying95 rfl (by kernel_rfl)) rfl ⟨rfl, F', hAf, hKf, hF'⟩
  have k3b : (ck == 3) = false := beq_eq_false_iff_ne.2 k3
  by_cases k4 : ck = 4
  · revert y0
    as_aux_lemma =>
      intro y0
      intros
      subst k4
      have hpe := HPP.out
      have hoc := HOC.out
      rw [if_neg (by decide), if_neg (by decide), if_pos rfl] at hpe
      rw [if_neg (by decide), if_neg (by decide), if_neg (by decide), if_neg (by decide), if_pos rfl] at hoc
      simp only [Bool.and_eq_true, decide_eq_true_iff] at hoc
      obtain ⟨q1, q2, q3, h1⟩ := hoc
      clear q1 q2 q3
      have HPE := Lib.hid hpe
      have H1 := Lib.hid h1
      clear hpe h1 HPP HOC k1 k1b k3 k3b
      have hcall := a_reign ⟨4, ep, st, op, an, ae, ops, tg⟩ (.slice A op.hashes.length ca) (.slice Bo ops.length cb) B l L F w1 HA1.out HOK.out H1.out
      rw [HHN.out, HON.out, HPE.out] at hcall
      unfold cmdV at hcall
      simp only at hcall
      have HCALL := Lib.hid hcall
      clear hcall
      go_wp2_with fail
      refine HCALL.out.mono ?_
      rintro e w9 ⟨rfl, F', h9a, h9u⟩
      have h9d := HD1.out.kept h9u.kp (fun e => HFX.out.2 e)
      have H9A := Lib.hid h9a
      have H9U := Lib.hid h9u
      have H9D := Lib.hid h9d
      have g0 := Blk.fr h9d 0
      have g1 := Blk.fr h9d 1
      have g2 := Blk.fr h9d 2
      have u0 : w9.cell? ⟨x + 1, 0, none⟩ = some _ := Blk.cell h9d rfl
      have u1 : w9.cell? ⟨x + 1, 1, none⟩ = some _ := Blk.cell h9d rfl
      have u2 : w9.cell? ⟨x + 1, 2, none⟩ = some _ := Blk.cell h9d rfl
      unfold doneV
      clear h9a h9u h9d z0 z1 z2 z3 z4 z5 z6 z7 z8 z9 z10 z11 z12 z13 z14 z15 HCALL
      go_wp2_with fail
      clear g0 g1 g2 u0 u1 u2
      obtain ⟨hkf, hbf⟩ := done_stored H9D.out (.int .i64 p0) (.int .i64 p1) (.int .i64 p2)
      have hwx : w.heap.size = x := HX.out
      have hnf : ∀ k, F' k → k ≠ x + 1 := fun k hk e => by
        rcases H9U.out.foot k hk with h | h
        · exact HFX.out.2 (e ▸ h)
        · have := HS1.out; omega
      have hAf := H9A.out.kept hkf (fun k hk e => hnf k hk e)
      have hKf := ((HK1.out.any).trans H9U.out.kp (fun _ _ e => e)).trans hkf (fun i hi e => absurd hi (by omega))
      have hF' : ∀ k, F' k → F k ∨ w.heap.size ≤ k := fun k hk => by
        rcases H9U.out.foot k hk with h | h
        · exact .inl h
        · exact .inr (Nat.le_trans HK1.out.size h)
      exact bodyPost_ret (results_cell_row rfl _ _ (x + 1) _ _ _ _ rfl hbf Try.underlying95 rfl (by kernel_rfl)) rfl ⟨rfl, F', hAf, hKf, hF'⟩
  have k4b : (ck == 4) = false := beq_eq_false_iff_ne.2 k4
  by_cases k5 : ck = 5
  · revert y0
    as_aux_lemma =>
      intro y0
      intros
      subst k5
      have hpe := HPP.out
      have hoc := HOC.out
      rw [if_neg (by decide), if_neg (by decide), if_neg (by decide), if_pos rfl] at hpe
      rw [if_neg (by decide), if_neg (by decide), if_neg (by decide), if_neg (by decide), if_neg (by decide), if_pos rfl] at hoc
      simp only [Bool.and_eq_true, decide_eq_true_iff] at hoc
      obtain ⟨q1, q2, q3, q4, h1⟩ := hoc
      clear q1 q2 q3 q4
      have HPE := Lib.hid hpe
      have H1 := Lib.hid h1
      clear hpe h1 HPP HOC k1 k1b k3 k3b k4 k4b
      have hcall := a_mark ⟨5, ep, st, op, an, ae, ops, tg⟩ (.slice A op.hashes.length ca) (.slice Bo ops.length cb) B l L F w1 HA1.out HOK.out H1.out
      rw [HHN.out, HON.out, HPE.out] at hcall
      unfold cmdV at hcall
      simp only at hcall
      have HCALL := Lib.hid hcall
      clear hcall
      go_wp2_with fail
      refine HCALL.out.mono ?_
      rintro e w9 ⟨rfl, F', h9a, h9u⟩
      have h9d := HD1.out.kept h9u.kp (fun e => HFX.out.2 e)
      have H9A := Lib.hid h9a
      have H9U := Lib.hid h9u
      have H9D := Lib.hid h9d
      have g0 := Blk.fr h9d 0
      have g1 := Blk.fr h9d 1
      have g2 := Blk.fr h9d 2
      have u0 : w9.cell? ⟨x + 1, 0, none⟩ = some _ := Blk.cell h9d rfl
      have u1 : w9.cell? ⟨x + 1, 1, none⟩ = some _ := Blk.cell h9d rfl
      have u2 : w9.cell? ⟨x + 1, 2, none⟩ = some _ := Blk.cell h9d rfl
      unfold doneV
      clear h9a h9u h9d z0 z1 z2 z3 z4 z5 z6 z7 z8 z9 z10 z11 z12 z13 z14 z15 HCALL
      go_wp2_with fail
      clear g0 g1 g2 u0 u1 u2
      obtain ⟨hkf, hbf⟩ := done_stored H9D.out (.int .i64 p0) (.int .i64 p1) (.int .i64 p2)
      have hwx : w.heap.size = x := HX.out
      have hnf : ∀ k, F' k → k ≠ x + 1 := fun k hk e => by
        rcases H9U.out.foot k hk with h | h
        · exact HFX.out.2 (e ▸ h)
        · have := HS1.out; omega
      have hAf := H9A.out.kept hkf (fun k hk e => hnf k hk e)
      have hKf := ((HK1.out.any).trans H9U.out.kp (fun _ _ e => e)).trans hkf (fun i hi e => absurd hi (by omega))
      have hF' : ∀ k, F' k → F k ∨ w.heap.size ≤ k := fun k hk => by
        rcases H9U.out.foot k hk with h | h
        · exact .inl h
        · exact .inr (Nat.le_trans HK1.out.size h)
      exact bodyPost_ret (results_cell_row rfl _ _ (x + 1) _ _ _ _ rfl hbf Try.underlying95 rfl (by kernel_rfl)) rfl ⟨rfl, F', hAf, hKf, hF'⟩
  have k5b : (ck == 5) = false := beq_eq_false_iff_ne.2 k5
  revert y0
  as_aux_lemma =>
    intro y0
    intros
    have hpe := HPP.out
    rw [if_neg k1, if_neg k3, if_neg k4, if_neg k5] at hpe
    simp only [Prod.mk.injEq] at hpe
    obtain ⟨⟨rfl, hlp⟩, rfl⟩ := hpe
    have hlast := a_last l L F w1 HA1.out (by have := HOK.out.len; omega)
    rw [hlp] at hlast
    have HLAST := Lib.hid hlast
    clear hlp hlast HPP HOC k1 k3 k4 k5
    go_wp2_with fail
    refine HLAST.out.mono ?_
    rintro e w9 ⟨rfl, hk9⟩
    have h9k := HK1.out.trans' hk9
    have h9a := HA1.out.keptNo hk9
    have h9d := HD1.out.kept hk9 (fun x => x)
    have H9K := Lib.hid h9k
    have H9A := Lib.hid h9a
    have H9D := Lib.hid h9d
    have g0 := Blk.fr h9d 0
    have g1 := Blk.fr h9d 1
    have g2 := Blk.fr h9d 2
    have u0 : w9.cell? ⟨x + 1, 0, none⟩ = some _ := Blk.cell h9d rfl
    have u1 : w9.cell? ⟨x + 1, 1, none⟩ = some _ := Blk.cell h9d rfl
    have u2 : w9.cell? ⟨x + 1, 2, none⟩ = some _ := Blk.cell h9d rfl
    clear hk9 h9k h9a h9d z0 z1 z2 z3 z4 z5 z6 z7 z8 z9 z10 z11 z12 z13 z14 z15 HLAST
    go_wp2_with fail
    clear g0 g1 g2 u0 u1 u2
    obtain ⟨hkf, hbf⟩ := done_stored H9D.out (.int .i64 0) (.int .i64 p1) (.int .i64 p2)
    have hwx : w.heap.size = x := HX.out
    have hAf := H9A.out.kept hkf (fun k hk e => HFX.out.2 (e ▸ hk))
    have hKf := H9K.out.trans hkf (fun i hi e => absurd hi (by omega))
    exact bodyPost_ret (results_cell_row rfl _ _ (x + 1) _ _ _ _ rfl hbf Try.underlying95 rfl (by kernel_rfl)) rfl ⟨rfl, F, hAf, hKf.any, fun k hk => .inl hk⟩
/-- a nil ledger does nothing -/
theorem nil_apply_ (c : CmdL) (hv ov : Value) (w : World) : Calls Try.prog 40 #[.pointer none, cmdV c hv ov] w fun x w' => x = .returned (.agg #[.int .i64 2, .int .i64 0, .int .i64 0]) ∧ Kp No w w' := by
  have hk : Kp No w ((w.alloc (.cells (cmdC c hv ov).toArray 44)).alloc (.cells #[.int .i64 0, .int .i64 0, .int .i64 0] 95)) := ((Kp.refl _ _).alloc _).alloc _
  have h4 : Blk ((w.alloc (.cells (cmdC c hv ov).toArray 44)).alloc (.cells #[.int .i64 0, .int .i64 0, .int .i64 0] 95)) (w.heap.size + 1) 95 [.int .i64 0, .int .i64 0, .int .i64 0] := by
    have := Blk.new (w.alloc (.cells (cmdC c hv ov).toArray 44)) [.int .i64 0, .int .i64 0, .int .i64 0] 95
    simpa using this
  obtain ⟨x, hx⟩ : ∃ x, w.heap.size = x := ⟨_, rfl⟩
  obtain ⟨wa, hwa⟩ : ∃ wa, (w.alloc (.cells (cmdC c hv ov).toArray 44)).alloc (.cells #[.int .i64 0, .int .i64 0, .int .i64 0] 95) = wa := ⟨_, rfl⟩
  rw [hwa] at hk h4
  rw [hx] at h4
  have HD := Lib.hid h4
  have HK := Lib.hid hk
  have HX := Lib.hid hx
  unfold cmdC at hwa
  unfold cmdV
  clear hk h4
  go_enter Try.func40, Try.ntmps40
  go_wp2_with fail
  clear hwa hx
  refine (l_failed 2 _).mono ?_
  rintro e w9 ⟨rfl, hk9⟩
  have h9d := HD.out.kept hk9 (fun x => x)
  have H9K := Lib.hid (HK.out.trans' hk9)
  have H9D := Lib.hid h9d
  have g0 := Blk.fr h9d 0
  have g1 := Blk.fr h9d 1
  have g2 := Blk.fr h9d 2
  have u0 : w9.cell? ⟨x + 1, 0, none⟩ = some _ := Blk.cell h9d rfl
  have u1 : w9.cell? ⟨x + 1, 1, none⟩ = some _ := Blk.cell h9d rfl
  have u2 : w9.cell? ⟨x + 1, 2, none⟩ = some _ := Blk.cell h9d rfl
  clear hk9 h9d
  go_wp2_with fail
  clear g0 g1 g2 u0 u1 u2
  obtain ⟨hkf, hbf⟩ := done_stored H9D.out (.int .i64 2) (.int .i64 0) (.int .i64 0)
  have hwx : w.heap.size = x := HX.out
  have hKf := H9K.out.trans hkf (fun i hi e => absurd hi (by omega))
  exact bodyPost_ret (results_cell_row rfl _ _ (x + 1) _ _ _ _ rfl hbf Try.underlying95 rfl (by kernel_rfl)) rfl ⟨rfl, hKf⟩
end Go.Proofs.Ytbncblnchcmgbaa
