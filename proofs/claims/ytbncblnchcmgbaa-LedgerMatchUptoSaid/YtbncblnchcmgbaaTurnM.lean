/-
  (*town).turn: its four kinds, and any turn.
-/
import Derived.Test.YtbncblnchcmgbaaTownA
import Derived.Test.YtbncblnchcmgbaaLedQ
import Derived.Test.YtbncblnchcmgbaaShipT
import Derived.Test.YtbncblnchcmgbaaGrt12
namespace Go.Proofs.Ytbncblnchcmgbaa
section
open Go.RowKit Go.ChangeShapes Go.WideShapes Go.ChangeAt

def turnC (x : TurnL) (hv : Value) : List Value := [.int .i64 x.kind, .int .i64 x.site, .int .i64 x.at_, .int .i64 x.some_, .int .i64 x.op.n, .int .i64 x.op.epoch, .int .i64 x.op.kind, .int .i64 x.op.site, .int .i64 x.op.client, .int .i64 x.op.seq, .string x.op.name, .int .i64 x.op.size, hv]
def turnV (x : TurnL) (hv : Value) : Value := .agg (turnC x hv).toArray
theorem sOf_mod {site : Int} {b : Bool} (h : sOf site = b) : (IntKind.u64.wrap site).tmod 2 = sI b := by
  rw [← h, ← sOf_eq]
  exact modN_eq site (show 0 < 2 by omega)
theorem TNew.open_ {w0 w : World} {t : Nat} {T : TV} (h : TNew w0 w t T) : Kp No w0 w ∧ ∃ x F sv tv S, TIn w0.heap.size w t x F sv tv S T := h
set_option maxRecDepth 100000 in
set_option maxHeartbeats 8000000 in
theorem t_turn1 (w0 w : World) (t : Nat) (x : TurnL) (A : Option Addr) (c : Nat) (i : Nat) (T : TV) (h : TNew w0 w t T) (hok : TOk i T) (hi : i ≤ 1000) (hkd : x.kind = 1) :
    Calls Try.prog 11 #[.pointer (some ⟨t, 0, none⟩), turnV x (.slice A x.op.hashes.length c)] w fun e w' => e = .returned (.tuple #[]) ∧ TNew w0 w' t (reignT (sOf x.site) T) := by
  obtain ⟨hk0, xs, F, sv, tv, S, hin⟩ := h
  obtain ⟨b, hb⟩ : ∃ b, sOf x.site = b := ⟨_, rfl⟩
  have hmod := sOf_mod hb
  rw [hb]
  unfold turnV turnC
  obtain ⟨kd, st, at2, sm, ⟨on, oe, ok, os, oc, oq, onm, osz, ohs⟩⟩ := x
  simp only at *
  subst hkd
  obtain ⟨kd, hkd⟩ : ∃ k : Int, k = 1 := ⟨_, rfl⟩
  obtain ⟨hn, hhn⟩ : ∃ k, ohs.length = k := ⟨_, rfl⟩
  rw [hhn]
  clear hhn hb
  rw [← hkd]
  obtain ⟨wa, hwa⟩ : ∃ v, w.alloc (.cells #[.int .i64 kd, .int .i64 st, .int .i64 at2, .int .i64 sm, .int .i64 on, .int .i64 oe, .int .i64 ok, .int .i64 os, .int .i64 oc, .int .i64 oq, .string onm, .int .i64 osz, .slice A hn c] 40) = v := ⟨_, rfl⟩
  obtain ⟨y, hy⟩ : ∃ v, w.heap.size = v := ⟨_, rfl⟩
  have HINW := Lib.hid hin
  have HYW : Hid (y = w.heap.size) := Lib.hid hy.symm
  have HKA := Lib.hid (show Kp No w wa by rw [← hwa]; exact (Kp.refl _ _).alloc _)
  have hka : Kp No w wa := by rw [← hwa]; exact (Kp.refl _ _).alloc _
  have hba : Blk wa y 40 [.int .i64 kd, .int .i64 st, .int .i64 at2, .int .i64 sm, .int .i64 on, .int .i64 oe, .int .i64 ok, .int .i64 os, .int .i64 oc, .int .i64 oq, .string onm, .int .i64 osz, .slice A hn c] := by rw [← hwa, ← hy]; exact Blk.new w _ _
  have hyt : y ≠ t := fun e => by have := Blk.lt hin.blk; omega
  have HYT := Lib.hid hyt
  have HIN := Lib.hid (hin.keptNo hka)
  have HK0 := Lib.hid (hk0.trans' hka)
  have HBA := Lib.hid hba
  have HYG : Hid (w0.heap.size ≤ y) := Lib.hid (by rw [← hy]; exact hk0.size)
  have y0 : wa.cell? ⟨y, 0, none⟩ = some (.int .i64 kd) := Blk.cell hba rfl
  have y1 : wa.cell? ⟨y, 1, none⟩ = some (.int .i64 st) := Blk.cell hba rfl
  clear hin hka hba hk0 hyt
  subst hkd
  obtain ⟨ep, hep⟩ : ∃ e, T.epoch = e := ⟨_, rfl⟩
  have k2 : wa.cell? ⟨t, 2, none⟩ = some (.int .i64 ep) := by rw [← hep]; exact Blk.cell HIN.out.blk rfl
  have f2 := Blk.fr HIN.out.blk 2
  have hepb := hok.epoch
  rw [hep] at hepb
  have HEP := Lib.hid hep
  have HOK := Lib.hid hok
  clear hok hep
  cases b
  · skip
    unfold sI at hmod
    simp only [Bool.false_eq_true, if_false] at hmod
    by_cases he16 : ep < 16
    · have hT : reignT false T = { T.put false (applyL (reignC (ep + 1) false) (T.l false)).2 with epoch := ep + 1 } := by unfold reignT; rw [HEP.out, if_pos he16]
      have HT := Lib.hid hT
      clear hT
      have HIN2 : Hid (TIn w0.heap.size (wa.setCell ⟨t, 2, none⟩ (.int .i64 (ep + 1))) t xs F sv tv S { T with epoch := ep + 1 }) := Lib.hid (HIN.out.next (ep + 1))
      have HK2 : Hid (Kp No w0 (wa.setCell ⟨t, 2, none⟩ (.int .i64 (ep + 1)))) := Lib.hid (HK0.out.trans ((Kp.refl (· = t) wa).setCell (p := ⟨t, 2, none⟩) (fun _ => rfl) _) (fun k hk e => by have := HIN.out.tb; omega))
      obtain ⟨w2, hw2⟩ : ∃ v, wa.setCell ⟨t, 2, none⟩ (.int .i64 (ep + 1)) = v := ⟨_, rfl⟩
      rw [hw2] at HIN2 HK2
      have hwr : IntKind.i64.wrap (ep + 1) = ep + 1 := by rw [IntKind.wrap_i64]; omega
      go_enter Try.func11, Try.ntmps11
      go_wp2_with fail
      clear hwa hy hw2 k2 f2 y0 y1
      have k0 : w2.cell? ⟨t, 0, none⟩ = some _ := Blk.cell HIN2.out.blk rfl
      have k1 : w2.cell? ⟨t, 1, none⟩ = some _ := Blk.cell HIN2.out.blk rfl
      have k2 : w2.cell? ⟨t, 2, none⟩ = some (.int .i64 (ep + 1)) := Blk.cell HIN2.out.blk rfl
      have hbu : ∀ W, (Instr.build 44 #[(0, .int .i64 4), (1, .int .i64 (ep + 1)), (2, .int .i64 0)]).run Try.prog W = .ok (.agg #[.int .i64 4, .int .i64 (ep + 1), .int .i64 0, .int .i64 0, .int .i64 0, .int .i64 0, .int .i64 0, .int .i64 0, .int .i64 0, .string { data := #[] }, .int .i64 0, .slice none 0 0, .int .i64 0, .int .i64 0, .slice none 0 0, .int .i64 0]) W := fun W => by go_simp
      refine Reg.wp_region_plan [⟨0, false, []⟩, ⟨1, false, []⟩, ⟨2, false, []⟩, ⟨3, false, []⟩, ⟨4, false, []⟩, ⟨5, false, []⟩, ⟨6, false, []⟩, ⟨7, false, []⟩, ⟨8, false, []⟩, ⟨9, false, []⟩, ⟨10, false, []⟩, ⟨11, false, []⟩, ⟨12, true, []⟩] rfl (by kernel_rfl) ?_
      repeat (first | (refine Reg.look rfl rfl rfl (by go_simp; rfl) rfl ?_; go_simp) | (refine Reg.skip rfl rfl rfl ?_; go_simp))
      obtain ⟨wd, hwd⟩ : ∃ v, w2.drew = v := ⟨_, rfl⟩
      have hkd : Kp No w2 wd := by rw [← hwd]; exact (Kp.refl _ _).drew
      rw [hwd]
      have hok2 : TOk i { T with epoch := ep + 1 } := ⟨HOK.out.led, HOK.out.sent, HOK.out.many, by show 0 ≤ ep + 1 ∧ ep + 1 ≤ 16; omega⟩
      have hA := (HIN2.out.keptNo hkd).applyC (HK2.out.trans' hkd) hok2 hi false (reignC (ep + 1) false) none none 0 0 No (Rp.none_ _ _ _) (Rp.none_ _ _ _) (fun _ h => h.elim) (by show -9223372036854775808 ≤ (0 : Int) ∧ (0 : Int) < 9223372036854775808; omega) ⟨Nat.zero_le _, Nat.zero_le _, fun o ho => absurd ho List.not_mem_nil⟩
      unfold cmdV reignC opZ sI at hA
      simp only [Bool.false_eq_true, if_false, List.length_nil] at hA
      have HA := Lib.hid hA
      clear hA hwd hkd k0 k1 k2 hbu
      refine Reg.act rfl ?_
      go_wp2_with fail
      refine HA.out.mono ?_
      rintro e w3 ⟨rfl, F2, hin3, hk3⟩
      have HFIN : Hid (TNew w0 w3 t (reignT false T)) := Lib.hid (by rw [HT.out]; exact ⟨hk3, xs, F2, sv, tv, S, hin3⟩)
      clear hin3 hk3 HA
      go_wp2_with fail
      (refine ⟨?anew, ?_⟩; case anew => ((repeat (refine Reg.anew_cons rfl rfl (fun _ => by go_simp) ?_)); exact Reg.anew_nil))
      repeat (first | (refine Reg.look rfl rfl rfl (by go_simp; rfl) rfl ?_; go_simp) | (refine Reg.skip rfl rfl rfl ?_; go_simp))
      (refine Reg.done ?_; simp only [Exit.then])
      go_wp2_with fail
      go_end0
      exact ⟨rfl, HFIN.out⟩
    · have hT : reignT false T = T := by unfold reignT; rw [HEP.out, if_neg he16]
      have HT := Lib.hid hT
      clear hT
      go_enter Try.func11, Try.ntmps11
      go_wp2_with fail
      go_end0
      exact ⟨rfl, by rw [HT.out]; exact ⟨HK0.out, xs, F, sv, tv, S, HIN.out⟩⟩
  · skip
    unfold sI at hmod
    simp only [if_true] at hmod
    by_cases he16 : ep < 16
    · have hT : reignT true T = { T.put true (applyL (reignC (ep + 1) true) (T.l true)).2 with epoch := ep + 1 } := by unfold reignT; rw [HEP.out, if_pos he16]
      have HT := Lib.hid hT
      clear hT
      have HIN2 : Hid (TIn w0.heap.size (wa.setCell ⟨t, 2, none⟩ (.int .i64 (ep + 1))) t xs F sv tv S { T with epoch := ep + 1 }) := Lib.hid (HIN.out.next (ep + 1))
      have HK2 : Hid (Kp No w0 (wa.setCell ⟨t, 2, none⟩ (.int .i64 (ep + 1)))) := Lib.hid (HK0.out.trans ((Kp.refl (· = t) wa).setCell (p := ⟨t, 2, none⟩) (fun _ => rfl) _) (fun k hk e => by have := HIN.out.tb; omega))
      obtain ⟨w2, hw2⟩ : ∃ v, wa.setCell ⟨t, 2, none⟩ (.int .i64 (ep + 1)) = v := ⟨_, rfl⟩
      rw [hw2] at HIN2 HK2
      have hwr : IntKind.i64.wrap (ep + 1) = ep + 1 := by rw [IntKind.wrap_i64]; omega
      go_enter Try.func11, Try.ntmps11
      go_wp2_with fail
      clear hwa hy hw2 k2 f2 y0 y1
      have k0 : w2.cell? ⟨t, 0, none⟩ = some _ := Blk.cell HIN2.out.blk rfl
      have k1 : w2.cell? ⟨t, 1, none⟩ = some _ := Blk.cell HIN2.out.blk rfl
      have k2 : w2.cell? ⟨t, 2, none⟩ = some (.int .i64 (ep + 1)) := Blk.cell HIN2.out.blk rfl
      have hbu : ∀ W, (Instr.build 44 #[(0, .int .i64 4), (1, .int .i64 (ep + 1)), (2, .int .i64 1)]).run Try.prog W = .ok (.agg #[.int .i64 4, .int .i64 (ep + 1), .int .i64 1, .int .i64 0, .int .i64 0, .int .i64 0, .int .i64 0, .int .i64 0, .int .i64 0, .string { data := #[] }, .int .i64 0, .slice none 0 0, .int .i64 0, .int .i64 0, .slice none 0 0, .int .i64 0]) W := fun W => by go_simp
      refine Reg.wp_region_plan [⟨0, false, []⟩, ⟨1, false, []⟩, ⟨2, false, []⟩, ⟨3, false, []⟩, ⟨4, false, []⟩, ⟨5, false, []⟩, ⟨6, false, []⟩, ⟨7, false, []⟩, ⟨8, false, []⟩, ⟨9, false, []⟩, ⟨10, false, []⟩, ⟨11, false, []⟩, ⟨12, true, []⟩] rfl (by kernel_rfl) ?_
      repeat (first | (refine Reg.look rfl rfl rfl (by go_simp; rfl) rfl ?_; go_simp) | (refine Reg.skip rfl rfl rfl ?_; go_simp))
      obtain ⟨wd, hwd⟩ : ∃ v, w2.drew = v := ⟨_, rfl⟩
      have hkd : Kp No w2 wd := by rw [← hwd]; exact (Kp.refl _ _).drew
      rw [hwd]
      have hok2 : TOk i { T with epoch := ep + 1 } := ⟨HOK.out.led, HOK.out.sent, HOK.out.many, by show 0 ≤ ep + 1 ∧ ep + 1 ≤ 16; omega⟩
      have hA := (HIN2.out.keptNo hkd).applyC (HK2.out.trans' hkd) hok2 hi true (reignC (ep + 1) true) none none 0 0 No (Rp.none_ _ _ _) (Rp.none_ _ _ _) (fun _ h => h.elim) (by show -9223372036854775808 ≤ (0 : Int) ∧ (0 : Int) < 9223372036854775808; omega) ⟨Nat.zero_le _, Nat.zero_le _, fun o ho => absurd ho List.not_mem_nil⟩
      unfold cmdV reignC opZ sI at hA
      simp only [if_true, List.length_nil] at hA
      have HA := Lib.hid hA
      clear hA hwd hkd k0 k1 k2 hbu
      refine Reg.act rfl ?_
      go_wp2_with fail
      refine HA.out.mono ?_
      rintro e w3 ⟨rfl, F2, hin3, hk3⟩
      have HFIN : Hid (TNew w0 w3 t (reignT true T)) := Lib.hid (by rw [HT.out]; exact ⟨hk3, xs, F2, sv, tv, S, hin3⟩)
      clear hin3 hk3 HA
      go_wp2_with fail
      (refine ⟨?anew, ?_⟩; case anew => ((repeat (refine Reg.anew_cons rfl rfl (fun _ => by go_simp) ?_)); exact Reg.anew_nil))
      repeat (first | (refine Reg.look rfl rfl rfl (by go_simp; rfl) rfl ?_; go_simp) | (refine Reg.skip rfl rfl rfl ?_; go_simp))
      (refine Reg.done ?_; simp only [Exit.then])
      go_wp2_with fail
      go_end0
      exact ⟨rfl, HFIN.out⟩
    · have hT : reignT true T = T := by unfold reignT; rw [HEP.out, if_neg he16]
      have HT := Lib.hid hT
      clear hT
      go_enter Try.func11, Try.ntmps11
      go_wp2_with fail
      go_end0
      exact ⟨rfl, by rw [HT.out]; exact ⟨HK0.out, xs, F, sv, tv, S, HIN.out⟩⟩
set_option maxRecDepth 100000 in
set_option maxHeartbeats 8000000 in
theorem t_turn2 (w0 w : World) (t : Nat) (x : TurnL) (A : Option Addr) (c : Nat) (i : Nat) (T : TV) (h : TNew w0 w t T) (hok : TOk i T) (hi : i ≤ 1000) (hkd : x.kind = 2) (hnu : x.nums) (hh : Rp.str.slice.R w0 (fun k => k < w0.heap.size) [.slice A x.op.hashes.length c] x.op.hashes) (hsm : x.op.hashes.length ≤ 1000000) :
    Calls Try.prog 11 #[.pointer (some ⟨t, 0, none⟩), turnV x (.slice A x.op.hashes.length c)] w fun e w' => e = .returned (.tuple #[]) ∧ TNew w0 w' t (doT (sOf x.site) (clearO x.op) T) := by
  obtain ⟨hk0, xs, F, sv, tv, S, hin⟩ := h
  obtain ⟨b, hb⟩ : ∃ b, sOf x.site = b := ⟨_, rfl⟩
  have hmod := sOf_mod hb
  have hszb := bounds_I64 hnu.2.2.2.2.2.2.2.2.2.2.2
  rw [hb]
  unfold turnV turnC
  obtain ⟨kd, st, at2, sm, ⟨on, oe, ok, os, oc, oq, onm, osz, ohs⟩⟩ := x
  simp only at *
  subst hkd
  obtain ⟨kd, hkd⟩ : ∃ k : Int, k = 2 := ⟨_, rfl⟩
  obtain ⟨hn, hhn⟩ : ∃ k, ohs.length = k := ⟨_, rfl⟩
  have HHN := Lib.hid hhn
  have HH := Lib.hid hh
  have HSZ := Lib.hid hszb
  rw [hhn]
  rw [hhn] at hsm
  clear hhn hb hh hnu hszb
  rw [← hkd]
  obtain ⟨wa, hwa⟩ : ∃ v, w.alloc (.cells #[.int .i64 kd, .int .i64 st, .int .i64 at2, .int .i64 sm, .int .i64 on, .int .i64 oe, .int .i64 ok, .int .i64 os, .int .i64 oc, .int .i64 oq, .string onm, .int .i64 osz, .slice A hn c] 40) = v := ⟨_, rfl⟩
  obtain ⟨y, hy⟩ : ∃ v, w.heap.size = v := ⟨_, rfl⟩
  have HINW := Lib.hid hin
  have HYW : Hid (y = w.heap.size) := Lib.hid hy.symm
  have HKA := Lib.hid (show Kp No w wa by rw [← hwa]; exact (Kp.refl _ _).alloc _)
  have hka : Kp No w wa := by rw [← hwa]; exact (Kp.refl _ _).alloc _
  have hba : Blk wa y 40 [.int .i64 kd, .int .i64 st, .int .i64 at2, .int .i64 sm, .int .i64 on, .int .i64 oe, .int .i64 ok, .int .i64 os, .int .i64 oc, .int .i64 oq, .string onm, .int .i64 osz, .slice A hn c] := by rw [← hwa, ← hy]; exact Blk.new w _ _
  have hyt : y ≠ t := fun e => by have := Blk.lt hin.blk; omega
  have HYT := Lib.hid hyt
  have HIN := Lib.hid (hin.keptNo hka)
  have HK0 := Lib.hid (hk0.trans' hka)
  have HBA := Lib.hid hba
  have HYG : Hid (w0.heap.size ≤ y) := Lib.hid (by rw [← hy]; exact hk0.size)
  have y0 : wa.cell? ⟨y, 0, none⟩ = some (.int .i64 kd) := Blk.cell hba rfl
  have y1 : wa.cell? ⟨y, 1, none⟩ = some (.int .i64 st) := Blk.cell hba rfl
  clear hin hka hba hk0 hyt
  subst hkd
  have HOK := Lib.hid hok
  clear hok
  have y4 : wa.cell? ⟨y, 4, none⟩ = some _ := Blk.cell HBA.out rfl
  have y5 : wa.cell? ⟨y, 5, none⟩ = some _ := Blk.cell HBA.out rfl
  have y7 : wa.cell? ⟨y, 7, none⟩ = some _ := Blk.cell HBA.out rfl
  have f4 := Blk.fr HBA.out 4
  have f5 := Blk.fr HBA.out 5
  have f7 := Blk.fr HBA.out 7
  obtain ⟨w2, hw2⟩ : ∃ v, ((wa.setCell ⟨y, 4, none⟩ (.int .i64 0)).setCell ⟨y, 5, none⟩ (.int .i64 0)).setCell ⟨y, 7, none⟩ (.int .i64 0) = v := ⟨_, rfl⟩
  have hb2 := Blk.set (Blk.set (Blk.set HBA.out 4 (.int .i64 0)) 5 (.int .i64 0)) 7 (.int .i64 0)
  have hk2 : Kp (· = y) wa (((wa.setCell ⟨y, 4, none⟩ (.int .i64 0)).setCell ⟨y, 5, none⟩ (.int .i64 0)).setCell ⟨y, 7, none⟩ (.int .i64 0)) := (((Kp.refl (· = y) wa).setCell (p := ⟨y, 4, none⟩) (fun _ => rfl) _).setCell (p := ⟨y, 5, none⟩) (fun _ => rfl) _).setCell (p := ⟨y, 7, none⟩) (fun _ => rfl) _
  rw [hw2] at hb2 hk2
  have HB2 := Lib.hid hb2
  have HK2a := Lib.hid hk2
  have hmod2 := hmod
  clear hb2 hk2
  cases b
  · skip
    unfold sI at hmod
    simp only [Bool.false_eq_true, if_false] at hmod
    clear hmod2
    go_enter Try.func11, Try.ntmps11
    go_wp2_with fail
    clear hwa hy hw2 y0 y1 y4 y5 y7 f4 f5 f7
    have hkw : Kp No w w2 := HKA.out.trans HK2a.out (fun k hk e => by have := HYW.out; omega)
    have HINd : Hid (TIn w0.heap.size w2.drew t xs F sv tv S T) := Lib.hid (HINW.out.keptNo hkw.drew)
    have HKd : Hid (Kp No w0 w2.drew) := Lib.hid ((HK0.out.trans HK2a.out (fun k hk e => by have := HYG.out; omega)).drew)
    have HBd := Lib.hid (HB2.out.kept ((Kp.refl No w2).drew) (fun z => z))
    refine Reg.wp_region_plan [⟨0, false, []⟩, ⟨1, false, []⟩, ⟨2, false, []⟩, ⟨3, false, []⟩, ⟨4, false, []⟩, ⟨5, false, []⟩, ⟨6, false, []⟩, ⟨7, false, []⟩, ⟨8, false, []⟩, ⟨9, false, []⟩, ⟨10, false, []⟩, ⟨11, false, []⟩, ⟨13, false, []⟩, ⟨14, false, []⟩, ⟨15, false, []⟩, ⟨12, true, [2, 3, 4, 5, 14, 15]⟩, ⟨16, false, []⟩, ⟨17, true, []⟩] rfl (by kernel_rfl) ?_
    obtain ⟨wd, hwd⟩ : ∃ v, w2.drew = v := ⟨_, rfl⟩
    rw [hwd] at HINd HKd HBd ⊢
    clear hwd hkw
    have k0 : wd.cell? ⟨t, 0, none⟩ = some _ := Blk.cell HINd.out.blk rfl
    have k1 : wd.cell? ⟨t, 1, none⟩ = some _ := Blk.cell HINd.out.blk rfl
    have y4 : wd.cell? ⟨y, 4, none⟩ = some (.int .i64 0) := Blk.cell HBd.out rfl
    have y5 : wd.cell? ⟨y, 5, none⟩ = some (.int .i64 0) := Blk.cell HBd.out rfl
    have y6 : wd.cell? ⟨y, 6, none⟩ = some (.int .i64 ok) := Blk.cell HBd.out rfl
    have y7 : wd.cell? ⟨y, 7, none⟩ = some (.int .i64 0) := Blk.cell HBd.out rfl
    have y8 : wd.cell? ⟨y, 8, none⟩ = some (.int .i64 oc) := Blk.cell HBd.out rfl
    have y9 : wd.cell? ⟨y, 9, none⟩ = some (.int .i64 oq) := Blk.cell HBd.out rfl
    have y10 : wd.cell? ⟨y, 10, none⟩ = some (.string onm) := Blk.cell HBd.out rfl
    have y11 : wd.cell? ⟨y, 11, none⟩ = some (.int .i64 osz) := Blk.cell HBd.out rfl
    have y12 : wd.cell? ⟨y, 12, none⟩ = some (.slice A hn c) := Blk.cell HBd.out rfl
    have hfe := a_fence (xs false) (T.l false) (F false) wd (HINd.out.led false)
    have hA := HINd.out.applyC HKd.out HOK.out hi false (doC (T.l false).fence false (clearO ⟨on, oe, ok, os, oc, oq, onm, osz, ohs⟩)) A none c 0 (fun k => k < w0.heap.size) (Rp.str.slice.keptNo HH.out HKd.out) (Rp.none_ _ _ _) (fun k hk _ hF => by have := HINd.out.fb false k hF; omega) HSZ.out ⟨by show ohs.length ≤ 1000000; rw [HHN.out]; exact hsm, Nat.zero_le _, fun o ho => absurd ho List.not_mem_nil⟩
    have hT : doT false (clearO ⟨on, oe, ok, os, oc, oq, onm, osz, ohs⟩) T = T.put false (applyL (doC (T.l false).fence false (clearO ⟨on, oe, ok, os, oc, oq, onm, osz, ohs⟩)) (T.l false)).2 := rfl
    rw [← hT] at hA
    obtain ⟨T2, hT2⟩ : ∃ v, doT false (clearO ⟨on, oe, ok, os, oc, oq, onm, osz, ohs⟩) T = v := ⟨_, rfl⟩
    obtain ⟨D, hD⟩ : ∃ v, (applyL (doC (T.l false).fence false (clearO ⟨on, oe, ok, os, oc, oq, onm, osz, ohs⟩)) (T.l false)).1 = v := ⟨_, rfl⟩
    rw [hT2, hD] at hA
    have HT2 := Lib.hid hT2
    clear hT hT2 hD
    obtain ⟨f, hf⟩ : ∃ v, (T.l false).fence = v := ⟨_, rfl⟩
    rw [hf] at hA hfe
    unfold cmdV doC clearO doneV sI at hA
    simp only [Bool.false_eq_true, if_false, List.length_nil] at hA
    rw [HHN.out] at hA
    have HA := Lib.hid hA
    have HFE := Lib.hid hfe
    have hbu : ∀ W, (Instr.build 44 #[(0, .int .i64 1), (1, .int .i64 f), (2, .int .i64 0), (3, .agg #[.int .i64 0, .int .i64 0, .int .i64 ok, .int .i64 0, .int .i64 oc, .int .i64 oq, .string onm, .int .i64 osz, .slice A hn c])]).run Try.prog W = .ok (.agg #[.int .i64 1, .int .i64 f, .int .i64 0, .int .i64 0, .int .i64 0, .int .i64 ok, .int .i64 0, .int .i64 oc, .int .i64 oq, .string onm, .int .i64 osz, .slice A hn c, .int .i64 0, .int .i64 0, .slice none 0 0, .int .i64 0]) W := fun W => by go_simp
    clear hA hfe hf
    repeat (first | (refine Reg.look rfl rfl rfl (by go_simp; rfl) rfl ?_; go_simp) | (refine Reg.skip rfl rfl rfl ?_; go_simp))
    refine Reg.act rfl ?_
    go_wp2_with fail
    refine HFE.out.mono ?_
    rintro e w3 ⟨rfl, rfl⟩
    clear HFE
    go_wp2_with fail
    (refine ⟨?anew, ?_⟩; case anew => ((repeat (refine Reg.anew_cons rfl rfl (fun _ => by go_simp) ?_)); exact Reg.anew_nil))
    repeat (first | (refine Reg.look rfl rfl rfl (by go_simp; rfl) rfl ?_; go_simp) | (refine Reg.skip rfl rfl rfl ?_; go_simp))
    clear k0 k1 y4 y5 y6 y7 y8 y9 y10 y11 y12 hbu
    refine Reg.act rfl ?_
    go_wp2_with fail
    refine HA.out.mono ?_
    rintro e w4 ⟨rfl, F2, hin4, hk4⟩
    have HFIN : Hid (TNew w0 w4 t T2) := Lib.hid ⟨hk4, xs, F2, sv, tv, S, hin4⟩
    clear hin4 hk4 HA
    go_wp2_with fail
    (refine ⟨?anew, ?_⟩; case anew => ((repeat (refine Reg.anew_cons rfl rfl (fun _ => by go_simp) ?_)); exact Reg.anew_nil))
    repeat (first | (refine Reg.look rfl rfl rfl (by go_simp; rfl) rfl ?_; go_simp) | (refine Reg.skip rfl rfl rfl ?_; go_simp))
    (refine Reg.done ?_; simp only [Exit.then])
    go_wp2_with fail
    go_end0
    exact ⟨rfl, by rw [HT2.out]; exact HFIN.out⟩
  · skip
    unfold sI at hmod
    simp only [if_true] at hmod
    clear hmod2
    go_enter Try.func11, Try.ntmps11
    go_wp2_with fail
    clear hwa hy hw2 y0 y1 y4 y5 y7 f4 f5 f7
    have hkw : Kp No w w2 := HKA.out.trans HK2a.out (fun k hk e => by have := HYW.out; omega)
    have HINd : Hid (TIn w0.heap.size w2.drew t xs F sv tv S T) := Lib.hid (HINW.out.keptNo hkw.drew)
    have HKd : Hid (Kp No w0 w2.drew) := Lib.hid ((HK0.out.trans HK2a.out (fun k hk e => by have := HYG.out; omega)).drew)
    have HBd := Lib.hid (HB2.out.kept ((Kp.refl No w2).drew) (fun z => z))
    refine Reg.wp_region_plan [⟨0, false, []⟩, ⟨1, false, []⟩, ⟨2, false, []⟩, ⟨3, false, []⟩, ⟨4, false, []⟩, ⟨5, false, []⟩, ⟨6, false, []⟩, ⟨7, false, []⟩, ⟨8, false, []⟩, ⟨9, false, []⟩, ⟨10, false, []⟩, ⟨11, false, []⟩, ⟨13, false, []⟩, ⟨14, false, []⟩, ⟨15, false, []⟩, ⟨12, true, [2, 3, 4, 5, 14, 15]⟩, ⟨16, false, []⟩, ⟨17, true, []⟩] rfl (by kernel_rfl) ?_
    obtain ⟨wd, hwd⟩ : ∃ v, w2.drew = v := ⟨_, rfl⟩
    rw [hwd] at HINd HKd HBd ⊢
    clear hwd hkw
    have k0 : wd.cell? ⟨t, 0, none⟩ = some _ := Blk.cell HINd.out.blk rfl
    have k1 : wd.cell? ⟨t, 1, none⟩ = some _ := Blk.cell HINd.out.blk rfl
    have y4 : wd.cell? ⟨y, 4, none⟩ = some (.int .i64 0) := Blk.cell HBd.out rfl
    have y5 : wd.cell? ⟨y, 5, none⟩ = some (.int .i64 0) := Blk.cell HBd.out rfl
    have y6 : wd.cell? ⟨y, 6, none⟩ = some (.int .i64 ok) := Blk.cell HBd.out rfl
    have y7 : wd.cell? ⟨y, 7, none⟩ = some (.int .i64 0) := Blk.cell HBd.out rfl
    have y8 : wd.cell? ⟨y, 8, none⟩ = some (.int .i64 oc) := Blk.cell HBd.out rfl
    have y9 : wd.cell? ⟨y, 9, none⟩ = some (.int .i64 oq) := Blk.cell HBd.out rfl
    have y10 : wd.cell? ⟨y, 10, none⟩ = some (.string onm) := Blk.cell HBd.out rfl
    have y11 : wd.cell? ⟨y, 11, none⟩ = some (.int .i64 osz) := Blk.cell HBd.out rfl
    have y12 : wd.cell? ⟨y, 12, none⟩ = some (.slice A hn c) := Blk.cell HBd.out rfl
    have hfe := a_fence (xs true) (T.l true) (F true) wd (HINd.out.led true)
    have hA := HINd.out.applyC HKd.out HOK.out hi true (doC (T.l true).fence true (clearO ⟨on, oe, ok, os, oc, oq, onm, osz, ohs⟩)) A none c 0 (fun k => k < w0.heap.size) (Rp.str.slice.keptNo HH.out HKd.out) (Rp.none_ _ _ _) (fun k hk _ hF => by have := HINd.out.fb true k hF; omega) HSZ.out ⟨by show ohs.length ≤ 1000000; rw [HHN.out]; exact hsm, Nat.zero_le _, fun o ho => absurd ho List.not_mem_nil⟩
    have hT : doT true (clearO ⟨on, oe, ok, os, oc, oq, onm, osz, ohs⟩) T = T.put true (applyL (doC (T.l true).fence true (clearO ⟨on, oe, ok, os, oc, oq, onm, osz, ohs⟩)) (T.l true)).2 := rfl
    rw [← hT] at hA
    obtain ⟨T2, hT2⟩ : ∃ v, doT true (clearO ⟨on, oe, ok, os, oc, oq, onm, osz, ohs⟩) T = v := ⟨_, rfl⟩
    obtain ⟨D, hD⟩ : ∃ v, (applyL (doC (T.l true).fence true (clearO ⟨on, oe, ok, os, oc, oq, onm, osz, ohs⟩)) (T.l true)).1 = v := ⟨_, rfl⟩
    rw [hT2, hD] at hA
    have HT2 := Lib.hid hT2
    clear hT hT2 hD
    obtain ⟨f, hf⟩ : ∃ v, (T.l true).fence = v := ⟨_, rfl⟩
    rw [hf] at hA hfe
    unfold cmdV doC clearO doneV sI at hA
    simp only [if_true, List.length_nil] at hA
    rw [HHN.out] at hA
    have HA := Lib.hid hA
    have HFE := Lib.hid hfe
    have hbu : ∀ W, (Instr.build 44 #[(0, .int .i64 1), (1, .int .i64 f), (2, .int .i64 1), (3, .agg #[.int .i64 0, .int .i64 0, .int .i64 ok, .int .i64 0, .int .i64 oc, .int .i64 oq, .string onm, .int .i64 osz, .slice A hn c])]).run Try.prog W = .ok (.agg #[.int .i64 1, .int .i64 f, .int .i64 1, .int .i64 0, .int .i64 0, .int .i64 ok, .int .i64 0, .int .i64 oc, .int .i64 oq, .string onm, .int .i64 osz, .slice A hn c, .int .i64 0, .int .i64 0, .slice none 0 0, .int .i64 0]) W := fun W => by go_simp
    clear hA hfe hf
    repeat (first | (refine Reg.look rfl rfl rfl (by go_simp; rfl) rfl ?_; go_simp) | (refine Reg.skip rfl rfl rfl ?_; go_simp))
    refine Reg.act rfl ?_
    go_wp2_with fail
    refine HFE.out.mono ?_
    rintro e w3 ⟨rfl, rfl⟩
    clear HFE
    go_wp2_with fail
    (refine ⟨?anew, ?_⟩; case anew => ((repeat (refine Reg.anew_cons rfl rfl (fun _ => by go_simp) ?_)); exact Reg.anew_nil))
    repeat (first | (refine Reg.look rfl rfl rfl (by go_simp; rfl) rfl ?_; go_simp) | (refine Reg.skip rfl rfl rfl ?_; go_simp))
    clear k0 k1 y4 y5 y6 y7 y8 y9 y10 y11 y12 hbu
    refine Reg.act rfl ?_
    go_wp2_with fail
    refine HA.out.mono ?_
    rintro e w4 ⟨rfl, F2, hin4, hk4⟩
    have HFIN : Hid (TNew w0 w4 t T2) := Lib.hid ⟨hk4, xs, F2, sv, tv, S, hin4⟩
    clear hin4 hk4 HA
    go_wp2_with fail
    (refine ⟨?anew, ?_⟩; case anew => ((repeat (refine Reg.anew_cons rfl rfl (fun _ => by go_simp) ?_)); exact Reg.anew_nil))
    repeat (first | (refine Reg.look rfl rfl rfl (by go_simp; rfl) rfl ?_; go_simp) | (refine Reg.skip rfl rfl rfl ?_; go_simp))
    (refine Reg.done ?_; simp only [Exit.then])
    go_wp2_with fail
    go_end0
    exact ⟨rfl, by rw [HT2.out]; exact HFIN.out⟩
end

section
open Go.RowKit Go.ChangeShapes Go.WideShapes Go.ChangeAt

theorem capT_le {α : Type} {E : Rp α} {w : World} {S : Nat → Prop} {A : Option Addr} {n c : Nat} {l : List α} (h : E.slice.R w S [.slice A n c] l) : l.length ≤ c := by
  obtain ⟨A2, c2, he, h1, _⟩ := h
  simp only [List.cons.injEq, Value.slice.injEq, and_true] at he
  omega

set_option maxRecDepth 100000 in
set_option maxHeartbeats 8000000 in
theorem t_turn3 (w0 w : World) (t : Nat) (x : TurnL) (A : Option Addr) (c : Nat) (i : Nat) (T : TV) (h : TNew w0 w t T) (hok : TOk i T) (hi : i ≤ 900) (hkd : x.kind = 3) :
    Calls Try.prog 11 #[.pointer (some ⟨t, 0, none⟩), turnV x (.slice A x.op.hashes.length c)] w fun e w' => e = .returned (.tuple #[]) ∧ TNew w0 w' t (sendT (sOf x.site) x.at_ x.some_ T) := by
  obtain ⟨b, hb⟩ : ∃ b, sOf x.site = b := ⟨_, rfl⟩
  have hmod := sOf_mod hb
  rw [hb]
  unfold turnV turnC
  obtain ⟨kd, st, at2, sm, ⟨on, oe, ok, os, oc, oq, onm, osz, ohs⟩⟩ := x
  simp only at *
  subst hkd
  obtain ⟨kd, hkd⟩ : ∃ k : Int, k = 3 := ⟨_, rfl⟩
  obtain ⟨hn, hhn⟩ : ∃ k, ohs.length = k := ⟨_, rfl⟩
  rw [hhn]
  clear hhn hb
  rw [← hkd]
  obtain ⟨wa, hwa⟩ : ∃ v, w.alloc (.cells #[.int .i64 kd, .int .i64 st, .int .i64 at2, .int .i64 sm, .int .i64 on, .int .i64 oe, .int .i64 ok, .int .i64 os, .int .i64 oc, .int .i64 oq, .string onm, .int .i64 osz, .slice A hn c] 40) = v := ⟨_, rfl⟩
  obtain ⟨y, hy⟩ : ∃ v, w.heap.size = v := ⟨_, rfl⟩
  have hka : Kp No w wa := by rw [← hwa]; exact (Kp.refl _ _).alloc _
  have hba : Blk wa y 40 [.int .i64 kd, .int .i64 st, .int .i64 at2, .int .i64 sm, .int .i64 on, .int .i64 oe, .int .i64 ok, .int .i64 os, .int .i64 oc, .int .i64 oq, .string onm, .int .i64 osz, .slice A hn c] := by rw [← hwa, ← hy]; exact Blk.new w _ _
  have y0 : wa.cell? ⟨y, 0, none⟩ = some (.int .i64 kd) := Blk.cell hba rfl
  have y1 : wa.cell? ⟨y, 1, none⟩ = some (.int .i64 st) := Blk.cell hba rfl
  have y2 : wa.cell? ⟨y, 2, none⟩ = some (.int .i64 at2) := Blk.cell hba rfl
  have y3 : wa.cell? ⟨y, 3, none⟩ = some (.int .i64 sm) := Blk.cell hba rfl
  have HN := Lib.hid (h.keptNo hka)
  clear hka hba
  subst hkd
  have HOK := Lib.hid hok
  clear hok h
  cases b
  · skip
    have hS := t_ship w0 wa t false at2 sm i T HN.out HOK.out (by omega)
    obtain ⟨T1, hT1⟩ : ∃ v, shipT false at2 sm T = v := ⟨_, rfl⟩
    obtain ⟨R, hR⟩ : ∃ v, decide (shipsP (T.l false) false) = v := ⟨_, rfl⟩
    rw [hT1, hR] at hS
    unfold sI at hS hmod
    simp only [Bool.false_eq_true, if_false] at hS hmod
    have HT1 := Lib.hid hT1
    have HR := Lib.hid hR
    have HS := Lib.hid hS
    clear hT1 hR hS
    go_enter Try.func11, Try.ntmps11
    go_wp2_with fail
    clear hwa hy y0 y1 y2 y3
    refine HS.out.mono ?_
    rintro e w3 ⟨rfl, hn3⟩
    cases R
    case false =>
      have HFIN : Hid (TNew w0 w3 t (sendT false at2 sm T)) := Lib.hid (by
        have h1 := of_decide_eq_false HR.out
        unfold sendT
        rw [if_neg h1]
        have h2 := HT1.out
        unfold shipT at h2
        rw [if_neg h1] at h2
        rw [h2]; exact hn3)
      clear hn3
      go_wp2_with fail
      go_end0
      exact ⟨rfl, HFIN.out⟩
    case true =>
      obtain ⟨hk3, xs, F, sv, tv, S, hin⟩ := hn3
      have h1 := of_decide_eq_true HR.out
      have h2 := HT1.out
      unfold shipT at h2
      rw [if_pos h1] at h2
      have hsend : sendT false at2 sm T = cameT (sentC (T.l false) false at2 sm, true) T1 := by unfold sendT; rw [if_pos h1, HT1.out]; rfl
      have HSEND := Lib.hid hsend
      obtain ⟨C, hC⟩ : ∃ v, sentC (T.l false) false at2 sm = v := ⟨_, rfl⟩
      obtain ⟨k, hk⟩ : ∃ v, T.sent.length = v := ⟨_, rfl⟩
      have hok1 : TOk (i + 1) T1 := by
        obtain ⟨g1, g2⟩ := HOK.out.send false at2 sm (by have := HOK.out.many; omega)
        rw [← h2]
        exact ⟨fun b => (HOK.out.led b).mono (by omega), g1, g2, HOK.out.epoch⟩
      have hp : T1.sent[k]? = some (C, true) := by
        rw [← h2, ← hk, hC]
        show (T.sent ++ [(C, true)])[T.sent.length]? = _
        rw [List.getElem?_append_right (Nat.le_refl _), Nat.sub_self]; rfl
      have hn1 : T1.sent.length = k + 1 := by rw [← h2, ← hk]; show (T.sent ++ _).length = _; rw [List.length_append]; rfl
      have hkm : k ≤ i := by rw [← hk]; exact HOK.out.many
      obtain ⟨wd, hwd⟩ : ∃ v, w3.drew = v := ⟨_, rfl⟩
      have hkd : Kp No w3 wd := by rw [← hwd]; exact (Kp.refl _ _).drew
      have hing := hin.keptNo hkd
      have HKD := Lib.hid (hk3.trans' hkd)
      obtain ⟨ad, c3, ad2, c4, A', c', B', d', hsv, htv, hcell, hnu, hr1, hr2, _⟩ := hing.at_sent hp
      have hsm : SmallC 1000 1000 C := (hok1.sent _ (List.mem_of_getElem? hp)).2
      rw [hn1] at hsv
      subst hsv
      have hcap := capT_le hing.sent.readFrom
      rw [List.length_map, hn1] at hcap
      obtain ⟨z0, z1, z2, z3, z4, z5, z6, z7, z8, z9, z10, z11, z12, z13, z14, z15⟩ := cmd_cells hcell
      have how := r_own C A' B' c' d' wd _ hnu hr1 hr2 (by have := hsm.1; show C.op.hashes.length ≤ _; omega) (by have := hsm.2.1; omega) (fun o ho => by have := hsm.2.2 o ho; omega)
      have hap : ∀ (A3 B3 : Option Addr) (c5 d5 : Nat) (w4 : World), Kp No wd w4 → Rp.str.slice.R w4 (fun k => wd.heap.size ≤ k) [.slice A3 C.op.hashes.length c5] C.op.hashes → Rp.opl.slice.R w4 (fun k => wd.heap.size ≤ k) [.slice B3 C.ops.length d5] C.ops →
          Calls Try.prog 40 #[.pointer (some ⟨xs true, 0, none⟩), cmdV C (.slice A3 C.op.hashes.length c5) (.slice B3 C.ops.length d5)] w4 fun e w' => (∃ v, e = .returned (doneV v)) ∧ TNew w0 w' t (cameT (C, true) T1) := by
        intro A3 B3 c5 d5 w4 hk4 g1 g2
        refine ((hing.keptNo hk4).applyC (HKD.out.trans' hk4) hok1 (by omega) true C A3 B3 c5 d5 (fun k => wd.heap.size ≤ k) g1 g2 (fun k hk _ hF => by have := (hing.led true).lt k hF; omega) (bounds_I64 hnu.2.2.2.1.2.2.2.2.2.2.2) ⟨by have := hsm.1; show C.op.hashes.length ≤ _; omega, by have := hsm.2.1; show C.ops.length ≤ _; omega, fun o ho => by have := hsm.2.2 o ho; omega⟩).mono ?_
        rintro e w' ⟨rfl, F', h5, h6⟩
        exact ⟨⟨_, rfl⟩, h6, xs, F', _, tv, S, h5⟩
      unfold cmdV at how hap
      have HOW := Lib.hid how
      have HAP := Lib.hid hap
      have HING := Lib.hid hing
      have HC := Lib.hid hC
      have k0 : wd.cell? ⟨t, 0, none⟩ = some _ := Blk.cell hing.blk rfl
      have k1 : wd.cell? ⟨t, 1, none⟩ = some _ := Blk.cell hing.blk rfl
      have k3 : wd.cell? ⟨t, 3, none⟩ = some _ := Blk.cell hing.blk rfl
      have hltt : t < wd.heap.size := Blk.lt hing.blk
      have hkk : (k : Int) + 1 - 1 = (k : Int) := by omega
      have hw1 : IntKind.i64.wrap (k : Int) = (k : Int) := by rw [IntKind.wrap_i64]; omega
      have hw2 : IntKind.i64.wrap ((k : Int) + 1 - 1) = (k : Int) := by rw [IntKind.wrap_i64]; omega
      have hkl : (k : Int) < (k : Int) + 1 := by omega
      have hv0 : IntKind.i64.wrap 0 = 0 := by rw [IntKind.wrap_i64]; omega
      have hv1 : IntKind.i64.wrap 1 = 1 := by rw [IntKind.wrap_i64]; omega
      clear h1 h2 hsend hC hk hok1 hp hn1 hcell hnu hr1 hr2 hsm how hap hing hin hk3 hkd
      obtain ⟨ck, ep, sb, ⟨pn, pe, pk, ps, pc, pq, pnm, psz, phs⟩, an, ae, ops, tg⟩ := C
      simp only at *
      go_wp2_with fail
      refine Reg.wp_region_plan [⟨0, false, []⟩, ⟨1, false, []⟩, ⟨2, false, []⟩, ⟨3, false, []⟩, ⟨4, false, []⟩, ⟨5, false, []⟩, ⟨6, false, []⟩, ⟨7, false, []⟩, ⟨8, false, []⟩, ⟨9, false, []⟩, ⟨10, false, []⟩, ⟨11, false, []⟩, ⟨12, false, []⟩, ⟨13, false, []⟩, ⟨14, false, []⟩, ⟨15, false, []⟩, ⟨16, false, []⟩, ⟨17, false, []⟩, ⟨18, false, []⟩, ⟨19, true, [2, 3, 4, 5, 6]⟩, ⟨20, true, []⟩] rfl (by kernel_rfl) ?_
      rw [hwd]
      clear hwd
      repeat (first | (refine Reg.look rfl rfl rfl (by go_simp; rfl) rfl ?_; go_simp) | (refine Reg.skip rfl rfl rfl ?_; go_simp))
      refine Reg.act rfl ?_
      go_wp2_with fail
      clear z0 z1 z2 z3 z4 z5 z6 z7 z8 z9 z10 z11 z12 z13 z14 z15
      refine HOW.out.mono ?_
      rintro e w4 ⟨A5, c5, B5, d5, rfl, g1, g2, hk4⟩
      have HA := Lib.hid (HAP.out A5 B5 c5 d5 w4 hk4 g1 g2)
      have m0 := (hk4.cell hltt (fun z => z)).trans k0
      have m1 := (hk4.cell hltt (fun z => z)).trans k1
      clear g1 g2 hk4 k0 k1 k3
      go_wp2_with fail
      (refine ⟨?anew, ?_⟩; case anew => ((repeat (refine Reg.anew_cons rfl rfl (fun _ => by go_simp) ?_)); exact Reg.anew_nil))
      repeat (first | (refine Reg.look rfl rfl rfl (by go_simp; rfl) rfl ?_; go_simp) | (refine Reg.skip rfl rfl rfl ?_; go_simp))
      refine Reg.act rfl ?_
      go_wp2_with fail
      refine HA.out.mono ?_
      rintro e w5 ⟨⟨v, rfl⟩, hn5⟩
      have HFIN : Hid (TNew w0 w5 t (sendT false at2 sm T)) := Lib.hid (by rw [HSEND.out, HC.out]; exact hn5)
      unfold doneV
      clear hn5 HA
      go_wp2_with fail
      (refine ⟨?anew, ?_⟩; case anew => ((repeat (refine Reg.anew_cons rfl rfl (fun _ => by go_simp) ?_)); exact Reg.anew_nil))
      repeat (first | (refine Reg.look rfl rfl rfl (by go_simp; rfl) rfl ?_; go_simp) | (refine Reg.skip rfl rfl rfl ?_; go_simp))
      (refine Reg.done ?_; simp only [Exit.then])
      go_wp2_with fail
      go_end0
      exact ⟨rfl, HFIN.out⟩
  · skip
    have hS := t_ship w0 wa t true at2 sm i T HN.out HOK.out (by omega)
    obtain ⟨T1, hT1⟩ : ∃ v, shipT true at2 sm T = v := ⟨_, rfl⟩
    obtain ⟨R, hR⟩ : ∃ v, decide (shipsP (T.l true) true) = v := ⟨_, rfl⟩
    rw [hT1, hR] at hS
    unfold sI at hS hmod
    simp only [if_true] at hS hmod
    have HT1 := Lib.hid hT1
    have HR := Lib.hid hR
    have HS := Lib.hid hS
    clear hT1 hR hS
    go_enter Try.func11, Try.ntmps11
    go_wp2_with fail
    clear hwa hy y0 y1 y2 y3
    refine HS.out.mono ?_
    rintro e w3 ⟨rfl, hn3⟩
    cases R
    case false =>
      have HFIN : Hid (TNew w0 w3 t (sendT true at2 sm T)) := Lib.hid (by
        have h1 := of_decide_eq_false HR.out
        unfold sendT
        rw [if_neg h1]
        have h2 := HT1.out
        unfold shipT at h2
        rw [if_neg h1] at h2
        rw [h2]; exact hn3)
      clear hn3
      go_wp2_with fail
      go_end0
      exact ⟨rfl, HFIN.out⟩
    case true =>
      obtain ⟨hk3, xs, F, sv, tv, S, hin⟩ := hn3
      have h1 := of_decide_eq_true HR.out
      have h2 := HT1.out
      unfold shipT at h2
      rw [if_pos h1] at h2
      have hsend : sendT true at2 sm T = cameT (sentC (T.l true) true at2 sm, false) T1 := by unfold sendT; rw [if_pos h1, HT1.out]; rfl
      have HSEND := Lib.hid hsend
      obtain ⟨C, hC⟩ : ∃ v, sentC (T.l true) true at2 sm = v := ⟨_, rfl⟩
      obtain ⟨k, hk⟩ : ∃ v, T.sent.length = v := ⟨_, rfl⟩
      have hok1 : TOk (i + 1) T1 := by
        obtain ⟨g1, g2⟩ := HOK.out.send true at2 sm (by have := HOK.out.many; omega)
        rw [← h2]
        exact ⟨fun b => (HOK.out.led b).mono (by omega), g1, g2, HOK.out.epoch⟩
      have hp : T1.sent[k]? = some (C, false) := by
        rw [← h2, ← hk, hC]
        show (T.sent ++ [(C, false)])[T.sent.length]? = _
        rw [List.getElem?_append_right (Nat.le_refl _), Nat.sub_self]; rfl
      have hn1 : T1.sent.length = k + 1 := by rw [← h2, ← hk]; show (T.sent ++ _).length = _; rw [List.length_append]; rfl
      have hkm : k ≤ i := by rw [← hk]; exact HOK.out.many
      obtain ⟨wd, hwd⟩ : ∃ v, w3.drew = v := ⟨_, rfl⟩
      have hkd : Kp No w3 wd := by rw [← hwd]; exact (Kp.refl _ _).drew
      have hing := hin.keptNo hkd
      have HKD := Lib.hid (hk3.trans' hkd)
      obtain ⟨ad, c3, ad2, c4, A', c', B', d', hsv, htv, hcell, hnu, hr1, hr2, _⟩ := hing.at_sent hp
      have hsm : SmallC 1000 1000 C := (hok1.sent _ (List.mem_of_getElem? hp)).2
      rw [hn1] at hsv
      subst hsv
      have hcap := capT_le hing.sent.readFrom
      rw [List.length_map, hn1] at hcap
      obtain ⟨z0, z1, z2, z3, z4, z5, z6, z7, z8, z9, z10, z11, z12, z13, z14, z15⟩ := cmd_cells hcell
      have how := r_own C A' B' c' d' wd _ hnu hr1 hr2 (by have := hsm.1; show C.op.hashes.length ≤ _; omega) (by have := hsm.2.1; omega) (fun o ho => by have := hsm.2.2 o ho; omega)
      have hap : ∀ (A3 B3 : Option Addr) (c5 d5 : Nat) (w4 : World), Kp No wd w4 → Rp.str.slice.R w4 (fun k => wd.heap.size ≤ k) [.slice A3 C.op.hashes.length c5] C.op.hashes → Rp.opl.slice.R w4 (fun k => wd.heap.size ≤ k) [.slice B3 C.ops.length d5] C.ops →
          Calls Try.prog 40 #[.pointer (some ⟨xs false, 0, none⟩), cmdV C (.slice A3 C.op.hashes.length c5) (.slice B3 C.ops.length d5)] w4 fun e w' => (∃ v, e = .returned (doneV v)) ∧ TNew w0 w' t (cameT (C, false) T1) := by
        intro A3 B3 c5 d5 w4 hk4 g1 g2
        refine ((hing.keptNo hk4).applyC (HKD.out.trans' hk4) hok1 (by omega) false C A3 B3 c5 d5 (fun k => wd.heap.size ≤ k) g1 g2 (fun k hk _ hF => by have := (hing.led false).lt k hF; omega) (bounds_I64 hnu.2.2.2.1.2.2.2.2.2.2.2) ⟨by have := hsm.1; show C.op.hashes.length ≤ _; omega, by have := hsm.2.1; show C.ops.length ≤ _; omega, fun o ho => by have := hsm.2.2 o ho; omega⟩).mono ?_
        rintro e w' ⟨rfl, F', h5, h6⟩
        exact ⟨⟨_, rfl⟩, h6, xs, F', _, tv, S, h5⟩
      unfold cmdV at how hap
      have HOW := Lib.hid how
      have HAP := Lib.hid hap
      have HING := Lib.hid hing
      have HC := Lib.hid hC
      have k0 : wd.cell? ⟨t, 0, none⟩ = some _ := Blk.cell hing.blk rfl
      have k1 : wd.cell? ⟨t, 1, none⟩ = some _ := Blk.cell hing.blk rfl
      have k3 : wd.cell? ⟨t, 3, none⟩ = some _ := Blk.cell hing.blk rfl
      have hltt : t < wd.heap.size := Blk.lt hing.blk
      have hkk : (k : Int) + 1 - 1 = (k : Int) := by omega
      have hw1 : IntKind.i64.wrap (k : Int) = (k : Int) := by rw [IntKind.wrap_i64]; omega
      have hw2 : IntKind.i64.wrap ((k : Int) + 1 - 1) = (k : Int) := by rw [IntKind.wrap_i64]; omega
      have hkl : (k : Int) < (k : Int) + 1 := by omega
      have hv0 : IntKind.i64.wrap 0 = 0 := by rw [IntKind.wrap_i64]; omega
      have hv1 : IntKind.i64.wrap 1 = 1 := by rw [IntKind.wrap_i64]; omega
      clear h1 h2 hsend hC hk hok1 hp hn1 hcell hnu hr1 hr2 hsm how hap hing hin hk3 hkd
      obtain ⟨ck, ep, sb, ⟨pn, pe, pk, ps, pc, pq, pnm, psz, phs⟩, an, ae, ops, tg⟩ := C
      simp only at *
      go_wp2_with fail
      refine Reg.wp_region_plan [⟨0, false, []⟩, ⟨1, false, []⟩, ⟨2, false, []⟩, ⟨3, false, []⟩, ⟨4, false, []⟩, ⟨5, false, []⟩, ⟨6, false, []⟩, ⟨7, false, []⟩, ⟨8, false, []⟩, ⟨9, false, []⟩, ⟨10, false, []⟩, ⟨11, false, []⟩, ⟨12, false, []⟩, ⟨13, false, []⟩, ⟨14, false, []⟩, ⟨15, false, []⟩, ⟨16, false, []⟩, ⟨17, false, []⟩, ⟨18, false, []⟩, ⟨19, true, [2, 3, 4, 5, 6]⟩, ⟨20, true, []⟩] rfl (by kernel_rfl) ?_
      rw [hwd]
      clear hwd
      repeat (first | (refine Reg.look rfl rfl rfl (by go_simp; rfl) rfl ?_; go_simp) | (refine Reg.skip rfl rfl rfl ?_; go_simp))
      refine Reg.act rfl ?_
      go_wp2_with fail
      clear z0 z1 z2 z3 z4 z5 z6 z7 z8 z9 z10 z11 z12 z13 z14 z15
      refine HOW.out.mono ?_
      rintro e w4 ⟨A5, c5, B5, d5, rfl, g1, g2, hk4⟩
      have HA := Lib.hid (HAP.out A5 B5 c5 d5 w4 hk4 g1 g2)
      have m0 := (hk4.cell hltt (fun z => z)).trans k0
      have m1 := (hk4.cell hltt (fun z => z)).trans k1
      clear g1 g2 hk4 k0 k1 k3
      go_wp2_with fail
      (refine ⟨?anew, ?_⟩; case anew => ((repeat (refine Reg.anew_cons rfl rfl (fun _ => by go_simp) ?_)); exact Reg.anew_nil))
      repeat (first | (refine Reg.look rfl rfl rfl (by go_simp; rfl) rfl ?_; go_simp) | (refine Reg.skip rfl rfl rfl ?_; go_simp))
      refine Reg.act rfl ?_
      go_wp2_with fail
      refine HA.out.mono ?_
      rintro e w5 ⟨⟨v, rfl⟩, hn5⟩
      have HFIN : Hid (TNew w0 w5 t (sendT true at2 sm T)) := Lib.hid (by rw [HSEND.out, HC.out]; exact hn5)
      unfold doneV
      clear hn5 HA
      go_wp2_with fail
      (refine ⟨?anew, ?_⟩; case anew => ((repeat (refine Reg.anew_cons rfl rfl (fun _ => by go_simp) ?_)); exact Reg.anew_nil))
      repeat (first | (refine Reg.look rfl rfl rfl (by go_simp; rfl) rfl ?_; go_simp) | (refine Reg.skip rfl rfl rfl ?_; go_simp))
      (refine Reg.done ?_; simp only [Exit.then])
      go_wp2_with fail
      go_end0
      exact ⟨rfl, HFIN.out⟩
end

section
open Go.RowKit Go.ChangeShapes Go.WideShapes Go.ChangeAt

theorem capU_le {α : Type} {E : Rp α} {w : World} {S : Nat → Prop} {A : Option Addr} {n c : Nat} {l : List α} (h : E.slice.R w S [.slice A n c] l) : l.length ≤ c := by
  obtain ⟨A2, c2, he, h1, _⟩ := h
  simp only [List.cons.injEq, Value.slice.injEq, and_true] at he
  omega
set_option maxRecDepth 100000 in
set_option maxHeartbeats 8000000 in
theorem t_turn0 (w0 w : World) (t : Nat) (x : TurnL) (A : Option Addr) (c : Nat) (i : Nat) (T : TV) (h : TNew w0 w t T) (hok : TOk i T) (hi : i ≤ 900) (h1 : x.kind ≠ 1) (h2 : x.kind ≠ 2) (h3 : x.kind ≠ 3) :
    Calls Try.prog 11 #[.pointer (some ⟨t, 0, none⟩), turnV x (.slice A x.op.hashes.length c)] w fun e w' => e = .returned (.tuple #[]) ∧ TNew w0 w' t (againT x.at_ T) := by
  obtain ⟨b0, hb⟩ : ∃ b, (modN x.site 2 : Int) = b := ⟨_, rfl⟩
  have hmod : (IntKind.u64.wrap x.site).tmod 2 = b0 := by rw [← hb]; exact modN_eq x.site (show 0 < 2 by omega)
  have hb0 : 0 ≤ b0 ∧ b0 < 2 := by have := modN_lt x.site (show 0 < 2 by omega); omega
  unfold turnV turnC
  obtain ⟨kd, st, at2, sm, ⟨on, oe, ok, os, oc, oq, onm, osz, ohs⟩⟩ := x
  simp only at *
  have hk1 : (kd == 1) = false := beq_eq_false_iff_ne.2 h1
  have hk2 : (kd == 2) = false := beq_eq_false_iff_ne.2 h2
  have hk3 : (kd == 3) = false := beq_eq_false_iff_ne.2 h3
  obtain ⟨hn, hhn⟩ : ∃ k, ohs.length = k := ⟨_, rfl⟩
  rw [hhn]
  clear hhn hb h1 h2 h3
  obtain ⟨wa, hwa⟩ : ∃ v, w.alloc (.cells #[.int .i64 kd, .int .i64 st, .int .i64 at2, .int .i64 sm, .int .i64 on, .int .i64 oe, .int .i64 ok, .int .i64 os, .int .i64 oc, .int .i64 oq, .string onm, .int .i64 osz, .slice A hn c] 40) = v := ⟨_, rfl⟩
  obtain ⟨y, hy⟩ : ∃ v, w.heap.size = v := ⟨_, rfl⟩
  have hka : Kp No w wa := by rw [← hwa]; exact (Kp.refl _ _).alloc _
  have hba : Blk wa y 40 [.int .i64 kd, .int .i64 st, .int .i64 at2, .int .i64 sm, .int .i64 on, .int .i64 oe, .int .i64 ok, .int .i64 os, .int .i64 oc, .int .i64 oq, .string onm, .int .i64 osz, .slice A hn c] := by rw [← hwa, ← hy]; exact Blk.new w _ _
  have y0 : wa.cell? ⟨y, 0, none⟩ = some (.int .i64 kd) := Blk.cell hba rfl
  have y1 : wa.cell? ⟨y, 1, none⟩ = some (.int .i64 st) := Blk.cell hba rfl
  have y2 : wa.cell? ⟨y, 2, none⟩ = some (.int .i64 at2) := Blk.cell hba rfl
  obtain ⟨hkw, xs, F, sv, tv, S, hin⟩ := h.keptNo hka
  have HOK := Lib.hid hok
  obtain ⟨n, hnn⟩ : ∃ n, T.sent.length = n := ⟨_, rfl⟩
  obtain ⟨A9, c9, hsh⟩ := hin.sent.shape
  rw [List.length_map, hnn] at hsh
  subst hsh
  have hni : n ≤ 900 := by have := hok.many; omega
  clear h hok hka hba
  have k3 : wa.cell? ⟨t, 3, none⟩ = some (.slice A9 n c9) := Blk.cell hin.blk rfl
  by_cases hn0 : n = 0
  · subst hn0
    have hT : againT at2 T = T := by
      unfold againT
      rw [List.eq_nil_of_length_eq_zero hnn]; rfl
    have HT := Lib.hid hT
    have HIN := Lib.hid hin
    have HKW := Lib.hid hkw
    clear hT hin hkw hnn
    go_enter Try.func11, Try.ntmps11
    go_wp2_with fail
    go_end0
    exact ⟨rfl, by rw [HT.out]; exact ⟨HKW.out, xs, F, _, tv, S, HIN.out⟩⟩
  · have hnp : (0 : Int) < (n : Int) := by omega
    obtain ⟨k, hk⟩ : ∃ k, modN at2 n = k := ⟨_, rfl⟩
    have hmk : (IntKind.u64.wrap at2).tmod (n : Int) = (k : Int) := by rw [← hk]; exact modN_eq at2 (by omega)
    have hkl : k < n := by rw [← hk]; exact modN_lt at2 (by omega)
    obtain ⟨p, hp⟩ : ∃ p, T.sent[k]? = some p := ⟨_, List.getElem?_eq_getElem (by omega)⟩
    have hag : againT at2 T = cameT p T := by
      unfold againT
      rw [hnn, hk, hp]
    have HAG := Lib.hid hag
    have hw1 : IntKind.u64.wrap (n : Int) = (n : Int) := by simp [IntKind.wrap, IntKind.bits, IntKind.signed]; omega
    have hw2 : IntKind.i64.wrap (k : Int) = (k : Int) := by rw [IntKind.wrap_i64]; omega
    have hnz : ¬ ((n : Int) = 0) := by omega
    have hkn : (k : Int) < (n : Int) := by omega
    clear hag hk hn0
    obtain ⟨wd, hwd⟩ : ∃ v, wa.drew = v := ⟨_, rfl⟩
    have hkd : Kp No wa wd := by rw [← hwd]; exact (Kp.refl _ _).drew
    have hing := hin.keptNo hkd
    have HKD := Lib.hid (hkw.trans' hkd)
    obtain ⟨ad, c3, ad2, c4, A', c', B', d', hsv, htv, hcell, hnu, hr1, hr2, hto⟩ := hing.at_sent hp
    rw [hnn] at hsv htv
    injection hsv with e1 _ e3
    subst e1 e3 htv
    have hsm : SmallC 1000 1000 p.1 := (HOK.out.sent _ (List.mem_of_getElem? hp)).2
    have k4 : wa.cell? ⟨t, 4, none⟩ = some (.slice (some ad2) n c4) := Blk.cell hin.blk rfl
    have l3 : wd.cell? ⟨t, 3, none⟩ = some (.slice (some ad) n c9) := Blk.cell hing.blk rfl
    have l4 : wd.cell? ⟨t, 4, none⟩ = some (.slice (some ad2) n c4) := Blk.cell hing.blk rfl
    have l0 : wd.cell? ⟨t, 0, none⟩ = some _ := Blk.cell hing.blk rfl
    have l1 : wd.cell? ⟨t, 1, none⟩ = some _ := Blk.cell hing.blk rfl
    have hltt : t < wd.heap.size := Blk.lt hing.blk
    obtain ⟨C, b⟩ := p
    simp only at hcell hnu hr1 hr2 hto hsm
    obtain ⟨z0, z1, z2, z3, z4, z5, z6, z7, z8, z9, z10, z11, z12, z13, z14, z15⟩ := cmd_cells hcell
    have how := r_own C A' B' c' d' wd _ hnu hr1 hr2 (by have := hsm.1; show C.op.hashes.length ≤ _; omega) (by have := hsm.2.1; omega) (fun o ho => by have := hsm.2.2 o ho; omega)
    have hap : ∀ (A3 B3 : Option Addr) (c5 d5 : Nat) (w4 : World), Kp No wd w4 → Rp.str.slice.R w4 (fun k => wd.heap.size ≤ k) [.slice A3 C.op.hashes.length c5] C.op.hashes → Rp.opl.slice.R w4 (fun k => wd.heap.size ≤ k) [.slice B3 C.ops.length d5] C.ops →
        Calls Try.prog 40 #[.pointer (some ⟨xs b, 0, none⟩), cmdV C (.slice A3 C.op.hashes.length c5) (.slice B3 C.ops.length d5)] w4 fun e w' => (∃ v, e = .returned (doneV v)) ∧ TNew w0 w' t (cameT (C, b) T) := by
      intro A3 B3 c5 d5 w4 hk4 g1 g2
      refine ((hing.keptNo hk4).applyC (HKD.out.trans' hk4) HOK.out (by omega) b C A3 B3 c5 d5 (fun k => wd.heap.size ≤ k) g1 g2 (fun k hk _ hF => by have := (hing.led b).lt k hF; omega) (bounds_I64 hnu.2.2.2.1.2.2.2.2.2.2.2) ⟨by have := hsm.1; show C.op.hashes.length ≤ _; omega, by have := hsm.2.1; show C.ops.length ≤ _; omega, fun o ho => by have := hsm.2.2 o ho; omega⟩).mono ?_
      rintro e w' ⟨rfl, F', h5, h6⟩
      exact ⟨⟨_, rfl⟩, h6, xs, F', _, _, S, h5⟩
    unfold cmdV at how hap
    have HOW := Lib.hid how
    have HAP := Lib.hid hap
    have hv0 : IntKind.i64.wrap 0 = 0 := by rw [IntKind.wrap_i64]; omega
    have hv1 : IntKind.i64.wrap 1 = 1 := by rw [IntKind.wrap_i64]; omega
    clear hcell hnu hr1 hr2 hsm how hap hing hin hkd hkw hp hnn
    obtain ⟨ck, ep, sb, ⟨pn, pe, pk, ps, pc, pq, pnm, psz, phs⟩, an, ae, ops, tg⟩ := C
    simp only at *
    cases b
    · skip
      unfold sI at hto
      simp only [Bool.false_eq_true, if_false] at hto
      go_enter Try.func11, Try.ntmps11
      go_wp2_with fail
      clear hwa hy y0 y1 y2 k3 k4
      refine Reg.wp_region_plan [⟨0, false, []⟩, ⟨1, false, []⟩, ⟨2, false, []⟩, ⟨3, false, []⟩, ⟨4, false, []⟩, ⟨5, false, []⟩, ⟨6, false, []⟩, ⟨7, false, []⟩, ⟨8, false, []⟩, ⟨9, false, []⟩, ⟨10, false, []⟩, ⟨11, false, []⟩, ⟨12, false, []⟩, ⟨13, false, []⟩, ⟨14, false, []⟩, ⟨15, false, []⟩, ⟨16, false, []⟩, ⟨17, false, []⟩, ⟨18, false, []⟩, ⟨19, true, [2, 3, 4, 6, 7, 8, 9, 10, 11]⟩, ⟨20, true, []⟩] rfl (by kernel_rfl) ?_
      rw [hwd]
      clear hwd
      repeat (first | (refine Reg.look rfl rfl rfl (by go_simp; rfl) rfl ?_; go_simp) | (refine Reg.skip rfl rfl rfl ?_; go_simp))
      refine Reg.act rfl ?_
      go_wp2_with fail
      clear z0 z1 z2 z3 z4 z5 z6 z7 z8 z9 z10 z11 z12 z13 z14 z15
      refine HOW.out.mono ?_
      rintro e w4 ⟨A5, c5, B5, d5, rfl, g1, g2, hk4⟩
      have HA := Lib.hid (HAP.out A5 B5 c5 d5 w4 hk4 g1 g2)
      have m0 := (hk4.cell hltt (fun z => z)).trans l0
      have m1 := (hk4.cell hltt (fun z => z)).trans l1
      have m4 := (hk4.cell hltt (fun z => z)).trans l4
      have hlto := lt_of_cell hto
      have mto := (hk4.cell hlto (fun z => z)).trans hto
      clear g1 g2 hk4 l0 l1 l3 l4 hto hlto
      go_wp2_with fail
      (refine ⟨?anew, ?_⟩; case anew => ((repeat (refine Reg.anew_cons rfl rfl (fun _ => by go_simp) ?_)); exact Reg.anew_nil))
      repeat (first | (refine Reg.look rfl rfl rfl (by go_simp; rfl) rfl ?_; go_simp) | (refine Reg.skip rfl rfl rfl ?_; go_simp))
      refine Reg.act rfl ?_
      go_wp2_with fail
      refine HA.out.mono ?_
      rintro e w5 ⟨⟨v, rfl⟩, hn5⟩
      have HFIN : Hid (TNew w0 w5 t (againT at2 T)) := Lib.hid (by rw [HAG.out]; exact hn5)
      unfold doneV
      clear hn5 HA
      go_wp2_with fail
      (refine ⟨?anew, ?_⟩; case anew => ((repeat (refine Reg.anew_cons rfl rfl (fun _ => by go_simp) ?_)); exact Reg.anew_nil))
      repeat (first | (refine Reg.look rfl rfl rfl (by go_simp; rfl) rfl ?_; go_simp) | (refine Reg.skip rfl rfl rfl ?_; go_simp))
      (refine Reg.done ?_; simp only [Exit.then])
      go_wp2_with fail
      go_end0
      exact ⟨rfl, HFIN.out⟩
    · skip
      unfold sI at hto
      simp only [if_true] at hto
      go_enter Try.func11, Try.ntmps11
      go_wp2_with fail
      clear hwa hy y0 y1 y2 k3 k4
      refine Reg.wp_region_plan [⟨0, false, []⟩, ⟨1, false, []⟩, ⟨2, false, []⟩, ⟨3, false, []⟩, ⟨4, false, []⟩, ⟨5, false, []⟩, ⟨6, false, []⟩, ⟨7, false, []⟩, ⟨8, false, []⟩, ⟨9, false, []⟩, ⟨10, false, []⟩, ⟨11, false, []⟩, ⟨12, false, []⟩, ⟨13, false, []⟩, ⟨14, false, []⟩, ⟨15, false, []⟩, ⟨16, false, []⟩, ⟨17, false, []⟩, ⟨18, false, []⟩, ⟨19, true, [2, 3, 4, 6, 7, 8, 9, 10, 11]⟩, ⟨20, true, []⟩] rfl (by kernel_rfl) ?_
      rw [hwd]
      clear hwd
      repeat (first | (refine Reg.look rfl rfl rfl (by go_simp; rfl) rfl ?_; go_simp) | (refine Reg.skip rfl rfl rfl ?_; go_simp))
      refine Reg.act rfl ?_
      go_wp2_with fail
      clear z0 z1 z2 z3 z4 z5 z6 z7 z8 z9 z10 z11 z12 z13 z14 z15
      refine HOW.out.mono ?_
      rintro e w4 ⟨A5, c5, B5, d5, rfl, g1, g2, hk4⟩
      have HA := Lib.hid (HAP.out A5 B5 c5 d5 w4 hk4 g1 g2)
      have m0 := (hk4.cell hltt (fun z => z)).trans l0
      have m1 := (hk4.cell hltt (fun z => z)).trans l1
      have m4 := (hk4.cell hltt (fun z => z)).trans l4
      have hlto := lt_of_cell hto
      have mto := (hk4.cell hlto (fun z => z)).trans hto
      clear g1 g2 hk4 l0 l1 l3 l4 hto hlto
      go_wp2_with fail
      (refine ⟨?anew, ?_⟩; case anew => ((repeat (refine Reg.anew_cons rfl rfl (fun _ => by go_simp) ?_)); exact Reg.anew_nil))
      repeat (first | (refine Reg.look rfl rfl rfl (by go_simp; rfl) rfl ?_; go_simp) | (refine Reg.skip rfl rfl rfl ?_; go_simp))
      refine Reg.act rfl ?_
      go_wp2_with fail
      refine HA.out.mono ?_
      rintro e w5 ⟨⟨v, rfl⟩, hn5⟩
      have HFIN : Hid (TNew w0 w5 t (againT at2 T)) := Lib.hid (by rw [HAG.out]; exact hn5)
      unfold doneV
      clear hn5 HA
      go_wp2_with fail
      (refine ⟨?anew, ?_⟩; case anew => ((repeat (refine Reg.anew_cons rfl rfl (fun _ => by go_simp) ?_)); exact Reg.anew_nil))
      repeat (first | (refine Reg.look rfl rfl rfl (by go_simp; rfl) rfl ?_; go_simp) | (refine Reg.skip rfl rfl rfl ?_; go_simp))
      (refine Reg.done ?_; simp only [Exit.then])
      go_wp2_with fail
      go_end0
      exact ⟨rfl, HFIN.out⟩
end

section
open Go.RowKit Go.ChangeShapes Go.WideShapes Go.ChangeAt

theorem t_turn (w0 w : World) (t : Nat) (x : TurnL) (A : Option Addr) (c : Nat) (i : Nat) (T : TV) (h : TNew w0 w t T) (hok : TOk i T) (hi : i ≤ 900) (hnu : x.nums) (hh : Rp.str.slice.R w0 (fun k => k < w0.heap.size) [.slice A x.op.hashes.length c] x.op.hashes) (hsm : x.op.hashes.length ≤ 1000000) :
    Calls Try.prog 11 #[.pointer (some ⟨t, 0, none⟩), turnV x (.slice A x.op.hashes.length c)] w fun e w' => e = .returned (.tuple #[]) ∧ TNew w0 w' t (turnT x T) := by
  unfold turnT
  by_cases h1 : x.kind = 1
  · rw [if_pos h1]; exact t_turn1 w0 w t x A c i T h hok (by omega) h1
  · rw [if_neg h1]
    by_cases h2 : x.kind = 2
    · rw [if_pos h2]; exact t_turn2 w0 w t x A c i T h hok (by omega) h2 hnu hh hsm
    · rw [if_neg h2]
      by_cases h3 : x.kind = 3
      · rw [if_pos h3]; exact t_turn3 w0 w t x A c i T h hok hi h3
      · rw [if_neg h3]; exact t_turn0 w0 w t x A c i T h hok hi h1 h2 h3
end
end Go.Proofs.Ytbncblnchcmgbaa
