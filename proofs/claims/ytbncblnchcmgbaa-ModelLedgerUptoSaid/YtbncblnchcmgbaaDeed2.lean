/-
  deed.CheckOp.
-/
import Derived.Test.YtbncblnchcmgbaaDeed1
namespace Go.Proofs.Ytbncblnchcmgbaa
open Go.RowKit Go.ChangeShapes Go.WideShapes Go.ChangeAt

def okOp (o : OpL) : Bool := decide (okP o)
set_option maxRecDepth 100000 in
set_option maxHeartbeats 2000000 in
theorem c_checkop (o : OpL) (A : Option Addr) (c : Nat) (w : World) (S : Nat → Prop) (hl : Rp.str.slice.R w S [.slice A o.hashes.length c] o.hashes) (hsz : -9223372036854775808 ≤ o.size ∧ o.size < 9223372036854775808) (hll : o.hashes.length ≤ 1000000) :
    Calls Try.prog 75 #[opV o (.slice A o.hashes.length c)] w fun x w' => x = .returned (.int .i64 (if okOp o then 0 else 3)) ∧ Kp No w w' := by
  have hbl := fun w1 => c_blank o A c w1
  have hba := fun w1 => c_bare o.size o.hashes A c w1
  have hch := fun w1 (hk : Kp No w w1) => c_check o.size o.hashes A c w1 S (Rp.str.slice.keptNo hl hk) hsz.1 hsz.2 hll
  have HBL := Lib.hid hbl
  have HBA := Lib.hid hba
  have HCH := Lib.hid hch
  obtain ⟨P, hP⟩ : ∃ P, decide (placeP o) = P := ⟨_, rfl⟩
  obtain ⟨M, hM⟩ : ∃ M, decide (someP o) = M := ⟨_, rfl⟩
  obtain ⟨K, hK⟩ : ∃ K, okOp o = K := ⟨_, rfl⟩
  rw [hK]
  obtain ⟨R, hR⟩ : ∃ R : Int, (if K = true then 0 else 3) = R := ⟨_, rfl⟩
  rw [hR]
  have HR := Lib.hid hR
  have HP := Lib.hid hP
  have HM := Lib.hid hM
  have HKK := Lib.hid hK
  unfold opV at *
  obtain ⟨n, ep, k, st, cl, sq, nm, sz, hs⟩ := o
  simp only at *
  clear hbl hba hch hP hM hK hl hR
  go_enter Try.func75, Try.ntmps75
  go_upto_region 1 with fail
  go_cut [3] (fun b wx => b = .bool P ∧ wx = w.alloc (.cells #[.int .i64 n, .int .i64 ep, .int .i64 k, .int .i64 st, .int .i64 cl, .int .i64 sq, .string nm, .int .i64 sz, .slice A hs.length c] 38))
  case first =>
    go_wp2_with (go_at_call 89; refine (c_reigned ep st _).mono ?_; rintro e w' ⟨rfl, rfl⟩)
    all_goals go_meet
    all_goals
      refine ⟨?_, rfl⟩
      rw [← HP.out]
      refine congrArg Value.bool ?_
      first
        | exact (decide_eq_false (by unfold placeP reignP; dsimp only; omega)).symm
        | exact decide_eq_decide.2 (by unfold placeP; dsimp only; exact ⟨fun h => ⟨by omega, by omega, h⟩, fun h => h.2.2⟩)
  case rest =>
  obtain ⟨rfl, rfl⟩ := hcut
  go_upto_region 2 with fail
  go_cut [4] (fun b wx => b = .bool M ∧ wx = w.alloc (.cells #[.int .i64 n, .int .i64 ep, .int .i64 k, .int .i64 st, .int .i64 cl, .int .i64 sq, .string nm, .int .i64 sz, .slice A hs.length c] 38))
  case first =>
    by_cases hz : nm.size = 0
    · obtain rfl := size_eq hz
      go_wp2_with fail
      all_goals go_meet
      all_goals
        refine ⟨?_, rfl⟩
        rw [← HM.out]
        refine congrArg Value.bool ?_
        exact (decide_eq_false (by unfold someP; dsimp only; omega)).symm
    · obtain ⟨h4, h5⟩ := size_ne hz
      go_wp2_with fail
      all_goals go_meet
      all_goals
        refine ⟨?_, rfl⟩
        rw [← HM.out]
        refine congrArg Value.bool ?_
        first
          | exact (decide_eq_false (by unfold someP; dsimp only; omega)).symm
          | exact decide_eq_decide.2 (by unfold someP; dsimp only; omega)
  case rest =>
  obtain ⟨rfl, rfl⟩ := hcut
  have HK1 : Hid (Kp No w (w.alloc (.cells #[.int .i64 n, .int .i64 ep, .int .i64 k, .int .i64 st, .int .i64 cl, .int .i64 sq, .string nm, .int .i64 sz, .slice A hs.length c] 38))) := Lib.hid ((Kp.refl _ _).alloc _)
  have hKe : K = (P && (if k = 1 then M && okSheet sz hs else if k = 2 then M && decide (sz = 0 ∧ hs.length = 0) else if k = 3 then decide (blankP ⟨n, ep, k, st, cl, sq, nm, sz, hs⟩) else false)) := by
    rw [← HKK.out, ← HP.out, ← HM.out]
    unfold okOp okP bareP
    by_cases k1 : k = 1
    · simp [k1]
    · by_cases k2 : k = 2
      · simp [k2]
      · by_cases k3 : k = 3
        · simp [k3]
        · simp [k1, k2, k3]
  have HKE := Lib.hid hKe
  clear hKe HKK HP HM
  by_cases k1 : k = 1
  · subst k1
    obtain ⟨O, hO⟩ : ∃ O, okSheet sz hs = O := ⟨_, rfl⟩
    have hchn : chkN sz hs = if O = true then 0 else 3 := by unfold chkN; rw [hO]
    rw [hchn] at HCH
    rw [hO] at HKE
    simp only [if_true] at HKE
    clear hO hchn
    cases P <;> cases M
    all_goals simp only [Bool.false_and, Bool.true_and] at HKE
    case true.true =>
      cases O
      all_goals
        simp only [Bool.false_eq_true, if_false, if_true] at HCH
        go_wp2_with fail
        refine (HCH.out _ HK1.out).mono ?_
        rintro e w2 ⟨rfl, hk⟩
        have HK2 := Lib.hid (HK1.out.trans' hk)
        clear hk
        go_wp2_with fail
        go_ret
        exact ⟨by rw [← HR.out, HKE.out]; rfl, HK2.out⟩
    all_goals
      go_wp2_with fail
      go_ret
      exact ⟨by rw [← HR.out, HKE.out]; rfl, HK1.out⟩
  by_cases k2 : k = 2
  · subst k2
    obtain ⟨O, hO⟩ : ∃ O, decide (sz = 0 ∧ hs.length = 0) = O := ⟨_, rfl⟩
    rw [hO] at HBA HKE
    have HKE : Hid (K = (P && (M && O))) := HKE
    clear hO k1
    cases P <;> cases M
    all_goals simp only [Bool.false_and, Bool.true_and] at HKE
    case true.true =>
      cases O
      all_goals
        go_wp2_with fail
        refine (HBA.out _).mono ?_
        rintro e w2 ⟨rfl, hk⟩
        have HK2 := Lib.hid (HK1.out.trans' hk)
        clear hk
        go_wp2_with fail
        go_ret
        exact ⟨by rw [← HR.out, HKE.out]; rfl, HK2.out⟩
    all_goals
      go_wp2_with fail
      go_ret
      exact ⟨by rw [← HR.out, HKE.out]; rfl, HK1.out⟩
  by_cases k3 : k = 3
  · subst k3
    obtain ⟨O, hO⟩ : ∃ O, decide (blankP ⟨n, ep, 3, st, cl, sq, nm, sz, hs⟩) = O := ⟨_, rfl⟩
    rw [hO] at HBL HKE
    have HKE : Hid (K = (P && O)) := HKE
    clear hO k1 k2
    cases P
    all_goals simp only [Bool.false_and, Bool.true_and] at HKE
    case true =>
      cases O
      all_goals
        go_wp2_with fail
        refine (HBL.out _).mono ?_
        rintro e w2 ⟨rfl, hk⟩
        have HK2 := Lib.hid (HK1.out.trans' hk)
        clear hk
        go_wp2_with fail
        go_ret
        exact ⟨by rw [← HR.out, HKE.out]; rfl, HK2.out⟩
    all_goals
      go_wp2_with fail
      go_ret
      exact ⟨by rw [← HR.out, HKE.out]; rfl, HK1.out⟩
  · rw [if_neg k1, if_neg k2, if_neg k3, Bool.and_false] at HKE
    have k1b : (k == 1) = false := beq_eq_false_iff_ne.2 k1
    have k2b : (k == 2) = false := beq_eq_false_iff_ne.2 k2
    have k3b : (k == 3) = false := beq_eq_false_iff_ne.2 k3
    go_wp2_with fail
    go_ret
    exact ⟨by rw [← HR.out, HKE.out]; rfl, HK1.out⟩
end Go.Proofs.Ytbncblnchcmgbaa
