/-
  A vault that is none, and one on a drive that is none, have nothing: VaultNil answers true for every input. No condition.
-/
import Derived.Test.YtflodiljgphkdaaAwk10
import Derived.Test.YtflodiljgphkdaaFVaultNil
namespace Go.Proofs.Ytflodiljgphkdaa
open Go.RowKit Go.ChangeShapes Go.WideShapes Go.ChangeAt

set_option maxRecDepth 100000 in
set_option maxHeartbeats 2000000 in
theorem vaultNil_walk : VaultNilWalk := by
  intro W v0 t v1 q h0 h1
  obtain ⟨hv0, _⟩ := h0
  obtain ⟨hv1, _⟩ := h1
  simp only [List.cons.injEq, and_true] at hv0 hv1
  subst hv0 hv1
  go_enter Try.func12, Try.ntmps12
  go_wp2_with fail
  refine (v_hold_nil _ _ _ _).mono ?_
  rintro e w1 ⟨rfl, rfl⟩
  go_wp2_with fail
  refine (v_free_nil _ _ _ _).mono ?_
  rintro e w2 ⟨rfl, rfl⟩
  obtain ⟨w2, hw2⟩ : ∃ w2, (W.alloc (.cells #[.string t] 9)).alloc (.cells #[.string t] 9) = w2 := ⟨_, rfl⟩
  have HK : Hid (Kp No W w2) := Lib.hid (by rw [← hw2]; exact ((Kp.refl _ _).alloc _).alloc _)
  rw [hw2]
  clear hw2
  go_wp2_with fail
  refine (v_put_nil _ _).mono ?_
  rintro e w3 ⟨rfl, rfl⟩
  go_wp2_with fail
  refine (v_get_nil _ _).mono ?_
  rintro e w4 ⟨rfl, rfl⟩
  go_wp2_with fail
  refine (v_sweep_nil _).mono ?_
  rintro e w5 ⟨rfl, rfl⟩
  go_wp2_with fail
  refine (v_open_nil _ _).mono ?_
  rintro e w6 ⟨rfl, rfl⟩
  go_wp2_with fail
  refine (awake10 _).mono ?_
  rintro e w7 ⟨rfl, hk⟩
  have HK7 := Lib.hid (HK.out.trans' hk)
  clear hk
  go_wp2_with fail
  refine (v_has_nil _ _).mono ?_
  rintro e w8 ⟨rfl, rfl⟩
  go_wp2_with fail
  refine (v_held_nil _ _).mono ?_
  rintro e w9 ⟨rfl, rfl⟩
  go_wp2_with fail
  refine (v_bytes_nil _).mono ?_
  rintro e w10 ⟨rfl, rfl⟩
  go_wp2_with fail
  refine (v_list_nil _).mono ?_
  rintro e w11 ⟨rfl, rfl⟩
  go_wp2_with fail
  refine (v_missing_nil _ _ _ _).mono ?_
  rintro e w12 ⟨rfl, rfl⟩
  go_wp2_with fail
  go_ret
  exact ⟨rfl, HK7.out.alloc _⟩
theorem vaultNil_holds : Rows.VaultNilSaid := vaultNil_of vaultNil_walk
#print axioms vaultNil_holds
end Go.Proofs.Ytflodiljgphkdaa
