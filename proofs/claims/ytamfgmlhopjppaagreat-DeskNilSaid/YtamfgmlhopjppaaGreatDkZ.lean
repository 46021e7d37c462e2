/-
  A desk that is none.
-/
import Derived.Test.YtamfgmlhopjppaaGreatDkT
import Derived.Test.YtamfgmlhopjppaaGreatGE
namespace Go.Proofs.YtamfgmlhopjppaaGreat
open Go.RowKit Go.ChangeShapes Go.WideShapes Go.ChangeAt

set_option maxRecDepth 100000 in
theorem k_add_nil (n : Int) (a : AskL) (index term : Int) (w : World) : Calls Tryz.prog 19 #[.pointer none, .int .i64 n, askW a, .int .i64 index, .int .i64 term] w fun e w' => e = .returned (.int .i64 2) ∧ Kp No w w' := by
  unfold askW
  go_enter Tryz.func19, Tryz.ntmps19
  go_wp2_with fail
  go_ret
  exact ⟨rfl, (Kp.refl _ _).alloc _⟩
set_option maxRecDepth 100000 in
theorem k_each_nil (what : Int) (f : Value) (w : World) : Calls Tryz.prog 70 #[.pointer none, .int .i64 what, f] w fun e w' => e = .returned (.slice none 0 0) ∧ Kp No w w' := by
  go_enter Tryz.func70, Tryz.ntmps70
  go_wp2_with fail
  go_ret
  exact ⟨rfl, Kp.refl _ _⟩
set_option maxRecDepth 100000 in
theorem k_drop_nil (w : World) : Calls Tryz.prog 23 #[.pointer none] w fun e w' => e = .returned (.slice none 0 0) ∧ Kp No w w' := by
  go_enter Tryz.func23, Tryz.ntmps23
  go_wp2_with fail
  go_ret
  exact ⟨rfl, Kp.refl _ _⟩
set_option maxRecDepth 100000 in
theorem k_needs_nil (w : World) : Calls Tryz.prog 24 #[.pointer none] w fun e w' => e = .returned (.slice none 0 0) ∧ Kp No w w' := by
  go_enter Tryz.func24, Tryz.ntmps24
  go_wp2_with fail
  go_ret
  exact ⟨rfl, Kp.refl _ _⟩
set_option maxRecDepth 100000 in
theorem k_copy_nil (w : World) : Calls Tryz.prog 26 #[.pointer none] w fun e w' => e = .returned (.pointer none) ∧ Kp No w w' := by
  go_enter Tryz.func26, Tryz.ntmps26
  go_wp2_with fail
  go_ret
  exact ⟨rfl, Kp.refl _ _⟩
set_option maxRecDepth 100000 in
theorem k_fetch_nil (w : World) : Calls Tryz.prog 22 #[.pointer none, .pointer none, .pointer none] w fun e w' => e = .returned (.slice none 0 0) ∧ Kp No w w' := by
  go_enter Tryz.func22, Tryz.ntmps22
  go_wp2_with fail
  refine (k_each_nil _ _ _).mono ?_
  rintro e w2 ⟨rfl, hk⟩
  have HK : Hid (Kp No w w2) := Lib.hid ((((Kp.refl No w).alloc _).alloc _).trans' hk)
  clear hk
  go_wp2_with fail
  go_ret
  exact ⟨rfl, HK.out⟩
set_option maxRecDepth 100000 in
theorem k_agreed_nil (index term : Int) (dn : Done3) (w : World) : Calls Tryz.prog 20 #[.pointer none, .int .i64 index, .int .i64 term, doneV dn, .pointer none] w fun e w' => e = .returned (.slice none 0 0) ∧ Kp No w w' := by
  unfold doneV
  go_enter Tryz.func20, Tryz.ntmps20
  go_wp2_with fail
  refine (k_each_nil _ _ _).mono ?_
  rintro e w2 ⟨rfl, hk⟩
  have HK : Hid (Kp No w w2) := Lib.hid ((((((Kp.refl No w).alloc _).alloc _).alloc _).alloc _).trans' hk)
  clear hk
  go_wp2_with fail
  go_ret
  exact ⟨rfl, HK.out⟩
set_option maxRecDepth 100000 in
theorem k_settle_nil (site whole : ReachL) (hs hw : Value) (o1 o2 : Int) (w : World) : Calls Tryz.prog 21 #[.pointer none, .pointer none, reachW site hs, .agg #[.int .i64 o1, .int .i64 o2], reachW whole hw] w fun e w' => e = .returned (.slice none 0 0) ∧ Kp No w w' := by
  unfold reachW
  go_enter Tryz.func21, Tryz.ntmps21
  go_wp2_with fail
  refine (l_ops_nil _).mono ?_
  rintro e w2 ⟨rfl, hk⟩
  have HK : Hid (Kp No w w2) := Lib.hid (by rw [hk]; exact (((Kp.refl No w).alloc _).alloc _).alloc _)
  clear hk
  go_wp2_with fail
  refine (k_each_nil _ _ _).mono ?_
  rintro e w3 ⟨rfl, hk⟩
  have HK2 : Hid (Kp No w w3) := Lib.hid ((HK.out.alloc _).trans' hk)
  clear hk
  go_wp2_with fail
  go_ret
  exact ⟨rfl, HK2.out⟩
end Go.Proofs.YtamfgmlhopjppaaGreat
