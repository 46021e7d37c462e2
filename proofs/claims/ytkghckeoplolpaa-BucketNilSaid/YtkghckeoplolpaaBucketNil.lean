/-
  A bucket that is none holds nothing: BucketNil answers true for every int. No condition.
-/
import Derived.Test.YtkghckeoplolpaaT1
import Derived.Test.YtkghckeoplolpaaFBucketNil
namespace Go.Proofs.Ytkghckeoplolpaa
open Go.RowKit Go.ChangeShapes Go.WideShapes Go.ChangeAt

theorem b_take_nil (v : Value) (w : World) :
    Calls Try.prog 15 #[.pointer none, v] w fun e w' => e = .returned (.int .i64 0) ∧ w = w' := by
  go_enter Try.func15, Try.ntmps15
  go_wp2
  go_ret
  exact ⟨rfl, rfl⟩

theorem bucketNil_walk : BucketNilWalk := by
  intro W v0 a0 h0
  obtain ⟨h0, _⟩ := h0
  simp only [List.cons.injEq, and_true] at h0
  subst h0
  go_enter Try.func8, Try.ntmps8
  go_wp2_with fail
  refine (b_tick_nil _).mono ?_
  rintro e w1 ⟨rfl, rfl⟩
  go_wp2_with fail
  refine (awake16 _).mono ?_
  rintro e w1 ⟨rfl, hk⟩
  go_wp2_with (first
    | (go_at_call 15; refine (b_take_nil _ _).mono ?_; rintro e w1 ⟨rfl, rfl⟩)
    | (go_at_call 16; refine (b_left_nil _).mono ?_; rintro e w1 ⟨rfl, rfl⟩)
    | (go_at_call 23; refine (b_copy_nil _).mono ?_; rintro e w1 ⟨rfl, rfl⟩))
  go_ret
  exact ⟨rfl, hk.alloc _⟩

theorem bucketNil_holds : Rows.BucketNilSaid := bucketNil_of bucketNil_walk

#print axioms bucketNil_holds
end Go.Proofs.Ytkghckeoplolpaa
