/-
  The reference's sheets: Same, Right, Pack.
-/
import Derived.Test.YtbncblnchcmgbaaH2L
import Derived.Test.YtbncblnchcmgbaaSame
namespace Go.Proofs.Ytbncblnchcmgbaa
open Go.RowKit Go.ChangeShapes Go.WideShapes Go.ChangeAt

set_option maxRecDepth 100000 in
set_option maxHeartbeats 1000000 in
theorem r_sameS (n m : Int) (l1 l2 : List ByteArray) (A1 A2 : Option Addr) (c1 c2 : Nat) (w : World) (S1 S2 : Nat → Prop) (h1 : Rp.str.slice.R w S1 [.slice A1 l1.length c1] l1) (h2 : Rp.str.slice.R w S2 [.slice A2 l2.length c2] l2) :
    Calls Try.prog 39 #[.agg #[.int .i64 n, .slice A1 l1.length c1], .agg #[.int .i64 m, .slice A2 l2.length c2]] w fun e w' => e = .returned (.bool (decide (n = m ∧ l1 = l2))) ∧ Kp No w w' := by
  have H1 := Lib.hid h1
  have H2 := Lib.hid h2
  clear h1 h2
  by_cases hnm : n = m
  · subst hnm
    have hd : decide (n = n ∧ l1 = l2) = decide (l1 = l2) := by simp
    rw [hd]
    clear hd
    go_enter Try.func39, Try.ntmps39
    go_wp2_with fail
    obtain ⟨w1, hw1⟩ : ∃ w1, (w.alloc (.cells #[.int .i64 n, .slice A1 l1.length c1] 36)).alloc (.cells #[.int .i64 n, .slice A2 l2.length c2] 36) = w1 := ⟨_, rfl⟩
    have HK1 : Hid (Kp No w w1) := Lib.hid (by rw [← hw1]; exact ((Kp.refl _ _).alloc _).alloc _)
    rw [hw1]
    clear hw1
    refine (r_same l1 l2 A1 A2 c1 c2 w1 S1 S2 (Rp.str.slice.keptNo H1.out HK1.out) (Rp.str.slice.keptNo H2.out HK1.out)).mono ?_
    rintro e w2 ⟨rfl, k, rfl⟩
    go_wp2_with fail
    go_ret
    exact ⟨rfl, HK1.out.drewN k⟩
  · have hd : decide (n = m ∧ l1 = l2) = false := decide_eq_false (fun h => hnm h.1)
    have hq : (n == m) = false := by simp [hnm]
    rw [hd]
    clear hd
    go_enter Try.func39, Try.ntmps39
    go_wp2_with fail
    go_ret
    exact ⟨rfl, ((Kp.refl _ _).alloc _).alloc _⟩
end Go.Proofs.Ytbncblnchcmgbaa
