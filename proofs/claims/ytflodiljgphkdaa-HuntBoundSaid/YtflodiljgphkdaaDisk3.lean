/-
  disk: names that may be.
-/
import Derived.Test.YtflodiljgphkdaaBase
import Derived.Test.YtflodiljgphkdaaNameL
import Derived.Test.YtflodiljgphkdaaGen
import Derived.Test.YtflodiljgphkdaaShelf
namespace Go.Proofs.Ytflodiljgphkdaa
open Go.RowKit Go.ChangeShapes Go.WideShapes Go.ChangeAt

set_option maxRecDepth 100000 in
theorem d_odd (c : Nat) (w : World) (hc : c ≤ 1114111) : Calls Try.prog 111 #[.int .i32 (c : Int)] w fun e w' => e = .returned (.bool (oddR c)) ∧ w' = w := by
  go_enter Try.func111, Try.ntmps111
  go_wp2_with fail
  all_goals
    go_ret
    refine ⟨congrArg (fun b => Ending.returned (Value.bool b)) ?_, rfl⟩
    unfold oddR
    rw [Bool.eq_iff_iff]
    simp
    omega
theorem odd_pred (w : World) : PredAtRunes Try.prog 111 #[] oddR w := fun W x hx _ => (d_odd x W hx).mono fun _ _ ⟨a, b⟩ => ⟨a, 0, b⟩
set_option maxRecDepth 100000 in
theorem d_fine (s : ByteArray) (w : World) : Calls Try.prog 88 #[.string s] w fun e w' => e = .returned (.bool (fineN s)) ∧ Kp No w w' := by
  have hidx := sh_strings_IndexFunc_runes 111 #[] (enters_of Try.func111 (by kernel_rfl) rfl) oddR s w (odd_pred w)
  have hfi := fine_idx s
  generalize Lib.idxFunc oddR true s = I at hidx hfi
  have hz : s.toList = [] ↔ s.size = 0 := by rw [← List.isEmpty_iff, toList_isEmpty, decide_eq_true_eq]
  have HZ := Lib.hid hz
  have HF := Lib.hid hfi
  clear hfi hz
  go_enter Try.func88, Try.ntmps88
  go_wp2_with fail
  · rename_i h
    go_ret
    refine ⟨congrArg (fun b => Ending.returned (Value.bool b)) ?_, Kp.refl _ _⟩
    have := HZ.out.1 h
    unfold fineN
    simp [this]
  · have h : ¬ s.toList = [] := by assumption
    have h2 : (s.size : Int) ≤ 80 := by assumption
    have hne : s.toList.isEmpty = false := by simpa using h
    have h1 : 1 ≤ s.size := by have := mt HZ.out.2 h; omega
    refine hidx.mono ?_
    rintro e w2 ⟨rfl, hb⟩
    have HB := Lib.hid (Kp.ofBelow (S := No) hb (Nat.le_refl _))
    clear hb hidx
    go_wp2_with fail
    go_ret
    refine ⟨congrArg (fun b => Ending.returned (Value.bool b)) ?_, HB.out⟩
    show decide (I < 0) = fineN s
    rw [HF.out]
    unfold fineN
    rw [decide_eq_true h1, decide_eq_true (show s.size ≤ 80 by omega)]
    rfl
  · rename_i h h2
    go_ret
    refine ⟨congrArg (fun b => Ending.returned (Value.bool b)) ?_, Kp.refl _ _⟩
    unfold fineN
    simp
    omega
end Go.Proofs.Ytflodiljgphkdaa
