/-
  disk: names that may be.
-/
import Derived.Test.YtflodiljgphkdaaGreatBase
import Derived.Test.YtflodiljgphkdaaGreatNameL
import Derived.Test.YtflodiljgphkdaaGreatGen
import Derived.Test.YtflodiljgphkdaaGreatShelf
namespace Go.Proofs.YtflodiljgphkdaaGreat
open Go.RowKit Go.ChangeShapes Go.WideShapes Go.ChangeAt

set_option maxRecDepth 100000 in
theorem d_odd (c : Nat) (w : World) (hc : c ≤ 1114111) : Calls Tryz.prog 95 #[.int .i32 (c : Int)] w fun e w' => e = .returned (.bool (oddR c)) ∧ w' = w := by
  go_enter Tryz.func95, Tryz.ntmps95
  go_wp2_with fail
  all_goals
    go_ret
    refine ⟨congrArg (fun b => Ending.returned (Value.bool b)) ?_, rfl⟩
    unfold oddR
    rw [Bool.eq_iff_iff]
    simp
    omega
theorem odd_pred (w : World) : PredAtRunes Tryz.prog 95 #[] oddR w := fun W x hx _ => (d_odd x W hx).mono fun _ _ ⟨a, b⟩ => ⟨a, 0, b⟩
set_option maxRecDepth 100000 in
theorem d_fine (s : ByteArray) (w : World) : Calls Tryz.prog 89 #[.string s] w fun e w' => e = .returned (.bool (fineN s)) ∧ Kp No w w' := by
  have hidx := sh_strings_IndexFunc_runes 95 #[] (enters_of Tryz.func95 (by kernel_rfl) rfl) oddR s w (odd_pred w)
  have hfi := fine_idx s
  generalize Lib.idxFunc oddR true s = I at hidx hfi
  have hz : s.toList = [] ↔ s.size = 0 := by rw [← List.isEmpty_iff, toList_isEmpty, decide_eq_true_eq]
  have HZ := Lib.hid hz
  have HF := Lib.hid hfi
  clear hfi hz
  go_enter Tryz.func89, Tryz.ntmps89
  go_wp2_with fail
  · rename_i h
    go_ret
    refine ⟨congrArg (fun b => Ending.returned (Value.bool b)) ?_, Kp.refl _ _⟩
    have := HZ.out.1 h
    unfold fineN
    simp [this]
  · have h : ¬ s.toList = [] := by assumption
    have h2 : (s.size : Int) ≤ 80 := by assumption
    have hne : s.toList.isEmpty = false := by simpa using h
    have h1 : 1 ≤ s.size := by have := mt HZ.out.2 h; omega
    refine hidx.mono ?_
    rintro e w2 ⟨rfl, hb⟩
    have HB := Lib.hid (Kp.ofBelow (S := No) hb (Nat.le_refl _))
    clear hb hidx
    go_wp2_with fail
    go_ret
    refine ⟨congrArg (fun b => Ending.returned (Value.bool b)) ?_, HB.out⟩
    show decide (I < 0) = fineN s
    rw [HF.out]
    unfold fineN
    rw [decide_eq_true h1, decide_eq_true (show s.size ≤ 80 by omega)]
    rfl
  · rename_i h h2
    go_ret
    refine ⟨congrArg (fun b => Ending.returned (Value.bool b)) ?_, Kp.refl _ _⟩
    unfold fineN
    simp
    omega
end Go.Proofs.YtflodiljgphkdaaGreat
