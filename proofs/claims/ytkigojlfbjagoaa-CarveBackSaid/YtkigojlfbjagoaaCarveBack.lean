/-
  Chunks put together are the bytes that were cut; they fit: CarveBack answers true for every input. No condition.
-/
import Derived.Test.YtkigojlfbjagoaaC3
import Derived.Test.YtkigojlfbjagoaaFCarveBack
namespace Go.Proofs.Ytkigojlfbjagoaa
open Go.RowKit Go.ChangeShapes Go.WideShapes Go.ChangeAt

set_option maxHeartbeats 1000000 in
theorem carveBack_walk : CarveBackWalk := by
  intro W v0 s h0
  obtain ⟨h0, w0⟩ := h0
  simp only [List.cons.injEq, and_true] at h0
  subst h0
  unfold maxLen at w0
  go_enter Try.func7, Try.ntmps7
  go_wp2_with fail
  refine (awake07 _).mono ?_
  rintro e w2 ⟨rfl, hk2⟩
  have HK2 := Lib.hid hk2
  clear hk2
  by_cases hbig : 8192 < s.size
  · go_wp2_with fail
    refine (awake07 _).mono ?_
    rintro e w3 ⟨rfl, hk3⟩
    go_wp2_with fail
    go_ret
    exact ⟨rfl, HK2.out.trans' hk3⟩
  · have hs : s.size ≤ 8192 := by omega
    go_wp2_with fail
    refine (c_cut s _ (by omega)).mono ?_
    rintro e w3 ⟨A3, c3, rfl, ho3, hk3⟩
    have HO3 := Lib.hid ho3
    have HK3 := Lib.hid (HK2.out.trans' hk3)
    have hcl : (cutsB s).length = (s.size + 63) / 64 := cutsB_length s
    have hfits := c_fits (cutsB s) A3 c3 w3 (fun _ => True) ((ho3.str_any (fun _ => True)).read fun _ _ => trivial) (by omega)
    have hjoin := c_join (cutsB s) A3 c3 _ w3 No ho3 (by omega) (by rw [joinB_cuts]; omega)
    rw [joinB_cuts] at hjoin
    rw [fitsB_cuts] at hfits
    have HF := Lib.hid hfits
    have HJ := Lib.hid hjoin
    clear ho3 hk3 HK2 hfits hjoin hcl
    generalize cutsB s = L at *
    go_wp2_with fail
    refine HF.out.mono ?_
    rintro e w4 ⟨rfl, rfl⟩
    clear HF
    go_wp2_with fail
    refine HJ.out.mono ?_
    rintro e w4 ⟨rfl, hk4⟩
    go_wp2_with fail
    go_ret
    exact ⟨by simp, HK3.out.trans' hk4⟩
theorem carveBack_holds : Rows.CarveBackSaid := carveBack_of carveBack_walk
#print axioms carveBack_holds
end Go.Proofs.Ytkigojlfbjagoaa
