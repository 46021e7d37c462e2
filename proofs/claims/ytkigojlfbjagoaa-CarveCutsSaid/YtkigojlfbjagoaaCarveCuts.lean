/-
  Any bytes have the chunks that the document says, and any number of bytes as many: CarveCuts answers true for every input. No condition.
-/
import Derived.Test.YtkigojlfbjagoaaC3
import Derived.Test.YtkigojlfbjagoaaFCarveCuts
namespace Go.Proofs.Ytkigojlfbjagoaa
open Go.RowKit Go.ChangeShapes Go.WideShapes Go.ChangeAt

set_option maxHeartbeats 1000000 in
theorem carveCuts_walk : CarveCutsWalk := by
  intro W v0 s v1 n h0 h1
  obtain ⟨h0, w0⟩ := h0
  obtain ⟨h1, w1⟩ := h1
  simp only [List.cons.injEq, and_true] at h0 h1
  subst h0 h1
  have b1 := bounds_i64 w1
  clear w1
  unfold maxLen at w0
  go_enter Try.func5, Try.ntmps5
  go_wp2_with fail
  refine (awake07 _).mono ?_
  rintro e w2 ⟨rfl, hk2⟩
  have HK2 := Lib.hid hk2
  clear hk2
  by_cases hbig : 8192 < s.size
  · go_wp2_with fail
    refine (awake07 _).mono ?_
    rintro e w3 ⟨rfl, hk3⟩
    go_wp2_with fail
    go_ret
    exact ⟨rfl, HK2.out.trans' hk3⟩
  · have hs : s.size ≤ 8192 := by omega
    go_wp2_with fail
    refine (c_cut s _ (by omega)).mono ?_
    rintro e w3 ⟨A3, c3, rfl, ho3, hk3⟩
    have HO3 := Lib.hid ho3
    have HK3 := Lib.hid (HK2.out.trans' hk3)
    clear ho3 hk3 HK2
    go_wp2_with fail
    refine (r_cut s _ (by omega)).mono ?_
    rintro e w4 ⟨A4, c4, rfl, ho4, hk4⟩
    have hcl : (cutsB s).length = (s.size + 63) / 64 := cutsB_length s
    have hsame := r_same (cutsB s) (cutsB s) _ _ _ _ w4 (fun _ => True) (fun _ => True) (((HO3.out.keptNo hk4).str_any (fun _ => True)).read fun _ _ => trivial) ((ho4.str_any (fun _ => True)).read fun _ _ => trivial)
    rw [show decide (cutsB s = cutsB s) = true from decide_eq_true rfl] at hsame
    have HK4 := Lib.hid (HK3.out.trans' hk4)
    have HS := Lib.hid hsame
    have HCL := Lib.hid hcl
    clear ho4 hk4 HK3 HO3 hsame hcl
    obtain ⟨L, hL⟩ : ∃ L, cutsB s = L := ⟨_, rfl⟩
    rw [hL] at HS HCL ⊢
    clear hL
    go_wp2_with fail
    refine HS.out.mono ?_
    rintro e w5 ⟨rfl, m, rfl⟩
    clear HS
    go_wp2_with fail
    refine (c_count s.size _ (by omega) (by omega)).mono ?_
    rintro e w5 ⟨rfl, rfl⟩
    rw [show cnt (s.size : Int) = (L.length : Int) by rw [HCL.out]; unfold cnt; split <;> omega]
    go_wp2_with fail
    refine (c_count n _ (by omega) (by omega)).mono ?_
    rintro e w5 ⟨rfl, rfl⟩
    go_wp2_with fail
    refine (r_count n _ (by omega) (by omega)).mono ?_
    rintro e w5 ⟨rfl, rfl⟩
    go_wp2_with fail
    go_ret
    exact ⟨rfl, HK4.out.drewN m⟩
theorem carveCuts_holds : Rows.CarveCutsSaid := carveCuts_of carveCuts_walk
#print axioms carveCuts_holds
end Go.Proofs.Ytkigojlfbjagoaa
