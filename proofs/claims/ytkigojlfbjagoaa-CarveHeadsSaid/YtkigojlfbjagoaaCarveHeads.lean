/-
  Bytes that begin alike have the same first chunks, as far as these are whole in both: CarveHeads answers true for every input. No condition.
-/
import Derived.Test.YtkigojlfbjagoaaC3
import Derived.Test.YtkigojlfbjagoaaFCarveHeads
namespace Go.Proofs.Ytkigojlfbjagoaa
open Go.RowKit Go.ChangeShapes Go.WideShapes Go.ChangeAt

set_option maxHeartbeats 1000000 in
theorem carveHeads_walk : CarveHeadsWalk := by
  intro W v0 h v1 a v2 b h0 h1 h2
  obtain ⟨h0, w0⟩ := h0
  obtain ⟨h1, w1⟩ := h1
  obtain ⟨h2, w2⟩ := h2
  simp only [List.cons.injEq, and_true] at h0 h1 h2
  subst h0 h1 h2
  unfold maxLen at w0 w1 w2
  go_enter Try.func8, Try.ntmps8
  go_wp2_with fail
  refine (awake07 _).mono ?_
  rintro e w2 ⟨rfl, hk2⟩
  have HK2 := Lib.hid hk2
  clear hk2
  by_cases hbig : 4096 < h.size ∨ 4096 < a.size ∨ 4096 < b.size
  · by_cases b1 : 4096 < h.size
    · go_wp2_with fail
      refine (awake07 _).mono ?_
      rintro e w3 ⟨rfl, hk3⟩
      go_wp2_with fail
      go_ret
      exact ⟨rfl, HK2.out.trans' hk3⟩
    · by_cases b2 : 4096 < a.size
      · go_wp2_with fail
        refine (awake07 _).mono ?_
        rintro e w3 ⟨rfl, hk3⟩
        go_wp2_with fail
        go_ret
        exact ⟨rfl, HK2.out.trans' hk3⟩
      · have b3 : 4096 < b.size := by omega
        clear hbig
        go_wp2_with fail
        refine (awake07 _).mono ?_
        rintro e w3 ⟨rfl, hk3⟩
        go_wp2_with fail
        go_ret
        exact ⟨rfl, HK2.out.trans' hk3⟩
  · have s1 : h.size ≤ 4096 := by omega
    have s2 : a.size ≤ 4096 := by omega
    have s3 : b.size ≤ 4096 := by omega
    clear hbig
    have n1 : ¬ 9223372036854775807 < h.size + a.size := by omega
    have n2 : ¬ 9223372036854775807 < h.size + b.size := by omega
    go_wp2_with fail
    refine (c_cut (h ++ a) _ (by rw [ByteArray.size_append]; omega)).mono ?_
    rintro e w3 ⟨A3, c3, rfl, ho3, hk3⟩
    have HO3 := Lib.hid ho3
    have HK3 := Lib.hid (HK2.out.trans' hk3)
    clear ho3 hk3 HK2
    go_wp2_with fail
    refine (c_cut (h ++ b) _ (by rw [ByteArray.size_append]; omega)).mono ?_
    rintro e w4 ⟨A4, c4, rfl, ho4, hk4⟩
    have HO3' := Lib.hid (HO3.out.keptNo hk4)
    have HO4 := Lib.hid ho4
    have HK4 := Lib.hid (HK3.out.trans' hk4)
    have hl1 : (cutsB (h ++ a)).length = (h.size + a.size + 63) / 64 := by rw [cutsB_length, ByteArray.size_append]
    have hl2 : (cutsB (h ++ b)).length = (h.size + b.size + 63) / 64 := by rw [cutsB_length, ByteArray.size_append]
    have hh := cutsB_heads h a b
    obtain ⟨n, hn⟩ : ∃ n, h.size / 64 = n := ⟨_, rfl⟩
    rw [hn] at hh
    clear ho4 hk4 HK3 HO3
    generalize cutsB (h ++ a) = X at *
    generalize cutsB (h ++ b) = Y at *
    have g1 : n ≤ X.length := by omega
    have g2 : n ≤ Y.length := by omega
    have r3 := (HO3'.out.str_any (fun _ => True)).read fun _ _ => trivial
    have r4 := (HO4.out.str_any (fun _ => True)).read fun _ _ => trivial
    have k3 : n ≤ c3 := by
      obtain ⟨_, _, he, q1, _⟩ := r3
      simp only [List.cons.injEq, Value.slice.injEq, and_true, true_and] at he; omega
    have k4 : n ≤ c4 := by
      obtain ⟨_, _, he, q1, _⟩ := r4
      simp only [List.cons.injEq, Value.slice.injEq, and_true, true_and] at he; omega
    have hsame := r_same (X.take n) (Y.take n) A3 A4 c3 c4 w4.drew (fun _ => True) (fun _ => True) (Rp.take4 ((Rp.slice _).keptNo r3 ((Kp.refl _ _).drew))) (Rp.take4 ((Rp.slice _).keptNo r4 ((Kp.refl _ _).drew)))
    rw [decide_eq_true hh, List.length_take, List.length_take, Nat.min_eq_left g1, Nat.min_eq_left g2] at hsame
    have HS := Lib.hid hsame
    have e1 : (h.size : Int) / 64 = (n : Int) := by omega
    have e2 : (h.size : Int).tdiv 64 = (n : Int) := by rw [Int.tdiv_eq_ediv_of_nonneg (by omega)]; exact e1
    have e3 : IntKind.i64.wrap (n : Int) = (n : Int) := by rw [IntKind.wrap_i64]; omega
    clear r3 r4 hsame hh hl1 hl2 hn HO3' HO4
    have f1 : (n : Int) ≤ (X.length : Int) := by omega
    have f2 : (n : Int) ≤ (Y.length : Int) := by omega
    have f3 : (0 : Int) ≤ (n : Int) := by omega
    have f4 : (n : Int) ≤ (c3 : Int) := by omega
    have f5 : (n : Int) ≤ (c4 : Int) := by omega
    go_wp2_with fail
    refine Reg.wp_region_plan [⟨0, false, []⟩, ⟨1, false, []⟩, ⟨2, false, []⟩, ⟨3, false, []⟩, ⟨4, false, []⟩, ⟨5, false, []⟩, ⟨6, false, []⟩, ⟨7, false, []⟩, ⟨8, false, []⟩, ⟨9, false, []⟩, ⟨10, false, []⟩, ⟨11, false, []⟩, ⟨12, false, []⟩, ⟨13, false, []⟩, ⟨14, false, []⟩, ⟨15, false, []⟩, ⟨16, false, []⟩, ⟨17, true, []⟩, ⟨18, false, []⟩, ⟨19, false, []⟩] rfl (by kernel_rfl) ?_
    repeat (first | (refine Reg.look rfl rfl rfl (by go_simp; rfl) rfl ?_; go_simp) | (refine Reg.skip rfl rfl rfl ?_; go_simp))
    refine Reg.act rfl ?_
    go_wp2_with fail
    refine HS.out.mono ?_
    rintro e w5 ⟨rfl, m, rfl⟩
    go_wp2_with fail
    refine ⟨Reg.anew_nil, ?_⟩
    repeat (first | (refine Reg.look rfl rfl rfl (by go_simp; rfl) rfl ?_; go_simp) | (refine Reg.skip rfl rfl rfl ?_; go_simp))
    (refine Reg.done ?_; simp only [Exit.then])
    go_wp2_with fail
    go_ret
    exact ⟨rfl, HK4.out.drewN (1 + m)⟩
theorem carveHeads_holds : Rows.CarveHeadsSaid := carveHeads_of carveHeads_walk
#print axioms carveHeads_holds
end Go.Proofs.Ytkigojlfbjagoaa
