/-
  A digest is found by its name; no other name leads to it: ShaBack answers true for every input. No condition.
-/
import Derived.Test.YtejmbbnndagejaaS6
import Derived.Test.YtejmbbnndagejaaS7
import Derived.Test.YtejmbbnndagejaaFShaBack
namespace Go.Proofs.Ytejmbbnndagejaa
open Go.RowKit Go.ChangeShapes Go.WideShapes Go.ChangeAt


set_option maxHeartbeats 1000000 in
theorem shaBack_walk : ShaBackWalk := by
  intro W v0 s v1 n h0 h1
  obtain ⟨h0, w0⟩ := h0
  obtain ⟨h1, w1⟩ := h1
  simp only [List.cons.injEq, and_true] at h0 h1
  subst h0 h1
  unfold maxLen at w0 w1
  go_enter Try.func6, Try.ntmps6
  go_wp2_with fail
  refine (awake03 _).mono ?_
  rintro e w2 ⟨rfl, hk2⟩
  have HK2 := Lib.hid hk2
  clear hk2
  by_cases b1 : 4096 < s.size
  · skip
    go_wp2_with fail
    refine (awake03 _).mono ?_
    rintro e w3 ⟨rfl, hk3⟩
    go_wp2_with fail
    go_ret
    exact ⟨rfl, HK2.out.trans' hk3⟩
  · by_cases b2 : 4096 < n.size
    · skip
      go_wp2_with fail
      refine (awake03 _).mono ?_
      rintro e w3 ⟨rfl, hk3⟩
      go_wp2_with fail
      go_ret
      exact ⟨rfl, HK2.out.trans' hk3⟩
    · go_wp2_with fail
      refine (c_name s _ (by omega)).mono ?_
      rintro e w3 ⟨rfl, hk3⟩
      have HK3 := Lib.hid (HK2.out.trans' hk3)
      obtain ⟨m, hm⟩ : ∃ m, bs (nameL s.data.toList) = m := ⟨_, rfl⟩
      have hms : m.size ≤ 1048576 := by rw [← hm, bs_size, nameL_length, data_length]; omega
      have hmv : hashV m = .tuple #[.string s, .bool true] := by unfold hashV; rw [← hm, bs_data, unhex_name]; simp only; rw [bs_of]
      rw [hm]
      have HM := Lib.hid hmv
      clear hk3 HK2 hm hmv
      go_wp2_with fail
      refine (c_hash m _ hms).mono ?_
      rintro e w4 ⟨rfl, hk4⟩
      rw [HM.out]
      have HK4 := Lib.hid (HK3.out.trans' hk4)
      clear hk4 HK3 HM
      go_wp2_with fail
      refine (c_hash n _ (by omega)).mono ?_
      rintro e w5 ⟨rfl, hk5⟩
      have HK5 := Lib.hid (HK4.out.trans' hk5)
      clear hk5 HK4
      cases hu : unhex n.data.toList with
      | none =>
        have hv : hashV n = .tuple #[.string ByteArray.empty, .bool false] := by unfold hashV; rw [hu]
        rw [hv]
        clear hu hv
        go_wp2_with fail
        go_ret
        exact ⟨rfl, HK5.out⟩
      | some b =>
        have hv : hashV n = .tuple #[.string (bs b), .bool true] := by unfold hashV; rw [hu]
        have hb : nameL b = n.data.toList := name_unhex _ _ hu
        have hbs : (bs b).size ≤ 1048576 := by
          have h1 := congrArg List.length hb
          rw [nameL_length, data_length] at h1
          rw [bs_size]; omega
        have hbn : bs (nameL (bs b).data.toList) = n := by rw [bs_data, hb, bs_of]
        rw [hv]
        have HB := Lib.hid hbn
        clear hu hv hb hbn
        generalize bs b = B at *
        go_wp2_with fail
        refine (c_name B _ hbs).mono ?_
        rintro e w6 ⟨rfl, hk6⟩
        rw [HB.out]
        have HK6 := Lib.hid (HK5.out.trans' hk6)
        clear hk6 HK5 HB
        go_wp2_with fail
        go_ret
        exact ⟨rfl, HK6.out⟩
theorem shaBack_holds : Rows.ShaBackSaid := shaBack_of shaBack_walk
#print axioms shaBack_holds
end Go.Proofs.Ytejmbbnndagejaa
