/-
  A digest's name, and what a name is of, are what the document says: ShaNames answers true for every input. No condition.
-/
import Derived.Test.YtejmbbnndagejaaS6
import Derived.Test.YtejmbbnndagejaaS7
import Derived.Test.YtejmbbnndagejaaFShaNames
namespace Go.Proofs.Ytejmbbnndagejaa
open Go.RowKit Go.ChangeShapes Go.WideShapes Go.ChangeAt

theorem hashV_form (s : ByteArray) : ∃ x ok, hashV s = .tuple #[.string x, .bool ok] := by
  unfold hashV; split <;> exact ⟨_, _, rfl⟩


set_option maxHeartbeats 1000000 in
theorem shaNames_walk : ShaNamesWalk := by
  intro W v0 s v1 n h0 h1
  obtain ⟨h0, w0⟩ := h0
  obtain ⟨h1, w1⟩ := h1
  simp only [List.cons.injEq, and_true] at h0 h1
  subst h0 h1
  unfold maxLen at w0 w1
  go_enter Try.func5, Try.ntmps5
  go_wp2_with fail
  refine (awake03 _).mono ?_
  rintro e w2 ⟨rfl, hk2⟩
  have HK2 := Lib.hid hk2
  clear hk2
  by_cases b1 : 4096 < s.size
  · skip
    go_wp2_with fail
    refine (awake03 _).mono ?_
    rintro e w3 ⟨rfl, hk3⟩
    go_wp2_with fail
    go_ret
    exact ⟨rfl, HK2.out.trans' hk3⟩
  · by_cases b2 : 4096 < n.size
    · skip
      go_wp2_with fail
      refine (awake03 _).mono ?_
      rintro e w3 ⟨rfl, hk3⟩
      go_wp2_with fail
      go_ret
      exact ⟨rfl, HK2.out.trans' hk3⟩
    · go_wp2_with fail
      refine (c_hash n _ (by omega)).mono ?_
      rintro e w3 ⟨rfl, hk3⟩
      obtain ⟨x, ok, hx⟩ := hashV_form n
      have HX := Lib.hid hx
      rw [hx]
      have HK3 := Lib.hid (HK2.out.trans' hk3)
      clear hk3 HK2 hx
      go_wp2_with fail
      refine (r_hash n _ (by omega)).mono ?_
      rintro e w4 ⟨rfl, hk4⟩
      rw [HX.out]
      have HK4 := Lib.hid (HK3.out.trans' hk4)
      clear hk4 HK3 HX
      go_wp2_with fail
      refine (c_name s _ (by omega)).mono ?_
      rintro e w5 ⟨rfl, hk5⟩
      have HK5 := Lib.hid (HK4.out.trans' hk5)
      clear hk5 HK4
      go_wp2_with fail
      refine (r_name s _ (by omega)).mono ?_
      rintro e w6 ⟨rfl, hk6⟩
      have HK6 := Lib.hid (HK5.out.trans' hk6)
      clear hk6 HK5
      go_wp2_with fail
      go_ret
      exact ⟨rfl, HK6.out⟩
theorem shaNames_holds : Rows.ShaNamesSaid := shaNames_of shaNames_walk
#print axioms shaNames_holds
end Go.Proofs.Ytejmbbnndagejaa
