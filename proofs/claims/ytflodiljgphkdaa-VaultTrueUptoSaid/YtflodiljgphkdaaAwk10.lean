/-
  redoubtlaw10.awake.
-/
import Derived.Test.YtflodiljgphkdaaVltN
import Derived.Test.YtflodiljgphkdaaVltA
namespace Go.Proofs.Ytflodiljgphkdaa
open Go.RowKit Go.ChangeShapes Go.WideShapes Go.ChangeAt

set_option maxRecDepth 100000 in
set_option maxHeartbeats 2000000 in
theorem awake10 (w : World) : Calls Try.prog 32 #[] w fun e w' => e = .returned (.bool true) ∧ Kp No w w' := by
  obtain ⟨h, hh⟩ : ∃ h, digest tA = h := ⟨_, rfl⟩
  have hs : h.size = 32 := by rw [← hh, digest_size]
  have HH := Lib.hid hh
  have HSZ := Lib.hid hs
  have hsum := fun (w3 : World) => t_sum1 tA (w3.alloc (.cells #[.string tA] 9)) (g := w3.heap.size) (heap_alloc_new w3 _) (by decide)
  rw [show shaB tA = h from hh] at hsum
  have HSUM := Lib.hid hsum
  clear hsum hh
  have hta : tA.toList = [97, 98, 99] := by rw [Lib.toList_data]; rfl
  have hno : ¬ 9223372036854775807 < 2 + (bs (nameL h.data.toList)).size := by rw [bs_size, nameL_length, data_length]; omega
  go_enter Try.func32, Try.ntmps32
  go_wp2_with fail
  refine (n_new w).mono ?_
  rintro e w1 ⟨d, rfl, hd, _⟩
  have HD := Lib.hid hd
  clear hd
  go_wp2_with fail
  refine (u_open HD.out 5 rfl rfl (by omega) (by omega)).mono ?_
  rintro e w2 ⟨v, rfl, hv⟩
  have HV := Lib.hid hv
  clear hv
  go_wp2_with fail
  have hc := u_put tA w2 HV.out (by show 0 < 2000000; omega)
  rw [show openV newD 5 = ⟨newD, 5, [], []⟩ from rfl, putA0 HH.out HSZ.out] at hc
  refine hc.mono ?_
  rintro e w3 ⟨rfl, hv⟩
  have HV3 := Lib.hid hv
  clear hv hc
  go_wp2_with fail
  have hc := u_put tA w3 HV3.out (by show 1 < 2000000; omega)
  rw [putA1 HH.out HSZ.out] at hc
  refine hc.mono ?_
  rintro e w4 ⟨rfl, hv⟩
  have HV4 := Lib.hid hv
  clear hv hc
  go_wp2_with fail
  have hc := u_put tX w4 HV4.out (by show 1 < 2000000; omega)
  rw [putA2 HH.out HSZ.out] at hc
  refine hc.mono ?_
  rintro e w5 ⟨rfl, hv⟩
  have HV5 := Lib.hid hv
  clear hv hc
  go_wp2_with fail
  have hc := u_get h w5 HV5.out (by omega)
  rw [getA1 HH.out HSZ.out] at hc
  refine hc.mono ?_
  rintro e w6 ⟨rfl, hv⟩
  have HV6 := Lib.hid hv
  clear hv hc
  go_wp2_with fail
  refine (c_name h w6 (by omega)).mono ?_
  rintro e w7 ⟨rfl, hk⟩
  have HV7 := Lib.hid (HV6.out.kept hk)
  clear hk
  go_wp2_with fail
  have hc := u_flip (fileN h) w7 HV7.out 0 (by decide)
  rw [show (X1A h [97, 98, 99]).d = d1A h [97, 98, 99] from rfl, flipA] at hc
  refine hc.mono ?_
  rintro e w8 ⟨rfl, hv⟩
  have HV8 : Hid (VNew w w8 v d (X1A h [96, 98, 99])) := Lib.hid hv
  clear hv hc
  go_wp2_with fail
  have hc := u_has h w8 HV8.out (by omega)
  rw [hasA2 HH.out HSZ.out] at hc
  refine hc.mono ?_
  rintro e w9 ⟨rfl, hk⟩
  have HV9 := Lib.hid (HV8.out.kept hk)
  clear hk hc
  go_wp2_with fail
  have hc := u_get h w9 HV9.out (by omega)
  rw [getA2 HH.out HSZ.out] at hc
  refine hc.mono ?_
  rintro e w10 ⟨rfl, hv⟩
  have HV10 := Lib.hid hv
  clear hv hc
  go_wp2_with fail
  have hc := u_get h w10 HV10.out (by omega)
  rw [getA3] at hc
  refine hc.mono ?_
  rintro e w11 ⟨rfl, hv⟩
  have HV11 := Lib.hid hv
  clear hv hc
  go_wp2_with fail
  refine (HSUM.out _).mono ?_
  rintro e w12 ⟨rfl, hk⟩
  have HV12 := Lib.hid (HV11.out.kept (((Kp.refl No _).alloc _).trans' hk))
  clear hk
  go_wp2_with fail
  refine (u_steps w12 HV12.out).mono ?_
  rintro e w13 ⟨rfl, rfl⟩
  go_wp2_with fail
  go_ret
  exact ⟨rfl, HV12.out.kp⟩
end Go.Proofs.Ytflodiljgphkdaa
