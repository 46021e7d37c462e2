/-
  Digits: the reference's Name and Hash.
-/
import Derived.Test.YtflodiljgphkdaaGreatS5
namespace Go.Proofs.YtflodiljgphkdaaGreat
open Go.RowKit Go.ChangeShapes Go.WideShapes Go.ChangeAt

theorem dig_at (x : Nat) (h : x < 16) (w : World) : (Instr.index 9 (.string ⟨#[48, 49, 50, 51, 52, 53, 54, 55, 56, 57, 97, 98, 99, 100, 101, 102]⟩) (.int .u8 (x : Int))).run Tryz.prog w = .ok (.int .u8 ((hexd x).toNat : Int)) w := by
  rcases (by omega : x = 0 ∨ x = 1 ∨ x = 2 ∨ x = 3 ∨ x = 4 ∨ x = 5 ∨ x = 6 ∨ x = 7 ∨ x = 8 ∨ x = 9 ∨ x = 10 ∨ x = 11 ∨ x = 12 ∨ x = 13 ∨ x = 14 ∨ x = 15) with rfl | rfl | rfl | rfl | rfl | rfl | rfl | rfl | rfl | rfl | rfl | rfl | rfl | rfl | rfl | rfl <;> kernel_rfl

set_option maxRecDepth 100000 in
set_option maxHeartbeats 1000000 in
theorem r_name (s : ByteArray) (w : World) (hs : s.size ≤ 1048576) : Calls Tryz.prog 50 #[.string s] w fun e w' => e = .returned (.string (bs (nameL s.data.toList))) ∧ Kp No w w' := by
  go_enter Tryz.func50, Tryz.ntmps50
  go_wp2_with fail
  go_loopw [4, 5] (fun ov iv wr => ∃ k : Nat, k ≤ s.size ∧ iv = .int .i64 k ∧ Own Rp.byte wr No w.heap.size 5 ov (nameL (s.data.toList.take k)) ∧ Kp No w wr) (fun _ iv _ => s.size - (intOf iv).toNat)
  case atStart => exact ⟨0, Nat.zero_le _, rfl, Own.lit (heap_alloc_new w _) (Nat.le_refl _), (Kp.refl _ _).alloc _⟩
  case round =>
    obtain ⟨k, hk, rfl, hown, hkp⟩ := hrel
    obtain ⟨Av, cv, rfl⟩ := hown.shape
    have hll : (nameL (s.data.toList.take k)).length = 2 * k := by rw [nameL_length, List.length_take, data_length, Nat.min_eq_left hk]
    have HO := Lib.hid hown
    have HK := Lib.hid hkp
    clear hown hkp
    by_cases hlt : k < s.size
    · obtain ⟨N, hN⟩ : ∃ N, s[k].toNat = N := ⟨_, rfl⟩
      have hN256 : N < 256 := by rw [← hN]; exact UInt8.toNat_lt _
      have hstep : nameL (s.data.toList.take (k + 1)) = nameL (s.data.toList.take k) ++ [hexd (N / 16), hexd (N % 16)] := by
        rw [List.take_succ_eq_append_getElem (by rw [data_length]; exact hlt), nameL_append, ← hN]; rfl
      have hi1 := dig_at (N / 16) (by omega)
      have hi2 := dig_at (N % 16) (by omega)
      rw [show ((N / 16 : Nat) : Int) = (s[k].toNat : Int) / 16 by rw [hN]; omega] at hi1
      rw [show ((N % 16 : Nat) : Int) = (s[k].toNat : Int) % 16 by rw [hN]; omega] at hi2
      have ht1 : ((s[k].toNat : Int)).tdiv 16 = (s[k].toNat : Int) / 16 := Int.tdiv_eq_ediv_of_nonneg (by omega)
      have ht2 : ((s[k].toNat : Int)).tmod 16 = (s[k].toNat : Int) % 16 := Int.tmod_eq_emod_of_nonneg (by omega)
      have hw1 : IntKind.u8.wrap ((s[k].toNat : Int) / 16) = (s[k].toNat : Int) / 16 := by simp [IntKind.wrap, IntKind.signed, IntKind.bits]; omega
      have hw2 : IntKind.u8.wrap ((s[k].toNat : Int) % 16) = (s[k].toNat : Int) % 16 := by simp [IntKind.wrap, IntKind.signed, IntKind.bits]; omega
      have HST := Lib.hid hstep
      have HLL := Lib.hid hll
      clear hN hstep hll
      generalize hexd (N / 16) = x at *
      generalize hexd (N % 16) = y at *
      obtain ⟨L, hL⟩ : ∃ L, nameL (s.data.toList.take k) = L := ⟨_, rfl⟩
      rw [hL] at HO HLL HST
      rw [hL]
      have hLl : L.length ≤ 2097152 := by have := HLL.out; omega
      clear hL hN256
      go_wp2_with fail
      refine Reg.wp_region_plan [⟨0, false, []⟩, ⟨1, false, []⟩, ⟨2, false, []⟩, ⟨3, false, []⟩, ⟨4, false, []⟩, ⟨5, false, []⟩, ⟨6, false, []⟩, ⟨7, false, []⟩, ⟨8, false, []⟩, ⟨9, false, []⟩, ⟨10, false, []⟩, ⟨11, false, []⟩, ⟨12, false, []⟩, ⟨13, true, []⟩, ⟨14, true, []⟩, ⟨15, false, []⟩] rfl (by kernel_rfl) ?_
      repeat (first | (refine Reg.look rfl rfl rfl (by go_simp; rfl) rfl ?_; go_simp) | (refine Reg.skip rfl rfl rfl ?_; go_simp))
      refine Reg.act rfl ?_
      go_wp2
      (refine ⟨?anew, ?_⟩; case anew => ((repeat (refine Reg.anew_cons rfl rfl (fun _ => by go_simp) ?_)); exact Reg.anew_nil))
      refine Reg.act rfl ?_
      refine wpList_append_lit Rp.byte_by rfl _ (.tmp 13) (.tmp 26) 88 rfl w.heap.size 5 1 bytely.elem (.slice Av L.length cv) L rfl No ?d0 wr.heap.size [x, y] rfl _ _ _ (heap_alloc_new wr _) rfl ?d2 ?d3 ?d4 ?d5 ?d6 ?_
      case d0 => exact (HO.out.alloc _).drew
      case d2 => exact fun _ _ => trivial
      case d3 => simp [maxLen]; omega
      case d4 => simp; omega
      case d5 => have := HK.out.size; simp; omega
      case d6 => intro h; have := (HO.out.lt _ h).2; omega
      intro A3 c3 w3 hown hkr
      have HO3 := Lib.hid hown
      have HK3 := Lib.hid (((HK.out.alloc _).drew).trans hkr (fun i hi hv => absurd (HO.out.lt i hv).1 (by omega)))
      clear hown hkr
      go_wp2
      (refine ⟨?anew, ?_⟩; case anew => ((repeat (refine Reg.anew_cons rfl rfl (fun _ => by go_simp) ?_)); exact Reg.anew_nil))
      repeat (first | (refine Reg.look rfl rfl rfl (by go_simp; rfl) rfl ?_; go_simp) | (refine Reg.skip rfl rfl rfl ?_; go_simp))
      (refine Reg.done ?_; simp only [Exit.then])
      go_wp2
      go_roundw
      case rel =>
        refine ⟨k + 1, by omega, by go_num, ?_, HK3.out⟩
        rw [HST.out]
        have h := HO3.out
        rw [show (L ++ [x, y]).length = L.length + 2 by simp] at h
        exact h
      case measure => simp [intOf]; omega
    · obtain rfl : k = s.size := by omega
      have ht := run_text (P := Tryz.prog) wr 88 9 5 bytely HO.out
      have hfull : s.data.toList.take s.size = s.data.toList := List.take_of_length_le (by rw [data_length]; exact Nat.le_refl _)
      rw [hfull] at ht hll
      rw [hll] at ht
      rw [hfull, hll]
      clear hll
      go_wp2_with fail
      go_ret
      exact ⟨rfl, HK.out⟩



set_option maxRecDepth 100000 in
set_option maxHeartbeats 1000000 in
theorem r_hash (s : ByteArray) (w : World) (hs : s.size ≤ 1048576) : Calls Tryz.prog 33 #[.string s] w fun e w' => e = .returned (hashV s) ∧ Kp No w w' := by
  go_enter Tryz.func33, Tryz.ntmps33
  go_wp2_with fail
  go_loopw [4, 5] (fun ov iv wr => ∃ (k m : Nat) (D : List UInt8), iv = .int .i64 (m : Int) ∧ m ≤ s.size ∧ Hid (m = 2 * k ∧ HashAt s.data.toList D k) ∧ D.length ≤ m ∧ Own Rp.byte wr No w.heap.size 5 ov D ∧ Kp No w wr) (fun _ iv _ => s.size - (intOf iv).toNat)
  case atStart => exact ⟨0, 0, [], rfl, Nat.zero_le _, Lib.hid ⟨rfl, HashAt.start _⟩, Nat.le_refl _, Own.lit (heap_alloc_new w _) (Nat.le_refl _), (Kp.refl _ _).alloc _⟩
  case round =>
    obtain ⟨k, m, D, rfl, hm, HH, hDm, hown, hkp⟩ := hrel
    obtain ⟨Av2, cv2, rfl⟩ := hown.shape
    have HO := Lib.hid hown
    have HK := Lib.hid hkp
    clear hown hkp
    have e0 : IntKind.i64.wrap ((m : Int) + 1) = (m : Int) + 1 := by rw [IntKind.wrap_i64]; omega
    by_cases hlt1 : m + 1 < s.size
    · have HT0 : Hid (Two s.data.toList m 0 0) := Lib.hid rfl
      have hlt1i : (m : Int) + 1 < (s.size : Int) := by omega
      go_wp2_with fail
      obtain ⟨wo, hwo⟩ : ∃ wo : World, wo = wr := ⟨_, rfl⟩
      go_loopw [6, 7] (fun nv kv wr' => ∃ j n q : Nat, j ≤ 2 ∧ nv = .int .i64 (n : Int) ∧ kv = .int .i64 (q : Int) ∧ Hid (q = m + j) ∧ n ≤ 255 ∧ (j < 2 → n < 16) ∧ Two s.data.toList m j n ∧ wr' = wr) (fun _ kv _ => m + 2 - (intOf kv).toNat)
      case atStart => exact ⟨0, 0, m, by omega, rfl, rfl, Lib.hid rfl, by omega, by omega, HT0.out, rfl⟩
      case round =>
        obtain ⟨j, n, q, hj, rfl, rfl, HQ, hn, hn16, ht, rfl⟩ := hrel
        have HT := Lib.hid ht
        clear ht hwo HT0
        have e5 : IntKind.i64.wrap ((m : Int) + 2) = (m : Int) + 2 := by rw [IntKind.wrap_i64]; omega
        by_cases hj2 : j < 2
        · have hmj : q < s.size := by have := HQ.out; omega
          have hq2 : q < m + 2 := by have := HQ.out; omega
          have hc256 : s[q].toNat < 256 := UInt8.toNat_lt _
          have hn16 : n < 16 := hn16 hj2
          have HGC : Hid ((s.data.toList.getD q 0).toNat = s[q].toNat) := Lib.hid (by rw [getD_at _ _ hmj])
          by_cases h1 : 48 ≤ s[q].toNat
          · by_cases h2 : s[q].toNat ≤ 57
            · skip
              have hvc : hval s[q].toNat = some (s[q].toNat - 48) := by unfold hval; split <;> first | rfl | omega | (split <;> first | rfl | omega)
              have hst := HT.out.step hj2 (d := s[q].toNat - 48) (by rw [← HQ.out, HGC.out]; exact hvc)
              have HST := Lib.hid hst
              have e1 : IntKind.i64.wrap ((n : Int) * 16) = (n : Int) * 16 := by rw [IntKind.wrap_i64]; omega
              have e2 : IntKind.i64.wrap ((n : Int) * 16 + (s[q].toNat : Int)) = (n : Int) * 16 + (s[q].toNat : Int) := by rw [IntKind.wrap_i64]; omega
              have e3 : IntKind.i64.wrap ((n : Int) * 16 + (s[q].toNat : Int) - 48) = (n : Int) * 16 + (s[q].toNat : Int) - 48 := by rw [IntKind.wrap_i64]; omega
              have e4 : IntKind.i64.wrap ((q : Int) + 1) = (q : Int) + 1 := by rw [IntKind.wrap_i64]; omega
              clear hvc hst
              go_wp2_with fail
              go_roundw
              case rel => exact ⟨j + 1, n * 16 + (s[q].toNat - 48), q + 1, by omega, by congr 1; omega, by go_num, Lib.hid (by have := HQ.out; omega), by omega, (fun hj' => by have := HT.out.small hj'; omega), HST.out, by trivial⟩
              case measure => simp [intOf]; omega
            · by_cases h3 : 97 ≤ s[q].toNat
              · by_cases h4 : s[q].toNat ≤ 102
                · skip
                  have hvc : hval s[q].toNat = some (s[q].toNat - 87) := by unfold hval; split <;> first | rfl | omega | (split <;> first | rfl | omega)
                  have hst := HT.out.step hj2 (d := s[q].toNat - 87) (by rw [← HQ.out, HGC.out]; exact hvc)
                  have HST := Lib.hid hst
                  have e1 : IntKind.i64.wrap ((n : Int) * 16) = (n : Int) * 16 := by rw [IntKind.wrap_i64]; omega
                  have e2 : IntKind.i64.wrap ((n : Int) * 16 + (s[q].toNat : Int)) = (n : Int) * 16 + (s[q].toNat : Int) := by rw [IntKind.wrap_i64]; omega
                  have e3 : IntKind.i64.wrap ((n : Int) * 16 + (s[q].toNat : Int) - 87) = (n : Int) * 16 + (s[q].toNat : Int) - 87 := by rw [IntKind.wrap_i64]; omega
                  have e4 : IntKind.i64.wrap ((q : Int) + 1) = (q : Int) + 1 := by rw [IntKind.wrap_i64]; omega
                  clear hvc hst
                  go_wp2_with fail
                  go_roundw
                  case rel => exact ⟨j + 1, n * 16 + (s[q].toNat - 87), q + 1, by omega, by congr 1; omega, by go_num, Lib.hid (by have := HQ.out; omega), by omega, (fun hj' => by have := HT.out.small hj'; omega), HST.out, by trivial⟩
                  case measure => simp [intOf]; omega
                · skip
                  have hvc : hval s[q].toNat = none := by unfold hval; rw [if_neg (by omega), if_neg (by omega)]
                  have hv : hashV s = .tuple #[.string ByteArray.empty, .bool false] := by unfold hashV; rw [Two.bad HH.out.2 (by rw [data_length, ← HH.out.1]; exact hlt1) hj2 (by rw [← HH.out.1, ← HQ.out, HGC.out]; exact hvc)]
                  have HV := Lib.hid hv
                  clear hvc hv
                  go_wp2_with fail
                  go_ret2
                  exact ⟨congrArg Ending.returned HV.out.symm, HK.out⟩
              · skip
                have hvc : hval s[q].toNat = none := by unfold hval; rw [if_neg (by omega), if_neg (by omega)]
                have hv : hashV s = .tuple #[.string ByteArray.empty, .bool false] := by unfold hashV; rw [Two.bad HH.out.2 (by rw [data_length, ← HH.out.1]; exact hlt1) hj2 (by rw [← HH.out.1, ← HQ.out, HGC.out]; exact hvc)]
                have HV := Lib.hid hv
                clear hvc hv
                go_wp2_with fail
                go_ret2
                exact ⟨congrArg Ending.returned HV.out.symm, HK.out⟩
          · have h3 : ¬ 97 ≤ s[q].toNat := by omega
            have hvc : hval s[q].toNat = none := by unfold hval; rw [if_neg (by omega), if_neg (by omega)]
            have hv : hashV s = .tuple #[.string ByteArray.empty, .bool false] := by unfold hashV; rw [Two.bad HH.out.2 (by rw [data_length, ← HH.out.1]; exact hlt1) hj2 (by rw [← HH.out.1, ← HQ.out, HGC.out]; exact hvc)]
            have HV := Lib.hid hv
            clear hvc hv
            go_wp2_with fail
            go_ret2
            exact ⟨congrArg Ending.returned HV.out.symm, HK.out⟩
        · obtain rfl : j = 2 := by omega
          have hq2 : ¬ q < m + 2 := by have := HQ.out; omega
          have hlast := Two.last (by rw [← HH.out.1]; exact HT.out) HH.out.2 (by rw [data_length, ← HH.out.1]; exact hlt1)
          obtain ⟨z, hz⟩ : ∃ z, UInt8.ofNat n = z := ⟨_, rfl⟩
          have hzn : byteOf z = .int .u8 (n : Int) := by rw [← hz, byte_nat, Nat.mod_eq_of_lt (by omega)]
          have hnn : (n : Int) % 256 = (n : Int) := by omega
          rw [hz] at hlast
          have HL := Lib.hid hlast
          have HZ := Lib.hid hzn.symm
          have e6 : IntKind.i64.wrap ((m : Int) + 2) = (m : Int) + 2 := by rw [IntKind.wrap_i64]; omega
          have e7 : IntKind.u8.wrap (n : Int) = (n : Int) := by simp [IntKind.wrap, IntKind.signed, IntKind.bits]; omega
          clear hlast hz hzn
          go_wp2_with (at_builtin; refine wpList_append_lit Rp.byte_by rfl _ (.tmp 50) (.tmp 53) 88 rfl w.heap.size 5 1 bytely.elem (.slice Av2 D.length cv2) D rfl No ?d0 wr.heap.size [z] rfl _ _ _ (heap_alloc_new _ _) ?d1 ?d2 ?d3 ?d4 ?d5 ?d6 ?_)
          case d0 => exact HO.out.alloc _
          case d1 => exact HZ.out
          case d2 => exact fun _ _ => trivial
          case d3 => simp [maxLen]; omega
          case d4 => simp; omega
          case d5 => have := HK.out.size; simp; omega
          case d6 => intro h; have := (HO.out.lt _ h).2; omega
          intro A3 c3 w3 hown hkr
          have HO3 := Lib.hid hown
          have HK3 := Lib.hid ((HK.out.alloc _).trans hkr (fun i hi hv => absurd (HO.out.lt i hv).1 (by omega)))
          clear hown hkr
          go_wp2_with fail
          go_roundw
          case rel => exact ⟨k + 1, m + 2, D ++ [z], by go_num, by omega, Lib.hid ⟨by have := HH.out.1; omega, HL.out⟩, by simp; omega, HO3.out, HK3.out⟩
          case measure => simp [intOf]; omega
    · by_cases hodd : s.size % 2 = 1
      · have hv : hashV s = .tuple #[.string ByteArray.empty, .bool false] := by unfold hashV; rw [unhex_odd _ (by rw [data_length]; exact hodd)]
        have hd : (((s.size : Int) % 2) != 0) = true := by rw [bne_iff_ne]; omega
        have hd2 : (((s.size : Int).tmod 2) != 0) = true := by rw [Int.tmod_eq_emod_of_nonneg (by omega)]; exact hd
        have HV := Lib.hid hv
        clear hv hodd
        go_wp2_with fail
        go_ret2
        exact ⟨congrArg Ending.returned HV.out.symm, HK.out⟩
      · have hnl : ¬ m < s.size := by have := HH.out.1; omega
        have hv : hashV s = .tuple #[.string (bs D), .bool true] := by unfold hashV; rw [HH.out.2.stop (by rw [data_length, ← HH.out.1]; exact hnl)]
        have hd : (((s.size : Int) % 2) != 0) = false := by rw [bne_eq_false_iff_eq]; omega
        have hd2 : (((s.size : Int).tmod 2) != 0) = false := by rw [Int.tmod_eq_emod_of_nonneg (by omega)]; exact hd
        have HV := Lib.hid hv
        have ht := run_text (P := Tryz.prog) wr 88 9 5 bytely HO.out
        clear hv hodd
        go_wp2_with fail
        go_ret2
        exact ⟨congrArg Ending.returned HV.out.symm, HK.out⟩
end Go.Proofs.YtflodiljgphkdaaGreat
