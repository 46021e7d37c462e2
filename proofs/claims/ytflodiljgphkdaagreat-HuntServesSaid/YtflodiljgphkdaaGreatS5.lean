/-
  Digits: Name and half.
-/
import Derived.Test.YtflodiljgphkdaaGreatM1
import Derived.Test.YtflodiljgphkdaaGreatNamL
namespace Go.Proofs.YtflodiljgphkdaaGreat
open Go.RowKit Go.ChangeShapes Go.WideShapes Go.ChangeAt

theorem and15 (N : Nat) (h : N < 256) : bits .and .u8 (N : Int) 15 = ((N % 16 : Nat) : Int) := by
  have : ∀ N : Fin 256, bits .and .u8 (N.val : Int) 15 = ((N.val % 16 : Nat) : Int) := by decide +kernel
  exact this ⟨N, h⟩


set_option maxRecDepth 100000 in
set_option maxHeartbeats 1000000 in
theorem c_name (s : ByteArray) (w : World) (hs : s.size ≤ 1048576) : Calls Tryz.prog 72 #[.string s] w fun e w' => e = .returned (.string (bs (nameL s.data.toList))) ∧ Kp No w w' := by
  obtain ⟨n, hn⟩ : ∃ n, 2 * s.size = n := ⟨_, rfl⟩
  have e1 : IntKind.i64.wrap (2 * (s.size : Int)) = (n : Int) := by rw [IntKind.wrap_i64]; omega
  have e2 : wrap64 (2 * (s.size : Int)) = (n : Int) := by unfold wrap64; omega
  obtain ⟨w2, hrun, hown, hk⟩ := own_make Rp.byte (P := Tryz.prog) w No w.heap.size 88 5 bytely.elem .i64 .i64 n (by omega) (by simp [maxLen]; omega) (Nat.le_refl _)
  have HO := Lib.hid hown
  have HK := Lib.hid hk
  clear hown hk hn
  go_enter Tryz.func72, Tryz.ntmps72
  go_wp2_with fail
  clear hrun e1 e2
  go_loopw [3, 13] (fun ov iv wr => ∃ k : Nat, k ≤ s.size ∧ iv = .int .i64 k ∧ Own Rp.byte wr No w.heap.size 5 ov (nameL (s.data.toList.take k)) ∧ Kp No w wr) (fun _ iv _ => s.size - (intOf iv).toNat)
  case atStart => exact ⟨0, Nat.zero_le _, rfl, HO.out, HK.out⟩
  case round =>
    obtain ⟨k, hk, rfl, hown, hkp⟩ := hrel
    obtain ⟨Av, cv, rfl⟩ := hown.shape
    have hll : (nameL (s.data.toList.take k)).length = 2 * k := by rw [nameL_length, List.length_take, data_length, Nat.min_eq_left hk]
    rw [hll]
    have HO := Lib.hid hown
    have HK := Lib.hid hkp
    have HLL := Lib.hid hll
    clear hown hkp hll
    by_cases hlt : k < s.size
    · go_wp2_with fail
      refine Reg.wp_region_plan [⟨0, false, []⟩, ⟨1, false, []⟩, ⟨2, false, []⟩, ⟨3, false, []⟩, ⟨4, false, []⟩, ⟨5, false, []⟩, ⟨6, false, []⟩, ⟨7, false, []⟩, ⟨8, false, []⟩, ⟨9, false, []⟩] rfl (by kernel_rfl) ?_
      repeat (first | (refine Reg.look rfl rfl rfl (by go_simp; rfl) rfl ?_; go_simp) | (refine Reg.skip rfl rfl rfl ?_; go_simp))
      (refine Reg.done ?_; simp only [Exit.then])
      obtain ⟨N, hN⟩ : ∃ N, s[k].toNat = N := ⟨_, rfl⟩
      have hN256 : N < 256 := by rw [← hN]; exact UInt8.toNat_lt _
      have hstep : nameL (s.data.toList.take (k + 1)) = nameL (s.data.toList.take k) ++ [hexd (N / 16), hexd (N % 16)] := by
        rw [List.take_succ_eq_append_getElem (by rw [data_length]; exact hlt), nameL_append, ← hN]; rfl
      rw [hN, and15 N hN256, show (N : Int) / 16 = ((N / 16 : Nat) : Int) by omega]
      have HST := Lib.hid hstep
      clear hN hstep
      obtain ⟨L, hL⟩ : ∃ L, nameL (s.data.toList.take k) = L := ⟨_, rfl⟩
      rw [hL] at HO HLL HST
      clear hL
      have hLl := HLL.out
      have h1 : N / 16 < 16 := by omega
      have h2 : N % 16 < 16 := by omega
      generalize N / 16 = x at *
      generalize N % 16 = y at *
      clear hN256
      have hdr : wr.drew = wr.drew := rfl
      have HO2 := Lib.hid (HO.out.drew)
      have HK2 := Lib.hid (HK.out.drew)
      clear HO HK hdr
      generalize wr.drew = wr at *
      rw [← hLl]
      go_wp2_with fail
      go_loopw [3, 25] (fun ov iv wr => ∃ j : Nat, j ≤ 2 ∧ iv = .int .i64 j ∧ Own Rp.byte wr No w.heap.size 5 ov (L ++ [hexd x, hexd y].take j) ∧ Kp No w wr) (fun _ iv _ => 2 - (intOf iv).toNat)
      case atStart => exact ⟨0, by omega, rfl, by simpa using HO2.out, HK2.out⟩
      case round =>
        clear HO2 HK2
        obtain ⟨j, hj, rfl, hown, hkp⟩ := hrel
        obtain ⟨Av2, cv2, rfl⟩ := hown.shape
        have HO := Lib.hid hown
        have HK := Lib.hid hkp
        clear hown hkp
        by_cases hj2 : j < 2
        · have hd : ∃ d : Nat, d < 16 ∧ (Instr.index 129 (.agg #[.int .u8 (x : Int), .int .u8 (y : Int)]) (.int .i64 (j : Int))).run Tryz.prog wr = .ok (.int .u8 (d : Int)) wr ∧ [hexd x, hexd y].take (j + 1) = [hexd x, hexd y].take j ++ [hexd d] := by
            rcases (by omega : j = 0 ∨ j = 1) with rfl | rfl
            · exact ⟨x, h1, by kernel_rfl, rfl⟩
            · exact ⟨y, h2, by kernel_rfl, rfl⟩
          obtain ⟨d, hd16, hidx, htk⟩ := hd
          obtain ⟨D, hD⟩ : ∃ D, L ++ [hexd x, hexd y].take j = D := ⟨_, rfl⟩
          have hDl : D.length ≤ 2097154 := by rw [← hD, List.length_append, List.length_take]; omega
          have HTK : Hid (L ++ [hexd x, hexd y].take (j + 1) = D ++ [hexd d]) := Lib.hid (by rw [htk, ← List.append_assoc, hD])
          rw [hD] at HO
          rw [hD]
          clear hD htk
          by_cases h10 : d < 10
          · have hv : Value.int .u8 (48 + (d : Int)) = byteOf (hexd d) := by unfold byteOf; rw [hexd_nat d hd16, if_pos h10]; rfl
            have HV := Lib.hid hv
            clear hv
            go_wp2_with (at_builtin; refine wpList_append_lit Rp.byte_by rfl _ (.tmp 30) (.tmp 33) 88 rfl w.heap.size 5 1 bytely.elem (.slice Av2 D.length cv2) D rfl No ?d0 wr.heap.size [hexd d] rfl _ _ _ (heap_alloc_new _ _) ?d1 ?d2 ?d3 ?d4 ?d5 ?d6 ?_)
            case d0 => exact HO.out.alloc _
            case d1 => rw [HV.out]
            case d2 => exact fun _ _ => trivial
            case d3 => simp [maxLen]; omega
            case d4 => simp; omega
            case d5 => have := HK.out.size; simp; omega
            case d6 => intro h; have := (HO.out.lt _ h).2; omega
            intro A3 c3 w3 hown hkr
            have HO3 := Lib.hid hown
            have HK3 := Lib.hid ((HK.out.alloc _).trans hkr (fun i hi hv => absurd (HO.out.lt i hv).1 (by omega)))
            clear hown hkr
            go_wp2_with fail
            go_roundw
            case rel => exact ⟨j + 1, by omega, by go_num, by rw [HTK.out]; exact HO3.out, HK3.out⟩
            case measure => simp [intOf]; omega
          · have hv : Value.int .u8 (97 + (d : Int) - 10) = byteOf (hexd d) := by unfold byteOf; rw [hexd_nat d hd16, if_neg h10]; congr 1; omega
            have HV := Lib.hid hv
            clear hv
            go_wp2_with (at_builtin; refine wpList_append_lit Rp.byte_by rfl _ (.tmp 35) (.tmp 39) 88 rfl w.heap.size 5 1 bytely.elem (.slice Av2 D.length cv2) D rfl No ?d0 wr.heap.size [hexd d] rfl _ _ _ (heap_alloc_new _ _) ?d1 ?d2 ?d3 ?d4 ?d5 ?d6 ?_)
            case d0 => exact HO.out.alloc _
            case d1 => rw [HV.out]
            case d2 => exact fun _ _ => trivial
            case d3 => simp [maxLen]; omega
            case d4 => simp; omega
            case d5 => have := HK.out.size; simp; omega
            case d6 => intro h; have := (HO.out.lt _ h).2; omega
            intro A3 c3 w3 hown hkr
            have HO3 := Lib.hid hown
            have HK3 := Lib.hid ((HK.out.alloc _).trans hkr (fun i hi hv => absurd (HO.out.lt i hv).1 (by omega)))
            clear hown hkr
            go_wp2_with fail
            go_roundw
            case rel => exact ⟨j + 1, by omega, by go_num, by rw [HTK.out]; exact HO3.out, HK3.out⟩
            case measure => simp [intOf]; omega
        · obtain rfl : j = 2 := by omega
          go_wp2_with fail
          go_roundw
          case rel =>
            refine ⟨k + 1, by omega, by go_num, ?_, HK.out⟩
            rw [HST.out]; exact HO.out
          case measure => simp [intOf]; omega
    · obtain rfl : k = s.size := by omega
      have ht := run_text (P := Tryz.prog) wr 88 9 5 bytely HO.out
      rw [HLL.out] at ht
      have hfull : s.data.toList.take s.size = s.data.toList := List.take_of_length_le (by rw [data_length]; exact Nat.le_refl _)
      rw [hfull] at ht
      go_wp2_with fail
      go_ret
      exact ⟨rfl, HK.out⟩

theorem c_half (c : Nat) (hc : c < 256) (w : World) : Calls Tryz.prog 60 #[.int .u8 (c : Int)] w fun e w' => e = .returned (.tuple #[.int .u8 (((hval c).getD 0 : Nat) : Int), .bool (hval c).isSome]) ∧ w = w' := by
  by_cases h1 : 48 ≤ c ∧ c ≤ 57
  · have e1 : hval c = some (c - 48) := by unfold hval; rw [if_pos h1]
    have e2 : (((c - 48 : Nat)) : Int) = (c : Int) - 48 := by omega
    rw [e1]
    obtain ⟨h1, h2⟩ := h1
    simp only [Option.getD_some, Option.isSome_some, e2]
    clear e1 e2
    go_enter Tryz.func60, Tryz.ntmps60
    go_wp2
    go_ret2
    exact ⟨rfl, rfl⟩
  · by_cases h2 : 97 ≤ c ∧ c ≤ 102
    · have e1 : hval c = some (c - 87) := by unfold hval; rw [if_neg h1, if_pos h2]
      have e2 : (((c - 87 : Nat)) : Int) = (c : Int) - 97 + 10 := by omega
      rw [e1]
      obtain ⟨h2, h3⟩ := h2
      have h4 : ¬ c ≤ 57 := by omega
      simp only [Option.getD_some, Option.isSome_some, e2]
      clear e1 e2 h1
      go_enter Tryz.func60, Tryz.ntmps60
      go_wp2
      go_ret2
      exact ⟨rfl, rfl⟩
    · have e1 : hval c = none := by unfold hval; rw [if_neg h1, if_neg h2]
      rw [e1]
      simp only [Option.getD_none, Option.isSome_none]
      clear e1
      by_cases h3 : 48 ≤ c
      · have h4 : ¬ c ≤ 57 := by omega
        by_cases h5 : 97 ≤ c
        · have h6 : ¬ c ≤ 102 := by omega
          clear h1 h2
          go_enter Tryz.func60, Tryz.ntmps60
          go_wp2
          go_ret2
          exact ⟨rfl, rfl⟩
        · clear h1 h2
          go_enter Tryz.func60, Tryz.ntmps60
          go_wp2
          go_ret2
          exact ⟨rfl, rfl⟩
      · have h5 : ¬ 97 ≤ c := by omega
        clear h1 h2
        go_enter Tryz.func60, Tryz.ntmps60
        go_wp2
        go_ret2
        exact ⟨rfl, rfl⟩

theorem or16 (a b : Nat) (ha : a < 16) (hb : b < 16) : bits .or .u8 ((a : Int) * 16) (b : Int) = ((a * 16 + b : Nat) : Int) := by
  have : ∀ a b : Fin 16, bits .or .u8 ((a.val : Int) * 16) (b.val : Int) = ((a.val * 16 + b.val : Nat) : Int) := by decide +kernel
  exact this ⟨a, ha⟩ ⟨b, hb⟩
/-- What Hash answers. -/
def hashV (s : ByteArray) : Value := match unhex s.data.toList with
  | some b => .tuple #[.string (bs b), .bool true]
  | none => .tuple #[.string ByteArray.empty, .bool false]
theorem getD_at (s : ByteArray) (m : Nat) (h : m < s.size) : (s.data.toList.getD m 0) = s[m] := by
  rw [List.getD_eq_getElem?_getD, List.getElem?_eq_getElem (by rw [data_length]; exact h)]; rfl

set_option maxRecDepth 100000 in
set_option maxHeartbeats 1000000 in
theorem c_hash (s : ByteArray) (w : World) (hs : s.size ≤ 1048576) : Calls Tryz.prog 28 #[.string s] w fun e w' => e = .returned (hashV s) ∧ Kp No w w' := by
  by_cases hodd : s.size % 2 = 1
  · have hv : hashV s = .tuple #[.string ByteArray.empty, .bool false] := by unfold hashV; rw [unhex_odd _ (by rw [data_length]; exact hodd)]
    rw [hv]
    have hd : (((s.size : Int) % 2) != 0) = true := by rw [bne_iff_ne]; omega
    have hd2 : (((s.size : Int).tmod 2) != 0) = true := by rw [Int.tmod_eq_emod_of_nonneg (by omega)]; exact hd
    clear hv hodd
    go_enter Tryz.func28, Tryz.ntmps28
    go_wp2
    go_ret2
    exact ⟨rfl, Kp.refl _ _⟩
  · have hd : (((s.size : Int) % 2) != 0) = false := by rw [bne_eq_false_iff_eq]; omega
    have hd2 : (((s.size : Int).tmod 2) != 0) = false := by rw [Int.tmod_eq_emod_of_nonneg (by omega)]; exact hd
    have HEV := Lib.hid hodd
    clear hodd
    go_enter Tryz.func28, Tryz.ntmps28
    go_wp2_with fail
    go_loopw [4, 5] (fun ov iv wr => ∃ (k m : Nat) (D : List UInt8), iv = .int .i64 (m : Int) ∧ m ≤ s.size ∧ Hid (m = 2 * k ∧ HashAt s.data.toList D k) ∧ D.length ≤ m ∧ Own Rp.byte wr No w.heap.size 5 ov D ∧ Kp No w wr) (fun _ iv _ => s.size - (intOf iv).toNat)
    case atStart => exact ⟨0, 0, [], rfl, Nat.zero_le _, Lib.hid ⟨rfl, HashAt.start _⟩, Nat.le_refl _, Own.nil Rp.byte w No w.heap.size _, Kp.refl _ _⟩
    case round =>
      obtain ⟨k, m, D, rfl, hm, HH, hDm, hown, hkp⟩ := hrel
      obtain ⟨Av2, cv2, rfl⟩ := hown.shape
      have HO := Lib.hid hown
      have HK := Lib.hid hkp
      clear hown hkp hd hd2
      by_cases hlt : m < s.size
      · have hlt1 : m + 1 < s.size := by have := HH.out.1; have := HEV.out; omega
        obtain ⟨x, hx⟩ : ∃ x, s[m].toNat = x := ⟨_, rfl⟩
        obtain ⟨y, hy⟩ : ∃ y, s[m + 1].toNat = y := ⟨_, rfl⟩
        have hx256 : x < 256 := by rw [← hx]; exact UInt8.toNat_lt _
        have hy256 : y < 256 := by rw [← hy]; exact UInt8.toNat_lt _
        have HX := Lib.hid hx
        have HY := Lib.hid hy
        clear hx hy
        have e1 : IntKind.i64.wrap ((m : Int) + 1) = ((m + 1 : Nat) : Int) := by rw [IntKind.wrap_i64]; omega
        have e2 : wrap64 ((m : Int) + 1) = ((m + 1 : Nat) : Int) := by unfold wrap64; omega
        go_wp2_with fail
        rw [HX.out]
        refine (c_half x hx256 _).mono ?_
        rintro e w1 ⟨rfl, rfl⟩
        go_wp2_with fail
        rw [HY.out]
        refine (c_half y hy256 _).mono ?_
        rintro e w1 ⟨rfl, rfl⟩
        have HGX : Hid ((s.data.toList.getD (2 * k) 0).toNat = x ∧ (s.data.toList.getD (2 * k + 1) 0).toNat = y) := Lib.hid (by rw [← HH.out.1, getD_at _ _ hlt, getD_at _ _ hlt1]; exact ⟨HX.out, HY.out⟩)
        clear HX HY
        cases hvx : hval x with
        | none =>
          have hv : hashV s = .tuple #[.string ByteArray.empty, .bool false] := by unfold hashV; rw [HH.out.2.bad (by rw [data_length, ← HH.out.1]; exact hlt1) (.inl (by rw [HGX.out.1]; exact hvx))]
          have HV := Lib.hid hv
          simp only [Option.getD_none, Option.isSome_none]
          clear hvx hv
          go_wp2_with fail
          go_ret2
          exact ⟨congrArg Ending.returned HV.out.symm, HK.out⟩
        | some a =>
          cases hvy : hval y with
          | none =>
            have hv : hashV s = .tuple #[.string ByteArray.empty, .bool false] := by unfold hashV; rw [HH.out.2.bad (by rw [data_length, ← HH.out.1]; exact hlt1) (.inr (by rw [HGX.out.2]; exact hvy))]
            have HV := Lib.hid hv
            simp only [Option.getD_none, Option.isSome_none, Option.getD_some, Option.isSome_some]
            clear hvx hvy hv
            go_wp2_with fail
            go_ret2
            exact ⟨congrArg Ending.returned HV.out.symm, HK.out⟩
          | some b =>
            have hst := HH.out.2.step (by rw [data_length, ← HH.out.1]; exact hlt1) (by rw [HGX.out.1]; exact hvx) (by rw [HGX.out.2]; exact hvy)
            have ha : a < 16 := by unfold hval at hvx; split at hvx <;> first | (injection hvx with hvx; omega) | (split at hvx <;> first | (injection hvx with hvx; omega) | cases hvx)
            have hb : b < 16 := by unfold hval at hvy; split at hvy <;> first | (injection hvy with hvy; omega) | (split at hvy <;> first | (injection hvy with hvy; omega) | cases hvy)
            have HST := Lib.hid hst
            simp only [Option.getD_some, Option.isSome_some]
            have ho := or16 a b ha hb
            have e3 : IntKind.u8.wrap ((a : Int) * 16) = (a : Int) * 16 := by simp [IntKind.wrap, IntKind.signed, IntKind.bits]; omega
            have hv : Value.int .u8 ((a : Int) * 16 + (b : Int)) = byteOf (UInt8.ofNat (a * 16 + b)) := byte_of (x := ((a * 16 + b : Nat) : Int)) (by omega) (by omega)
            obtain ⟨z, hz⟩ : ∃ z, UInt8.ofNat (a * 16 + b) = z := ⟨_, rfl⟩
            rw [hz] at hv HST
            have HV := Lib.hid hv
            clear hvx hvy hst e1 e2 hv hz
            go_wp2_with (at_builtin; refine wpList_append_lit Rp.byte_by rfl _ (.tmp 41) (.tmp 46) 88 rfl w.heap.size 5 1 bytely.elem (.slice Av2 D.length cv2) D rfl No ?d0 wr.heap.size [z] rfl _ _ _ (heap_alloc_new _ _) ?d1 ?d2 ?d3 ?d4 ?d5 ?d6 ?_)
            case d0 => exact HO.out.alloc _
            case d1 => exact HV.out
            case d2 => exact fun _ _ => trivial
            case d3 => simp [maxLen]; omega
            case d4 => simp; omega
            case d5 => have := HK.out.size; simp; omega
            case d6 => intro h; have := (HO.out.lt _ h).2; omega
            intro A3 c3 w3 hown hkr
            have HO3 := Lib.hid hown
            have HK3 := Lib.hid ((HK.out.alloc _).trans hkr (fun i hi hv => absurd (HO.out.lt i hv).1 (by omega)))
            clear hown hkr
            go_wp2_with fail
            go_roundw
            case rel => exact ⟨k + 1, m + 2, D ++ [z], by go_num, by omega, Lib.hid ⟨by have := HH.out.1; omega, HST.out⟩, by simp; omega, HO3.out, HK3.out⟩
            case measure => simp [intOf]; omega
      · have hv : hashV s = .tuple #[.string (bs D), .bool true] := by unfold hashV; rw [HH.out.2.stop (by rw [data_length, ← HH.out.1]; exact hlt)]
        have HV := Lib.hid hv
        have ht := run_text (P := Tryz.prog) wr 88 9 5 bytely HO.out
        clear hv
        go_wp2_with fail
        go_ret2
        exact ⟨congrArg Ending.returned HV.out.symm, HK.out⟩
end Go.Proofs.YtflodiljgphkdaaGreat
