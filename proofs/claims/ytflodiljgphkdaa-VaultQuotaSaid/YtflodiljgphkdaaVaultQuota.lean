/-
  However many chunks are put, the bytes that are kept are never above the quota; what is refused for it leaves all as it was: VaultQuota answers true for every input. No condition.
-/
import Derived.Test.YtflodiljgphkdaaAwk10
import Derived.Test.YtflodiljgphkdaaVltQ
import Derived.Test.YtflodiljgphkdaaGrt10
import Derived.Test.YtflodiljgphkdaaSame
import Derived.Test.YtflodiljgphkdaaFVaultQuota
namespace Go.Proofs.Ytflodiljgphkdaa
open Go.RowKit Go.ChangeShapes Go.WideShapes Go.ChangeAt

theorem Calm.len {X : VV} (h : Calm X) {Q : Int} (hq : bytesV X ≤ Q) : (X.kept.length : Int) ≤ Q := by
  have := sumV_length h.ok.each
  rw [h.bytes] at hq
  omega
set_option maxRecDepth 100000 in
set_option maxHeartbeats 4000000 in
theorem vaultQuota_walk : VaultQuotaWalk := by
  intro W v0 n v1 l h0 h1
  obtain ⟨hv0, hwf⟩ := h0
  obtain ⟨A, c, hv1, hlc, hcm, _⟩ := id h1
  simp only [List.cons.injEq, and_true] at hv0 hv1
  subst hv0 hv1
  have hn := wf64 hwf
  have hll : (l.length : Int) ≤ 9223372036854775807 := by unfold maxLen at hcm; omega
  have HL := Lib.hid h1
  clear hwf h1 hlc hcm
  obtain ⟨Q, hQ, hQl⟩ : ∃ Q : Nat, wrap64 ((IntKind.u64.wrap n).tmod 400) = (Q : Int) ∧ Q < 400 := by
    have h0 : 0 ≤ IntKind.u64.wrap n := by simp [IntKind.wrap, IntKind.bits, IntKind.signed]; omega
    refine ⟨((IntKind.u64.wrap n) % 400).toNat, ?_, by omega⟩
    rw [Int.tmod_eq_emod_of_nonneg h0]
    unfold wrap64
    omega
  have HQQ := Lib.hid hQ
  clear hQ hn
  go_enter Try.func10, Try.ntmps10
  go_wp2_with fail
  refine (awake10 W).mono ?_
  rintro e w1 ⟨rfl, hk1⟩
  have HK := Lib.hid hk1
  clear hk1
  go_wp2_with fail
  obtain ⟨w2, hw2⟩ : ∃ w2, w1.alloc (.cells #[.int .i64 0, .string ⟨#[]⟩, .slice A l.length c, .string ⟨#[]⟩, .int .i64 0, .slice none 0 0] 59) = w2 := ⟨_, rfl⟩
  have hb2 : Blk w2 w1.heap.size 59 [.int .i64 0, .string ⟨#[]⟩, .slice A l.length c, .string ⟨#[]⟩, .int .i64 0, .slice none 0 0] := by rw [← hw2]; exact Blk.new w1 _ _
  have hk2 : Kp No W w2 := by rw [← hw2]; exact HK.out.alloc _
  have HK2 := Lib.hid hk2
  have HB2 := Lib.hid hb2
  have hgr := h_great10 w2 w1.heap.size l A c _ HB2.out (Rp.str.slice.keptNo HL.out HK2.out)
  have HGR := Lib.hid hgr
  clear hb2 hk2 hgr
  rw [hw2]
  refine HGR.out.mono ?_
  rintro e w3 ⟨⟨B, rfl⟩, hk3⟩
  have HK3 := Lib.hid (HK2.out.trans' hk3)
  clear hk3 hw2
  cases B with
  | true =>
    go_wp2_with fail
    refine (awake10 _).mono ?_
    rintro e wz ⟨rfl, hkz⟩
    have HKZ := Lib.hid (HK3.out.trans' hkz)
    clear hkz
    go_wp2_with fail
    go_ret
    exact ⟨rfl, HKZ.out⟩
  | false =>
    go_wp2_with fail
    refine (n_new w3).mono ?_
    rintro e w4 ⟨d, rfl, hd, _⟩
    have HD := Lib.hid (show DNew W w4 d newD by obtain ⟨F, g1, g2, g3⟩ := hd; exact ⟨F, g1, HK3.out.trans' g2, fun k hk => Nat.le_trans HK3.out.size (g3 k hk)⟩)
    clear hd
    go_wp2_with fail
    rw [HQQ.out]
    refine (u_open HD.out (Q : Int) rfl rfl (by omega) (by omega)).mono ?_
    rintro e w5 ⟨v, rfl, hv⟩
    have HV := Lib.hid hv
    have HC0 : Hid (Calm (openV newD Q)) := Lib.hid ⟨hv.ok, rfl, rfl, fun _ _ => rfl, (fun _ _ h => by cases h), (fun p hp => by cases hp)⟩
    clear hv
    go_wp2_with fail
    go_loopw [34] (fun iv wr => ∃ (i : Nat) (X : VV), i ≤ l.length ∧ iv = .int .i64 (i : Int) ∧ VNew W wr v d X ∧ Calm X ∧ X.quota = (Q : Int) ∧ bytesV X ≤ (Q : Int)) (fun iv _ => l.length - (intOf iv).toNat)
    case atStart => exact ⟨0, openV newD Q, Nat.zero_le _, rfl, HV.out, HC0.out, rfl, by show (0 : Int) ≤ _; omega⟩
    case round =>
      obtain ⟨i, X, hi, rfl, hv, hcx, hqx, hnx⟩ := hrel
      have HV := Lib.hid hv
      have HCX := Lib.hid hcx
      have HQX := Lib.hid hqx
      have HNX := Lib.hid hnx
      have hkl : X.kept.length < 1000000 := by have := hcx.len hnx; omega
      have HKL := Lib.hid hkl
      clear hv hcx hqx hnx hkl
      by_cases hlt : i < l.length
      · have hli : (i : Int) < (l.length : Int) := by omega
        obtain ⟨s, hs⟩ : ∃ s, l[i]? = some s := ⟨_, List.getElem?_eq_getElem hlt⟩
        obtain ⟨ad, rfl, _, hcell, _⟩ := Rp.at_str (Rp.str.slice.keptNo HL.out HV.out.kp) hs
        clear hs
        go_wp2_with fail
        obtain ⟨F, hvf, hkw, hge⟩ := HV.out
        have HVF := Lib.hid hvf
        have HKW := Lib.hid hkw
        have HGE := Lib.hid hge
        have HFL := Lib.hid hvf.lt
        clear hvf hkw hge
        refine (u_list wr HV.out (fun p hp => by rw [HCX.out.keys p hp]; omega)).mono ?_
        rintro e w6 ⟨A6, c6, rfl, hown, hk6⟩
        have HV6 := Lib.hid (HV.out.kept hk6)
        have HK6 := Lib.hid hk6
        have HM6 := Lib.hid hown.readFrom
        clear hown hk6
        go_wp2_with fail
        refine (u_bytes w6 HV6.out).mono ?_
        rintro e w7 ⟨rfl, hk7⟩
        have HV7 := Lib.hid (HV6.out.kept hk7)
        have HM7 := Lib.hid (Rp.str.slice.keptNo HM6.out hk7)
        have HK7 := Lib.hid (HK6.out.trans' hk7)
        clear hk7
        go_wp2_with fail
        have hc := v_put v d X F s w7 (HVF.out.keptNo HK7.out) HKL.out
        obtain ⟨N, hN⟩ : ∃ N, bytesV X = N := ⟨_, rfl⟩
        have hNQ : N ≤ (Q : Int) := by rw [← hN]; exact HNX.out
        have hN0 : 0 ≤ N := by rw [← hN]; exact (bytesV_le HCX.out.ok).1
        have HN := Lib.hid hN
        rw [hN]
        rcases put_cases HCX.out s with hp | ⟨_, _, _, hp⟩ | ⟨hs1, hs2, hq, hp⟩ | ⟨hs1, hs2, hkn, hq, hp⟩
        · rw [hp] at hc
          refine hc.mono ?_
          rintro e w8 ⟨rfl, F8, hv8, hu8⟩
          have HV8 : Hid (VNew W w8 v d X) := Lib.hid (VNew.step ⟨F, HVF.out.keptNo HK7.out, HKW.out.trans' HK7.out, HGE.out, F8, hv8, hu8⟩)
          clear hc hv8 hp hu8
          go_wp2_with fail
          have hby := u_bytes w8 HV8.out
          rw [HN.out] at hby
          refine hby.mono ?_
          rintro e w9 ⟨rfl, hkb⟩
          have HV9 := Lib.hid (HV8.out.kept hkb)
          clear hby hkb
          go_wp2_with fail
          go_roundw
          case rel => exact ⟨i + 1, X, by omega, by go_num, HV9.out, HCX.out, HQX.out, HNX.out⟩
          case measure => simp [intOf]; omega
        · rw [hp] at hc
          refine hc.mono ?_
          rintro e w8 ⟨rfl, F8, hv8, hu8⟩
          have HV8 : Hid (VNew W w8 v d X) := Lib.hid (VNew.step ⟨F, HVF.out.keptNo HK7.out, HKW.out.trans' HK7.out, HGE.out, F8, hv8, hu8⟩)
          clear hc hv8 hp hu8
          go_wp2_with fail
          have hby := u_bytes w8 HV8.out
          rw [HN.out] at hby
          refine hby.mono ?_
          rintro e w9 ⟨rfl, hkb⟩
          have HV9 := Lib.hid (HV8.out.kept hkb)
          clear hby hkb
          go_wp2_with fail
          have hby := u_bytes w9 HV9.out
          rw [HN.out] at hby
          refine hby.mono ?_
          rintro e w10 ⟨rfl, hkb⟩
          have HV10 := Lib.hid (HV9.out.kept hkb)
          clear hby hkb
          go_wp2_with fail
          go_roundw
          case rel => exact ⟨i + 1, X, by omega, by go_num, HV10.out, HCX.out, HQX.out, HNX.out⟩
          case measure => simp [intOf]; omega
        · rw [hp] at hc
          have hwr : IntKind.i64.wrap (N + (s.size : Int)) = N + (s.size : Int) := wrap_i64 (by omega) (by omega)
          have hqi : (Q : Int) < N + (s.size : Int) := by rw [hN, HQX.out] at hq; exact hq
          refine hc.mono ?_
          rintro e w8 ⟨rfl, F8, hv8, hu8⟩
          have HV8 : Hid (VNew W w8 v d X) := Lib.hid (VNew.step ⟨F, HVF.out.keptNo HK7.out, HKW.out.trans' HK7.out, HGE.out, F8, hv8, hu8⟩)
          have HM8 := Lib.hid (Rp.str.slice.kept HM7.out hu8.1 (fun k hk _ hf => by
            have h1 := HFL.out k hf
            rcases hk with h | h
            · exact h
            · omega))
          clear hc hv8 hp hq hu8
          go_wp2_with fail
          refine (u_list w8 HV8.out (fun p hp => by rw [HCX.out.keys p hp]; omega)).mono ?_
          rintro e w9 ⟨A9, c9, rfl, hown, hk9⟩
          have HV9 := Lib.hid (HV8.out.kept hk9)
          have HM9 := Lib.hid (Rp.str.slice.keptNo HM8.out hk9)
          have HN9 := Lib.hid hown.readFrom
          clear hown hk9
          go_wp2_with fail
          have hsm := r_same _ _ A9 A6 c9 c6 w9 _ _ HN9.out HM9.out
          rw [decide_eq_true rfl] at hsm
          refine hsm.mono ?_
          rintro e w10 ⟨rfl, qq, rfl⟩
          have hkq : Kp No w9 (w9.drewN qq) := (Kp.refl _ _).drewN qq
          have HV10 := Lib.hid (HV9.out.kept hkq)
          obtain ⟨w10, hw10⟩ : ∃ w10, w9.drewN qq = w10 := ⟨_, rfl⟩
          rw [hw10] at HV10
          rw [hw10]
          clear hsm hkq hw10
          go_wp2_with fail
          have hby := u_bytes w10 HV10.out
          rw [HN.out] at hby
          refine hby.mono ?_
          rintro e w11 ⟨rfl, hkb⟩
          have HV11 := Lib.hid (HV10.out.kept hkb)
          clear hby hkb
          go_wp2_with fail
          have hby := u_bytes w11 HV11.out
          rw [HN.out] at hby
          refine hby.mono ?_
          rintro e w12 ⟨rfl, hkb⟩
          have HV12 := Lib.hid (HV11.out.kept hkb)
          clear hby hkb
          go_wp2_with fail
          go_roundw
          case rel => exact ⟨i + 1, X, by omega, by go_num, HV12.out, HCX.out, HQX.out, HNX.out⟩
          case measure => simp [intOf]; omega
        · rw [hp] at hc
          have hmn : mget (digest s) X.kept = none := by
            unfold keepsV at hkn
            cases hm : mget (digest s) X.kept with
            | none => rfl
            | some k => rw [hm] at hkn; cases hkn
          have HCY := Lib.hid (HCX.out.added (c := s) (by omega) hs2 HKL.out)
          have hbY : bytesV { X with d := addD s X.d, kept := ins (digest s) s.size X.kept } = N + (s.size : Int) := by
            rw [HCY.out.bytes, ← hN, HCX.out.bytes]
            exact sumV_ins hmn
          have HQY : Hid (({ X with d := addD s X.d, kept := ins (digest s) s.size X.kept } : VV).quota = (Q : Int)) := Lib.hid HQX.out
          obtain ⟨Y, hY⟩ : ∃ Y, ({ X with d := addD s X.d, kept := ins (digest s) s.size X.kept } : VV) = Y := ⟨_, rfl⟩
          rw [hY] at hc HCY hbY HQY
          obtain ⟨M, hM⟩ : ∃ M, N + (s.size : Int) = M := ⟨_, rfl⟩
          have hMQ : M ≤ (Q : Int) := by rw [hN, HQX.out] at hq; omega
          have hwr : IntKind.i64.wrap (N + (s.size : Int)) = M := by rw [← hM]; exact wrap_i64 (by omega) (by omega)
          rw [hM] at hbY
          have hb1 : (M != N) = true := by simp; omega
          have HBY := Lib.hid hbY
          refine hc.mono ?_
          rintro e w8 ⟨rfl, F8, hv8, hu8⟩
          have HV8 : Hid (VNew W w8 v d Y) := Lib.hid (VNew.step ⟨F, HVF.out.keptNo HK7.out, HKW.out.trans' HK7.out, HGE.out, F8, hv8, hu8⟩)
          clear hc hv8 hp hq hu8 hmn hkn hY hbY hM
          go_wp2_with fail
          have hby := u_bytes w8 HV8.out
          rw [HBY.out] at hby
          refine hby.mono ?_
          rintro e w9 ⟨rfl, hkb⟩
          have HV9 := Lib.hid (HV8.out.kept hkb)
          clear hby hkb
          go_wp2_with fail
          have hby := u_bytes w9 HV9.out
          rw [HBY.out] at hby
          refine hby.mono ?_
          rintro e w10 ⟨rfl, hkb⟩
          have HV10 := Lib.hid (HV9.out.kept hkb)
          clear hby hkb
          go_wp2_with fail
          have hby := u_bytes w10 HV10.out
          rw [HBY.out] at hby
          refine hby.mono ?_
          rintro e w11 ⟨rfl, hkb⟩
          have HV11 := Lib.hid (HV10.out.kept hkb)
          clear hby hkb
          go_wp2_with fail
          go_roundw
          case rel => exact ⟨i + 1, Y, by omega, by go_num, HV11.out, HCY.out, HQY.out, by rw [HBY.out]; exact hMQ⟩
          case measure => simp [intOf]; omega
      · obtain rfl : i = l.length := by omega
        go_wp2_with fail
        go_ret
        exact ⟨rfl, HV.out.kp⟩
theorem vaultQuota_holds : Rows.VaultQuotaSaid := vaultQuota_of vaultQuota_walk
#print axioms vaultQuota_holds
end Go.Proofs.Ytflodiljgphkdaa
