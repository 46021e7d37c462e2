/-
  The reference's message: a text's bytes, padded.
-/
import Derived.Test.YtejmbbnndagejaaOwnM
import Derived.Test.YtejmbbnndagejaaBy
import Derived.Test.YtejmbbnndagejaaShaL
namespace Go.Proofs.Ytejmbbnndagejaa
open Go.RowKit Go.ChangeShapes Go.WideShapes Go.ChangeAt

def vlenR : Value → Nat | .slice _ n _ => n | _ => 0
theorem len8_takeR (n j : Nat) (h : j < 8) : (len8 n).take (j + 1) = (len8 n).take j ++ [UInt8.ofNat (n * 8 / 2 ^ (8 * (7 - j)))] := by
  have : j = 0 ∨ j = 1 ∨ j = 2 ∨ j = 3 ∨ j = 4 ∨ j = 5 ∨ j = 6 ∨ j = 7 := by omega
  rcases this with rfl | rfl | rfl | rfl | rfl | rfl | rfl | rfl <;> rfl


set_option maxRecDepth 100000 in
set_option maxHeartbeats 2000000 in
theorem r_message (s : ByteArray) (w : World) (hs : s.size ≤ 1048576) : Calls Try.prog 41 #[.string s] w fun e w' =>
    ∃ A c, e = .returned (.slice A (padded s.data.toList).length c) ∧ OwnM w' w.heap.size 5 (.slice A (padded s.data.toList).length c) (padded s.data.toList) ∧ Kp No w w' := by
  obtain ⟨c1, w1, hrun, hown, hk⟩ := ownM_text (P := Try.prog) w 51 9 5 bytely s (by omega) w.heap.size (Nat.le_refl _)
  obtain ⟨M, hM⟩ : ∃ M, s.data.toList = M := ⟨_, rfl⟩
  have hMl : M.length = s.size := by rw [← hM, data_length]
  rw [hM] at hown ⊢
  rw [← hMl] at hrun
  have HO := Lib.hid hown
  have HK := Lib.hid hk
  have HML := Lib.hid hMl
  have hMle : M.length ≤ 1048576 := by omega
  clear hown hk hM hMl
  go_enter Try.func41, Try.ntmps41
  go_wp2_with (at_builtin; refine wpList_appendM_bytes rfl _ (.tmp 7) (.tmp 8) 51 9 rfl w.heap.size 5 bytely (.slice (some ⟨w.heap.size, 0, none⟩) M.length c1) M rfl (HO.out.keptNo ((Kp.refl _ _).alloc _)) ⟨w1.heap.size, 0, none⟩ 1 [128] (by simp) rfl ?d0 ?d1 ?d2 ?_)
  case d0 =>
    intro j y hy
    have hj : j = 0 := by have := (List.getElem?_eq_some_iff.1 hy).1; simp at this; exact this
    subst hj
    have hy : byteOf 128 = y := by simpa using hy
    subst hy
    exact (Blk.new w1 [byteOf 128] 5).cell rfl
  case d1 => simp; omega
  case d2 => have := HK.out.size; simp; omega
  intro v3 w3 hown hgr
  obtain ⟨A3, c3, rfl, _⟩ := hown.shape
  have hkr : Kp (fun k => (Value.slice (some ⟨w.heap.size, 0, none⟩) M.length c1).ownBlock = some k) w1 w3 := ((Kp.refl _ _).alloc _).grown hgr (fun g hg _ => hg)
  have HO3 := Lib.hid hown
  have HK3 := Lib.hid (HK.out.trans hkr (fun i hi hv => absurd (HO.out.lt i hv).1 (by omega)))
  clear hown hgr hkr HO HK hrun
  have hlx : (M ++ [(128 : UInt8)]).length = M.length + 1 := by simp
  rw [hlx]
  clear hlx
  go_wp2_with fail
  obtain ⟨wo, hwo⟩ : ∃ wo : World, wo = w3 := ⟨_, rfl⟩
  go_loopw [3] (fun wv wr => ∃ j : Nat, j ≤ padN M.length ∧ OwnM wr w.heap.size 5 wv (M ++ [128] ++ List.replicate j 0) ∧ Kp No w wr) (fun wv _ => M.length + 1 + padN M.length - vlenR wv)
  case atStart => exact ⟨0, Nat.zero_le _, by simpa using HO3.out, HK3.out⟩
  case round =>
    obtain ⟨j, hj, hown, hkp⟩ := hrel
    obtain ⟨A4, c4, rfl, hc4⟩ := hown.shape
    obtain ⟨M4, hM4⟩ : ∃ M4, M ++ [128] ++ List.replicate j 0 = M4 := ⟨_, rfl⟩
    have hl4 : M4.length = M.length + 1 + j := by rw [← hM4]; simp; omega
    rw [hM4] at hown hc4
    rw [hM4]
    have hpad := padN_mod M.length
    have HO := Lib.hid hown
    have HK := Lib.hid hkp
    have HM4 := Lib.hid hM4
    have HL4 := Lib.hid hl4
    have hdle : M4.length ≤ 2097152 := by omega
    clear HO3 HK3 hwo
    by_cases h56 : M4.length % 64 = 56
    · have hjp : j = padN M.length := by omega
      have hd : (((M4.length : Int) % 64) != 56) = false := by simp; omega
      clear hown hkp hM4 hpad hl4
      subst hjp
      have e8 : IntKind.u64.wrap ((s.size : Int) * 8) = ((M.length * 8 : Nat) : Int) := by have := HML.out; simp [IntKind.wrap, IntKind.signed, IntKind.bits]; omega
      have e9 : IntKind.u64.wrap (s.size : Int) = (s.size : Int) := by simp [IntKind.wrap, IntKind.signed, IntKind.bits]; omega
      have HS6 : Hid (OwnM wr w.heap.size 5 (.slice A4 M4.length c4) (M4 ++ (len8 M.length).take 0)) := Lib.hid (by simpa using HO.out)
      go_wp2_with fail
      obtain ⟨wo, hwo⟩ : ∃ wo : World, wo = wr := ⟨_, rfl⟩
      go_loopw [3, 5] (fun wv iv wr => ∃ j : Nat, j ≤ 8 ∧ iv = .int .i64 (8 * (7 - (j : Int))) ∧ OwnM wr w.heap.size 5 wv (M4 ++ (len8 M.length).take j) ∧ Kp No w wr) (fun _ iv _ => ((intOf iv) + 8).toNat)
      case atStart => exact ⟨0, by omega, rfl, HS6.out, HK.out⟩
      case round =>
        clear HS6 HO HK hwo
        obtain ⟨j, hj8, rfl, hown, hkp⟩ := hrel
        obtain ⟨A6, c6, rfl, hc6⟩ := hown.shape
        by_cases hj : j < 8
        · have i2 : (0 : Int) ≤ 8 * (7 - (j : Int)) := by omega
          have i3 : IntKind.i64.wrap (8 * (7 - (j : Int)) - 8) = 8 * (7 - ((j + 1 : Nat) : Int)) := by rw [IntKind.wrap_i64]; omega
          obtain ⟨M6, hM6⟩ : ∃ M6, M4 ++ (len8 M.length).take j = M6 := ⟨_, rfl⟩
          rw [hM6] at hown hc6
          rw [hM6]
          have hl6 : M6.length = M4.length + j := by rw [← hM6, List.length_append, List.length_take]; simp [len8]; omega
          have hdle6 : M6.length ≤ 4194304 := by omega
          have HO6 := Lib.hid hown
          have HK6 := Lib.hid hkp
          have HM6 := Lib.hid hM6
          obtain ⟨X, hX⟩ : ∃ X, M.length * 8 / 2 ^ (8 * (7 - j)) = X := ⟨_, rfl⟩
          have HX := Lib.hid hX
          clear hown hkp hM6 hl6 hX
          have hbv : Value.int IntKind.u8 ((M.length : Int) * 8 / 2 ^ (8 * (7 - j)) % 256) = byteOf (UInt8.ofNat X) := by
            rw [byte_nat, ← HX.out]
            push_cast; rfl
          have HBV := Lib.hid hbv
          clear hbv
          go_wp2_with (at_builtin; rw [HBV.out]; refine wpList_appendM_bytes rfl _ (.tmp 25) (.tmp 30) 51 9 rfl w.heap.size 5 bytely (.slice A6 M6.length c6) M6 rfl (HO6.out.keptNo ((Kp.refl _ _).alloc _)) ⟨wr.heap.size, 0, none⟩ 1 [UInt8.ofNat X] (by simp) rfl ?d0 ?d1 ?d2 ?_)
          case d0 =>
            intro j y hy
            have hj : j = 0 := by have := (List.getElem?_eq_some_iff.1 hy).1; simp at this; exact this
            subst hj
            have hy : byteOf (UInt8.ofNat X) = y := by simpa using hy
            subst hy
            exact (Blk.new wr [byteOf (UInt8.ofNat X)] 5).cell rfl
          case d1 => simp; omega
          case d2 => have := HK6.out.size; simp; omega
          intro v7 w7 hown hgr
          obtain ⟨A7, c7, rfl, _⟩ := hown.shape
          have hkr : Kp (fun k => (Value.slice A6 M6.length c6).ownBlock = some k) wr w7 := ((Kp.refl _ _).alloc _).grown hgr (fun g hg _ => hg)
          have HS7 := Lib.hid hown
          have HK7 := Lib.hid (HK6.out.trans hkr (fun i hi hv => absurd (HO6.out.lt i hv).1 (by omega)))
          clear hown hgr hkr
          go_wp2_with fail
          go_roundw
          case rel =>
            refine ⟨j + 1, by omega, rfl, ?_, HK7.out⟩
            have e : M4 ++ (len8 M.length).take (j + 1) = M6 ++ [UInt8.ofNat X] := by rw [len8_takeR _ _ hj, HX.out, ← List.append_assoc, HM6.out]
            rw [e]
            exact HS7.out
          case measure => simp [intOf]; omega
        · obtain rfl : j = 8 := by omega
          have hpd : M4 ++ (len8 M.length).take 8 = padded M := by rw [← HM4.out]; rfl
          rw [hpd] at hown
          rw [hpd]
          have HO6 := Lib.hid hown
          have HK6 := Lib.hid hkp
          clear hown hkp hpd
          go_wp2_with fail
          go_ret
          exact ⟨A6, c6, rfl, HO6.out, HK6.out⟩
    · have hjp : j < padN M.length := by omega
      have hd : (((M4.length : Int) % 64) != 56) = true := by simp; omega
      clear hown hkp hM4 hpad hl4
      go_wp2_with (at_builtin; refine wpList_appendM_bytes rfl _ (.tmp 14) (.tmp 15) 51 9 rfl w.heap.size 5 bytely (.slice A4 M4.length c4) M4 rfl (HO.out.keptNo ((Kp.refl _ _).alloc _)) ⟨wr.heap.size, 0, none⟩ 1 [0] (by simp) rfl ?d0 ?d1 ?d2 ?_)
      case d0 =>
        intro j y hy
        have hj : j = 0 := by have := (List.getElem?_eq_some_iff.1 hy).1; simp at this; exact this
        subst hj
        have hy : byteOf 0 = y := by simpa using hy
        subst hy
        exact (Blk.new wr [byteOf 0] 5).cell rfl
      case d1 => simp; omega
      case d2 => have := HK.out.size; simp; omega
      intro v5 w5 hown hgr
      obtain ⟨A5, c5, rfl, _⟩ := hown.shape
      have hkr : Kp (fun k => (Value.slice A4 M4.length c4).ownBlock = some k) wr w5 := ((Kp.refl _ _).alloc _).grown hgr (fun g hg _ => hg)
      have HS5 := Lib.hid hown
      have HK5 := Lib.hid (HK.out.trans hkr (fun i hi hv => absurd (HO.out.lt i hv).1 (by omega)))
      clear hown hgr hkr
      go_wp2_with fail
      go_roundw
      case rel =>
        refine ⟨j + 1, by omega, ?_, HK5.out⟩
        have h := HS5.out
        rw [← HM4.out] at h
        have e : M ++ [128] ++ List.replicate (j + 1) 0 = M ++ [128] ++ List.replicate j 0 ++ [0] := by rw [List.replicate_succ', ← List.append_assoc]
        rw [e]
        rw [← HM4.out]
        exact h
      case measure => have := HL4.out; simp [vlenR]; omega
end Go.Proofs.Ytejmbbnndagejaa
