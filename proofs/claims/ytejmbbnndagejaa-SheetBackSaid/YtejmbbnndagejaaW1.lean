/-
  The reference's reader: Num.
-/
import Derived.Test.YtejmbbnndagejaaRdL
import Derived.Test.YtejmbbnndagejaaBy
import Derived.Test.YtejmbbnndagejaaW32
namespace Go.Proofs.Ytejmbbnndagejaa
open Go.RowKit Go.ChangeShapes Go.WideShapes Go.ChangeAt

/-- the reference's reader at a block -/
def IsRr (w : World) (g : Nat) (S : ByteArray) (p : Nat) (bad : Bool) : Prop := Blk w g 81 [.string S, .int .i64 (p : Int), .bool bad]
/-- what its reading of a number hands back, and how it is behind it -/
def numRf (S : ByteArray) (p : Nat) (bad : Bool) : Int × Nat × Bool :=
  match bad, rdNum (S.data.toList.drop p) with
  | true, _ => (0, p, true)
  | false, none => (0, p, true)
  | false, some q => (q.1, S.size - q.2.length, false)

/-- what the reference's reading of a number leaves -/
def RrOut (g : Nat) (S : ByteArray) (p : Nat) (w : World) (R : Option (Int × List UInt8)) (e : Ending) (w' : World) : Prop :=
  Kp (· = g) w w' ∧ match R with
  | none => e = .returned (.int .i64 0) ∧ IsRr w' g S p true
  | some q => e = .returned (.int .i64 q.1) ∧ IsRr w' g S (S.size - q.2.length) false
theorem Blk.drewN {w : World} {g : Nat} {e : TypeId} {vs : List Value} (h : Blk w g e vs) (n : Nat) : Blk (w.drewN n) g e vs := h
set_option maxRecDepth 100000 in
theorem r_Num_bad (g : Nat) (S : ByteArray) (p : Nat) (w : World) (hg : IsRr w g S p true) :
    Calls Try.prog 58 #[.pointer (some ⟨g, 0, none⟩)] w fun e w' => e = .returned (.int .i64 0) ∧ Kp No w w' := by
  have g2 : w.cell? ⟨g, 2, none⟩ = some (.bool true) := Blk.cell hg rfl
  clear hg
  go_enter Try.func58, Try.ntmps58
  go_wp2_with fail
  go_ret
  exact ⟨rfl, Kp.refl _ _⟩

set_option maxRecDepth 100000 in
set_option maxHeartbeats 1000000 in
theorem r_Num (g : Nat) (S : ByteArray) (p : Nat) (R : Option (Int × List UInt8)) (hR : rdNum (S.data.toList.drop p) = R) (w : World) (hg : IsRr w g S p false) (hs : S.size ≤ 1073741824) (hps : p ≤ S.size) :
    Calls Try.prog 58 #[.pointer (some ⟨g, 0, none⟩)] w fun e w' => RrOut g S p w R e w' := by
  have H0 : Hid ((rdAt 0 0 (S.data.toList.drop p)).map (fun p => (unzz p.1, p.2)) = R) := Lib.hid hR
  have HG := Lib.hid hg
  have g0 : w.cell? ⟨g, 0, none⟩ = some (.string S) := Blk.cell hg rfl
  have g1 : w.cell? ⟨g, 1, none⟩ = some (.int .i64 (p : Int)) := Blk.cell hg rfl
  have g2 : w.cell? ⟨g, 2, none⟩ = some (.bool false) := Blk.cell hg rfl
  have f1 := Blk.fr hg 1
  have f2 := Blk.fr hg 2
  clear hR hg
  go_enter Try.func58, Try.ntmps58
  go_wp2_with fail
  obtain ⟨wo, hwo⟩ : ∃ wo : World, wo = w := ⟨_, rfl⟩
  go_loopw [3, 4, 5] (fun zv uv kv wr => ∃ (Z k d : Nat), zv = .int .u64 (Z : Int) ∧ uv = .int .u64 ((128 ^ k : Nat) : Int) ∧ kv = .int .i64 (k : Int) ∧ k ≤ 9 ∧ p + k ≤ S.size ∧ Z < 128 ^ k ∧ wr = w.drewN d ∧ Hid ((rdAt k Z (S.data.toList.drop (p + k))).map (fun p => (unzz p.1, p.2)) = R)) (fun _ _ kv _ => S.size - (intOf kv).toNat)
  case atStart => exact ⟨0, 0, 0, rfl, rfl, rfl, by omega, by omega, by decide, rfl, H0⟩
  case round =>
    clear H0 hwo
    obtain ⟨Z, k, d, rfl, rfl, rfl, hk9, hks, hZ, rfl, HR⟩ := hrel
    have hk10 : (k : Int) < 10 := by omega
    obtain ⟨ix, hix⟩ : ∃ ix, p + k = ix := ⟨_, rfl⟩
    rw [hix] at HR
    have hixi : IntKind.i64.wrap ((p : Int) + (k : Int)) = (ix : Int) := by rw [IntKind.wrap_i64]; omega
    by_cases hlt : ix < S.size
    · have hli : (ix : Int) < (S.size : Int) := by omega
      obtain ⟨N, hN⟩ : ∃ N, S[ix].toNat = N := ⟨_, rfl⟩
      have hN256 : N < 256 := by rw [← hN]; exact UInt8.toNat_lt _
      have hdrop : S.data.toList.drop ix = S[ix] :: S.data.toList.drop (ix + 1) := List.drop_eq_getElem_cons (by rw [data_length]; exact hlt)
      have HST : Hid (rdAt k Z (S.data.toList.drop ix) = if k = 9 ∧ 1 < N then none else if N < 128 then (if N = 0 ∧ 0 < k then none else some (Z + N % 128 * 128 ^ k, S.data.toList.drop (ix + 1))) else rdAt (k + 1) (Z + N % 128 * 128 ^ k) (S.data.toList.drop (ix + 1))) := Lib.hid (by rw [hdrop]; conv => lhs; unfold rdAt; rw [hN])
      clear hdrop
      obtain ⟨P, hP⟩ : ∃ P, 128 ^ k = P := ⟨_, rfl⟩
      rw [hP] at hZ HST
      have hPb : P ≤ 9223372036854775808 := by
        rw [← hP]
        have h1 : (128 : Nat) ^ k ≤ 128 ^ 9 := Nat.pow_le_pow_right (by omega) hk9
        have h2 : (128 : Nat) ^ 9 = 9223372036854775808 := by decide
        omega
      have hNw : IntKind.u64.wrap (N : Int) = (N : Int) := by simp [IntKind.wrap, IntKind.signed, IntKind.bits]; omega
      have hNP : N % 128 * P + P ≤ 18446744073709551616 ∨ (k = 9 ∧ 1 < N) := by
        by_cases hov : k = 9 ∧ 1 < N
        · exact .inr hov
        · left
          rcases Nat.lt_or_ge k 9 with h | h
          · have h1 : (128 : Nat) ^ (k + 1) ≤ 9223372036854775808 := pow128 (by omega)
            rw [Nat.pow_succ, hP] at h1
            have h2 : N % 128 + 1 ≤ 128 := by omega
            have h3 := Nat.mul_le_mul_right P h2
            rw [Nat.add_mul] at h3
            omega
          · have h2 : N % 128 ≤ 1 := by omega
            have h3 := Nat.mul_le_mul_right P h2
            omega
      have hgrow : Z + N % 128 * P < 128 ^ (k + 1) := by rw [← hP]; exact rd_grow (by rw [hP]; exact hZ)
      have hPn : 128 ^ (k + 1) = P * 128 := by rw [Nat.pow_succ, hP]
      obtain ⟨D, hD⟩ : ∃ D, N % 128 * P = D := ⟨_, rfl⟩
      have hDi : (N : Int) % 128 * (P : Int) = (D : Int) := by rw [← hD]; push_cast; rfl
      rw [hD] at hgrow hNP HST
      obtain ⟨Z2, hZ2⟩ : ∃ Z2, Z + D = Z2 := ⟨_, rfl⟩
      rw [hZ2] at hgrow HST
      have hZ2i : (Z : Int) + (D : Int) = (Z2 : Int) := by omega
      have HGR := Lib.hid hgrow
      have HPN := Lib.hid hPn
      have hpk : IntKind.i64.wrap ((p : Int) + (k : Int)) = (ix : Int) := hixi
      clear hgrow hPn
      go_wp2_with fail
      rw [hP]
      clear hP
      refine Reg.wp_region_plan [⟨0, false, []⟩, ⟨1, false, []⟩, ⟨2, false, []⟩, ⟨3, false, []⟩, ⟨4, false, []⟩, ⟨5, false, []⟩, ⟨6, false, []⟩, ⟨7, false, []⟩, ⟨8, false, []⟩, ⟨9, false, []⟩, ⟨10, false, []⟩, ⟨11, false, []⟩, ⟨12, false, []⟩, ⟨13, false, []⟩, ⟨14, false, []⟩, ⟨15, false, []⟩] rfl (by kernel_rfl) ?_
      repeat (first | (refine Reg.look rfl rfl rfl (by go_simp; rfl) rfl ?_; go_simp) | (refine Reg.skip rfl rfl rfl ?_; go_simp))
      (refine Reg.done ?_; simp only [Exit.then])
      go_wp2_with fail
      refine Reg.wp_region_plan [⟨0, false, []⟩, ⟨1, false, []⟩, ⟨2, false, []⟩, ⟨3, false, []⟩, ⟨4, false, []⟩, ⟨5, false, []⟩, ⟨6, false, []⟩, ⟨7, false, []⟩, ⟨8, false, []⟩, ⟨9, false, []⟩, ⟨10, false, []⟩, ⟨11, false, []⟩, ⟨12, false, []⟩] rfl (by kernel_rfl) ?_
      repeat (first | (refine Reg.look rfl rfl rfl (by go_simp; rfl) rfl ?_; go_simp) | (refine Reg.skip rfl rfl rfl ?_; go_simp))
      (refine Reg.done ?_; simp only [Exit.then])
      by_cases hov : k = 9 ∧ 1 < N
      · have HF : Hid (R = none) := Lib.hid (by rw [← HR.out, HST.out, if_pos hov]; rfl)
        obtain ⟨rfl, hN1⟩ := hov
        have hN1i : (1 : Int) < (N : Int) := by omega
        clear HST HR hNP hDi hD hZ2 hZ2i
        go_wp2_with fail
        go_ret
        rw [HF.out]
        exact ⟨(((Kp.refl (· = g) w).drewN _).setCell (p := ⟨g, 2, none⟩) (fun _ => rfl) _), rfl, Blk.set (Blk.drewN HG.out _) 2 (.bool true)⟩
      · replace hNP : D + P ≤ 18446744073709551616 := by rcases hNP with h | h; exact h; exact absurd h hov
        have hDw : IntKind.u64.wrap (D : Int) = (D : Int) := by simp [IntKind.wrap, IntKind.signed, IntKind.bits]; omega
        have hZ2l : Z2 < 18446744073709551616 := by omega
        have hZ2w : IntKind.u64.wrap (Z2 : Int) = (Z2 : Int) := by simp [IntKind.wrap, IntKind.signed, IntKind.bits]; omega
        by_cases hmore : N < 128
        · have hmi : (N : Int) < 128 := by omega
          by_cases hz : N = 0 ∧ 0 < k
          · have HF : Hid (R = none) := Lib.hid (by rw [← HR.out, HST.out, if_neg hov, if_pos hmore, if_pos hz]; rfl)
            have hz1 : ((N : Int) == 0) = true := by simp; omega
            have hz2 : (0 : Int) < (k : Int) := by omega
            have hn1 : ¬ (1 : Int) < (N : Int) := by omega
            clear HST HR hNP hov hz
            by_cases h9 : k = 9
            · have hk9i : ((k : Int) == 9) = true := by simp; omega
              clear h9
              go_wp2_with fail
              go_ret
              rw [HF.out]
              exact ⟨(((Kp.refl (· = g) w).drewN _).setCell (p := ⟨g, 2, none⟩) (fun _ => rfl) _), rfl, Blk.set (Blk.drewN HG.out _) 2 (.bool true)⟩
            · have hk9i : ((k : Int) == 9) = false := by simp; omega
              clear h9
              go_wp2_with fail
              go_ret
              rw [HF.out]
              exact ⟨(((Kp.refl (· = g) w).drewN _).setCell (p := ⟨g, 2, none⟩) (fun _ => rfl) _), rfl, Blk.set (Blk.drewN HG.out _) 2 (.bool true)⟩
          · have HF : Hid (R = some (unzz Z2, S.data.toList.drop (ix + 1))) := Lib.hid (by rw [← HR.out, HST.out, if_neg hov, if_pos hmore, if_neg hz]; rfl)
            have hst : IntKind.i64.wrap ((p : Int) + ((k : Int) + 1)) = ((ix + 1 : Nat) : Int) := by rw [IntKind.wrap_i64]; omega
            have hk1 : IntKind.i64.wrap ((k : Int) + 1) = (k : Int) + 1 := by rw [IntKind.wrap_i64]; omega
            have hlen : Hid (S.size - (S.data.toList.drop (ix + 1)).length = ix + 1) := Lib.hid (by rw [List.length_drop, data_length]; omega)
            have hcond : ((k : Int) == 9) = false ∨ ((k : Int) == 9) = true ∧ ¬ (1 : Int) < (N : Int) := by
              by_cases h9 : k = 9
              · right; exact ⟨by simp; omega, by omega⟩
              · left; simp; omega
            have hcond2 : ¬ (0 : Int) < (k : Int) ∨ (0 : Int) < (k : Int) ∧ ((N : Int) == 0) = false := by
              rcases Nat.eq_zero_or_pos k with h0 | h0
              · left; omega
              · right; exact ⟨by omega, by simp; omega⟩
            clear HST HR hNP hov hz
            rcases hcond2 with hc2 | ⟨hc2, hc3⟩
            · have hk9i : ((k : Int) == 9) = false := by simp; omega
              clear hcond
              by_cases ho : Z2 % 2 = 1
              · have ho1 : ((Z2 : Int) % 2 == 1) = true := by simp; omega
                go_wp2_with fail
                go_ret
                rw [HF.out]
                refine ⟨(((Kp.refl (· = g) w).drewN _).setCell (p := ⟨g, 1, none⟩) (fun _ => rfl) _), ?_, ?_⟩
                · show Ending.returned (.int .i64 _) = .returned (.int .i64 (unzz Z2))
                  unfold unzz
                  rw [if_pos ho]; rfl
                · rw [hlen.out]
                  exact Blk.set (Blk.drewN HG.out _) 1 (.int .i64 ((ix + 1 : Nat) : Int))
              · have ho1 : ((Z2 : Int) % 2 == 1) = false := by simp; omega
                go_wp2_with fail
                go_ret
                rw [HF.out]
                refine ⟨(((Kp.refl (· = g) w).drewN _).setCell (p := ⟨g, 1, none⟩) (fun _ => rfl) _), ?_, ?_⟩
                · show Ending.returned (.int .i64 _) = .returned (.int .i64 (unzz Z2))
                  unfold unzz
                  rw [if_neg ho]; rfl
                · rw [hlen.out]
                  exact Blk.set (Blk.drewN HG.out _) 1 (.int .i64 ((ix + 1 : Nat) : Int))
            · rcases hcond with hk9i | ⟨hk9i, hn1⟩
              · skip
                by_cases ho : Z2 % 2 = 1
                · have ho1 : ((Z2 : Int) % 2 == 1) = true := by simp; omega
                  go_wp2_with fail
                  go_ret
                  rw [HF.out]
                  refine ⟨(((Kp.refl (· = g) w).drewN _).setCell (p := ⟨g, 1, none⟩) (fun _ => rfl) _), ?_, ?_⟩
                  · show Ending.returned (.int .i64 _) = .returned (.int .i64 (unzz Z2))
                    unfold unzz
                    rw [if_pos ho]; rfl
                  · rw [hlen.out]
                    exact Blk.set (Blk.drewN HG.out _) 1 (.int .i64 ((ix + 1 : Nat) : Int))
                · have ho1 : ((Z2 : Int) % 2 == 1) = false := by simp; omega
                  go_wp2_with fail
                  go_ret
                  rw [HF.out]
                  refine ⟨(((Kp.refl (· = g) w).drewN _).setCell (p := ⟨g, 1, none⟩) (fun _ => rfl) _), ?_, ?_⟩
                  · show Ending.returned (.int .i64 _) = .returned (.int .i64 (unzz Z2))
                    unfold unzz
                    rw [if_neg ho]; rfl
                  · rw [hlen.out]
                    exact Blk.set (Blk.drewN HG.out _) 1 (.int .i64 ((ix + 1 : Nat) : Int))
              · skip
                by_cases ho : Z2 % 2 = 1
                · have ho1 : ((Z2 : Int) % 2 == 1) = true := by simp; omega
                  go_wp2_with fail
                  go_ret
                  rw [HF.out]
                  refine ⟨(((Kp.refl (· = g) w).drewN _).setCell (p := ⟨g, 1, none⟩) (fun _ => rfl) _), ?_, ?_⟩
                  · show Ending.returned (.int .i64 _) = .returned (.int .i64 (unzz Z2))
                    unfold unzz
                    rw [if_pos ho]; rfl
                  · rw [hlen.out]
                    exact Blk.set (Blk.drewN HG.out _) 1 (.int .i64 ((ix + 1 : Nat) : Int))
                · have ho1 : ((Z2 : Int) % 2 == 1) = false := by simp; omega
                  go_wp2_with fail
                  go_ret
                  rw [HF.out]
                  refine ⟨(((Kp.refl (· = g) w).drewN _).setCell (p := ⟨g, 1, none⟩) (fun _ => rfl) _), ?_, ?_⟩
                  · show Ending.returned (.int .i64 _) = .returned (.int .i64 (unzz Z2))
                    unfold unzz
                    rw [if_neg ho]; rfl
                  · rw [hlen.out]
                    exact Blk.set (Blk.drewN HG.out _) 1 (.int .i64 ((ix + 1 : Nat) : Int))
        · have HN : Hid ((rdAt (k + 1) Z2 (S.data.toList.drop (ix + 1))).map (fun p => (unzz p.1, p.2)) = R) := Lib.hid (by rw [← HR.out, HST.out, if_neg hov, if_neg hmore])
          have hk8 : k ≤ 8 := by omega
          have hk9i : ((k : Int) == 9) = false := by simp; omega
          have hmi : ¬ (N : Int) < 128 := by omega
          have hPl : P * 128 ≤ 9223372036854775808 := by rw [← HPN.out]; exact pow128 hk8
          have hPw : IntKind.u64.wrap ((P : Int) * 128) = ((P * 128 : Nat) : Int) := by simp [IntKind.wrap, IntKind.signed, IntKind.bits]; omega
          clear HST HR hNP hov
          go_wp2_with fail
          go_roundw
          case rel =>
            refine ⟨Z2, k + 1, d + 2, by go_num, by rw [HPN.out, Int.natCast_mul]; rfl, by go_num, by omega, by omega, HGR.out, rfl, ?_⟩
            · rw [show p + (k + 1) = ix + 1 by omega]; exact HN
          case measure => simp [intOf]; omega
    · have hli : ¬ (ix : Int) < (S.size : Int) := by omega
      have HF : Hid (R = none) := Lib.hid (by rw [← HR.out, show S.data.toList.drop ix = [] from List.drop_of_length_le (by rw [data_length]; omega)]; rfl)
      clear HR
      go_wp2_with fail
      refine Reg.wp_region_plan [⟨0, false, []⟩, ⟨1, false, []⟩, ⟨2, false, []⟩, ⟨3, false, []⟩, ⟨4, false, []⟩, ⟨5, false, []⟩, ⟨6, false, []⟩, ⟨7, false, []⟩, ⟨8, false, []⟩, ⟨9, false, []⟩, ⟨10, false, []⟩, ⟨11, false, []⟩, ⟨12, false, []⟩, ⟨13, false, []⟩, ⟨14, false, []⟩, ⟨15, false, []⟩] rfl (by kernel_rfl) ?_
      repeat (first | (refine Reg.look rfl rfl rfl (by go_simp; rfl) rfl ?_; go_simp) | (refine Reg.skip rfl rfl rfl ?_; go_simp))
      (refine Reg.done ?_; simp only [Exit.then])
      go_wp2_with fail
      go_ret
      rw [HF.out]
      exact ⟨(((Kp.refl (· = g) w).drewN _).setCell (p := ⟨g, 2, none⟩) (fun _ => rfl) _), rfl, Blk.set (Blk.drewN HG.out _) 2 (.bool true)⟩
end Go.Proofs.Ytejmbbnndagejaa
