/-
  The reference's cube.
-/
import Derived.Test.YtejmbbnndagejaaR2
namespace Go.Proofs.Ytejmbbnndagejaa
open Go.RowKit Go.ChangeShapes Go.WideShapes Go.ChangeAt

theorem cubeR_step {p c r F : Nat} (h : cubeR p (c + 1) r = some F) : ∃ b, lessR ((r + 2 ^ c % 18446744073709551616) % 18446744073709551616) p = some b ∧ cubeR p c (if b then (r + 2 ^ c % 18446744073709551616) % 18446744073709551616 else r) = some F := by
  rw [cubeR] at h
  split at h
  · rename_i hb; exact ⟨true, hb, h⟩
  · rename_i hb; exact ⟨false, hb, h⟩
  · cases h

set_option maxRecDepth 100000 in
set_option maxHeartbeats 1000000 in
theorem r_cube (p F : Nat) (hF : cubeR p 35 0 = some F) (w : World) : Calls Try.prog 40 #[.int .u64 (p : Int)] w fun e w' => e = .returned (.int .u32 ((F % 4294967296 : Nat) : Int)) ∧ Kp No w w' := by
  have HF0 : Hid (cubeR p 35 0 = some F) := Lib.hid hF
  clear hF
  go_enter Try.func40, Try.ntmps40
  go_wp2_with fail
  go_loopw [3, 4] (fun rv bv wr => ∃ (r b : Nat), b ≤ 35 ∧ rv = .int .u64 (r : Int) ∧ bv = .int .i64 ((b : Int) - 1) ∧ Hid (cubeR p b r = some F) ∧ Kp No w wr) (fun _ bv _ => ((intOf bv) + 1).toNat)
  case atStart => exact ⟨0, 35, by omega, rfl, rfl, HF0, Kp.refl _ _⟩
  case round =>
    obtain ⟨r, b, hb, rfl, rfl, HF, hkp⟩ := hrel
    have HK := Lib.hid hkp
    clear HF0 hkp
    cases b with
    | succ c =>
      rw [show (((c + 1 : Nat) : Int) - 1) = (c : Int) by omega]
      have h0 : (0 : Int) ≤ (c : Int) := by omega
      have e0 : IntKind.i64.wrap ((c : Int) - 1) = (c : Int) - 1 := by rw [IntKind.wrap_i64]; omega
      obtain ⟨bb, hl, hc⟩ := cubeR_step HF.out
      obtain ⟨s, hs⟩ : ∃ s, 2 ^ c % 18446744073709551616 = s := ⟨_, rfl⟩
      obtain ⟨x, hx⟩ : ∃ x, (r + s) % 18446744073709551616 = x := ⟨_, rfl⟩
      rw [hs, hx] at hl hc
      have e1 : IntKind.u64.wrap (2 ^ c) = (s : Int) := by rw [← hs]; simp [IntKind.wrap, IntKind.signed, IntKind.bits]
      have e2 : IntKind.u64.wrap ((r : Int) + (s : Int)) = (x : Int) := by rw [wrap_add, hx]
      have hxl : x < 18446744073709551616 := by rw [← hx]; exact Nat.mod_lt _ (by omega)
      have HL := Lib.hid hl
      have HC := Lib.hid hc
      clear hl hc hs hx HF
      go_wp2_with fail
      refine (r_less x p bb hxl HL.out _).mono ?_
      rintro e w2 ⟨rfl, hk2⟩
      have HK2 := Lib.hid (HK.out.trans' hk2)
      clear hk2 HK
      cases bb with
      | true =>
        have HC2 : Hid (cubeR p c x = some F) := Lib.hid (by simpa using HC.out)
        go_wp2_with fail
        go_roundw
        case rel => exact ⟨x, c, by omega, rfl, by go_num, HC2, HK2.out⟩
        case measure => simp [intOf]
      | false =>
        have HC2 : Hid (cubeR p c r = some F) := Lib.hid (by simpa using HC.out)
        go_wp2_with fail
        go_roundw
        case rel => exact ⟨r, c, by omega, rfl, by go_num, HC2, HK2.out⟩
        case measure => simp [intOf]
    | zero =>
      have hr : r = F := by have := HF.out; simpa [cubeR] using this
      subst hr
      have e1 : IntKind.u32.wrap (r : Int) = ((r % 4294967296 : Nat) : Int) := by simp [IntKind.wrap, IntKind.signed, IntKind.bits]
      go_wp2_with fail
      go_ret
      exact ⟨rfl, HK.out⟩
end Go.Proofs.Ytejmbbnndagejaa
