/-
  The reference's prime, square.
-/
import Derived.Test.YtejmbbnndagejaaPrmL
import Derived.Test.YtejmbbnndagejaaS1
namespace Go.Proofs.Ytejmbbnndagejaa
open Go.RowKit Go.ChangeShapes Go.WideShapes Go.ChangeAt


theorem wrap_wr (x : Int) : IntKind.u64.wrap x = wq x := by simp [IntKind.wrap, IntKind.signed, IntKind.bits, wq]
set_option maxRecDepth 100000 in
set_option maxHeartbeats 1000000 in
theorem r_square (p : Nat) (w : World) : Calls Try.prog 38 #[.int .u64 (p : Int)] w fun e w' => e = .returned (.int .u32 (sqGo p 36 0 % 4294967296)) ∧ w' = w := by
  have hw : ∀ x, IntKind.u64.wrap x = wq x := wrap_wr
  obtain ⟨F, hF⟩ : ∃ F, sqGo p 36 0 = F := ⟨_, rfl⟩
  have HF0 : Hid (sqGo p 36 0 = F) := Lib.hid hF
  rw [hF]
  clear hF
  go_enter Try.func38, Try.ntmps38
  go_wp2_with fail
  go_loopw [3, 4] (fun rv bv w' => ∃ (r : Int) (b : Nat), b ≤ 36 ∧ rv = .int .u64 r ∧ bv = .int .i64 ((b : Int) - 1) ∧ Hid (sqGo p b r = F) ∧ w' = w) (fun _ bv _ => ((intOf bv) + 1).toNat)
  case atStart => exact ⟨0, 36, by omega, rfl, rfl, HF0, rfl⟩
  case round =>
    obtain ⟨r, b, hb, rfl, rfl, HF, rfl⟩ := hrel
    clear HF0
    cases b with
    | succ c =>
      rw [show (((c + 1 : Nat) : Int) - 1) = (c : Int) by omega]
      have h0 : (0 : Int) ≤ (c : Int) := by omega
      have e0 : IntKind.i64.wrap ((c : Int) - 1) = (c : Int) - 1 := by rw [IntKind.wrap_i64]; omega
      obtain ⟨x, ex⟩ : ∃ x, wq (r + wq (2 ^ c)) = x := ⟨_, rfl⟩
      obtain ⟨hi, ehi⟩ : ∃ z, x / 4294967296 = z := ⟨_, rfl⟩
      obtain ⟨lo, elo⟩ : ∃ z, bits .and .u64 x 4294967295 = z := ⟨_, rfl⟩
      obtain ⟨t, et⟩ : ∃ z, wq (hi * lo) = z := ⟨_, rfl⟩
      obtain ⟨q, eq⟩ : ∃ z, wq (hi * hi) = z := ⟨_, rfl⟩
      obtain ⟨t1, et1⟩ : ∃ z, t / 2147483648 = z := ⟨_, rfl⟩
      obtain ⟨top, etop⟩ : ∃ z, wq (q + t1) = z := ⟨_, rfl⟩
      obtain ⟨m1, em1⟩ : ∃ z, wq (t * 2) = z := ⟨_, rfl⟩
      obtain ⟨m2, em2⟩ : ∃ z, bits .and .u64 m1 4294967295 = z := ⟨_, rfl⟩
      obtain ⟨mid, emid⟩ : ∃ z, wq (m2 * 4294967296) = z := ⟨_, rfl⟩
      obtain ⟨l2, el2⟩ : ∃ z, wq (lo * lo) = z := ⟨_, rfl⟩
      obtain ⟨rest, erest⟩ : ∃ z, wq (l2 + mid) = z := ⟨_, rfl⟩
      obtain ⟨top1, etop1⟩ : ∃ z, wq (top + 1) = z := ⟨_, rfl⟩
      have hN : sqN p r c = if (if rest < mid then top1 else top) < (p : Int) then x else if (if rest < mid then top1 else top) = (p : Int) then (if rest = 0 then x else r) else r := by
        unfold sqN an32
        simp only [ex, ehi, elo, et, eq, et1, etop, em1, em2, emid, el2, erest, etop1]
      by_cases c1 : rest < mid
      · simp only [if_pos c1] at hN
        have HN := Lib.hid hN
        clear hN
        by_cases c2 : top1 < (p : Int)
        · have HX : Hid (sqN p r c = x) := Lib.hid (by rw [HN.out, if_pos c2])
          go_wp2_with fail
          go_roundw
          case rel => exact ⟨x, c, by omega, rfl, by go_num, Lib.hid (by rw [← HF.out, sqGo, HX.out]), trivial⟩
          case measure => simp [intOf]
        · by_cases c3 : top1 = (p : Int)
          · have d3 : (top1 == (p : Int)) = true := by simp [c3]
            by_cases c4 : rest = 0
            · have HX : Hid (sqN p r c = x) := Lib.hid (by rw [HN.out, if_neg c2, if_pos c3, if_pos c4])
              have d4 : (rest == 0) = true := by simp [c4]
              clear c3 c4
              go_wp2_with fail
              go_roundw
              case rel => exact ⟨x, c, by omega, rfl, by go_num, Lib.hid (by rw [← HF.out, sqGo, HX.out]), trivial⟩
              case measure => simp [intOf]
            · have HX : Hid (sqN p r c = r) := Lib.hid (by rw [HN.out, if_neg c2, if_pos c3, if_neg c4])
              have d4 : (rest == 0) = false := by simp [c4]
              clear c3 c4
              go_wp2_with fail
              go_roundw
              case rel => exact ⟨r, c, by omega, rfl, by go_num, Lib.hid (by rw [← HF.out, sqGo, HX.out]), trivial⟩
              case measure => simp [intOf]
          · have HX : Hid (sqN p r c = r) := Lib.hid (by rw [HN.out, if_neg c2, if_neg c3])
            have d3 : (top1 == (p : Int)) = false := by simp [c3]
            clear c3
            go_wp2_with fail
            go_roundw
            case rel => exact ⟨r, c, by omega, rfl, by go_num, Lib.hid (by rw [← HF.out, sqGo, HX.out]), trivial⟩
            case measure => simp [intOf]
      · simp only [if_neg c1] at hN
        have HN := Lib.hid hN
        clear hN
        by_cases c2 : top < (p : Int)
        · have HX : Hid (sqN p r c = x) := Lib.hid (by rw [HN.out, if_pos c2])
          go_wp2_with fail
          go_roundw
          case rel => exact ⟨x, c, by omega, rfl, by go_num, Lib.hid (by rw [← HF.out, sqGo, HX.out]), trivial⟩
          case measure => simp [intOf]
        · by_cases c3 : top = (p : Int)
          · have d3 : (top == (p : Int)) = true := by simp [c3]
            by_cases c4 : rest = 0
            · have HX : Hid (sqN p r c = x) := Lib.hid (by rw [HN.out, if_neg c2, if_pos c3, if_pos c4])
              have d4 : (rest == 0) = true := by simp [c4]
              clear c3 c4
              go_wp2_with fail
              go_roundw
              case rel => exact ⟨x, c, by omega, rfl, by go_num, Lib.hid (by rw [← HF.out, sqGo, HX.out]), trivial⟩
              case measure => simp [intOf]
            · have HX : Hid (sqN p r c = r) := Lib.hid (by rw [HN.out, if_neg c2, if_pos c3, if_neg c4])
              have d4 : (rest == 0) = false := by simp [c4]
              clear c3 c4
              go_wp2_with fail
              go_roundw
              case rel => exact ⟨r, c, by omega, rfl, by go_num, Lib.hid (by rw [← HF.out, sqGo, HX.out]), trivial⟩
              case measure => simp [intOf]
          · have HX : Hid (sqN p r c = r) := Lib.hid (by rw [HN.out, if_neg c2, if_neg c3])
            have d3 : (top == (p : Int)) = false := by simp [c3]
            clear c3
            go_wp2_with fail
            go_roundw
            case rel => exact ⟨r, c, by omega, rfl, by go_num, Lib.hid (by rw [← HF.out, sqGo, HX.out]), trivial⟩
            case measure => simp [intOf]
    | zero =>
      have hr : r = F := HF.out
      subst hr
      go_wp2_with fail
      go_ret
      exact ⟨rfl, rfl⟩

set_option maxRecDepth 100000 in
set_option maxHeartbeats 1000000 in
theorem r_prime (i : Nat) (r : Nat) (hr : pgo 398 1 i = some r) (hi : i < 1000) (w : World) : Calls Try.prog 39 #[.int .i64 (i : Int)] w fun e w' => e = .returned (.int .u64 (r : Int)) ∧ w' = w := by
  have HR0 := Lib.hid hr
  clear hr
  go_enter Try.func39, Try.ntmps39
  go_wp2_with fail
  go_loopw [0, 3] (fun nv pv w' => ∃ n p : Nat, n < 1000 ∧ p ≤ 399 ∧ nv = .int .i64 (n : Int) ∧ pv = .int .u64 (p : Int) ∧ Hid (pgo (399 - p) p n = some r) ∧ w' = w) (fun _ pv _ => 400 - (intOf pv).toNat)
  case atStart => exact ⟨i, 1, hi, by omega, rfl, rfl, HR0, rfl⟩
  case round =>
    obtain ⟨n, p, hn, hp, rfl, rfl, HR, rfl⟩ := hrel
    clear HR0 hi
    have hp8 : p ≤ 398 := by
      rcases Nat.lt_or_ge 398 p with h | h
      · obtain rfl : p = 399 := by omega
        have := HR.out
        cases this
      · exact h
    rw [pgo_step hp8] at HR
    obtain ⟨P, hP⟩ : ∃ P, p + 1 = P := ⟨_, rfl⟩
    rw [hP] at HR
    have hPp : p < P := by omega
    have hP9 : P ≤ 399 := by omega
    have e0 : IntKind.u64.wrap ((p : Int) + 1) = (P : Int) := by simp [IntKind.wrap, IntKind.signed, IntKind.bits]; omega
    clear hP
    go_wp2_with fail
    clear e0
    obtain ⟨wo, hwo⟩ : ∃ wo : World, wo = wr := ⟨_, rfl⟩
    go_loopw [4, 5] (fun fv dv w2 => ∃ (d : Nat) (b : Bool), 2 ≤ d ∧ d ≤ 21 ∧ fv = .bool b ∧ dv = .int .u64 (d : Int) ∧ Hid ((b = true ↔ ∀ e, 2 ≤ e → e < d → P % e ≠ 0) ∧ (d = 2 ∨ (d - 1) * (d - 1) ≤ P)) ∧ w2 = wr) (fun _ dv _ => 30 - (intOf dv).toNat)
    case atStart => exact ⟨2, true, by omega, by omega, rfl, rfl, Lib.hid ⟨⟨fun _ e h1 h2 => by omega, fun _ => rfl⟩, .inl rfl⟩, rfl⟩
    case round =>
      obtain ⟨d, b, hd2, hd, rfl, rfl, HD, rfl⟩ := hrel
      clear hwo
      have hdd : d * d ≤ 441 := Nat.mul_le_mul hd hd
      obtain ⟨s, hs⟩ : ∃ s, d * d = s := ⟨_, rfl⟩
      have hsi : ((d : Int) * (d : Int)) = (s : Int) := by rw [← hs]; push_cast; rfl
      rw [hs] at hdd
      have e1 : IntKind.u64.wrap (s : Int) = (s : Int) := by simp [IntKind.wrap, IntKind.signed, IntKind.bits]; omega
      have HS := Lib.hid hs
      clear hs
      by_cases hle : s ≤ P
      · obtain ⟨m, hm⟩ : ∃ m, P % d = m := ⟨_, rfl⟩
        have t1 : (P : Int).tmod (d : Int) = (m : Int) := by rw [Int.tmod_eq_emod_of_nonneg (by omega), ← hm]; push_cast; rfl
        have t2 : (P : Int) % (d : Int) = (m : Int) := by rw [← hm]; push_cast; rfl
        have t3 : (d : Int) ≠ 0 := by omega
        have t4 : IntKind.u64.wrap (m : Int) = (m : Int) := by
          have : m ≤ P := by rw [← hm]; exact Nat.mod_le _ _
          simp [IntKind.wrap, IntKind.signed, IntKind.bits]; omega
        have t5 : IntKind.u64.wrap ((d : Int) + 1) = ((d + 1 : Nat) : Int) := by simp [IntKind.wrap, IntKind.signed, IntKind.bits]; omega
        have hd20 : d ≤ 20 := by
          rcases Nat.lt_or_ge 20 d with h | h
          · obtain rfl : d = 21 := by omega
            have := HS.out; omega
          · exact h
        have HM := Lib.hid hm
        clear hm
        have hnext : (d + 1 = 2 ∨ (d + 1 - 1) * (d + 1 - 1) ≤ P) := .inr (by rw [Nat.add_sub_cancel, HS.out]; exact hle)
        by_cases hm0 : m = 0
        · have q0 : ((m : Int) == 0) = true := by simp [hm0]
          have HB : Hid ((false = true ↔ ∀ e, 2 ≤ e → e < d + 1 → P % e ≠ 0) ∧ (d + 1 = 2 ∨ (d + 1 - 1) * (d + 1 - 1) ≤ P)) := Lib.hid ⟨⟨fun h => by (cases h), fun h => absurd (HM.out.trans hm0) (h d hd2 (by omega))⟩, hnext⟩
          clear hm0 hnext
          go_wp2_with fail
          go_roundw
          case rel => exact ⟨d + 1, false, by omega, by omega, rfl, by go_num, HB, trivial⟩
          case measure => simp [intOf]; omega
        · have q0 : ((m : Int) == 0) = false := by simp [hm0]
          have hall : b = true → ∀ e, 2 ≤ e → e < d + 1 → P % e ≠ 0 := by
            intro h e h2 he
            rcases Nat.lt_or_ge e d with h3 | h3
            · exact HD.out.1.1 h e h2 h3
            · obtain rfl : e = d := by omega
              rw [HM.out]; exact hm0
          have HB : Hid ((b = true ↔ ∀ e, 2 ≤ e → e < d + 1 → P % e ≠ 0) ∧ (d + 1 = 2 ∨ (d + 1 - 1) * (d + 1 - 1) ≤ P)) := Lib.hid ⟨⟨hall, fun h => HD.out.1.2 fun e h2 he => h e h2 (by omega)⟩, hnext⟩
          clear hall
          clear hm0 hnext
          go_wp2_with fail
          go_roundw
          case rel => exact ⟨d + 1, b, by omega, by omega, rfl, by go_num, HB, trivial⟩
          case measure => simp [intOf]; omega
      · have hb : b = isP P := by
          have h1 := isP_at hP9 HD.out.2 (by rw [HS.out]; omega)
          have h2 := HD.out.1
          cases b with
          | true => exact (h1.2 (h2.1 rfl)).symm
          | false =>
            cases hq : isP P with
            | true => exact absurd (h2.2 (h1.1 hq)) (by simp)
            | false => rfl
        cases b with
        | true =>
          rw [← hb] at HR
          clear hb HD
          cases n with
          | zero =>
            have hrr : P = r := by have := HR.out; simpa [pnext] using this
            subst hrr
            go_wp2_with fail
            go_ret
            exact ⟨rfl, rfl⟩
          | succ n =>
            have h1 : (((n + 1 : Nat) : Int) == 0) = false := by simp; omega
            have h2 : IntKind.i64.wrap (((n + 1 : Nat) : Int) - 1) = (n : Int) := by rw [IntKind.wrap_i64]; omega
            have HR2 : Hid (pgo (399 - P) P n = some r) := Lib.hid (by have := HR.out; simpa [pnext] using this)
            have h3 : IntKind.i64.wrap ((n : Int) + 1 - 1) = (n : Int) := by rw [IntKind.wrap_i64]; omega
            go_wp2_with fail
            go_roundw
            case rel => exact ⟨n, P, by omega, hP9, by go_num, rfl, HR2, trivial⟩
            case measure => simp [intOf]; omega
        | false =>
          rw [← hb] at HR
          have HR2 : Hid (pgo (399 - P) P n = some r) := Lib.hid (by simpa using HR.out)
          clear hb HD HR
          go_wp2_with fail
          go_roundw
          case rel => exact ⟨n, P, by omega, hP9, rfl, rfl, HR2, trivial⟩
          case measure => simp [intOf]; omega
end Go.Proofs.Ytejmbbnndagejaa
