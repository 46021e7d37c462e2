/-
  redoubtlaw12.great, of commands whose lists are no greater than can be counted: no means they are small.
-/
import Derived.Test.YtbncblnchcmgbaaGrt12
namespace Go.Proofs.Ytbncblnchcmgbaa
open Go.RowKit Go.ChangeShapes Go.WideShapes Go.ChangeAt

/-- a command with short lists -/
def SmallC (m k : Nat) (c : CmdL) : Prop := c.op.hashes.length ≤ m ∧ c.ops.length ≤ k ∧ ∀ o ∈ c.ops, o.hashes.length ≤ m
def GreatS (l : List CmdL) (e : Ending) : Prop := ∃ B, e = .returned (.bool B) ∧ (B = false → l.length ≤ 200 ∧ ∀ c ∈ l, SmallC 8192 100 c)
set_option maxRecDepth 100000 in
set_option maxHeartbeats 4000000 in
theorem h_great12S (l : List CmdL) (A : Option Addr) (c : Nat) (w : World) (S : Nat → Prop) (hl : Rp.cmd.slice.R w S [.slice A l.length c] l) (hsm : ∀ c ∈ l, SmallC 1048576 1048576 c) :
    Calls Try.prog 10 #[.slice A l.length c] w fun e w' => GreatS l e ∧ Kp No w w' := by
  have HL := Lib.hid hl
  have hll : (l.length : Int) ≤ 9223372036854775807 := by obtain ⟨_, _, he, h1, h2, _⟩ := hl; unfold maxLen at h2; omega
  have HSM := Lib.hid hsm
  clear hl hsm
  go_enter Try.func10, Try.ntmps10
  go_wp2_with fail
  go_loopw [3, 10] (fun nv iv wr => ∃ (i : Nat) (x : Int), i ≤ l.length ∧ iv = .int .i64 (i : Int) ∧ nv = .int .i64 x ∧ 0 ≤ x ∧ x ≤ 8192 ∧ Hid (∀ (j : Nat) c, j < i → l[j]? = some c → SmallC 8192 100 c) ∧ Hid (Kp No w wr)) (fun _ iv _ => l.length - (intOf iv).toNat)
  case atStart => exact ⟨0, 0, by omega, rfl, rfl, by omega, by omega, Lib.hid (fun j c hj => absurd hj (by omega)), Lib.hid (Kp.refl _ _)⟩
  case round =>
    obtain ⟨i, x, hi, rfl, rfl, hx0, hx1, HP, HK⟩ := hrel
    by_cases hlt : i < l.length
    · have hli : (i : Int) < (l.length : Int) := by omega
      obtain ⟨o, ho⟩ : ∃ o, l[i]? = some o := ⟨_, List.getElem?_eq_getElem hlt⟩
      obtain ⟨ad, A', c', B', d', rfl, _, hcell, _, _, hops⟩ := Rp.at_cmd (Rp.cmd.slice.keptNo HL.out HK.out) ho
      obtain ⟨z0, z1, z2, z3, z4, z5, z6, z7, z8, z9, z10, z11, z12, z13, z14, z15⟩ := cmd_cells hcell
      have HO := Lib.hid hops
      obtain ⟨hq1, hq2, hq3⟩ := HSM.out o (List.mem_of_getElem? ho)
      have HQ3 := Lib.hid hq3
      have HOI := Lib.hid ho
      clear hq3
      have hol : (o.ops.length : Int) ≤ 9223372036854775807 := by obtain ⟨_, _, he, h1, h2, _⟩ := hops; unfold maxLen at h2; omega
      clear hcell ho hops
      obtain ⟨ck, ep, st, ⟨on, oe, okd, os, oc, oq, onm, osz, ohs⟩, an, ae, ops, tg⟩ := o
      simp only at *
      go_wp2_with fail
      all_goals first
        | (go_ret
           exact ⟨⟨true, rfl, fun h => by cases h⟩, HK.out.alloc _⟩)
        | skip
      all_goals
        have e1 : ohs.length ≤ 8192 := by omega
        have e2 : ops.length ≤ 100 := by omega
        clear z0 z1 z2 z3 z4 z5 z6 z7 z8 z9 z10 z11 z12 z13 z14 z15
        go_loopw [3, 39] (fun nv iv wr2 => ∃ (j : Nat) (y : Int), j ≤ ops.length ∧ iv = .int .i64 (j : Int) ∧ nv = .int .i64 y ∧ 0 ≤ y ∧ y ≤ 8192 ∧ Hid (∀ (k : Nat) o, k < j → ops[k]? = some o → o.hashes.length ≤ 8192) ∧ Hid (Kp No w wr2) ∧ Hid (Kp No wr wr2)) (fun _ iv _ => ops.length - (intOf iv).toNat)
        case atStart => exact ⟨0, _, Nat.zero_le _, rfl, rfl, by omega, by omega, Lib.hid (fun k o hk => absurd hk (by omega)), Lib.hid (HK.out.alloc _), Lib.hid ((Kp.refl _ _).alloc _)⟩
        case round =>
          obtain ⟨j, y, hj, rfl, rfl, hy0, hy1, HQ, HK2, HK3⟩ := hrel
          by_cases hjt : j < ops.length
          · have hji : (j : Int) < (ops.length : Int) := by omega
            obtain ⟨p, hp⟩ : ∃ p, ops[j]? = some p := ⟨_, List.getElem?_eq_getElem hjt⟩
            have hq4 := HQ3.out p (List.mem_of_getElem? hp)
            have HPJ := Lib.hid hp
            obtain ⟨ad2, A2, c2, rfl, _, hcell, _, _⟩ := Rp.at_opl (Rp.opl.slice.keptNo HO.out HK3.out) hp
            obtain ⟨y0, y1, y2, y3, y4, y5, y6, y7, y8⟩ := opl_cells hcell
            clear hcell hp
            obtain ⟨pn, pe, pk, ps, pc, pq, pnm, psz, phs⟩ := p
            simp only at *
            go_wp2_with fail
            all_goals first
              | (go_ret
                 exact ⟨⟨true, rfl, fun h => by cases h⟩, HK2.out.alloc _⟩)
              | (have e3 : phs.length ≤ 8192 := by omega
                 go_roundw
                 case rel =>
                   refine ⟨j + 1, _, by omega, by go_num, rfl, by omega, by omega, Lib.hid (fun k o hk ho => ?_), Lib.hid (HK2.out.alloc _), Lib.hid (HK3.out.alloc _)⟩
                   rcases Nat.lt_or_ge k j with hlt' | hge
                   · exact HQ.out k o hlt' ho
                   · obtain rfl : k = j := by omega
                     rw [HPJ.out] at ho
                     injection ho with ho
                     rw [← ho]; exact e3
                 case measure => simp [intOf]; omega)
          · obtain rfl : j = ops.length := by omega
            go_wp2_with fail
            go_roundw
            case rel =>
              refine ⟨i + 1, _, by omega, by go_num, rfl, hy0, hy1, Lib.hid (fun k o hk ho => ?_), HK2⟩
              rcases Nat.lt_or_ge k i with hlt' | hge
              · exact HP.out k o hlt' ho
              · obtain rfl : k = i := by omega
                rw [HOI.out] at ho
                injection ho with ho
                rw [← ho]
                refine ⟨e1, e2, fun q hq => ?_⟩
                obtain ⟨k2, hk2⟩ := List.getElem?_of_mem hq
                exact HQ.out k2 q (List.getElem?_eq_some_iff.1 hk2).1 hk2
            case measure => simp [intOf]; omega
    · obtain rfl : i = l.length := by omega
      go_wp2_with fail
      go_ret
      refine ⟨⟨_, rfl, fun h => ⟨by have := of_decide_eq_false h; omega, fun c hc => ?_⟩⟩, HK.out⟩
      obtain ⟨k, hk⟩ := List.getElem?_of_mem hc
      exact HP.out k c (List.getElem?_eq_some_iff.1 hk).1 hk
end Go.Proofs.Ytbncblnchcmgbaa
