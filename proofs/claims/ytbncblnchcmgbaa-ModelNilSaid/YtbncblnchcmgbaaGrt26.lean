/-
  redoubtlaw26.great: it answers, whatever the calls are.
-/
import Derived.Test.YtbncblnchcmgbaaPlyA
namespace Go.Proofs.Ytbncblnchcmgbaa
open Go.RowKit Go.ChangeShapes Go.WideShapes Go.ChangeAt

def GreatA (e : Ending) : Prop := ∃ B, e = .returned (.bool B)
set_option maxRecDepth 100000 in
set_option maxHeartbeats 4000000 in
theorem h_great26 (l : List PlayL) (A : Option Addr) (c : Nat) (w : World) (S : Nat → Prop) (hl : Rp.play.slice.R w S [.slice A l.length c] l) :
    Calls Try.prog 15 #[.slice A l.length c] w fun e w' => GreatA e ∧ Kp No w w' := by
  have HL := Lib.hid hl
  have hll : (l.length : Int) ≤ 9223372036854775807 := by obtain ⟨_, _, he, h1, h2, _⟩ := hl; unfold maxLen at h2; omega
  clear hl
  go_enter Try.func15, Try.ntmps15
  go_wp2_with fail
  go_loopw [3, 10] (fun nv iv wr => ∃ (i : Nat) (x : Int), i ≤ l.length ∧ iv = .int .i64 (i : Int) ∧ nv = .int .i64 x ∧ Hid (Kp No w wr)) (fun _ iv _ => l.length - (intOf iv).toNat)
  case atStart => exact ⟨0, 0, by omega, rfl, rfl, Lib.hid (Kp.refl _ _)⟩
  case round =>
    obtain ⟨i, x, hi, rfl, rfl, HK⟩ := hrel
    by_cases hlt : i < l.length
    · have hli : (i : Int) < (l.length : Int) := by omega
      obtain ⟨o, ho⟩ : ∃ o, l[i]? = some o := ⟨_, List.getElem?_eq_getElem hlt⟩
      obtain ⟨ad, O, co, N, cn, L, cl, rfl, _, hcell, _, hops, _, _⟩ := Rp.at_play (Rp.play.slice.keptNo HL.out HK.out) ho
      obtain ⟨z0, z1, z2, z3, z4, z5, z6, z7, z8, z9, z10, z11, z12, z13, z14, z15⟩ := play_cells hcell
      have HO := Lib.hid hops
      have hol : (o.ops.length : Int) ≤ 9223372036854775807 := by obtain ⟨_, _, he, h1, h2, _⟩ := hops; unfold maxLen at h2; omega
      clear hcell ho hops
      obtain ⟨ok, ops, ⟨ak, ac, aq, an, ad2, am, al⟩, ⟨ra, re, rn, rp, rnm, rd, rl⟩⟩ := o
      simp only at *
      go_wp2_with fail
      clear z0 z1 z2 z3 z4 z5 z6 z7 z8 z9 z10 z11 z12 z13 z14 z15
      go_loopw [3, 36] (fun nv iv wr2 => ∃ (j : Nat) (y : Int), j ≤ ops.length ∧ iv = .int .i64 (j : Int) ∧ nv = .int .i64 y ∧ Hid (Kp No w wr2) ∧ Hid (Kp No wr wr2)) (fun _ iv _ => ops.length - (intOf iv).toNat)
      case atStart => exact ⟨0, _, Nat.zero_le _, rfl, rfl, Lib.hid (HK.out.alloc _), Lib.hid ((Kp.refl _ _).alloc _)⟩
      case round =>
        obtain ⟨j, y, hj, rfl, rfl, HK2, HK3⟩ := hrel
        by_cases hjt : j < ops.length
        · have hji : (j : Int) < (ops.length : Int) := by omega
          obtain ⟨p, hp⟩ : ∃ p, ops[j]? = some p := ⟨_, List.getElem?_eq_getElem hjt⟩
          obtain ⟨ad2, A2, c2, rfl, _, hcell, _, _⟩ := Rp.at_opl (Rp.opl.slice.keptNo HO.out HK3.out) hp
          obtain ⟨y0, y1, y2, y3, y4, y5, y6, y7, y8⟩ := opl_cells hcell
          clear hcell hp
          obtain ⟨pn, pe, pk, ps, pc, pq, pnm, psz, phs⟩ := p
          simp only at *
          go_wp2_with fail
          all_goals first
            | (go_ret
               exact ⟨⟨true, rfl⟩, HK2.out.alloc _⟩)
            | (go_roundw
               case rel => exact ⟨j + 1, _, by omega, by go_num, rfl, Lib.hid (HK2.out.alloc _), Lib.hid (HK3.out.alloc _)⟩
               case measure => simp [intOf]; omega)
        · obtain rfl : j = ops.length := by omega
          go_wp2_with fail
          all_goals first
            | (go_ret
               exact ⟨⟨true, rfl⟩, HK2.out⟩)
            | (go_roundw
               case rel => exact ⟨i + 1, _, by omega, by go_num, rfl, HK2⟩
               case measure => simp [intOf]; omega)
    · obtain rfl : i = l.length := by omega
      go_wp2_with fail
      go_ret
      exact ⟨⟨_, rfl⟩, HK.out⟩
end Go.Proofs.Ytbncblnchcmgbaa
