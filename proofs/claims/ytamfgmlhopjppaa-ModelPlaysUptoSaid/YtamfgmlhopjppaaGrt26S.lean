/-
  redoubtlaw26.great, of calls whose lists are no greater than can be counted: no means they are small.
-/
import Derived.Test.YtamfgmlhopjppaaGN
namespace Go.Proofs.Ytamfgmlhopjppaa
open Go.RowKit Go.ChangeShapes Go.WideShapes Go.ChangeAt

/-- a call with short lists -/
def SmallPl (k : Nat) (o : PlayL) : Prop := o.ops.length ≤ k ∧ (∀ x ∈ o.ops, x.hashes.length ≤ k ∧ x.name.size ≤ k) ∧ o.rep.names.length ≤ k ∧ o.ask.data.size ≤ k ∧ o.rep.data.size ≤ k
def GreatP (l : List PlayL) (e : Ending) : Prop := ∃ B, e = .returned (.bool B) ∧ (B = false → l.length ≤ 60 ∧ ∀ o ∈ l, SmallPl 4096 o)
set_option maxRecDepth 100000 in
set_option maxHeartbeats 4000000 in
theorem h_great26S (l : List PlayL) (A : Option Addr) (c : Nat) (w : World) (S : Nat → Prop) (hl : Rp.play.slice.R w S [.slice A l.length c] l) (hsm : ∀ o ∈ l, SmallPl 1048576 o) :
    Calls Try.prog 5 #[.slice A l.length c] w fun e w' => GreatP l e ∧ Kp No w w' := by
  have HL := Lib.hid hl
  have HSM := Lib.hid hsm
  have hll : (l.length : Int) ≤ 9223372036854775807 := by obtain ⟨_, _, he, h1, h2, _⟩ := hl; unfold maxLen at h2; omega
  clear hl hsm
  go_enter Try.func5, Try.ntmps5
  go_wp2_with fail
  go_loopw [3, 10] (fun nv iv wr => ∃ (i : Nat) (x : Int), i ≤ l.length ∧ iv = .int .i64 (i : Int) ∧ nv = .int .i64 x ∧ 0 ≤ x ∧ x ≤ 4096 ∧ Hid (∀ (j : Nat) o, j < i → l[j]? = some o → SmallPl 4096 o) ∧ Hid (Kp No w wr)) (fun _ iv _ => l.length - (intOf iv).toNat)
  case atStart => exact ⟨0, 0, by omega, rfl, rfl, by omega, by omega, Lib.hid (fun j o hj => absurd hj (by omega)), Lib.hid (Kp.refl _ _)⟩
  case round =>
    obtain ⟨i, x, hi, rfl, rfl, hx0, hx1, HP, HK⟩ := hrel
    by_cases hlt : i < l.length
    · have hli : (i : Int) < (l.length : Int) := by omega
      obtain ⟨o, ho⟩ : ∃ o, l[i]? = some o := ⟨_, List.getElem?_eq_getElem hlt⟩
      obtain ⟨ad, O, co, N, cn, L, cl, rfl, _, hcell, _, hops, _, _⟩ := Rp.at_play (Rp.play.slice.keptNo HL.out HK.out) ho
      obtain ⟨z0, z1, z2, z3, z4, z5, z6, z7, z8, z9, z10, z11, z12, z13, z14, z15⟩ := play_cells hcell
      have HO := Lib.hid hops
      obtain ⟨hq1, hq2, hq3, hq4, hq5⟩ := HSM.out o (List.mem_of_getElem? ho)
      have HQ2 := Lib.hid hq2
      have HOI := Lib.hid ho
      clear hcell ho hops hq2
      obtain ⟨ok, ops, ⟨ak, ac, aq, an, ad2, am, al⟩, ⟨ra, re, rn, rp, rnm, rd, rl⟩⟩ := o
      simp only at *
      go_wp2_with fail
      clear z0 z1 z2 z3 z4 z5 z6 z7 z8 z9 z10 z11 z12 z13 z14 z15
      go_loopw [3, 36] (fun nv iv wr2 => ∃ (j : Nat) (y : Int), j ≤ ops.length ∧ iv = .int .i64 (j : Int) ∧ nv = .int .i64 y ∧ (rnm.length : Int) ≤ y ∧ (ad2.size : Int) ≤ y ∧ (rd.size : Int) ≤ y ∧ (j : Int) ≤ y ∧ y ≤ 4000000 ∧ (0 < j → y ≤ 4096) ∧ Hid (∀ (k : Nat) o, k < j → ops[k]? = some o → o.hashes.length ≤ 4096 ∧ o.name.size ≤ 4096) ∧ Hid (Kp No w wr2) ∧ Hid (Kp No wr wr2)) (fun _ iv _ => ops.length - (intOf iv).toNat)
      case atStart => exact ⟨0, _, Nat.zero_le _, rfl, rfl, by omega, by omega, by omega, by omega, by omega, by omega, Lib.hid (fun k o hk => absurd hk (by omega)), Lib.hid (HK.out.alloc _), Lib.hid ((Kp.refl _ _).alloc _)⟩
      case round =>
        obtain ⟨j, y, hj, rfl, rfl, hy0, hy1, hy2, hy3, hy4, hy5, HQ, HK2, HK3⟩ := hrel
        by_cases hjt : j < ops.length
        · have hji : (j : Int) < (ops.length : Int) := by omega
          obtain ⟨p, hp⟩ : ∃ p, ops[j]? = some p := ⟨_, List.getElem?_eq_getElem hjt⟩
          obtain ⟨hq6, hq7⟩ := HQ2.out p (List.mem_of_getElem? hp)
          have HPJ := Lib.hid hp
          obtain ⟨ad2, A2, c2, rfl, _, hcell, _, _⟩ := Rp.at_opl (Rp.opl.slice.keptNo HO.out HK3.out) hp
          obtain ⟨y0, y1, y2, y3, y4, y5, y6, y7, y8⟩ := opl_cells hcell
          clear hcell hp
          obtain ⟨pn, pe, pk, ps, pc, pq, pnm, psz, phs⟩ := p
          simp only at *
          go_wp2_with fail
          all_goals first
            | (go_ret
               exact ⟨⟨true, rfl, fun h => by cases h⟩, HK2.out.alloc _⟩)
            | (have e3 : phs.length ≤ 4096 := by omega
               have e4 : pnm.size ≤ 4096 := by omega
               go_roundw
               case rel =>
                 refine ⟨j + 1, _, by omega, by go_num, rfl, by omega, by omega, by omega, by omega, by omega, by omega, Lib.hid (fun k o hk ho => ?_), Lib.hid (HK2.out.alloc _), Lib.hid (HK3.out.alloc _)⟩
                 rcases Nat.lt_or_ge k j with hlt' | hge
                 · exact HQ.out k o hlt' ho
                 · obtain rfl : k = j := by omega
                   rw [HPJ.out] at ho
                   injection ho with ho
                   rw [← ho]; exact ⟨e3, e4⟩
               case measure => simp [intOf]; omega)
        · obtain rfl : j = ops.length := by omega
          go_wp2_with fail
          all_goals first
            | (go_ret
               exact ⟨⟨true, rfl, fun h => by cases h⟩, HK2.out⟩)
            | (have e1 : ops.length ≤ 4096 := by omega
               have e2 : rnm.length ≤ 4096 := by omega
               have e3 : ad2.size ≤ 4096 := by omega
               have e4 : rd.size ≤ 4096 := by omega
               go_roundw
               case rel =>
                 refine ⟨i + 1, _, by omega, by go_num, rfl, by omega, by omega, Lib.hid (fun k o hk ho => ?_), HK2⟩
                 rcases Nat.lt_or_ge k i with hlt' | hge
                 · exact HP.out k o hlt' ho
                 · obtain rfl : k = i := by omega
                   rw [HOI.out] at ho
                   injection ho with ho
                   rw [← ho]
                   refine ⟨e1, fun q hq => ?_, e2, e3, e4⟩
                   obtain ⟨k2, hk2⟩ := List.getElem?_of_mem hq
                   exact HQ.out k2 q (List.getElem?_eq_some_iff.1 hk2).1 hk2
               case measure => simp [intOf]; omega)
    · obtain rfl : i = l.length := by omega
      go_wp2_with fail
      go_ret
      refine ⟨⟨_, rfl, fun h => ⟨by have := of_decide_eq_false h; omega, fun o ho => ?_⟩⟩, HK.out⟩
      obtain ⟨k, hk⟩ := List.getElem?_of_mem ho
      exact HP.out k o (List.getElem?_eq_some_iff.1 hk).1 hk
end Go.Proofs.Ytamfgmlhopjppaa
