/-
  redoubtlaw12.great: it answers, whatever the commands are.
-/
import Derived.Test.YtbncblnchcmgbaaDeed3
namespace Go.Proofs.Ytbncblnchcmgbaa
open Go.RowKit Go.ChangeShapes Go.WideShapes Go.ChangeAt

/-- an answer; no: there are no more than 200 -/
def GreatB (n : Nat) (e : Ending) : Prop := ∃ B, e = .returned (.bool B) ∧ (B = false → n ≤ 200)
/-- one of a list of commands -/
theorem Rp.at_cmd {w : World} {S : Nat → Prop} {A : Option Addr} {c : Nat} {l : List CmdL} (h : Rp.cmd.slice.R w S [.slice A l.length c] l) {i : Nat} {x : CmdL} (hi : l[i]? = some x) :
    ∃ ad A' c' B' d', A = some ad ∧ S ad.block ∧ (∀ (j : Nat) u, (x.cells (.slice A' x.op.hashes.length c') (.slice B' x.ops.length d'))[j]? = some u → w.cell? ((ad.add (i * 16)).add j) = some u) ∧ x.nums ∧ Rp.str.slice.R w S [.slice A' x.op.hashes.length c'] x.op.hashes ∧ Rp.opl.slice.R w S [.slice B' x.ops.length d'] x.ops := by
  obtain ⟨A2, c2, he, _, _, h3⟩ := h
  simp only [List.cons.injEq, Value.slice.injEq, and_true, true_and] at he
  obtain ⟨rfl, rfl⟩ := he
  have hl : 0 < l.length := by have := (List.getElem?_eq_some_iff.1 hi).1; omega
  obtain ⟨ad, rfl, hb, hc⟩ := h3 hl
  obtain ⟨es, he, hv, ov, rfl, hn, h1, h2⟩ := hc i x hi
  obtain ⟨A', c', e1, _⟩ := id h1
  obtain ⟨B', d', e2, _⟩ := id h2
  simp only [List.cons.injEq, and_true] at e1 e2
  subst e1 e2
  exact ⟨ad, A', c', B', d', rfl, hb, fun j u hu => he j u hu, hn, h1, h2⟩
theorem cmd_cells {w : World} {ad : Addr} {c : CmdL} {hv ov : Value} (h : ∀ (j : Nat) u, (c.cells hv ov)[j]? = some u → w.cell? (ad.add j) = some u) :
    w.cell? ad = some (.int .i64 c.kind) ∧ w.cell? ⟨ad.block, ad.off + 1, none⟩ = some (.int .i64 c.epoch) ∧ w.cell? ⟨ad.block, ad.off + 2, none⟩ = some (.int .i64 c.site) ∧ w.cell? ⟨ad.block, ad.off + 3, none⟩ = some (.int .i64 c.op.n) ∧
    w.cell? ⟨ad.block, ad.off + 4, none⟩ = some (.int .i64 c.op.epoch) ∧ w.cell? ⟨ad.block, ad.off + 5, none⟩ = some (.int .i64 c.op.kind) ∧ w.cell? ⟨ad.block, ad.off + 6, none⟩ = some (.int .i64 c.op.site) ∧ w.cell? ⟨ad.block, ad.off + 7, none⟩ = some (.int .i64 c.op.client) ∧
    w.cell? ⟨ad.block, ad.off + 8, none⟩ = some (.int .i64 c.op.seq) ∧ w.cell? ⟨ad.block, ad.off + 9, none⟩ = some (.string c.op.name) ∧ w.cell? ⟨ad.block, ad.off + 10, none⟩ = some (.int .i64 c.op.size) ∧ w.cell? ⟨ad.block, ad.off + 11, none⟩ = some hv ∧
    w.cell? ⟨ad.block, ad.off + 12, none⟩ = some (.int .i64 c.after) ∧ w.cell? ⟨ad.block, ad.off + 13, none⟩ = some (.int .i64 c.since) ∧ w.cell? ⟨ad.block, ad.off + 14, none⟩ = some ov ∧ w.cell? ⟨ad.block, ad.off + 15, none⟩ = some (.int .i64 c.tag) :=
  ⟨h 0 _ rfl, h 1 _ rfl, h 2 _ rfl, h 3 _ rfl, h 4 _ rfl, h 5 _ rfl, h 6 _ rfl, h 7 _ rfl, h 8 _ rfl, h 9 _ rfl, h 10 _ rfl, h 11 _ rfl, h 12 _ rfl, h 13 _ rfl, h 14 _ rfl, h 15 _ rfl⟩
set_option maxRecDepth 100000 in
set_option maxHeartbeats 4000000 in
theorem h_great12 (l : List CmdL) (A : Option Addr) (c : Nat) (w : World) (S : Nat → Prop) (hl : Rp.cmd.slice.R w S [.slice A l.length c] l) :
    Calls Try.prog 10 #[.slice A l.length c] w fun e w' => GreatB l.length e ∧ Kp No w w' := by
  have HL := Lib.hid hl
  have hll : (l.length : Int) ≤ 9223372036854775807 := by obtain ⟨_, _, he, h1, h2, _⟩ := hl; unfold maxLen at h2; omega
  clear hl
  go_enter Try.func10, Try.ntmps10
  go_wp2_with fail
  go_loopw [3, 10] (fun nv iv wr => ∃ (i : Nat) (x : Int), i ≤ l.length ∧ iv = .int .i64 (i : Int) ∧ nv = .int .i64 x ∧ Hid (Kp No w wr)) (fun _ iv _ => l.length - (intOf iv).toNat)
  case atStart => exact ⟨0, 0, by omega, rfl, rfl, Lib.hid (Kp.refl _ _)⟩
  case round =>
    obtain ⟨i, x, hi, rfl, rfl, HK⟩ := hrel
    by_cases hlt : i < l.length
    · have hli : (i : Int) < (l.length : Int) := by omega
      obtain ⟨o, ho⟩ : ∃ o, l[i]? = some o := ⟨_, List.getElem?_eq_getElem hlt⟩
      obtain ⟨ad, A', c', B', d', rfl, _, hcell, _, _, hops⟩ := Rp.at_cmd (Rp.cmd.slice.keptNo HL.out HK.out) ho
      obtain ⟨z0, z1, z2, z3, z4, z5, z6, z7, z8, z9, z10, z11, z12, z13, z14, z15⟩ := cmd_cells hcell
      have HO := Lib.hid hops
      have hol : (o.ops.length : Int) ≤ 9223372036854775807 := by obtain ⟨_, _, he, h1, h2, _⟩ := hops; unfold maxLen at h2; omega
      clear hcell ho hops
      obtain ⟨ck, ep, st, ⟨on, oe, okd, os, oc, oq, onm, osz, ohs⟩, an, ae, ops, tg⟩ := o
      simp only at *
      go_wp2_with fail
      all_goals first
        | (go_ret
           exact ⟨⟨true, rfl, fun h => by cases h⟩, HK.out.alloc _⟩)
        | skip
      all_goals
        clear z0 z1 z2 z3 z4 z5 z6 z7 z8 z9 z10 z11 z12 z13 z14 z15
        go_loopw [3, 39] (fun nv iv wr2 => ∃ (j : Nat) (y : Int), j ≤ ops.length ∧ iv = .int .i64 (j : Int) ∧ nv = .int .i64 y ∧ Hid (Kp No w wr2) ∧ Hid (Kp No wr wr2)) (fun _ iv _ => ops.length - (intOf iv).toNat)
        case atStart => exact ⟨0, _, Nat.zero_le _, rfl, rfl, Lib.hid (HK.out.alloc _), Lib.hid ((Kp.refl _ _).alloc _)⟩
        case round =>
          obtain ⟨j, y, hj, rfl, rfl, HK2, HK3⟩ := hrel
          by_cases hjt : j < ops.length
          · have hji : (j : Int) < (ops.length : Int) := by omega
            obtain ⟨p, hp⟩ : ∃ p, ops[j]? = some p := ⟨_, List.getElem?_eq_getElem hjt⟩
            obtain ⟨ad2, A2, c2, rfl, _, hcell, _, _⟩ := Rp.at_opl (Rp.opl.slice.keptNo HO.out HK3.out) hp
            obtain ⟨y0, y1, y2, y3, y4, y5, y6, y7, y8⟩ := opl_cells hcell
            clear hcell hp
            obtain ⟨pn, pe, pk, ps, pc, pq, pnm, psz, phs⟩ := p
            simp only at *
            go_wp2_with fail
            all_goals first
              | (go_ret
                 exact ⟨⟨true, rfl, fun h => by cases h⟩, HK2.out.alloc _⟩)
              | (go_roundw
                 case rel => exact ⟨j + 1, _, by omega, by go_num, rfl, Lib.hid (HK2.out.alloc _), Lib.hid (HK3.out.alloc _)⟩
                 case measure => simp [intOf]; omega)
          · obtain rfl : j = ops.length := by omega
            go_wp2_with fail
            go_roundw
            case rel => exact ⟨i + 1, _, by omega, by go_num, rfl, HK2⟩
            case measure => simp [intOf]; omega
    · obtain rfl : i = l.length := by omega
      go_wp2_with fail
      go_ret
      exact ⟨⟨_, rfl, fun h => by have := of_decide_eq_false h; omega⟩, HK.out⟩
end Go.Proofs.Ytbncblnchcmgbaa
