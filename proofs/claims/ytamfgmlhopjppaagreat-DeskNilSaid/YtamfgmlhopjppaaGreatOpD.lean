/-
  Calls of a desk's script that came in (redoubtlaw22.Op): their reading. (Printed by wip/tools/opd_mk.py.)
-/
import Derived.Test.YtamfgmlhopjppaaGreatDkS
namespace Go.Proofs.YtamfgmlhopjppaaGreat
open Go.RowKit Go.ChangeShapes Go.WideShapes Go.ChangeAt

def Rp.done : Rp Done3 where
  size := 3
  R w S cs a := cs = [.int .i64 a.1, .int .i64 a.2.1, .int .i64 a.2.2] ∧ I64 a.1 ∧ I64 a.2.1 ∧ I64 a.2.2
  μ _ := 0
  pos := by omega
  len := by rintro w S cs a ⟨rfl, _⟩; rfl
  keep := by
    rintro w w' S S' cs a hs hk ⟨rfl, h⟩
    exact ⟨rfl, h⟩
  bnd := by
    rintro w S cs a ⟨rfl, h⟩
    exact ⟨rfl, h⟩
def Rp.reach : Rp ReachL where
  size := 3
  R w S cs a := ∃ hv, cs = [.int .i64 a.at1, .int .i64 a.at2, hv] ∧ I64 a.at1 ∧ I64 a.at2 ∧ (Rp.int .i64).slice.R w S [hv] a.holes
  μ a := (Rp.int .i64).slice.μ a.holes
  pos := by omega
  len := by rintro w S cs a ⟨hv, rfl, _⟩; rfl
  keep := by
    rintro w w' S S' cs a hs hk ⟨hv, rfl, h1, h2, h3⟩
    exact ⟨hv, rfl, h1, h2, (Rp.int .i64).slice.keep hs hk h3⟩
  bnd := by
    rintro w S cs a ⟨hv, rfl, h1, h2, h3⟩
    exact ⟨hv, rfl, h1, h2, (Rp.int .i64).slice.bnd h3⟩
theorem Arg.done {P : Program} {t : TypeId} {f0 f1 : Field} (ht : P.underlying t = some (.struct #[f0, f1])) (ho : [f0.offset, f1.offset] = [0, 1]) (hc : [P.cellsOf f0.type, P.cellsOf f1.type] = [1, 2]) (hct : P.cellsOf t = 3)
    (h0 : P.underlying f0.type = some (.int .i64)) (h1 : Arg P f1.type Rp.spot) : Arg P t Rp.done := by
  intro H enc w spare held fuel cs x h
  obtain ⟨xs, n, _, rfl, hl, hlen, hf⟩ := DataW.trod_struct ht h
  simp only [List.cons.injEq, and_true] at ho hc
  obtain ⟨o0, o1⟩ := ho
  obtain ⟨c0, c1⟩ := hc
  rw [hct] at hl
  match xs, hlen with
  | [y0, y1], _ =>
    have g0 := hf 0 f0 rfl
    have g1 := hf 1 f1 rfl
    match cs, hl with
    | [a, b, c], _ =>
      rw [o0, c0] at g0
      rw [o1, c1] at g1
      simp only [List.drop_zero, List.drop_succ_cons, List.take_succ_cons, List.take_zero, List.getElem?_cons_zero, List.getElem?_cons_succ] at g0 g1
      obtain ⟨k0, e0, _, w0⟩ := DataW.trod_int h0 g0
      obtain ⟨⟨p1, p2⟩, ⟨e1, w1, w2⟩, _⟩ := h1 g1
      simp only [List.cons.injEq, and_true] at e0 e1
      obtain ⟨e1, e2⟩ := e1
      subst e0 e1 e2
      exact ⟨(k0, p1, p2), ⟨rfl, w0, w1, w2⟩, Nat.zero_le _⟩
theorem Arg.reach {P : Program} {t : TypeId} {f0 f1 : Field} (ht : P.underlying t = some (.struct #[f0, f1])) (ho : [f0.offset, f1.offset] = [0, 2]) (hc : [P.cellsOf f0.type, P.cellsOf f1.type] = [2, 1]) (hct : P.cellsOf t = 3)
    (h0 : Arg P f0.type Rp.spot) (h1 : Arg P f1.type (Rp.int .i64).slice) : Arg P t Rp.reach := by
  intro H enc w spare held fuel cs x h
  obtain ⟨xs, n, _, rfl, hl, hlen, hf⟩ := DataW.trod_struct ht h
  simp only [List.cons.injEq, and_true] at ho hc
  obtain ⟨o0, o1⟩ := ho
  obtain ⟨c0, c1⟩ := hc
  rw [hct] at hl
  match xs, hlen with
  | [y0, y1], _ =>
    have g0 := hf 0 f0 rfl
    have g1 := hf 1 f1 rfl
    match cs, hl with
    | [a, b, c], _ =>
      rw [o0, c0] at g0
      rw [o1, c1] at g1
      simp only [List.drop_zero, List.drop_succ_cons, List.take_succ_cons, List.take_zero, List.getElem?_cons_zero, List.getElem?_cons_succ] at g0 g1
      obtain ⟨⟨p1, p2⟩, ⟨e0, w1, w2⟩, _⟩ := h0 g0
      obtain ⟨l, hr, hμ⟩ := h1 g1
      simp only [List.cons.injEq, and_true] at e0
      obtain ⟨e1, e2⟩ := e0
      subst e1 e2
      refine ⟨⟨p1, p2, l⟩, ⟨c, rfl, w1, w2, hr⟩, ?_⟩
      have h' : (Rp.int .i64).slice.μ l ≤ Rows.uptoBulk y1.1 := hμ
      show (Rp.int .i64).slice.μ l ≤ _
      simp only [List.map_cons, List.map_nil, Rows.uptoBulk, Rows.uptoBulkAll]
      omega
/-- a call -/
structure DopL where
  k0 : Int
  k1 : Int
  k2 : Int
  k3 : Int
  ask : AskL
  dn : Done3
  ra : ReachL
  rc : ReachL
  sb : Int × Int
  cmd : CmdL
namespace DopL
def cells (o : DopL) (av cv hv ov : Value) : List Value := [.int .i64 o.k0, .int .i64 o.k1, .int .i64 o.k2, .int .i64 o.k3] ++ o.ask.cells ++ [.int .i64 o.dn.1, .int .i64 o.dn.2.1, .int .i64 o.dn.2.2] ++ [.int .i64 o.ra.at1, .int .i64 o.ra.at2, av] ++ [.int .i64 o.rc.at1, .int .i64 o.rc.at2, cv] ++ [.int .i64 o.sb.1, .int .i64 o.sb.2] ++ o.cmd.cells hv ov
def nums (o : DopL) : Prop := (I64 o.k0 ∧ I64 o.k1 ∧ I64 o.k2 ∧ I64 o.k3) ∧ o.ask.nums ∧ (I64 o.dn.1 ∧ I64 o.dn.2.1 ∧ I64 o.dn.2.2) ∧ (I64 o.ra.at1 ∧ I64 o.ra.at2) ∧ (I64 o.rc.at1 ∧ I64 o.rc.at2) ∧ (I64 o.sb.1 ∧ I64 o.sb.2) ∧ o.cmd.nums
end DopL
def Rp.dop : Rp DopL where
  size := 38
  R w S cs a := ∃ av cv hv ov, cs = a.cells av cv hv ov ∧ a.nums ∧ (Rp.int .i64).slice.R w S [av] a.ra.holes ∧ (Rp.int .i64).slice.R w S [cv] a.rc.holes ∧ Rp.str.slice.R w S [hv] a.cmd.op.hashes ∧ Rp.opl.slice.R w S [ov] a.cmd.ops
  μ a := Rp.ask.μ a.ask + Rp.reach.μ a.ra + Rp.reach.μ a.rc + Rp.cmd.μ a.cmd
  pos := by omega
  len := by rintro w S cs a ⟨av, cv, hv, ov, rfl, _⟩; rfl
  keep := by
    rintro w w' S S' cs a hs hk ⟨av, cv, hv, ov, rfl, h1, h2, h3, h4, h5⟩
    exact ⟨av, cv, hv, ov, rfl, h1, (Rp.int .i64).slice.keep hs hk h2, (Rp.int .i64).slice.keep hs hk h3, Rp.str.slice.keep hs hk h4, Rp.opl.slice.keep hs hk h5⟩
  bnd := by
    rintro w S cs a ⟨av, cv, hv, ov, rfl, h1, h2, h3, h4, h5⟩
    exact ⟨av, cv, hv, ov, rfl, h1, (Rp.int .i64).slice.bnd h2, (Rp.int .i64).slice.bnd h3, Rp.str.slice.bnd h4, Rp.opl.slice.bnd h5⟩
theorem Arg.dop {P : Program} {t : TypeId} {f0 f1 f2 f3 f4 f5 f6 f7 f8 f9 : Field} (ht : P.underlying t = some (.struct #[f0, f1, f2, f3, f4, f5, f6, f7, f8, f9])) (ho : [f0.offset, f1.offset, f2.offset, f3.offset, f4.offset, f5.offset, f6.offset, f7.offset, f8.offset, f9.offset] = [0, 1, 2, 3, 4, 11, 14, 17, 20, 22])
    (hc : [P.cellsOf f0.type, P.cellsOf f1.type, P.cellsOf f2.type, P.cellsOf f3.type, P.cellsOf f4.type, P.cellsOf f5.type, P.cellsOf f6.type, P.cellsOf f7.type, P.cellsOf f8.type, P.cellsOf f9.type] = [1, 1, 1, 1, 7, 3, 3, 3, 2, 16]) (hct : P.cellsOf t = 38)
    (h0 : P.underlying f0.type = some (.int .i64)) (h1 : P.underlying f1.type = some (.int .i64)) (h2 : P.underlying f2.type = some (.int .i64)) (h3 : P.underlying f3.type = some (.int .i64)) (h4 : Arg P f4.type Rp.ask) (h5 : Arg P f5.type Rp.done) (h6 : Arg P f6.type Rp.reach) (h7 : Arg P f7.type Rp.reach) (h8 : Arg P f8.type Rp.spot) (h9 : Arg P f9.type Rp.cmd) : Arg P t Rp.dop := by
  intro H enc w spare held fuel cs x h
  obtain ⟨xs, n, _, rfl, hl, hlen, hf⟩ := DataW.trod_struct ht h
  simp only [List.cons.injEq, and_true] at ho hc
  obtain ⟨o0, o1, o2, o3, o4, o5, o6, o7, o8, o9⟩ := ho
  obtain ⟨c0, c1, c2, c3, c4, c5, c6, c7, c8, c9⟩ := hc
  rw [hct] at hl
  match xs, hlen with
  | [y0, y1, y2, y3, y4, y5, y6, y7, y8, y9], _ =>
    have g0 := hf 0 f0 rfl
    have g1 := hf 1 f1 rfl
    have g2 := hf 2 f2 rfl
    have g3 := hf 3 f3 rfl
    have g4 := hf 4 f4 rfl
    have g5 := hf 5 f5 rfl
    have g6 := hf 6 f6 rfl
    have g7 := hf 7 f7 rfl
    have g8 := hf 8 f8 rfl
    have g9 := hf 9 f9 rfl
    match cs, hl with
    | d0 :: d1 :: d2 :: d3 :: d4 :: d5 :: d6 :: d7 :: d8 :: d9 :: d10 :: d11 :: d12 :: d13 :: d14 :: d15 :: d16 :: d17 :: d18 :: d19 :: d20 :: d21 :: d22 :: d23 :: d24 :: d25 :: d26 :: d27 :: d28 :: d29 :: d30 :: d31 :: d32 :: d33 :: d34 :: d35 :: d36 :: d37 :: [], _ =>
      rw [o0, c0] at g0
      rw [o1, c1] at g1
      rw [o2, c2] at g2
      rw [o3, c3] at g3
      rw [o4, c4] at g4
      rw [o5, c5] at g5
      rw [o6, c6] at g6
      rw [o7, c7] at g7
      rw [o8, c8] at g8
      rw [o9, c9] at g9
      simp only [List.drop_zero, List.drop_succ_cons, List.take_succ_cons, List.take_zero, List.getElem?_cons_zero, List.getElem?_cons_succ] at g0 g1 g2 g3 g4 g5 g6 g7 g8 g9
      obtain ⟨k0, e0, _, w0⟩ := DataW.trod_int h0 g0
      obtain ⟨k1, e1, _, w1⟩ := DataW.trod_int h1 g1
      obtain ⟨k2, e2, _, w2⟩ := DataW.trod_int h2 g2
      obtain ⟨k3, e3, _, w3⟩ := DataW.trod_int h3 g3
      obtain ⟨a, ⟨e4, w4⟩, hμ4⟩ := h4 g4
      obtain ⟨⟨dn1, dn2, dn3⟩, ⟨e5, w5⟩, _⟩ := h5 g5
      obtain ⟨ra, ⟨av, e6, w6, w6', hr6⟩, hμ6⟩ := h6 g6
      obtain ⟨rc, ⟨cv, e7, w7, w7', hr7⟩, hμ7⟩ := h7 g7
      obtain ⟨⟨s1, s2⟩, ⟨e8, w8⟩, _⟩ := h8 g8
      obtain ⟨cmd, ⟨hv, ov, e9, w9, hr9, hr10⟩, hμ9⟩ := h9 g9
      unfold AskL.cells at e4
      unfold CmdL.cells OpL.cells at e9
      simp only [List.cons.injEq, and_true, List.cons_append, List.nil_append] at e0 e1 e2 e3 e4 e5 e6 e7 e8 e9
      obtain ⟨p0, p1, p2, p3, p4, p5, p6⟩ := e4
      obtain ⟨q0, q1, q2⟩ := e5
      obtain ⟨r0, r1, r2⟩ := e6
      obtain ⟨s0, s1, s2⟩ := e7
      obtain ⟨u0, u1⟩ := e8
      obtain ⟨v0, v1, v2, v3, v4, v5, v6, v7, v8, v9, v10, v11, v12, v13, v14, v15⟩ := e9
      subst e0 e1 e2 e3 p0 p1 p2 p3 p4 p5 p6 q0 q1 q2 r0 r1 r2 s0 s1 s2 u0 u1 v0 v1 v2 v3 v4 v5 v6 v7 v8 v9 v10 v11 v12 v13 v14 v15
      refine ⟨⟨k0, k1, k2, k3, a, (dn1, dn2, dn3), ra, rc, (s1, s2), cmd⟩, ⟨_, _, _, _, rfl, ⟨⟨w0, w1, w2, w3⟩, w4, w5, ⟨w6, w6'⟩, ⟨w7, w7'⟩, w8, w9⟩, hr6, hr7, hr9, hr10⟩, ?_⟩
      have m4 : Rp.ask.μ a ≤ Rows.uptoBulk y4.1 := hμ4
      have m6 : Rp.reach.μ ra ≤ Rows.uptoBulk y6.1 := hμ6
      have m7 : Rp.reach.μ rc ≤ Rows.uptoBulk y7.1 := hμ7
      have m9 : Rp.cmd.μ cmd ≤ Rows.uptoBulk y9.1 := hμ9
      show Rp.ask.μ a + Rp.reach.μ ra + Rp.reach.μ rc + Rp.cmd.μ cmd ≤ _
      simp only [List.map_cons, List.map_nil, Rows.uptoBulk, Rows.uptoBulkAll]
      omega
def dopV (o : DopL) (av cv hv ov : Value) : Value := .agg #[.int .i64 o.k0, .int .i64 o.k1, .int .i64 o.k2, .int .i64 o.k3, .int .i64 o.ask.kind, .int .i64 o.ask.client, .int .i64 o.ask.seq, .string o.ask.name, .string o.ask.data, .int .i64 o.ask.mode, .int .i64 o.ask.lag, .int .i64 o.dn.1, .int .i64 o.dn.2.1, .int .i64 o.dn.2.2, .int .i64 o.ra.at1, .int .i64 o.ra.at2, av, .int .i64 o.rc.at1, .int .i64 o.rc.at2, cv, .int .i64 o.sb.1, .int .i64 o.sb.2, .int .i64 o.cmd.kind, .int .i64 o.cmd.epoch, .int .i64 o.cmd.site, .int .i64 o.cmd.op.n, .int .i64 o.cmd.op.epoch, .int .i64 o.cmd.op.kind, .int .i64 o.cmd.op.site, .int .i64 o.cmd.op.client, .int .i64 o.cmd.op.seq, .string o.cmd.op.name, .int .i64 o.cmd.op.size, hv, .int .i64 o.cmd.after, .int .i64 o.cmd.since, ov, .int .i64 o.cmd.tag]
/-- one of a list of calls -/
theorem Rp.at_dop {w : World} {S : Nat → Prop} {A : Option Addr} {c : Nat} {l : List DopL} (h : Rp.dop.slice.R w S [.slice A l.length c] l) {i : Nat} {x : DopL} (hi : l[i]? = some x) :
    ∃ ad RA ca RC cc H ch O co, A = some ad ∧ S ad.block ∧ (∀ (j : Nat) u, (x.cells (.slice RA x.ra.holes.length ca) (.slice RC x.rc.holes.length cc) (.slice H x.cmd.op.hashes.length ch) (.slice O x.cmd.ops.length co))[j]? = some u → w.cell? ((ad.add (i * 38)).add j) = some u) ∧ x.nums ∧
      (Rp.int .i64).slice.R w S [.slice RA x.ra.holes.length ca] x.ra.holes ∧ (Rp.int .i64).slice.R w S [.slice RC x.rc.holes.length cc] x.rc.holes ∧ Rp.str.slice.R w S [.slice H x.cmd.op.hashes.length ch] x.cmd.op.hashes ∧ Rp.opl.slice.R w S [.slice O x.cmd.ops.length co] x.cmd.ops := by
  obtain ⟨A2, c2, he, _, _, h3⟩ := h
  simp only [List.cons.injEq, Value.slice.injEq, and_true, true_and] at he
  obtain ⟨rfl, rfl⟩ := he
  have hl : 0 < l.length := by have := (List.getElem?_eq_some_iff.1 hi).1; omega
  obtain ⟨ad, rfl, hb, hc⟩ := h3 hl
  obtain ⟨es, he, av, cv, hv, ov, rfl, hn, h1, h2, h4, h5⟩ := hc i x hi
  obtain ⟨RA, ca, e1, _⟩ := id h1
  obtain ⟨RC, cc, e2, _⟩ := id h2
  obtain ⟨H, ch, e3, _⟩ := id h4
  obtain ⟨O, co, e4, _⟩ := id h5
  simp only [List.cons.injEq, and_true] at e1 e2 e3 e4
  subst e1 e2 e3 e4
  exact ⟨ad, RA, ca, RC, cc, H, ch, O, co, rfl, hb, fun j u hu => he j u hu, hn, h1, h2, h4, h5⟩
/-- one call, as an argument by itself -/
def Rd.dop : Rd DopL where
  R w S cs a := ∃ RA ca RC cc H ch O co, cs = [dopV a (.slice RA a.ra.holes.length ca) (.slice RC a.rc.holes.length cc) (.slice H a.cmd.op.hashes.length ch) (.slice O a.cmd.ops.length co)] ∧ a.nums ∧
    (Rp.int .i64).slice.R w S [.slice RA a.ra.holes.length ca] a.ra.holes ∧ (Rp.int .i64).slice.R w S [.slice RC a.rc.holes.length cc] a.rc.holes ∧ Rp.str.slice.R w S [.slice H a.cmd.op.hashes.length ch] a.cmd.op.hashes ∧ Rp.opl.slice.R w S [.slice O a.cmd.ops.length co] a.cmd.ops
  μ a := Rp.dop.μ a
theorem dop_arg {P : Program} {t : TypeId} {fs : Array Field} (ht : P.underlying t = some (.struct fs)) (ha : Arg P t Rp.dop)
    {H : Type} {enc : TypeId × Value → H} {w : World} {spare : Nat → Bool} {held : Bool} {r : Reach} {base : Nat} {v : Value} {d : DataW H} {p : List MemPlace}
    (hv : Value.okWide P w r base t v) (h : DataW.Trod enc P w 0 spare held t v d p) : ∃ a, Rd.dop.R w (fun k => k < w.heap.size) [v] a ∧ Rd.dop.μ a ≤ Rows.uptoBulk d := by
  obtain ⟨cs, rfl, hs⟩ := okWide_struct ht hv
  obtain ⟨fuel, hf⟩ := h
  have hcl : (Value.agg cs).cells.toList = cs.toList := rfl
  rw [hcl] at hf
  obtain ⟨a, ⟨av, cv, hv, ov, he, hn, h1, h2, h3, h4⟩, hμ⟩ := ha hf
  obtain ⟨RA, ca, e1, _⟩ := id h1
  obtain ⟨RC, cc, e2, _⟩ := id h2
  obtain ⟨H, ch, e3, _⟩ := id h3
  obtain ⟨O, co, e4, _⟩ := id h4
  simp only [List.cons.injEq, and_true] at e1 e2 e3 e4
  subst e1 e2 e3 e4
  refine ⟨a, ⟨RA, ca, RC, cc, H, ch, O, co, ?_, hn, h1, h2, h3, h4⟩, hμ⟩
  unfold dopV
  refine congrArg (fun x => [Value.agg x]) ?_
  rw [← Array.toList_inj, he]
  rfl
end Go.Proofs.YtamfgmlhopjppaaGreat
