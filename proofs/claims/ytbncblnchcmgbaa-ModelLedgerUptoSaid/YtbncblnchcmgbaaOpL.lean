/-
  Operations and commands that came in (api.Op, api.Command): their reading.
-/
import Derived.Test.YtbncblnchcmgbaaOwn
namespace Go.Proofs.Ytbncblnchcmgbaa
open Go.RowKit Go.ChangeShapes Go.WideShapes Go.ChangeAt

/-- an operation -/
structure OpL where
  n : Int
  epoch : Int
  kind : Int
  site : Int
  client : Int
  seq : Int
  name : ByteArray
  size : Int
  hashes : List ByteArray
def I64 (x : Int) : Prop := (Lit.int .i64 x).wf = true
namespace OpL
/-- its cells, the hashes as a value -/
def cells (o : OpL) (v : Value) : List Value := [.int .i64 o.n, .int .i64 o.epoch, .int .i64 o.kind, .int .i64 o.site, .int .i64 o.client, .int .i64 o.seq, .string o.name, .int .i64 o.size, v]
/-- its numbers are such -/
def nums (o : OpL) : Prop := I64 o.n ∧ I64 o.epoch ∧ I64 o.kind ∧ I64 o.site ∧ I64 o.client ∧ I64 o.seq ∧ o.name.size ≤ maxLen ∧ I64 o.size
end OpL
def Rp.opl : Rp OpL where
  size := 9
  R w S cs a := ∃ v, cs = a.cells v ∧ a.nums ∧ Rp.str.slice.R w S [v] a.hashes
  μ a := a.name.size + Rp.str.slice.μ a.hashes
  pos := by omega
  len := by rintro w S cs a ⟨v, rfl, _⟩; rfl
  keep := by
    rintro w w' S S' cs a hs hk ⟨v, rfl, h1, h2⟩
    exact ⟨v, rfl, h1, Rp.str.slice.keep hs hk h2⟩
  bnd := by
    rintro w S cs a ⟨v, rfl, h1, h2⟩
    exact ⟨v, rfl, h1, Rp.str.slice.bnd h2⟩
/-- a sheet -/
def Rp.sht : Rp (Int × List ByteArray) where
  size := 2
  R w S cs a := ∃ v, cs = [.int .i64 a.1, v] ∧ I64 a.1 ∧ Rp.str.slice.R w S [v] a.2
  μ a := Rp.str.slice.μ a.2
  pos := by omega
  len := by rintro w S cs a ⟨v, rfl, _⟩; rfl
  keep := by
    rintro w w' S S' cs a hs hk ⟨v, rfl, h1, h2⟩
    exact ⟨v, rfl, h1, Rp.str.slice.keep hs hk h2⟩
  bnd := by
    rintro w S cs a ⟨v, rfl, h1, h2⟩
    exact ⟨v, rfl, h1, Rp.str.slice.bnd h2⟩
theorem Arg.sht {P : Program} {t : TypeId} {f0 f1 : Field} (ht : P.underlying t = some (.struct #[f0, f1])) (ho : [f0.offset, f1.offset] = [0, 1]) (hc : [P.cellsOf f0.type, P.cellsOf f1.type] = [1, 1]) (hct : P.cellsOf t = 2)
    (h0 : P.underlying f0.type = some (.int .i64)) (h1 : Arg P f1.type Rp.str.slice) : Arg P t Rp.sht := by
  intro H enc w spare held fuel cs x h
  obtain ⟨xs, n, _, rfl, hl, hlen, hf⟩ := DataW.trod_struct ht h
  simp only [List.cons.injEq, and_true] at ho hc
  obtain ⟨o0, o1⟩ := ho
  obtain ⟨c0, c1⟩ := hc
  rw [hct] at hl
  match xs, hlen with
  | [y0, y1], _ =>
    have g0 := hf 0 f0 rfl
    have g1 := hf 1 f1 rfl
    match cs, hl with
    | [a, b], _ =>
      rw [o0, c0] at g0
      rw [o1, c1] at g1
      simp only [List.drop_zero, List.drop_succ_cons, List.take_succ_cons, List.take_zero, List.getElem?_cons_zero, List.getElem?_cons_succ] at g0 g1
      obtain ⟨k, e0, e0', w0⟩ := DataW.trod_int h0 g0
      obtain ⟨l, hr, hμ⟩ := h1 g1
      simp only [List.cons.injEq, and_true] at e0
      subst e0
      refine ⟨(k, l), ⟨b, rfl, w0, hr⟩, ?_⟩
      have hμ' : Rp.str.slice.μ l ≤ Rows.uptoBulk y1.1 := hμ
      show Rp.str.slice.μ l ≤ _
      simp only [List.map_cons, List.map_nil, Rows.uptoBulk, Rows.uptoBulkAll]
      omega
theorem Arg.opl {P : Program} {t : TypeId} {f0 f1 f2 f3 f4 f5 f6 f7 : Field} (ht : P.underlying t = some (.struct #[f0, f1, f2, f3, f4, f5, f6, f7])) (ho : [f0.offset, f1.offset, f2.offset, f3.offset, f4.offset, f5.offset, f6.offset, f7.offset] = [0, 1, 2, 3, 4, 5, 6, 7])
    (hc : [P.cellsOf f0.type, P.cellsOf f1.type, P.cellsOf f2.type, P.cellsOf f3.type, P.cellsOf f4.type, P.cellsOf f5.type, P.cellsOf f6.type, P.cellsOf f7.type] = [1, 1, 1, 1, 1, 1, 1, 2]) (hct : P.cellsOf t = 9)
    (h0 : P.underlying f0.type = some (.int .i64)) (h1 : P.underlying f1.type = some (.int .i64)) (h2 : P.underlying f2.type = some (.int .i64)) (h3 : P.underlying f3.type = some (.int .i64)) (h4 : P.underlying f4.type = some (.int .i64)) (h5 : P.underlying f5.type = some (.int .i64)) (h6 : P.underlying f6.type = some .string) (h7 : Arg P f7.type Rp.sht) : Arg P t Rp.opl := by
  intro H enc w spare held fuel cs x h
  obtain ⟨xs, n, _, rfl, hl, hlen, hf⟩ := DataW.trod_struct ht h
  simp only [List.cons.injEq, and_true] at ho hc
  obtain ⟨o0, o1, o2, o3, o4, o5, o6, o7⟩ := ho
  obtain ⟨c0, c1, c2, c3, c4, c5, c6, c7⟩ := hc
  rw [hct] at hl
  match xs, hlen with
  | [y0, y1, y2, y3, y4, y5, y6, y7], _ =>
    have g0 := hf 0 f0 rfl
    have g1 := hf 1 f1 rfl
    have g2 := hf 2 f2 rfl
    have g3 := hf 3 f3 rfl
    have g4 := hf 4 f4 rfl
    have g5 := hf 5 f5 rfl
    have g6 := hf 6 f6 rfl
    have g7 := hf 7 f7 rfl
    match cs, hl with
    | [d0, d1, d2, d3, d4, d5, d6, d7, d8], _ =>
      rw [o0, c0] at g0
      rw [o1, c1] at g1
      rw [o2, c2] at g2
      rw [o3, c3] at g3
      rw [o4, c4] at g4
      rw [o5, c5] at g5
      rw [o6, c6] at g6
      rw [o7, c7] at g7
      simp only [List.drop_zero, List.drop_succ_cons, List.take_succ_cons, List.take_zero, List.getElem?_cons_zero, List.getElem?_cons_succ] at g0 g1 g2 g3 g4 g5 g6 g7
      obtain ⟨k0, e0, _, w0⟩ := DataW.trod_int h0 g0
      obtain ⟨k1, e1, _, w1⟩ := DataW.trod_int h1 g1
      obtain ⟨k2, e2, _, w2⟩ := DataW.trod_int h2 g2
      obtain ⟨k3, e3, _, w3⟩ := DataW.trod_int h3 g3
      obtain ⟨k4, e4, _, w4⟩ := DataW.trod_int h4 g4
      obtain ⟨k5, e5, _, w5⟩ := DataW.trod_int h5 g5
      obtain ⟨s6, e6, e6', w6⟩ := DataW.trod_string h6 g6
      obtain ⟨⟨k7, l7⟩, ⟨v, e7, w7, hr⟩, hμ⟩ := h7 g7
      simp only [List.cons.injEq, and_true] at e0 e1 e2 e3 e4 e5 e6 e7
      obtain ⟨e7, rfl⟩ := e7
      subst e0 e1 e2 e3 e4 e5 e6 e7
      refine ⟨⟨k0, k1, k2, k3, k4, k5, s6, k7, l7⟩, ⟨d8, rfl, ⟨w0, w1, w2, w3, w4, w5, w6, w7⟩, hr⟩, ?_⟩
      have hμ' : Rp.str.slice.μ l7 ≤ Rows.uptoBulk y7.1 := hμ
      have b6 : s6.size ≤ Rows.uptoBulk y6.1 := by rw [e6']; simp [Rows.uptoBulk]
      show s6.size + Rp.str.slice.μ l7 ≤ _
      simp only [List.map_cons, List.map_nil, Rows.uptoBulk, Rows.uptoBulkAll]
      omega

/-- a command -/
structure CmdL where
  kind : Int
  epoch : Int
  site : Int
  op : OpL
  after : Int
  since : Int
  ops : List OpL
  tag : Int
namespace CmdL
/-- its cells, the hashes and the operations as values -/
def cells (c : CmdL) (hv ov : Value) : List Value := [.int .i64 c.kind, .int .i64 c.epoch, .int .i64 c.site] ++ c.op.cells hv ++ [.int .i64 c.after, .int .i64 c.since, ov, .int .i64 c.tag]
def nums (c : CmdL) : Prop := I64 c.kind ∧ I64 c.epoch ∧ I64 c.site ∧ c.op.nums ∧ I64 c.after ∧ I64 c.since ∧ I64 c.tag
end CmdL
def Rp.cmd : Rp CmdL where
  size := 16
  R w S cs a := ∃ hv ov, cs = a.cells hv ov ∧ a.nums ∧ Rp.str.slice.R w S [hv] a.op.hashes ∧ Rp.opl.slice.R w S [ov] a.ops
  μ a := Rp.opl.μ a.op + Rp.opl.slice.μ a.ops
  pos := by omega
  len := by rintro w S cs a ⟨hv, ov, rfl, _⟩; rfl
  keep := by
    rintro w w' S S' cs a hs hk ⟨hv, ov, rfl, h1, h2, h3⟩
    exact ⟨hv, ov, rfl, h1, Rp.str.slice.keep hs hk h2, Rp.opl.slice.keep hs hk h3⟩
  bnd := by
    rintro w S cs a ⟨hv, ov, rfl, h1, h2, h3⟩
    exact ⟨hv, ov, rfl, h1, Rp.str.slice.bnd h2, Rp.opl.slice.bnd h3⟩
theorem Arg.cmd {P : Program} {t : TypeId} {f0 f1 f2 f3 f4 f5 f6 f7 : Field} (ht : P.underlying t = some (.struct #[f0, f1, f2, f3, f4, f5, f6, f7])) (ho : [f0.offset, f1.offset, f2.offset, f3.offset, f4.offset, f5.offset, f6.offset, f7.offset] = [0, 1, 2, 3, 12, 13, 14, 15])
    (hc : [P.cellsOf f0.type, P.cellsOf f1.type, P.cellsOf f2.type, P.cellsOf f3.type, P.cellsOf f4.type, P.cellsOf f5.type, P.cellsOf f6.type, P.cellsOf f7.type] = [1, 1, 1, 9, 1, 1, 1, 1]) (hct : P.cellsOf t = 16)
    (h0 : P.underlying f0.type = some (.int .i64)) (h1 : P.underlying f1.type = some (.int .i64)) (h2 : P.underlying f2.type = some (.int .i64)) (h3 : Arg P f3.type Rp.opl) (h4 : P.underlying f4.type = some (.int .i64)) (h5 : P.underlying f5.type = some (.int .i64)) (h6 : Arg P f6.type Rp.opl.slice) (h7 : P.underlying f7.type = some (.int .i64)) : Arg P t Rp.cmd := by
  intro H enc w spare held fuel cs x h
  obtain ⟨xs, n, _, rfl, hl, hlen, hf⟩ := DataW.trod_struct ht h
  simp only [List.cons.injEq, and_true] at ho hc
  obtain ⟨o0, o1, o2, o3, o4, o5, o6, o7⟩ := ho
  obtain ⟨c0, c1, c2, c3, c4, c5, c6, c7⟩ := hc
  rw [hct] at hl
  match xs, hlen with
  | [y0, y1, y2, y3, y4, y5, y6, y7], _ =>
    have g0 := hf 0 f0 rfl
    have g1 := hf 1 f1 rfl
    have g2 := hf 2 f2 rfl
    have g3 := hf 3 f3 rfl
    have g4 := hf 4 f4 rfl
    have g5 := hf 5 f5 rfl
    have g6 := hf 6 f6 rfl
    have g7 := hf 7 f7 rfl
    match cs, hl with
    | [d0, d1, d2, d3, d4, d5, d6, d7, d8, d9, d10, d11, d12, d13, d14, d15], _ =>
      rw [o0, c0] at g0
      rw [o1, c1] at g1
      rw [o2, c2] at g2
      rw [o3, c3] at g3
      rw [o4, c4] at g4
      rw [o5, c5] at g5
      rw [o6, c6] at g6
      rw [o7, c7] at g7
      simp only [List.drop_zero, List.drop_succ_cons, List.take_succ_cons, List.take_zero, List.getElem?_cons_zero, List.getElem?_cons_succ] at g0 g1 g2 g3 g4 g5 g6 g7
      obtain ⟨k0, e0, _, w0⟩ := DataW.trod_int h0 g0
      obtain ⟨k1, e1, _, w1⟩ := DataW.trod_int h1 g1
      obtain ⟨k2, e2, _, w2⟩ := DataW.trod_int h2 g2
      obtain ⟨op, ⟨hv, e3, w3, hr3⟩, hμ3⟩ := h3 g3
      obtain ⟨k4, e4, _, w4⟩ := DataW.trod_int h4 g4
      obtain ⟨k5, e5, _, w5⟩ := DataW.trod_int h5 g5
      obtain ⟨l6, hr6, hμ6⟩ := h6 g6
      obtain ⟨k7, e7, _, w7⟩ := DataW.trod_int h7 g7
      unfold OpL.cells at e3
      simp only [List.cons.injEq, and_true] at e0 e1 e2 e3 e4 e5 e7
      obtain ⟨p0, p1, p2, p3, p4, p5, p6, p7, p8⟩ := e3
      subst e0 e1 e2 e4 e5 e7 p0 p1 p2 p3 p4 p5 p6 p7 p8
      refine ⟨⟨k0, k1, k2, op, k4, k5, l6, k7⟩, ⟨_, d14, rfl, ⟨w0, w1, w2, w3, w4, w5, w7⟩, hr3, hr6⟩, ?_⟩
      have h3' : Rp.opl.μ op ≤ Rows.uptoBulk y3.1 := hμ3
      have h6' : Rp.opl.slice.μ l6 ≤ Rows.uptoBulk y6.1 := hμ6
      show Rp.opl.μ op + Rp.opl.slice.μ l6 ≤ _
      simp only [List.map_cons, List.map_nil, Rows.uptoBulk, Rows.uptoBulkAll]
      omega

/-- one of a list of operations -/
theorem Rp.at_opl {w : World} {S : Nat → Prop} {A : Option Addr} {c : Nat} {l : List OpL} (h : Rp.opl.slice.R w S [.slice A l.length c] l) {i : Nat} {o : OpL} (hi : l[i]? = some o) :
    ∃ ad A' c', A = some ad ∧ S ad.block ∧ (∀ (j : Nat) u, (o.cells (.slice A' o.hashes.length c'))[j]? = some u → w.cell? ((ad.add (i * 9)).add j) = some u) ∧ o.nums ∧ Rp.str.slice.R w S [.slice A' o.hashes.length c'] o.hashes := by
  obtain ⟨A2, c2, he, _, _, h3⟩ := h
  simp only [List.cons.injEq, Value.slice.injEq, and_true, true_and] at he
  obtain ⟨rfl, rfl⟩ := he
  have hl : 0 < l.length := by have := (List.getElem?_eq_some_iff.1 hi).1; omega
  obtain ⟨ad, rfl, hb, hc⟩ := h3 hl
  obtain ⟨es, he, v, rfl, hn, hks⟩ := hc i o hi
  obtain ⟨A', c', hv, _⟩ := id hks
  simp only [List.cons.injEq, and_true] at hv
  subst hv
  exact ⟨ad, A', c', rfl, hb, fun j u hu => he j u hu, hn, hks⟩
end Go.Proofs.Ytbncblnchcmgbaa
