/-
  Turns that came in (redoubtlaw12.Turn): their reading.
-/
import Derived.Test.YtbncblnchcmgbaaOpL
namespace Go.Proofs.Ytbncblnchcmgbaa
open Go.RowKit Go.ChangeShapes Go.WideShapes Go.ChangeAt

structure TurnL where
  kind : Int
  site : Int
  at_ : Int
  some_ : Int
  op : OpL
namespace TurnL
def cells (t : TurnL) (hv : Value) : List Value := [.int .i64 t.kind, .int .i64 t.site, .int .i64 t.at_, .int .i64 t.some_] ++ t.op.cells hv
def nums (t : TurnL) : Prop := I64 t.kind ∧ I64 t.site ∧ I64 t.at_ ∧ I64 t.some_ ∧ t.op.nums
end TurnL
def Rp.turn : Rp TurnL where
  size := 13
  R w S cs a := ∃ hv, cs = a.cells hv ∧ a.nums ∧ Rp.str.slice.R w S [hv] a.op.hashes
  μ a := Rp.opl.μ a.op
  pos := by omega
  len := by rintro w S cs a ⟨hv, rfl, _⟩; rfl
  keep := by
    rintro w w' S S' cs a hs hk ⟨hv, rfl, h1, h2⟩
    exact ⟨hv, rfl, h1, Rp.str.slice.keep hs hk h2⟩
  bnd := by
    rintro w S cs a ⟨hv, rfl, h1, h2⟩
    exact ⟨hv, rfl, h1, Rp.str.slice.bnd h2⟩
theorem Arg.turn {P : Program} {t : TypeId} {f0 f1 f2 f3 f4 : Field} (ht : P.underlying t = some (.struct #[f0, f1, f2, f3, f4])) (ho : [f0.offset, f1.offset, f2.offset, f3.offset, f4.offset] = [0, 1, 2, 3, 4])
    (hc : [P.cellsOf f0.type, P.cellsOf f1.type, P.cellsOf f2.type, P.cellsOf f3.type, P.cellsOf f4.type] = [1, 1, 1, 1, 9]) (hct : P.cellsOf t = 13)
    (h0 : P.underlying f0.type = some (.int .i64)) (h1 : P.underlying f1.type = some (.int .i64)) (h2 : P.underlying f2.type = some (.int .i64)) (h3 : P.underlying f3.type = some (.int .i64)) (h4 : Arg P f4.type Rp.opl) : Arg P t Rp.turn := by
  intro H enc w spare held fuel cs x h
  obtain ⟨xs, n, _, rfl, hl, hlen, hf⟩ := DataW.trod_struct ht h
  simp only [List.cons.injEq, and_true] at ho hc
  obtain ⟨o0, o1, o2, o3, o4⟩ := ho
  obtain ⟨c0, c1, c2, c3, c4⟩ := hc
  rw [hct] at hl
  match xs, hlen with
  | [y0, y1, y2, y3, y4], _ =>
    have g0 := hf 0 f0 rfl
    have g1 := hf 1 f1 rfl
    have g2 := hf 2 f2 rfl
    have g3 := hf 3 f3 rfl
    have g4 := hf 4 f4 rfl
    match cs, hl with
    | [d0, d1, d2, d3, d4, d5, d6, d7, d8, d9, d10, d11, d12], _ =>
      rw [o0, c0] at g0
      rw [o1, c1] at g1
      rw [o2, c2] at g2
      rw [o3, c3] at g3
      rw [o4, c4] at g4
      simp only [List.drop_zero, List.drop_succ_cons, List.take_succ_cons, List.take_zero, List.getElem?_cons_zero, List.getElem?_cons_succ] at g0 g1 g2 g3 g4
      obtain ⟨k0, e0, _, w0⟩ := DataW.trod_int h0 g0
      obtain ⟨k1, e1, _, w1⟩ := DataW.trod_int h1 g1
      obtain ⟨k2, e2, _, w2⟩ := DataW.trod_int h2 g2
      obtain ⟨k3, e3, _, w3⟩ := DataW.trod_int h3 g3
      obtain ⟨op, ⟨hv, e4, w4, hr4⟩, hμ4⟩ := h4 g4
      unfold OpL.cells at e4
      simp only [List.cons.injEq, and_true] at e0 e1 e2 e3 e4
      obtain ⟨p0, p1, p2, p3, p4, p5, p6, p7, p8⟩ := e4
      subst e0 e1 e2 e3 p0 p1 p2 p3 p4 p5 p6 p7 p8
      refine ⟨⟨k0, k1, k2, k3, op⟩, ⟨_, rfl, ⟨w0, w1, w2, w3, w4⟩, hr4⟩, ?_⟩
      have h4' : Rp.opl.μ op ≤ Rows.uptoBulk y4.1 := hμ4
      show Rp.opl.μ op ≤ _
      simp only [List.map_cons, List.map_nil, Rows.uptoBulk, Rows.uptoBulkAll]
      omega
theorem Rp.at_turn {w : World} {S : Nat → Prop} {A : Option Addr} {c : Nat} {l : List TurnL} (h : Rp.turn.slice.R w S [.slice A l.length c] l) {i : Nat} {x : TurnL} (hi : l[i]? = some x) :
    ∃ ad A' c', A = some ad ∧ S ad.block ∧ (∀ (j : Nat) u, (x.cells (.slice A' x.op.hashes.length c'))[j]? = some u → w.cell? ((ad.add (i * 13)).add j) = some u) ∧ x.nums ∧ Rp.str.slice.R w S [.slice A' x.op.hashes.length c'] x.op.hashes := by
  obtain ⟨A2, c2, he, _, _, h3⟩ := h
  simp only [List.cons.injEq, Value.slice.injEq, and_true, true_and] at he
  obtain ⟨rfl, rfl⟩ := he
  have hl : 0 < l.length := by have := (List.getElem?_eq_some_iff.1 hi).1; omega
  obtain ⟨ad, rfl, hb, hc⟩ := h3 hl
  obtain ⟨es, he, hv, rfl, hn, h1⟩ := hc i x hi
  obtain ⟨A', c', e1, _⟩ := id h1
  simp only [List.cons.injEq, and_true] at e1
  subst e1
  exact ⟨ad, A', c', rfl, hb, fun j u hu => he j u hu, hn, h1⟩
theorem turn_cells {w : World} {ad : Addr} {t : TurnL} {hv : Value} (h : ∀ (j : Nat) u, (t.cells hv)[j]? = some u → w.cell? (ad.add j) = some u) :
    w.cell? ad = some (.int .i64 t.kind) ∧ w.cell? ⟨ad.block, ad.off + 1, none⟩ = some (.int .i64 t.site) ∧ w.cell? ⟨ad.block, ad.off + 2, none⟩ = some (.int .i64 t.at_) ∧ w.cell? ⟨ad.block, ad.off + 3, none⟩ = some (.int .i64 t.some_) ∧
    w.cell? ⟨ad.block, ad.off + 4, none⟩ = some (.int .i64 t.op.n) ∧ w.cell? ⟨ad.block, ad.off + 5, none⟩ = some (.int .i64 t.op.epoch) ∧ w.cell? ⟨ad.block, ad.off + 6, none⟩ = some (.int .i64 t.op.kind) ∧ w.cell? ⟨ad.block, ad.off + 7, none⟩ = some (.int .i64 t.op.site) ∧
    w.cell? ⟨ad.block, ad.off + 8, none⟩ = some (.int .i64 t.op.client) ∧ w.cell? ⟨ad.block, ad.off + 9, none⟩ = some (.int .i64 t.op.seq) ∧ w.cell? ⟨ad.block, ad.off + 10, none⟩ = some (.string t.op.name) ∧ w.cell? ⟨ad.block, ad.off + 11, none⟩ = some (.int .i64 t.op.size) ∧ w.cell? ⟨ad.block, ad.off + 12, none⟩ = some hv :=
  ⟨h 0 _ rfl, h 1 _ rfl, h 2 _ rfl, h 3 _ rfl, h 4 _ rfl, h 5 _ rfl, h 6 _ rfl, h 7 _ rfl, h 8 _ rfl, h 9 _ rfl, h 10 _ rfl, h 11 _ rfl, h 12 _ rfl⟩
end Go.Proofs.Ytbncblnchcmgbaa
