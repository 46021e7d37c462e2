/-
  A call of a drive that came in (redoubtlaw05.Op): its reading and its way from the given statement.
-/
import Derived.Test.YtflodiljgphkdaaBase
namespace Go.Proofs.Ytflodiljgphkdaa
open Go.RowKit Go.ChangeShapes Go.WideShapes Go.ChangeAt

structure OpV where
  kind : Int
  name : ByteArray
  data : ByteArray
  n : Int
  keeps : List Int
def Rp.op : Rp OpV where
  size := 5
  R w S cs a := ∃ v, cs = [.int .i64 a.kind, .string a.name, .string a.data, .int .i64 a.n, v] ∧ (Lit.int .i64 a.kind).wf = true ∧ a.name.size ≤ maxLen ∧ a.data.size ≤ maxLen ∧ (Lit.int .i64 a.n).wf = true ∧ (Rp.int .i64).slice.R w S [v] a.keeps
  μ a := a.name.size + a.data.size + (Rp.int .i64).slice.μ a.keeps
  pos := by omega
  len := by rintro w S cs a ⟨v, rfl, _⟩; rfl
  keep := by
    rintro w w' S S' cs a hs hk ⟨v, rfl, h1, h2, h3, h4, h5⟩
    exact ⟨v, rfl, h1, h2, h3, h4, (Rp.int .i64).slice.keep hs hk h5⟩
  bnd := by
    rintro w S cs a ⟨v, rfl, h1, h2, h3, h4, h5⟩
    exact ⟨v, rfl, h1, h2, h3, h4, (Rp.int .i64).slice.bnd h5⟩

theorem Arg.op {P : Program} {t : TypeId} {f0 f1 f2 f3 f4 : Field} (ht : P.underlying t = some (.struct #[f0, f1, f2, f3, f4])) (ho : [f0.offset, f1.offset, f2.offset, f3.offset, f4.offset] = [0, 1, 2, 3, 4])
    (hc : [P.cellsOf f0.type, P.cellsOf f1.type, P.cellsOf f2.type, P.cellsOf f3.type, P.cellsOf f4.type] = [1, 1, 1, 1, 1]) (hct : P.cellsOf t = 5)
    (h0 : P.underlying f0.type = some (.int .i64)) (h1 : P.underlying f1.type = some .string) (h2 : P.underlying f2.type = some .string) (h3 : P.underlying f3.type = some (.int .i64)) (h4 : Arg P f4.type (Rp.int .i64).slice) : Arg P t Rp.op := by
  intro H enc w spare held fuel cs x h
  obtain ⟨xs, n, _, rfl, hl, hlen, hf⟩ := DataW.trod_struct ht h
  simp only [List.cons.injEq, and_true] at ho hc
  obtain ⟨o0, o1, o2, o3, o4⟩ := ho
  obtain ⟨c0, c1, c2, c3, c4⟩ := hc
  rw [hct] at hl
  match xs, hlen with
  | [y0, y1, y2, y3, y4], _ =>
    have g0 := hf 0 f0 rfl
    have g1 := hf 1 f1 rfl
    have g2 := hf 2 f2 rfl
    have g3 := hf 3 f3 rfl
    have g4 := hf 4 f4 rfl
    match cs, hl with
    | [a, b, c, d, e], _ =>
      rw [o0, c0] at g0
      rw [o1, c1] at g1
      rw [o2, c2] at g2
      rw [o3, c3] at g3
      rw [o4, c4] at g4
      simp only [List.drop_zero, List.drop_succ_cons, List.take_succ_cons, List.take_zero, List.getElem?_cons_zero, List.getElem?_cons_succ] at g0 g1 g2 g3 g4
      obtain ⟨k, e0, e0', w0⟩ := DataW.trod_int h0 g0
      obtain ⟨s1, e1, e1', w1⟩ := DataW.trod_string h1 g1
      obtain ⟨s2, e2, e2', w2⟩ := DataW.trod_string h2 g2
      obtain ⟨m, e3, e3', w3⟩ := DataW.trod_int h3 g3
      obtain ⟨l, hr, hμ⟩ := h4 g4
      simp only [List.cons.injEq, and_true] at e0 e1 e2 e3
      subst e0 e1 e2 e3
      refine ⟨⟨k, s1, s2, m, l⟩, ⟨e, rfl, w0, w1, w2, w3, hr⟩, ?_⟩
      have hμ' : (Rp.int .i64).slice.μ l ≤ Rows.uptoBulk y4.1 := hμ
      have b1 : s1.size ≤ Rows.uptoBulk y1.1 := by rw [e1']; simp [Rows.uptoBulk]
      have b2 : s2.size ≤ Rows.uptoBulk y2.1 := by rw [e2']; simp [Rows.uptoBulk]
      show s1.size + s2.size + (Rp.int .i64).slice.μ l ≤ _
      simp only [List.map_cons, List.map_nil, Rows.uptoBulk, Rows.uptoBulkAll]
      omega
end Go.Proofs.Ytflodiljgphkdaa
