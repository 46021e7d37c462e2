/-
  A sheet that came in: its reading and its way from the given statement.
-/
import Derived.Test.YtbncblnchcmgbaaBase
namespace Go.Proofs.Ytbncblnchcmgbaa
open Go.RowKit Go.ChangeShapes Go.WideShapes Go.ChangeAt

/-- readings of a whole value -/
structure Rd (α : Type) where
  R : World → (Nat → Prop) → List Value → α → Prop
  μ : α → Nat
/-- a sheet: a number and texts -/
def Rd.sheet : Rd (Int × List ByteArray) where
  R w S cs a := ∃ A c, cs = [.agg #[.int .i64 a.1, .slice A a.2.length c]] ∧ (Lit.int .i64 a.1).wf = true ∧ Rp.str.slice.R w S [.slice A a.2.length c] a.2
  μ a := Rp.str.slice.μ a.2
theorem sheet_arg {P : Program} {t : TypeId} {f0 f1 : Field} (ht : P.underlying t = some (.struct #[f0, f1])) (h0 : f0.offset = 0) (h1 : f1.offset = 1) (hc0 : P.cellsOf f0.type = 1) (hc1 : P.cellsOf f1.type = 1) (hi : P.underlying f0.type = some (.int .i64)) (ha : Arg P f1.type Rp.str.slice) (hc : P.cellsOf t = 2)
    {H : Type} {enc : TypeId × Value → H} {w : World} {spare : Nat → Bool} {held : Bool} {r : Reach} {base : Nat} {v : Value} {d : DataW H} {p : List MemPlace}
    (hv : Value.okWide P w r base t v) (h : DataW.Trod enc P w 0 spare held t v d p) : ∃ a, Rd.sheet.R w (fun k => k < w.heap.size) [v] a ∧ Rd.sheet.μ a ≤ Rows.uptoBulk d := by
  obtain ⟨cs, rfl, hs⟩ := okWide_struct ht hv
  obtain ⟨fuel, hf⟩ := h
  have hcl : (Value.agg cs).cells.toList = cs.toList := rfl
  rw [hcl] at hf
  obtain ⟨y0, y1, n, hx, hl, hy0, hy1⟩ := trod_struct2 ht hf
  rw [hc] at hl
  match hcs : cs.toList, hl with
  | [x, y], _ =>
    rw [hcs, h0, hc0] at hy0
    rw [hcs, h1, hc1] at hy1
    simp only [List.drop_zero, List.take_succ_cons, List.take_zero] at hy0
    simp only [List.drop_succ_cons, List.drop_zero, List.take_succ_cons, List.take_zero] at hy1
    obtain ⟨m, he, _, hw⟩ := DataW.trod_int hi hy0
    obtain ⟨l, hr, hμ⟩ := ha hy1
    obtain ⟨A, c, he2, _⟩ := id hr
    simp only [List.cons.injEq, and_true] at he he2
    subst he he2
    have hcs2 : cs = #[.int .i64 m, .slice A l.length c] := by rw [← Array.toList_inj, hcs]
    subst hcs2
    refine ⟨(m, l), ⟨A, c, rfl, hw, hr⟩, ?_⟩
    simp only [Prod.mk.injEq] at hx
    rw [hx.1]
    simp only [Rd.sheet, Rows.uptoBulk, Rows.uptoBulkAll]
    omega
end Go.Proofs.Ytbncblnchcmgbaa
