/-
  One call of a drive, as an argument by itself.
-/
import Derived.Test.YtflodiljgphkdaaShtA
import Derived.Test.YtflodiljgphkdaaOpA
namespace Go.Proofs.Ytflodiljgphkdaa
open Go.RowKit Go.ChangeShapes Go.WideShapes Go.ChangeAt

def Rd.op : Rd OpV where
  R w S cs a := ∃ A c, cs = [.agg #[.int .i64 a.kind, .string a.name, .string a.data, .int .i64 a.n, .slice A a.keeps.length c]] ∧ a.name.size ≤ maxLen ∧ a.data.size ≤ maxLen ∧ (Lit.int .i64 a.kind).wf = true ∧ (Lit.int .i64 a.n).wf = true ∧ (Rp.int .i64).slice.R w S [.slice A a.keeps.length c] a.keeps
  μ a := Rp.op.μ a
theorem op_arg {P : Program} {t : TypeId} {fs : Array Field} (ht : P.underlying t = some (.struct fs)) (ha : Arg P t Rp.op)
    {H : Type} {enc : TypeId × Value → H} {w : World} {spare : Nat → Bool} {held : Bool} {r : Reach} {base : Nat} {v : Value} {d : DataW H} {p : List MemPlace}
    (hv : Value.okWide P w r base t v) (h : DataW.Trod enc P w 0 spare held t v d p) : ∃ a, Rd.op.R w (fun k => k < w.heap.size) [v] a ∧ Rd.op.μ a ≤ Rows.uptoBulk d := by
  obtain ⟨cs, rfl, hs⟩ := okWide_struct ht hv
  obtain ⟨fuel, hf⟩ := h
  have hcl : (Value.agg cs).cells.toList = cs.toList := rfl
  rw [hcl] at hf
  obtain ⟨a, ⟨v, he, w0, w1, w2, w3, hk⟩, hμ⟩ := ha hf
  obtain ⟨A, c, hv2, _⟩ := id hk
  simp only [List.cons.injEq, and_true] at hv2
  subst hv2
  have hcs : cs = #[.int .i64 a.kind, .string a.name, .string a.data, .int .i64 a.n, .slice A a.keeps.length c] := by rw [← Array.toList_inj, he]
  subst hcs
  exact ⟨a, ⟨A, c, rfl, w1, w2, w0, w3, hk⟩, hμ⟩
end Go.Proofs.Ytflodiljgphkdaa
