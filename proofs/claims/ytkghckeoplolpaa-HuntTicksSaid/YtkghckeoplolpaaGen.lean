/-
  More of the shared library: rows of rows read; what the first library lacked.
-/
import Derived.Test.YtkghckeoplolpaaOwn
namespace Go.Proofs.Ytkghckeoplolpaa
open Go.RowKit Go.ChangeShapes Go.WideShapes Go.ChangeAt

/-- An element of a slice of slices. -/
theorem Rp.at_slice {α : Type} {E : Rp α} {w S A c} {l : List (List α)} (h : E.slice.slice.R w S [.slice A l.length c] l) {i : Nat} {a : List α} (hi : l[i]? = some a) :
    ∃ ad A' c', A = some ad ∧ S ad.block ∧ w.cell? (ad.add i) = some (.slice A' a.length c') ∧ E.slice.R w S [.slice A' a.length c'] a := by
  obtain ⟨ad, u, h1, h2, h3, h4⟩ := Rp.at_ rfl h hi
  obtain ⟨A', c', he, h5⟩ := id h4
  simp only [List.cons.injEq, and_true] at he
  subst he
  exact ⟨ad, A', c', h1, h2, h3, h4⟩
end Go.Proofs.Ytkghckeoplolpaa
