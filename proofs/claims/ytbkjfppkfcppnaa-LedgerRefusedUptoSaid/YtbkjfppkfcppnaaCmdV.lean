/-
  One command, as an argument by itself.
-/
import Derived.Test.YtbkjfppkfcppnaaShtA
import Derived.Test.YtbkjfppkfcppnaaDeed7
namespace Go.Proofs.Ytbkjfppkfcppnaa
open Go.RowKit Go.ChangeShapes Go.WideShapes Go.ChangeAt

def Rd.cmd : Rd CmdL where
  R w S cs a := ∃ A c B d, cs = [cmdV a (.slice A a.op.hashes.length c) (.slice B a.ops.length d)] ∧ a.nums ∧ Rp.str.slice.R w S [.slice A a.op.hashes.length c] a.op.hashes ∧ Rp.opl.slice.R w S [.slice B a.ops.length d] a.ops
  μ a := Rp.cmd.μ a
theorem cmd_arg {P : Program} {t : TypeId} {fs : Array Field} (ht : P.underlying t = some (.struct fs)) (ha : Arg P t Rp.cmd)
    {H : Type} {enc : TypeId × Value → H} {w : World} {spare : Nat → Bool} {held : Bool} {r : Reach} {base : Nat} {v : Value} {d : DataW H} {p : List MemPlace}
    (hv : Value.okWide P w r base t v) (h : DataW.Trod enc P w 0 spare held t v d p) : ∃ a, Rd.cmd.R w (fun k => k < w.heap.size) [v] a ∧ Rd.cmd.μ a ≤ Rows.uptoBulk d := by
  obtain ⟨cs, rfl, hs⟩ := okWide_struct ht hv
  obtain ⟨fuel, hf⟩ := h
  have hcl : (Value.agg cs).cells.toList = cs.toList := rfl
  rw [hcl] at hf
  obtain ⟨a, ⟨hv, ov, he, hn, hh, ho⟩, hμ⟩ := ha hf
  obtain ⟨A, c, e1, _⟩ := id hh
  obtain ⟨B, d, e2, _⟩ := id ho
  simp only [List.cons.injEq, and_true] at e1 e2
  subst e1 e2
  refine ⟨a, ⟨A, c, B, d, ?_, hn, hh, ho⟩, hμ⟩
  unfold cmdV
  refine congrArg (fun x => [Value.agg x]) ?_
  rw [← Array.toList_inj, he]
  rfl
end Go.Proofs.Ytbkjfppkfcppnaa
