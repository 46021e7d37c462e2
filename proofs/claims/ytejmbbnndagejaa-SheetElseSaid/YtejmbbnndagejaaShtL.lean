/-
  Plain law: sheets.
-/
import Derived.Test.YtejmbbnndagejaaH1
import Derived.Test.YtejmbbnndagejaaS7
namespace Go.Proofs.Ytejmbbnndagejaa
open Go.RowKit Go.ChangeShapes Go.WideShapes Go.ChangeAt

/-- the digests of a text's chunks -/
def hashesB (s : ByteArray) : List ByteArray := (cutsB s).map shaB
theorem hashesB_length (s : ByteArray) : (hashesB s).length = (s.size + 63) / 64 := by unfold hashesB; rw [List.length_map, cutsB_length]
theorem hashesB_size {s x : ByteArray} (h : x ∈ hashesB s) : x.size = 32 := by
  obtain ⟨y, _, rfl⟩ := List.mem_map.1 h
  exact shaB_size y
theorem okSheet_made (s : ByteArray) (h : s.size ≤ 512) : okSheet (s.size : Int) (hashesB s) = true := by
  unfold okSheet
  rw [Bool.and_eq_true, decide_eq_true_eq, List.all_eq_true]
  refine ⟨⟨by omega, by omega, ?_⟩, fun x hx => by rw [hashesB_size hx]; rfl⟩
  rw [hashesB_length]
  unfold cnt
  split <;> omega
/-- what is built: the text, or the error -/
def buildA (n : Int) (l cs : List ByteArray) : ByteArray × Int :=
  if okSheet n l = false then (ByteArray.empty, 3)
  else if cs.length ≠ l.length then (ByteArray.empty, 1)
  else if cs.map shaB ≠ l then (ByteArray.empty, 101)
  else if ((joinB cs).size : Int) ≠ n then (ByteArray.empty, 101)
  else (joinB cs, 0)
end Go.Proofs.Ytejmbbnndagejaa
