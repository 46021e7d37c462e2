/-
  The constants of sha.
-/
import Derived.Test.YtamfgmlhopjppaaS1
import Derived.Test.YtamfgmlhopjppaaShaL
namespace Go.Proofs.Ytamfgmlhopjppaa
open Go.RowKit Go.ChangeShapes Go.WideShapes Go.ChangeAt

set_option maxRecDepth 100000 in
set_option maxHeartbeats 4000000 in
theorem t_numbers (w : World) : Calls Try.prog 94 #[] w fun e w' => e = .returned (.pointer (some ⟨w.heap.size, 0, none⟩)) ∧ Blk w' w.heap.size 135 (K64.map uv) ∧ Kp No w w' := by
  go_enter Try.func94, Try.ntmps94
  go_wp2
  go_ret
  refine ⟨rfl, ?_, (Kp.refl _ _).alloc _⟩
  have h := Blk.new w (K64.map uv) 135
  exact h
end Go.Proofs.Ytamfgmlhopjppaa
