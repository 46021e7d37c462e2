/-
  ledger: spot, failed; what a ledger that is none tells.
-/
import Derived.Test.YtbncblnchcmgbaaDeed1
import Derived.Laws.ResultCell
import Derived.Laws.Rows
namespace Go.Proofs.Ytbncblnchcmgbaa
open Go.RowKit Go.ChangeShapes Go.WideShapes Go.ChangeAt

set_option maxRecDepth 100000 in
theorem l_failed (x : Int) (w : World) : Calls Try.prog 68 #[.int .i64 x] w fun e w' => e = .returned (.agg #[.int .i64 x, .int .i64 0, .int .i64 0]) ∧ Kp No w w' := by
  go_enter Try.func68, Try.ntmps68
  go_wp2_with fail
  have hb : Blk (w.alloc (.cells #[.int .i64 x, .int .i64 0, .int .i64 0] 95)) w.heap.size 95 [.int .i64 x, .int .i64 0, .int .i64 0] := Blk.new w _ _
  exact bodyPost_ret (results_cell_row rfl _ _ w.heap.size _ _ _ _ rfl hb Try.underlying95 rfl (by kernel_rfl)) rfl ⟨rfl, (Kp.refl _ _).alloc _⟩
set_option maxRecDepth 100000 in
theorem l_spot (o : OpL) (v : Value) (w : World) : Calls Try.prog 66 #[opV o v] w fun e w' => e = .returned (.agg #[.int .i64 o.n, .int .i64 o.epoch]) ∧ Kp No w w' := by
  unfold opV
  obtain ⟨n, ep, k, st, cl, sq, nm, sz, hs⟩ := o
  simp only
  go_enter Try.func66, Try.ntmps66
  go_wp2_with fail
  obtain ⟨w1, hw1⟩ : ∃ w1, w.alloc (.cells #[.int .i64 n, .int .i64 ep, .int .i64 k, .int .i64 st, .int .i64 cl, .int .i64 sq, .string nm, .int .i64 sz, v] 38) = w1 := ⟨_, rfl⟩
  have hk : Kp No w w1 := by rw [← hw1]; exact (Kp.refl _ _).alloc _
  have hsz : w.heap.size + 1 = w1.heap.size := by rw [← hw1]; simp
  rw [hw1, hsz]
  have hb : Blk (w1.alloc (.cells #[.int .i64 n, .int .i64 ep] 54)) w1.heap.size 54 [.int .i64 n, .int .i64 ep] := Blk.new w1 _ _
  exact bodyPost_ret (results_cell_row rfl _ _ w1.heap.size _ _ _ _ rfl hb Try.underlying54 rfl (by kernel_rfl)) rfl ⟨rfl, hk.alloc _⟩
set_option maxRecDepth 100000 in
theorem l_fence_nil (w : World) : Calls Try.prog 44 #[.pointer none] w fun e w' => e = .returned (.int .i64 0) ∧ w' = w := by
  go_enter Try.func44, Try.ntmps44
  go_wp2_with fail
  go_ret
  exact ⟨rfl, rfl⟩
set_option maxRecDepth 100000 in
theorem l_ops_nil (w : World) : Calls Try.prog 12 #[.pointer none] w fun e w' => e = .returned (.slice none 0 0) ∧ w' = w := by
  go_enter Try.func12, Try.ntmps12
  go_wp2_with fail
  go_ret
  exact ⟨rfl, rfl⟩
set_option maxRecDepth 100000 in
theorem l_lost_nil (w : World) : Calls Try.prog 41 #[.pointer none] w fun e w' => e = .returned (.slice none 0 0) ∧ w' = w := by
  go_enter Try.func41, Try.ntmps41
  go_wp2_with fail
  go_ret
  exact ⟨rfl, rfl⟩
set_option maxRecDepth 100000 in
theorem l_names_nil (w : World) : Calls Try.prog 37 #[.pointer none] w fun e w' => e = .returned (.slice none 0 0) ∧ w' = w := by
  go_enter Try.func37, Try.ntmps37
  go_wp2_with fail
  go_ret
  exact ⟨rfl, rfl⟩
set_option maxRecDepth 100000 in
theorem l_holder_nil (w : World) : Calls Try.prog 42 #[.pointer none] w fun e w' => e = .returned (.agg #[.int .i64 0, .int .i64 0]) ∧ Kp No w w' := by
  go_enter Try.func42, Try.ntmps42
  go_wp2_with fail
  have hb : Blk (w.alloc (.cells #[.int .i64 0, .int .i64 0] 98)) w.heap.size 98 [.int .i64 0, .int .i64 0] := Blk.new w _ _
  exact bodyPost_ret (results_cell_row rfl _ _ w.heap.size _ _ _ _ rfl hb Try.underlying98 rfl (by kernel_rfl)) rfl ⟨rfl, (Kp.refl _ _).alloc _⟩
set_option maxRecDepth 100000 in
theorem l_last_nil (w : World) : Calls Try.prog 36 #[.pointer none] w fun e w' => e = .returned (.agg #[.int .i64 0, .int .i64 0]) ∧ Kp No w w' := by
  go_enter Try.func36, Try.ntmps36
  go_wp2_with fail
  have hb : Blk (w.alloc (.cells #[.int .i64 0, .int .i64 0] 54)) w.heap.size 54 [.int .i64 0, .int .i64 0] := Blk.new w _ _
  exact bodyPost_ret (results_cell_row rfl _ _ w.heap.size _ _ _ _ rfl hb Try.underlying54 rfl (by kernel_rfl)) rfl ⟨rfl, (Kp.refl _ _).alloc _⟩
end Go.Proofs.Ytbncblnchcmgbaa
