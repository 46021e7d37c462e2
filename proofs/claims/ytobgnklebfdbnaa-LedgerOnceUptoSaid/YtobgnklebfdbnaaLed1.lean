/-
  ledger: spot, failed; what a ledger that is none tells.
-/
import Derived.Test.YtobgnklebfdbnaaDeed1
import Derived.Laws.ResultCell
import Derived.Laws.Rows
namespace Go.Proofs.Ytobgnklebfdbnaa
open Go.RowKit Go.ChangeShapes Go.WideShapes Go.ChangeAt

set_option maxRecDepth 100000 in
theorem l_failed (x : Int) (w : World) : Calls Try.prog 56 #[.int .i64 x] w fun e w' => e = .returned (.agg #[.int .i64 x, .int .i64 0, .int .i64 0]) ∧ Kp No w w' := by
  go_enter Try.func56, Try.ntmps56
  go_wp2_with fail
  have hb : Blk (w.alloc (.cells #[.int .i64 x, .int .i64 0, .int .i64 0] 42)) w.heap.size 42 [.int .i64 x, .int .i64 0, .int .i64 0] := Blk.new w _ _
  exact bodyPost_ret (results_cell_row rfl _ _ w.heap.size _ _ _ _ rfl hb Try.underlying42 rfl (by kernel_rfl)) rfl ⟨rfl, (Kp.refl _ _).alloc _⟩
set_option maxRecDepth 100000 in
theorem l_spot (o : OpL) (v : Value) (w : World) : Calls Try.prog 63 #[opV o v] w fun e w' => e = .returned (.agg #[.int .i64 o.n, .int .i64 o.epoch]) ∧ Kp No w w' := by
  unfold opV
  obtain ⟨n, ep, k, st, cl, sq, nm, sz, hs⟩ := o
  simp only
  go_enter Try.func63, Try.ntmps63
  go_wp2_with fail
  obtain ⟨w1, hw1⟩ : ∃ w1, w.alloc (.cells #[.int .i64 n, .int .i64 ep, .int .i64 k, .int .i64 st, .int .i64 cl, .int .i64 sq, .string nm, .int .i64 sz, v] 33) = w1 := ⟨_, rfl⟩
  have hk : Kp No w w1 := by rw [← hw1]; exact (Kp.refl _ _).alloc _
  have hsz : w.heap.size + 1 = w1.heap.size := by rw [← hw1]; simp
  rw [hw1, hsz]
  have hb : Blk (w1.alloc (.cells #[.int .i64 n, .int .i64 ep] 40)) w1.heap.size 40 [.int .i64 n, .int .i64 ep] := Blk.new w1 _ _
  exact bodyPost_ret (results_cell_row rfl _ _ w1.heap.size _ _ _ _ rfl hb Try.underlying40 rfl (by kernel_rfl)) rfl ⟨rfl, hk.alloc _⟩
set_option maxRecDepth 100000 in
theorem l_fence_nil (w : World) : Calls Try.prog 14 #[.pointer none] w fun e w' => e = .returned (.int .i64 0) ∧ w' = w := by
  go_enter Try.func14, Try.ntmps14
  go_wp2_with fail
  go_ret
  exact ⟨rfl, rfl⟩
set_option maxRecDepth 100000 in
theorem l_settled_nil (w : World) : Calls Try.prog 51 #[.pointer none] w fun e w' => e = .returned (.int .i64 0) ∧ w' = w := by
  go_enter Try.func51, Try.ntmps51
  go_wp2_with fail
  go_ret
  exact ⟨rfl, rfl⟩
set_option maxRecDepth 100000 in
theorem l_used_nil (w : World) : Calls Try.prog 52 #[.pointer none] w fun e w' => e = .returned (.int .i64 0) ∧ w' = w := by
  go_enter Try.func52, Try.ntmps52
  go_wp2_with fail
  go_ret
  exact ⟨rfl, rfl⟩
set_option maxRecDepth 100000 in
theorem l_ops_nil (w : World) : Calls Try.prog 16 #[.pointer none] w fun e w' => e = .returned (.slice none 0 0) ∧ w' = w := by
  go_enter Try.func16, Try.ntmps16
  go_wp2_with fail
  go_ret
  exact ⟨rfl, rfl⟩
set_option maxRecDepth 100000 in
theorem l_lost_nil (w : World) : Calls Try.prog 15 #[.pointer none] w fun e w' => e = .returned (.slice none 0 0) ∧ w' = w := by
  go_enter Try.func15, Try.ntmps15
  go_wp2_with fail
  go_ret
  exact ⟨rfl, rfl⟩
set_option maxRecDepth 100000 in
theorem l_names_nil (w : World) : Calls Try.prog 45 #[.pointer none] w fun e w' => e = .returned (.slice none 0 0) ∧ w' = w := by
  go_enter Try.func45, Try.ntmps45
  go_wp2_with fail
  go_ret
  exact ⟨rfl, rfl⟩
set_option maxRecDepth 100000 in
theorem l_pack_nil (w : World) : Calls Try.prog 43 #[.pointer none] w fun e w' => e = .returned (.string ByteArray.empty) ∧ w' = w := by
  go_enter Try.func43, Try.ntmps43
  go_wp2_with fail
  go_ret
  exact ⟨rfl, rfl⟩
set_option maxRecDepth 100000 in
theorem l_copy_nil (w : World) : Calls Try.prog 53 #[.pointer none] w fun e w' => e = .returned (.pointer none) ∧ w' = w := by
  go_enter Try.func53, Try.ntmps53
  go_wp2_with fail
  go_ret
  exact ⟨rfl, rfl⟩
set_option maxRecDepth 100000 in
theorem l_holder_nil (w : World) : Calls Try.prog 48 #[.pointer none] w fun e w' => e = .returned (.agg #[.int .i64 0, .int .i64 0]) ∧ Kp No w w' := by
  go_enter Try.func48, Try.ntmps48
  go_wp2_with fail
  have hb : Blk (w.alloc (.cells #[.int .i64 0, .int .i64 0] 103)) w.heap.size 103 [.int .i64 0, .int .i64 0] := Blk.new w _ _
  exact bodyPost_ret (results_cell_row rfl _ _ w.heap.size _ _ _ _ rfl hb Try.underlying103 rfl (by kernel_rfl)) rfl ⟨rfl, (Kp.refl _ _).alloc _⟩
set_option maxRecDepth 100000 in
theorem l_last_nil (w : World) : Calls Try.prog 20 #[.pointer none] w fun e w' => e = .returned (.agg #[.int .i64 0, .int .i64 0]) ∧ Kp No w w' := by
  go_enter Try.func20, Try.ntmps20
  go_wp2_with fail
  have hb : Blk (w.alloc (.cells #[.int .i64 0, .int .i64 0] 40)) w.heap.size 40 [.int .i64 0, .int .i64 0] := Blk.new w _ _
  exact bodyPost_ret (results_cell_row rfl _ _ w.heap.size _ _ _ _ rfl hb Try.underlying40 rfl (by kernel_rfl)) rfl ⟨rfl, (Kp.refl _ _).alloc _⟩
end Go.Proofs.Ytobgnklebfdbnaa
