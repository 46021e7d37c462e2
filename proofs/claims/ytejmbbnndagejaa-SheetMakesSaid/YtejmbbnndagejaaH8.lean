/-
  sheet.Make and the reference's: more bytes than may be.
-/
import Derived.Test.YtejmbbnndagejaaH3
namespace Go.Proofs.Ytejmbbnndagejaa
open Go.RowKit Go.ChangeShapes Go.WideShapes Go.ChangeAt

set_option maxRecDepth 100000 in
set_option maxHeartbeats 1000000 in
theorem c_make_big (s : ByteArray) (w : World) (hs : 512 < s.size) : Calls Try.prog 22 #[.string s] w fun e w' => e = .returned (.tuple #[.agg #[.int .i64 0, .slice none 0 0], .int .i64 4]) ∧ Kp No w w' := by
  have hsi : (512 : Int) < (s.size : Int) := by omega
  go_enter Try.func22, Try.ntmps22
  go_wp2_with fail
  have hb : Blk (w.alloc (.cells #[.int .i64 0, .slice none 0 0] 34)) w.heap.size 34 [.int .i64 0, .slice none 0 0] := Blk.new w _ _
  exact bodyPost_ret (results_ct rfl _ _ w.heap.size _ _ _ _ rfl hb Try.underlying34 rfl (by kernel_rfl)) rfl ⟨rfl, (Kp.refl _ _).alloc _⟩

set_option maxRecDepth 100000 in
set_option maxHeartbeats 1000000 in
theorem r_make_big (s : ByteArray) (w : World) (hs : 512 < s.size) : Calls Try.prog 23 #[.string s] w fun e w' => e = .returned (.tuple #[.agg #[.int .i64 0, .slice none 0 0], .int .i64 4]) ∧ Kp No w w' := by
  have hsi : (512 : Int) < (s.size : Int) := by omega
  go_enter Try.func23, Try.ntmps23
  go_wp2_with fail
  have hb : Blk (w.alloc (.cells #[.int .i64 0, .slice none 0 0] 34)) w.heap.size 34 [.int .i64 0, .slice none 0 0] := Blk.new w _ _
  exact bodyPost_ret (results_ct rfl _ _ w.heap.size _ _ _ _ rfl hb Try.underlying34 rfl (by kernel_rfl)) rfl ⟨rfl, (Kp.refl _ _).alloc _⟩
end Go.Proofs.Ytejmbbnndagejaa
