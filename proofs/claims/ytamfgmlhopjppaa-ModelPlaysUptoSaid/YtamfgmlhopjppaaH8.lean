/-
  sheet.Make and the reference's: more bytes than may be.
-/
import Derived.Test.YtamfgmlhopjppaaH3
namespace Go.Proofs.Ytamfgmlhopjppaa
open Go.RowKit Go.ChangeShapes Go.WideShapes Go.ChangeAt

set_option maxRecDepth 100000 in
set_option maxHeartbeats 1000000 in
theorem c_make_big (s : ByteArray) (w : World) (hs : 512 < s.size) : Calls Try.prog 49 #[.string s] w fun e w' => e = .returned (.tuple #[.agg #[.int .i64 0, .slice none 0 0], .int .i64 4]) ∧ Kp No w w' := by
  have hsi : (512 : Int) < (s.size : Int) := by omega
  go_enter Try.func49, Try.ntmps49
  go_wp2_with fail
  have hb : Blk (w.alloc (.cells #[.int .i64 0, .slice none 0 0] 56)) w.heap.size 56 [.int .i64 0, .slice none 0 0] := Blk.new w _ _
  exact bodyPost_ret (results_ct rfl _ _ w.heap.size _ _ _ _ rfl hb Try.underlying56 rfl (by kernel_rfl)) rfl ⟨rfl, (Kp.refl _ _).alloc _⟩

set_option maxRecDepth 100000 in
set_option maxHeartbeats 1000000 in
theorem r_make_big (s : ByteArray) (w : World) (hs : 512 < s.size) : Calls Try.prog 52 #[.string s] w fun e w' => e = .returned (.tuple #[.agg #[.int .i64 0, .slice none 0 0], .int .i64 4]) ∧ Kp No w w' := by
  have hsi : (512 : Int) < (s.size : Int) := by omega
  go_enter Try.func52, Try.ntmps52
  go_wp2_with fail
  have hb : Blk (w.alloc (.cells #[.int .i64 0, .slice none 0 0] 56)) w.heap.size 56 [.int .i64 0, .slice none 0 0] := Blk.new w _ _
  exact bodyPost_ret (results_ct rfl _ _ w.heap.size _ _ _ _ rfl hb Try.underlying56 rfl (by kernel_rfl)) rfl ⟨rfl, (Kp.refl _ _).alloc _⟩
end Go.Proofs.Ytamfgmlhopjppaa
