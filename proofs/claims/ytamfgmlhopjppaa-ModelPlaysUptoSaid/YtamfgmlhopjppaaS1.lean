/-
  The small functions of sha.
-/
import Derived.Test.YtamfgmlhopjppaaGB
import Derived.Test.YtamfgmlhopjppaaGA2
import Derived.Test.YtamfgmlhopjppaaReg
namespace Go.Proofs.Ytamfgmlhopjppaa
open Go.RowKit Go.ChangeShapes Go.WideShapes Go.ChangeAt

theorem rot_mask (r : Nat) (h0 : 0 < r) (h1 : r < 32) : bits .and .u64 (IntKind.u64.wrap (-(r : Int))) 31 = ((32 - r : Nat) : Int) := by
  have : ∀ r : Fin 32, 0 < r.val → bits .and .u64 (IntKind.u64.wrap (-(r.val : Int))) 31 = ((32 - r.val : Nat) : Int) := by decide +kernel
  exact this ⟨r, h1⟩ h0
theorem t_rot (x : W) (r : Nat) (h0 : 0 < r) (h1 : r < 32) (w : World) : Calls Try.prog 93 #[.int .u32 (un x), .int .i64 (-(r : Int))] w fun e w' => e = .returned (.int .u32 (un (rotr x r))) ∧ w = w' := by
  have hm := rot_mask r h0 h1
  obtain ⟨s, hs⟩ : ∃ s, 32 - r = s := ⟨_, rfl⟩
  rw [hs] at hm
  have hs1 : s < 32 := by omega
  have hr : r = 32 - s := by omega
  have h2 : (0 : Int) ≤ (s : Int) := by omega
  have e1 : IntKind.u64.wrap (32 - (s : Int)) = (r : Int) := by simp [IntKind.wrap, IntKind.signed, IntKind.bits]; omega
  have e2 : min s 32 = s := by omega
  have e3 : min r 32 = r := by omega
  have e4 := un_shl x s
  have e5 := un_shr x r
  have e6 := un_or (x <<< s) (x >>> r)
  have e7 : (x <<< s) ||| (x >>> r) = rotr x r := by unfold rotr; rw [hs]; exact BitVec.or_comm _ _
  rw [e7] at e6
  push_cast at e4 e5
  clear hr hs e7
  go_enter Try.func93, Try.ntmps93
  go_wp2
  go_ret
  exact ⟨rfl, rfl⟩
theorem r_rot (x : W) (r : Nat) (h0 : 0 < r) (h1 : r < 32) (w : World) : Calls Try.prog 86 #[.int .u32 (un x), .int .i64 r] w fun e w' => e = .returned (.int .u32 (un (rotr x r))) ∧ ∃ n, w' = w.drewN n := by
  obtain ⟨s, hs⟩ : ∃ s, 32 - r = s := ⟨_, rfl⟩
  have hs1 : s < 32 := by omega
  have h2 : (0 : Int) ≤ (s : Int) := by omega
  have h3 : (0 : Int) ≤ (r : Int) := by omega
  have e1 : IntKind.i64.wrap (32 - (r : Int)) = (s : Int) := by rw [IntKind.wrap_i64]; omega
  have e2 : min s 32 = s := by omega
  have e3 : min r 32 = r := by omega
  have e4 := un_shl x s
  have e5 := un_shr x r
  have e6 := un_or (x >>> r) (x <<< s)
  have e7 : (x >>> r) ||| (x <<< s) = rotr x r := by unfold rotr; rw [hs]
  rw [e7] at e6
  push_cast at e4 e5
  clear hs e7
  go_enter Try.func86, Try.ntmps86
  go_wp2
  refine Reg.wp_region_plan [⟨0, false, []⟩, ⟨1, false, []⟩, ⟨2, false, []⟩, ⟨3, false, []⟩, ⟨4, false, []⟩, ⟨5, false, []⟩, ⟨6, false, []⟩, ⟨7, false, []⟩, ⟨8, false, []⟩] rfl (by kernel_rfl) ?_
  repeat (first | (refine Reg.look rfl rfl rfl (by go_simp; rfl) rfl ?_; go_simp) | (refine Reg.skip rfl rfl rfl ?_; go_simp))
  (refine Reg.done ?_; simp only [Exit.then])
  go_wp2
  go_ret
  exact ⟨rfl, 1, rfl⟩
theorem t_turned (x : W) (a b c : Nat) (ha : 0 < a ∧ a < 32) (hb : 0 < b ∧ b < 32) (hc : 0 < c ∧ c < 32) (w : World) : Calls Try.prog 95 #[.int .u32 (un x), .int .i64 a, .int .i64 b, .int .i64 c] w fun e w' => e = .returned (.int .u32 (un (rotr x a ^^^ rotr x b ^^^ rotr x c))) ∧ w = w' := by
  have e1 : IntKind.i64.wrap (-(a : Int)) = -(a : Int) := by rw [IntKind.wrap_i64]; omega
  have e2 : IntKind.i64.wrap (-(b : Int)) = -(b : Int) := by rw [IntKind.wrap_i64]; omega
  have e3 : IntKind.i64.wrap (-(c : Int)) = -(c : Int) := by rw [IntKind.wrap_i64]; omega
  have f1 : wrap64 (-(a : Int)) = -(a : Int) := by unfold wrap64; omega
  have f2 : wrap64 (-(b : Int)) = -(b : Int) := by unfold wrap64; omega
  have f3 : wrap64 (-(c : Int)) = -(c : Int) := by unfold wrap64; omega
  have x1 := un_xor (rotr x a) (rotr x b)
  have x2 := un_xor (rotr x a ^^^ rotr x b) (rotr x c)
  go_enter Try.func95, Try.ntmps95
  go_wp2_with fail
  refine (t_rot x a ha.1 ha.2 w).mono ?_
  rintro e w1 ⟨rfl, rfl⟩
  go_wp2_with fail
  refine (t_rot x b hb.1 hb.2 w).mono ?_
  rintro e w1 ⟨rfl, rfl⟩
  go_wp2_with fail
  refine (t_rot x c hc.1 hc.2 w).mono ?_
  rintro e w1 ⟨rfl, rfl⟩
  go_wp2_with fail
  go_ret
  exact ⟨rfl, rfl⟩
end Go.Proofs.Ytamfgmlhopjppaa
