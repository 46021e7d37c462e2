/-
  From a walk of each law to the given statement (printed by wip/tools/mklaw.py).
-/
import Derived.Test.YtflodiljgphkdaaBase
namespace Go.Proofs.Ytflodiljgphkdaa
open Go.RowKit Go.ChangeShapes Go.WideShapes Go.ChangeAt

/-- The walk that gives VaultSweeps. -/
def VaultSweepsWalk : Prop := ∀ (W : World) (v0 : Value) (a0 : (List ByteArray)) (v1 : Value) (a1 : (List Int)), (Rp.slice Rp.str).R W (fun k => k < W.heap.size) [v0] a0 → (Rp.slice (Rp.int .u8)).R W (fun k => k < W.heap.size) [v1] a1 →
    Calls Try.prog 11 #[v0, v1] W fun e w' => e = .returned (.bool true) ∧ Kp No W w'

set_option maxRecDepth 100000 in
theorem vaultSweeps_contract (walk : VaultSweepsWalk) (H : Type) (enc : TypeId × Value → H) (W : World) (base : Nat) (args : Array Value) (ds gs : List (DataW H)) (before : List MemPlace)
    (hval : ∀ (j : Nat) t v, Try.f11.params[j]? = some t → args[j]? = some v → Value.okWide Try.prog W .any base t v)
    (hW : DataW.Whole enc Try.prog Try.f11.params.toList Rows.vaultSweepsSpec.vars false W args.toList ds gs before) :
    Calls Try.prog 11 args W fun e W' => ∃ v, e = .returned v ∧ Rows.vaultSweepsSpec.post enc Try.prog Try.f11 false true false false W args v W' := by
  have hW' := hW
  obtain ⟨p, q, hA0, hV, rfl, hfz, hnd⟩ := hW
  have hA : DataW.TrodAll enc Try.prog W 0 (fun _ => true) true Try.f11.params.toList args.toList ds p := hA0
  rw [Try.params11] at hA hval
  obtain ⟨v0, vs0, d0, ds0, p0, q0, hargs, rfl, rfl, h0, r0⟩ := trodAll_cons hA
  obtain ⟨v1, vs1, d1, ds1, p1, q1, rfl, rfl, rfl, h1, r1⟩ := trodAll_cons r0
  obtain ⟨rfl, rfl, rfl⟩ := trodAll_nil r1
  obtain rfl : args = #[v0, v1] := by cases args; simp_all
  obtain ⟨rfl, rfl⟩ := trodVars_none hV
  clear hA0
  have c0 : v0.cells.toList = [v0] := one_of_slice (okWide_slice Try.underlying47 (hval 0 47 v0 rfl rfl))
  obtain ⟨a0, e0, m0⟩ := Arg.one (Arg.slice Try.underlying47 (by kernel_rfl) (Arg.str Try.underlying9)) c0 h0
  have c1 : v1.cells.toList = [v1] := one_of_slice (okWide_slice Try.underlying27 (hval 1 27 v1 rfl rfl))
  obtain ⟨a1, e1, m1⟩ := Arg.one (Arg.slice Try.underlying27 (by kernel_rfl) (Arg.int Try.underlying5)) c1 h1
  refine (walk W v0 a0 v1 a1 e0 e1).mono fun e W' ⟨he, hb⟩ => ?_
  subst he
  refine ⟨_, rfl, post_of_law (tb := 4) (by kernel_rfl) ?_ (by kernel_rfl) Try.underlying4 rfl ?_ hW' hb⟩
  · rw [Try.params11]
    intro t ht
    simp only [List.mem_cons, List.not_mem_nil, or_false] at ht
    rcases ht with rfl | rfl <;> exact ⟨by kernel_rfl, by decide +kernel⟩
  · rw [Try.params11]
    intro l hl
    match l, hl with
    | [x0, x1], _ => rfl

set_option maxRecDepth 100000 in
theorem vaultSweeps_lifted (walk : VaultSweepsWalk) (os : Os) (started : os.Started) (H : Type) (enc : TypeId × Value → H) :
    ReturnsInHanded {} Try.checked os 11 .any (Rows.vaultSweepsSpec.pre6 enc Try.prog Try.f11 Rows.vaultSweepsRow.domain false) (Rows.vaultSweepsSpec.post enc Try.prog Try.f11 false true false false) := by
  refine returnsInHanded_of_change (C := Try.checked) (by kernel_rfl : ownKnob Try.prog.godebug = none) started (by kernel_rfl) Try.func11
    (ChangeSpec.witness6 (enc := enc) (C := Try.checked) false ⟨#[], #[.slice none 0 0, .slice none 0 0], []⟩ 8 (by kernel_rfl) (by kernel_rfl) (by kernel_rfl) (by kernel_rfl)) ?_
  intro W base args ds gs before hval hW _ _
  exact vaultSweeps_contract walk H enc W base args ds gs before hval hW
theorem vaultSweeps_of (walk : VaultSweepsWalk) : Rows.VaultSweepsSaid :=
  OpenClaim.holds_of_wide 11 Try.f11 rfl rfl rfl rfl rfl rfl rfl ⟨rfl, rfl, rfl, rfl, rfl⟩ rfl rfl rfl rfl rfl (by kernel_rfl) Try.func11 (by kernel_rfl)
    (of_decide_eq_true (by kernel_rfl)) (by unfold Func.isWrapper; first | (rw [if_pos (by decide +kernel)]; kernel_rfl) | (rw [if_neg (by decide +kernel)]; exact ⟨rfl, rfl⟩))
    (fun os started H enc _ => vaultSweeps_lifted walk os started H enc)

end Go.Proofs.Ytflodiljgphkdaa
