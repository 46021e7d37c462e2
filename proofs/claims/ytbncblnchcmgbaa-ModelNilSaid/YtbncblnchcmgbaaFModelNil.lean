/-
  From a walk of each law to the given statement (printed by wip/tools/mklaw.py).
-/
import Derived.Test.YtbncblnchcmgbaaPlyA
namespace Go.Proofs.Ytbncblnchcmgbaa
open Go.RowKit Go.ChangeShapes Go.WideShapes Go.ChangeAt

/-- The walk that gives ModelNil. -/
def ModelNilWalk : Prop := ∀ (W : World) (v0 : Value) (a0 : PlayL), Rd.play.R W (fun k => k < W.heap.size) [v0] a0 →
    Calls Try.prog 6 #[v0] W fun e w' => e = .returned (.bool true) ∧ Kp No W w'

set_option maxRecDepth 100000 in
theorem modelNil_contract (walk : ModelNilWalk) (H : Type) (enc : TypeId × Value → H) (W : World) (base : Nat) (args : Array Value) (ds gs : List (DataW H)) (before : List MemPlace)
    (hval : ∀ (j : Nat) t v, Try.f6.params[j]? = some t → args[j]? = some v → Value.okWide Try.prog W .any base t v)
    (hW : DataW.Whole enc Try.prog Try.f6.params.toList Rows.modelNilSpec.vars false W args.toList ds gs before) :
    Calls Try.prog 6 args W fun e W' => ∃ v, e = .returned v ∧ Rows.modelNilSpec.post enc Try.prog Try.f6 false true false false W args v W' := by
  have hW' := hW
  obtain ⟨p, q, hA0, hV, rfl, hfz, hnd⟩ := hW
  have hA : DataW.TrodAll enc Try.prog W 0 (fun _ => true) true Try.f6.params.toList args.toList ds p := hA0
  rw [Try.params6] at hA hval
  obtain ⟨v0, vs0, d0, ds0, p0, q0, hargs, rfl, rfl, h0, r0⟩ := trodAll_cons hA
  obtain ⟨rfl, rfl, rfl⟩ := trodAll_nil r0
  obtain rfl : args = #[v0] := by cases args; simp_all
  obtain ⟨rfl, rfl⟩ := trodVars_none hV
  clear hA0
  obtain ⟨a0, e0, m0⟩ := play_arg Try.underlying58 (Arg.play Try.underlying58 (by kernel_rfl) (by kernel_rfl) (by kernel_rfl) Try.underlying3 (Arg.slice Try.underlying42 (by kernel_rfl) (Arg.opl Try.underlying38 (by kernel_rfl) (by kernel_rfl) (by kernel_rfl) Try.underlying3 Try.underlying3 Try.underlying3 Try.underlying3 Try.underlying3 Try.underlying3 Try.underlying9 (Arg.sht Try.underlying36 (by kernel_rfl) (by kernel_rfl) (by kernel_rfl) Try.underlying3 (Arg.slice Try.underlying34 (by kernel_rfl) (Arg.str Try.underlying9))))) (Arg.ask Try.underlying52 (by kernel_rfl) (by kernel_rfl) (by kernel_rfl) Try.underlying3 Try.underlying3 Try.underlying3 Try.underlying9 Try.underlying9 Try.underlying3 Try.underlying3) (Arg.rep Try.underlying56 (by kernel_rfl) (by kernel_rfl) (by kernel_rfl) Try.underlying3 Try.underlying31 (Arg.spot Try.underlying54 (by kernel_rfl) (by kernel_rfl) (by kernel_rfl) Try.underlying3 Try.underlying3) (Arg.slice Try.underlying34 (by kernel_rfl) (Arg.str Try.underlying9)) Try.underlying9 (Arg.slice Try.underlying42 (by kernel_rfl) (Arg.opl Try.underlying38 (by kernel_rfl) (by kernel_rfl) (by kernel_rfl) Try.underlying3 Try.underlying3 Try.underlying3 Try.underlying3 Try.underlying3 Try.underlying3 Try.underlying9 (Arg.sht Try.underlying36 (by kernel_rfl) (by kernel_rfl) (by kernel_rfl) Try.underlying3 (Arg.slice Try.underlying34 (by kernel_rfl) (Arg.str Try.underlying9))))))) (hval 0 58 v0 rfl rfl) h0
  refine (walk W v0 a0 e0).mono fun e W' ⟨he, hb⟩ => ?_
  subst he
  refine ⟨_, rfl, post_of_law (tb := 4) (by kernel_rfl) ?_ (by kernel_rfl) Try.underlying4 rfl ?_ hW' hb⟩
  · rw [Try.params6]
    intro t ht
    simp only [List.mem_cons, List.not_mem_nil, or_false] at ht
    rcases ht with rfl <;> exact ⟨by kernel_rfl, by decide +kernel⟩
  · rw [Try.params6]
    intro l hl
    match l, hl with
    | [x0], _ => rfl

set_option maxRecDepth 100000 in
theorem modelNil_lifted (walk : ModelNilWalk) (os : Os) (started : os.Started) (H : Type) (enc : TypeId × Value → H) :
    ReturnsInHanded {} Try.checked os 6 .any (Rows.modelNilSpec.pre6 enc Try.prog Try.f6 Rows.modelNilRow.domain false) (Rows.modelNilSpec.post enc Try.prog Try.f6 false true false false) := by
  refine returnsInHanded_of_change (C := Try.checked) (by kernel_rfl : ownKnob Try.prog.godebug = none) started (by kernel_rfl) Try.func6
    (ChangeSpec.witness6 (enc := enc) (C := Try.checked) false ⟨#[], #[.agg #[.int .i64 0, .slice none 0 0, .int .i64 0, .int .i64 0, .int .i64 0, .string ByteArray.empty, .string ByteArray.empty, .int .i64 0, .int .i64 0, .int .i64 0, .int .i64 0, .int .i64 0, .int .i64 0, .slice none 0 0, .string ByteArray.empty, .slice none 0 0]], []⟩ 8 (by kernel_rfl) (by kernel_rfl) (by kernel_rfl) (by kernel_rfl)) ?_
  intro W base args ds gs before hval hW _ _
  exact modelNil_contract walk H enc W base args ds gs before hval hW
theorem modelNil_of (walk : ModelNilWalk) : Rows.ModelNilSaid :=
  OpenClaim.holds_of_wide 6 Try.f6 rfl rfl rfl rfl rfl rfl rfl ⟨rfl, rfl, rfl, rfl, rfl⟩ rfl rfl rfl rfl rfl (by kernel_rfl) Try.func6 (by kernel_rfl)
    (of_decide_eq_true (by kernel_rfl)) (by unfold Func.isWrapper; first | (rw [if_pos (by decide +kernel)]; kernel_rfl) | (rw [if_neg (by decide +kernel)]; exact ⟨rfl, rfl⟩))
    (fun os started H enc _ => modelNil_lifted walk os started H enc)

end Go.Proofs.Ytbncblnchcmgbaa
