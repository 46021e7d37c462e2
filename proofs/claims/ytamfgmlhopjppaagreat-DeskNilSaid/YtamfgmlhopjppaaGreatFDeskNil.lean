/-
  From a walk of each law to the given statement (printed by wip/tools/mklaw.py).
-/
import Derived.Test.YtamfgmlhopjppaaGreatOpD
namespace Go.Proofs.YtamfgmlhopjppaaGreat
open Go.RowKit Go.ChangeShapes Go.WideShapes Go.ChangeAt

/-- The walk that gives DeskNil. -/
def DeskNilWalk : Prop := ∀ (W : World) (v0 : Value) (a0 : DopL), Rd.dop.R W (fun k => k < W.heap.size) [v0] a0 →
    Calls Tryz.prog 4 #[v0] W fun e w' => e = .returned (.bool true) ∧ Kp No W w'

set_option maxRecDepth 100000 in
theorem deskNil_contract (walk : DeskNilWalk) (H : Type) (enc : TypeId × Value → H) (W : World) (base : Nat) (args : Array Value) (ds gs : List (DataW H)) (before : List MemPlace)
    (hval : ∀ (j : Nat) t v, Tryz.f4.params[j]? = some t → args[j]? = some v → Value.okWide Tryz.prog W .any base t v)
    (hW : DataW.Whole enc Tryz.prog Tryz.f4.params.toList Rows.deskNilSpec.vars false W args.toList ds gs before) :
    Calls Tryz.prog 4 args W fun e W' => ∃ v, e = .returned v ∧ Rows.deskNilSpec.post enc Tryz.prog Tryz.f4 false true false false W args v W' := by
  have hW' := hW
  obtain ⟨p, q, hA0, hV, rfl, hfz, hnd⟩ := hW
  have hA : DataW.TrodAll enc Tryz.prog W 0 (fun _ => true) true Tryz.f4.params.toList args.toList ds p := hA0
  rw [Tryz.params4] at hA hval
  obtain ⟨v0, vs0, d0, ds0, p0, q0, hargs, rfl, rfl, h0, r0⟩ := trodAll_cons hA
  obtain ⟨rfl, rfl, rfl⟩ := trodAll_nil r0
  obtain rfl : args = #[v0] := by cases args; simp_all
  obtain ⟨rfl, rfl⟩ := trodVars_none hV
  clear hA0
  obtain ⟨a0, e0, m0⟩ := dop_arg Tryz.underlying55 (Arg.dop Tryz.underlying55 (by kernel_rfl) (by kernel_rfl) (by kernel_rfl) Tryz.underlying3 Tryz.underlying3 Tryz.underlying3 Tryz.underlying3 (Arg.ask Tryz.underlying50 (by kernel_rfl) (by kernel_rfl) (by kernel_rfl) Tryz.underlying3 Tryz.underlying3 Tryz.underlying3 Tryz.underlying9 Tryz.underlying9 Tryz.underlying3 Tryz.underlying3) (Arg.done Tryz.underlying44 (by kernel_rfl) (by kernel_rfl) (by kernel_rfl) Tryz.underlying24 (Arg.spot Tryz.underlying42 (by kernel_rfl) (by kernel_rfl) (by kernel_rfl) Tryz.underlying3 Tryz.underlying3)) (Arg.reach Tryz.underlying53 (by kernel_rfl) (by kernel_rfl) (by kernel_rfl) (Arg.spot Tryz.underlying42 (by kernel_rfl) (by kernel_rfl) (by kernel_rfl) Tryz.underlying3 Tryz.underlying3) (Arg.slice Tryz.underlying51 (by kernel_rfl) (Arg.int Tryz.underlying3))) (Arg.reach Tryz.underlying53 (by kernel_rfl) (by kernel_rfl) (by kernel_rfl) (Arg.spot Tryz.underlying42 (by kernel_rfl) (by kernel_rfl) (by kernel_rfl) Tryz.underlying3 Tryz.underlying3) (Arg.slice Tryz.underlying51 (by kernel_rfl) (Arg.int Tryz.underlying3))) (Arg.spot Tryz.underlying42 (by kernel_rfl) (by kernel_rfl) (by kernel_rfl) Tryz.underlying3 Tryz.underlying3) (Arg.cmd Tryz.underlying39 (by kernel_rfl) (by kernel_rfl) (by kernel_rfl) Tryz.underlying3 Tryz.underlying3 Tryz.underlying3 (Arg.opl Tryz.underlying36 (by kernel_rfl) (by kernel_rfl) (by kernel_rfl) Tryz.underlying3 Tryz.underlying3 Tryz.underlying3 Tryz.underlying3 Tryz.underlying3 Tryz.underlying3 Tryz.underlying9 (Arg.sht Tryz.underlying34 (by kernel_rfl) (by kernel_rfl) (by kernel_rfl) Tryz.underlying3 (Arg.slice Tryz.underlying32 (by kernel_rfl) (Arg.str Tryz.underlying9)))) Tryz.underlying3 Tryz.underlying3 (Arg.slice Tryz.underlying37 (by kernel_rfl) (Arg.opl Tryz.underlying36 (by kernel_rfl) (by kernel_rfl) (by kernel_rfl) Tryz.underlying3 Tryz.underlying3 Tryz.underlying3 Tryz.underlying3 Tryz.underlying3 Tryz.underlying3 Tryz.underlying9 (Arg.sht Tryz.underlying34 (by kernel_rfl) (by kernel_rfl) (by kernel_rfl) Tryz.underlying3 (Arg.slice Tryz.underlying32 (by kernel_rfl) (Arg.str Tryz.underlying9))))) Tryz.underlying3)) (hval 0 55 v0 rfl rfl) h0
  refine (walk W v0 a0 e0).mono fun e W' ⟨he, hb⟩ => ?_
  subst he
  refine ⟨_, rfl, post_of_law (tb := 4) (by kernel_rfl) ?_ (by kernel_rfl) Tryz.underlying4 rfl ?_ hW' hb⟩
  · rw [Tryz.params4]
    intro t ht
    simp only [List.mem_cons, List.not_mem_nil, or_false] at ht
    rcases ht with rfl <;> exact ⟨by kernel_rfl, by decide +kernel⟩
  · rw [Tryz.params4]
    intro l hl
    match l, hl with
    | [x0], _ => rfl

set_option maxRecDepth 100000 in
theorem deskNil_lifted (walk : DeskNilWalk) (os : Os) (started : os.Started) (H : Type) (enc : TypeId × Value → H) :
    ReturnsInHanded {} Tryz.checked os 4 .any (Rows.deskNilSpec.pre6 enc Tryz.prog Tryz.f4 Rows.deskNilRow.domain false) (Rows.deskNilSpec.post enc Tryz.prog Tryz.f4 false true false false) := by
  refine returnsInHanded_of_change (C := Tryz.checked) (by kernel_rfl : ownKnob Tryz.prog.godebug = none) started (by kernel_rfl) Tryz.func4
    (ChangeSpec.witness6 (enc := enc) (C := Tryz.checked) false ⟨#[], #[.agg #[.int .i64 0, .int .i64 0, .int .i64 0, .int .i64 0, .int .i64 0, .int .i64 0, .int .i64 0, .string ByteArray.empty, .string ByteArray.empty, .int .i64 0, .int .i64 0, .int .i64 0, .int .i64 0, .int .i64 0, .int .i64 0, .int .i64 0, .slice none 0 0, .int .i64 0, .int .i64 0, .slice none 0 0, .int .i64 0, .int .i64 0, .int .i64 0, .int .i64 0, .int .i64 0, .int .i64 0, .int .i64 0, .int .i64 0, .int .i64 0, .int .i64 0, .int .i64 0, .string ByteArray.empty, .int .i64 0, .slice none 0 0, .int .i64 0, .int .i64 0, .slice none 0 0, .int .i64 0]], []⟩ 8 (by kernel_rfl) (by kernel_rfl) (by kernel_rfl) (by kernel_rfl)) ?_
  intro W base args ds gs before hval hW _ _
  exact deskNil_contract walk H enc W base args ds gs before hval hW
theorem deskNil_of (walk : DeskNilWalk) : Rows.DeskNilSaid :=
  OpenClaim.holds_of_wide 4 Tryz.f4 rfl rfl rfl rfl rfl rfl rfl ⟨rfl, rfl, rfl, rfl, rfl⟩ rfl rfl rfl rfl rfl (by kernel_rfl) Tryz.func4 (by kernel_rfl)
    (of_decide_eq_true (by kernel_rfl)) (by unfold Func.isWrapper; first | (rw [if_pos (by decide +kernel)]; kernel_rfl) | (rw [if_neg (by decide +kernel)]; exact ⟨rfl, rfl⟩))
    (fun os started H enc _ => deskNil_lifted walk os started H enc)

end Go.Proofs.YtamfgmlhopjppaaGreat
