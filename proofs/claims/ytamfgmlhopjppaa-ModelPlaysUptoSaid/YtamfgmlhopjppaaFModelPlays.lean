/-
  From a walk of each law to the given statement (printed by wip/tools/mklaw.py).
-/
import Derived.Test.YtamfgmlhopjppaaGN
namespace Go.Proofs.Ytamfgmlhopjppaa
open Go.RowKit Go.ChangeShapes Go.WideShapes Go.ChangeAt

/-- The walk that gives ModelPlaysUpto. -/
def ModelPlaysUptoWalk : Prop := ∀ (W : World) (v0 : Value) (a0 : (List PlayL)), (Rp.slice Rp.play).R W (fun k => k < W.heap.size) [v0] a0 → (Rp.slice Rp.play).μ a0 ≤ 1048576 →
    Calls Try.prog 3 #[v0] W fun e w' => e = .returned (.bool true) ∧ Kp No W w'

set_option maxRecDepth 100000 in
theorem modelPlaysUpto_contract (walk : ModelPlaysUptoWalk) (H : Type) (enc : TypeId × Value → H) (W : World) (base : Nat) (args : Array Value) (ds gs : List (DataW H)) (before : List MemPlace)
    (hval : ∀ (j : Nat) t v, Try.f3.params[j]? = some t → args[j]? = some v → Value.okWide Try.prog W .any base t v)
    (hW : DataW.Whole enc Try.prog Try.f3.params.toList Rows.modelPlaysSpec.vars false W args.toList ds gs before) (hk : Rows.uptoSmall H (ds ++ gs) = true) :
    Calls Try.prog 3 args W fun e W' => ∃ v, e = .returned v ∧ Rows.modelPlaysSpec.post enc Try.prog Try.f3 false true false false W args v W' := by
  have hW' := hW
  obtain ⟨p, q, hA0, hV, rfl, hfz, hnd⟩ := hW
  have hA : DataW.TrodAll enc Try.prog W 0 (fun _ => true) true Try.f3.params.toList args.toList ds p := hA0
  rw [Try.params3] at hA hval
  obtain ⟨v0, vs0, d0, ds0, p0, q0, hargs, rfl, rfl, h0, r0⟩ := trodAll_cons hA
  obtain ⟨rfl, rfl, rfl⟩ := trodAll_nil r0
  obtain rfl : args = #[v0] := by cases args; simp_all
  obtain ⟨rfl, rfl⟩ := trodVars_none hV
  clear hA0
  have c0 : v0.cells.toList = [v0] := one_of_slice (okWide_slice Try.underlying22 (hval 0 22 v0 rfl rfl))
  obtain ⟨a0, e0, m0⟩ := Arg.one (Arg.slice Try.underlying22 (by kernel_rfl) (Arg.play Try.underlying42 (by kernel_rfl) (by kernel_rfl) (by kernel_rfl) Try.underlying3 (Arg.slice Try.underlying32 (by kernel_rfl) (Arg.opl Try.underlying58 (by kernel_rfl) (by kernel_rfl) (by kernel_rfl) Try.underlying3 Try.underlying3 Try.underlying3 Try.underlying3 Try.underlying3 Try.underlying3 Try.underlying9 (Arg.sht Try.underlying56 (by kernel_rfl) (by kernel_rfl) (by kernel_rfl) Try.underlying3 (Arg.slice Try.underlying38 (by kernel_rfl) (Arg.str Try.underlying9))))) (Arg.ask Try.underlying34 (by kernel_rfl) (by kernel_rfl) (by kernel_rfl) Try.underlying3 Try.underlying3 Try.underlying3 Try.underlying9 Try.underlying9 Try.underlying3 Try.underlying3) (Arg.rep Try.underlying40 (by kernel_rfl) (by kernel_rfl) (by kernel_rfl) Try.underlying3 Try.underlying35 (Arg.spot Try.underlying37 (by kernel_rfl) (by kernel_rfl) (by kernel_rfl) Try.underlying3 Try.underlying3) (Arg.slice Try.underlying38 (by kernel_rfl) (Arg.str Try.underlying9)) Try.underlying9 (Arg.slice Try.underlying32 (by kernel_rfl) (Arg.opl Try.underlying58 (by kernel_rfl) (by kernel_rfl) (by kernel_rfl) Try.underlying3 Try.underlying3 Try.underlying3 Try.underlying3 Try.underlying3 Try.underlying3 Try.underlying9 (Arg.sht Try.underlying56 (by kernel_rfl) (by kernel_rfl) (by kernel_rfl) Try.underlying3 (Arg.slice Try.underlying38 (by kernel_rfl) (Arg.str Try.underlying9)))))))) c0 h0
  have hbd := bound_of hk
  simp only [List.append_nil, Rows.uptoBulkAll] at hbd
  refine (walk W v0 a0 e0 (by omega)).mono fun e W' ⟨he, hb⟩ => ?_
  subst he
  refine ⟨_, rfl, post_of_law (tb := 4) (by kernel_rfl) ?_ (by kernel_rfl) Try.underlying4 rfl ?_ hW' hb⟩
  · rw [Try.params3]
    intro t ht
    simp only [List.mem_cons, List.not_mem_nil, or_false] at ht
    rcases ht with rfl <;> exact ⟨by kernel_rfl, by decide +kernel⟩
  · rw [Try.params3]
    intro l hl
    match l, hl with
    | [x0], _ => rfl

set_option maxRecDepth 100000 in
theorem modelPlaysUpto_lifted (walk : ModelPlaysUptoWalk) (os : Os) (started : os.Started) (H : Type) (enc : TypeId × Value → H) (F : Stop.Interp) :
    ReturnsInHanded {} Try.checked os 3 .any ((Rows.OpenSpec.upto Rows.modelPlaysSpec).pre6 enc Try.prog Try.f3 Rows.modelPlaysUptoRow.domain false) (((Rows.OpenSpec.upto Rows.modelPlaysSpec).at F).post enc Try.prog Try.f3 false true false false) := by
  refine returnsInHanded_of_cond (C := Try.checked) (s := (Rows.OpenSpec.upto Rows.modelPlaysSpec)) (k := Rows.uptoSmall) rfl (by kernel_rfl : ownKnob Try.prog.godebug = none) started (by kernel_rfl) Try.func3
    (OpenSpec.witness (enc := enc) (C := Try.checked) (s := (Rows.OpenSpec.upto Rows.modelPlaysSpec)) (k := Rows.uptoSmall) rfl false ⟨#[], #[.slice none 0 0], []⟩ 8 (by kernel_rfl) (by kernel_rfl) (by kernel_rfl)
      (x := ([.nil], [], [])) (by kernel_rfl) rfl (by kernel_rfl)) ?_
  intro W base args ds gs before hval hW _ hk _
  exact modelPlaysUpto_contract walk H enc W base args ds gs before hval hW hk
theorem modelPlaysUpto_of (walk : ModelPlaysUptoWalk) : Rows.ModelPlaysUptoSaid :=
  OpenClaim.holds_of_cond 3 Try.f3 rfl rfl rfl rfl rfl rfl rfl ⟨rfl, rfl, rfl, rfl, rfl⟩ rfl rfl rfl rfl rfl (by kernel_rfl) Try.func3 (by kernel_rfl)
    (of_decide_eq_true (by kernel_rfl)) (by unfold Func.isWrapper; first | (rw [if_pos (by decide +kernel)]; kernel_rfl) | (rw [if_neg (by decide +kernel)]; exact ⟨rfl, rfl⟩))
    (fun os started H enc _ F => modelPlaysUpto_lifted walk os started H enc F)

end Go.Proofs.Ytamfgmlhopjppaa
