/-
  From a walk of each law to the given statement (printed by wip/tools/mklaw.py).
-/
import Derived.Test.YtflodiljgphkdaaOpA
namespace Go.Proofs.Ytflodiljgphkdaa
open Go.RowKit Go.ChangeShapes Go.WideShapes Go.ChangeAt

/-- The walk that gives DiskApartUpto. -/
def DiskApartUptoWalk : Prop := ∀ (W : World) (v0 : Value) (a0 : (List OpV)) (v1 : Value) (a1 : (List OpV)), (Rp.slice Rp.op).R W (fun k => k < W.heap.size) [v0] a0 → (Rp.slice Rp.op).R W (fun k => k < W.heap.size) [v1] a1 → (Rp.slice Rp.op).μ a0 + (Rp.slice Rp.op).μ a1 ≤ 1048576 →
    Calls Try.prog 7 #[v0, v1] W fun e w' => e = .returned (.bool true) ∧ Kp No W w'

set_option maxRecDepth 100000 in
theorem diskApartUpto_contract (walk : DiskApartUptoWalk) (H : Type) (enc : TypeId × Value → H) (W : World) (base : Nat) (args : Array Value) (ds gs : List (DataW H)) (before : List MemPlace)
    (hval : ∀ (j : Nat) t v, Try.f7.params[j]? = some t → args[j]? = some v → Value.okWide Try.prog W .any base t v)
    (hW : DataW.Whole enc Try.prog Try.f7.params.toList Rows.diskApartSpec.vars false W args.toList ds gs before) (hk : Rows.uptoSmall H (ds ++ gs) = true) :
    Calls Try.prog 7 args W fun e W' => ∃ v, e = .returned v ∧ Rows.diskApartSpec.post enc Try.prog Try.f7 false true false false W args v W' := by
  have hW' := hW
  obtain ⟨p, q, hA0, hV, rfl, hfz, hnd⟩ := hW
  have hA : DataW.TrodAll enc Try.prog W 0 (fun _ => true) true Try.f7.params.toList args.toList ds p := hA0
  rw [Try.params7] at hA hval
  obtain ⟨v0, vs0, d0, ds0, p0, q0, hargs, rfl, rfl, h0, r0⟩ := trodAll_cons hA
  obtain ⟨v1, vs1, d1, ds1, p1, q1, rfl, rfl, rfl, h1, r1⟩ := trodAll_cons r0
  obtain ⟨rfl, rfl, rfl⟩ := trodAll_nil r1
  obtain rfl : args = #[v0, v1] := by cases args; simp_all
  obtain ⟨rfl, rfl⟩ := trodVars_none hV
  clear hA0
  have c0 : v0.cells.toList = [v0] := one_of_slice (okWide_slice Try.underlying33 (hval 0 33 v0 rfl rfl))
  obtain ⟨a0, e0, m0⟩ := Arg.one (Arg.slice Try.underlying33 (by kernel_rfl) (Arg.op Try.underlying37 (by kernel_rfl) (by kernel_rfl) (by kernel_rfl) Try.underlying3 Try.underlying9 Try.underlying9 Try.underlying3 (Arg.slice Try.underlying34 (by kernel_rfl) (Arg.int Try.underlying3)))) c0 h0
  have c1 : v1.cells.toList = [v1] := one_of_slice (okWide_slice Try.underlying33 (hval 1 33 v1 rfl rfl))
  obtain ⟨a1, e1, m1⟩ := Arg.one (Arg.slice Try.underlying33 (by kernel_rfl) (Arg.op Try.underlying37 (by kernel_rfl) (by kernel_rfl) (by kernel_rfl) Try.underlying3 Try.underlying9 Try.underlying9 Try.underlying3 (Arg.slice Try.underlying34 (by kernel_rfl) (Arg.int Try.underlying3)))) c1 h1
  have hbd := bound_of hk
  simp only [List.append_nil, Rows.uptoBulkAll] at hbd
  refine (walk W v0 a0 v1 a1 e0 e1 (by omega)).mono fun e W' ⟨he, hb⟩ => ?_
  subst he
  refine ⟨_, rfl, post_of_law (tb := 4) (by kernel_rfl) ?_ (by kernel_rfl) Try.underlying4 rfl ?_ hW' hb⟩
  · rw [Try.params7]
    intro t ht
    simp only [List.mem_cons, List.not_mem_nil, or_false] at ht
    rcases ht with rfl | rfl <;> exact ⟨by kernel_rfl, by decide +kernel⟩
  · rw [Try.params7]
    intro l hl
    match l, hl with
    | [x0, x1], _ => rfl

set_option maxRecDepth 100000 in
theorem diskApartUpto_lifted (walk : DiskApartUptoWalk) (os : Os) (started : os.Started) (H : Type) (enc : TypeId × Value → H) (F : Stop.Interp) :
    ReturnsInHanded {} Try.checked os 7 .any ((Rows.OpenSpec.upto Rows.diskApartSpec).pre6 enc Try.prog Try.f7 Rows.diskApartUptoRow.domain false) (((Rows.OpenSpec.upto Rows.diskApartSpec).at F).post enc Try.prog Try.f7 false true false false) := by
  refine returnsInHanded_of_cond (C := Try.checked) (s := (Rows.OpenSpec.upto Rows.diskApartSpec)) (k := Rows.uptoSmall) rfl (by kernel_rfl : ownKnob Try.prog.godebug = none) started (by kernel_rfl) Try.func7
    (OpenSpec.witness (enc := enc) (C := Try.checked) (s := (Rows.OpenSpec.upto Rows.diskApartSpec)) (k := Rows.uptoSmall) rfl false ⟨#[], #[.slice none 0 0, .slice none 0 0], []⟩ 8 (by kernel_rfl) (by kernel_rfl) (by kernel_rfl)
      (x := ([.nil, .nil], [], [])) (by kernel_rfl) rfl (by kernel_rfl)) ?_
  intro W base args ds gs before hval hW _ hk _
  exact diskApartUpto_contract walk H enc W base args ds gs before hval hW hk
theorem diskApartUpto_of (walk : DiskApartUptoWalk) : Rows.DiskApartUptoSaid :=
  OpenClaim.holds_of_cond 7 Try.f7 rfl rfl rfl rfl rfl rfl rfl ⟨rfl, rfl, rfl, rfl, rfl⟩ rfl rfl rfl rfl rfl (by kernel_rfl) Try.func7 (by kernel_rfl)
    (of_decide_eq_true (by kernel_rfl)) (by unfold Func.isWrapper; first | (rw [if_pos (by decide +kernel)]; kernel_rfl) | (rw [if_neg (by decide +kernel)]; exact ⟨rfl, rfl⟩))
    (fun os started H enc _ F => diskApartUpto_lifted walk os started H enc F)

end Go.Proofs.Ytflodiljgphkdaa
