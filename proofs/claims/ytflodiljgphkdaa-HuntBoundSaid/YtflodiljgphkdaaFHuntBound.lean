/-
  From a walk of each law to the given statement (printed by wip/tools/mklaw.py).
-/
import Derived.Test.YtflodiljgphkdaaBase
namespace Go.Proofs.Ytflodiljgphkdaa
open Go.RowKit Go.ChangeShapes Go.WideShapes Go.ChangeAt

/-- The walk that gives HuntBound. -/
def HuntBoundWalk : Prop := ∀ (W : World) (v0 : Value) (a0 : (List ByteArray)) (v1 : Value) (a1 : Int) (v2 : Value) (a2 : Int) (v3 : Value) (a3 : (List Int)), (Rp.slice Rp.str).R W (fun k => k < W.heap.size) [v0] a0 → (Rp.int .i64).R W (fun k => k < W.heap.size) [v1] a1 → (Rp.int .i64).R W (fun k => k < W.heap.size) [v2] a2 → (Rp.slice (Rp.int .u8)).R W (fun k => k < W.heap.size) [v3] a3 →
    Calls Try.prog 13 #[v0, v1, v2, v3] W fun e w' => e = .returned (.bool true) ∧ Kp No W w'

set_option maxRecDepth 100000 in
theorem huntBound_contract (walk : HuntBoundWalk) (H : Type) (enc : TypeId × Value → H) (W : World) (base : Nat) (args : Array Value) (ds gs : List (DataW H)) (before : List MemPlace)
    (hval : ∀ (j : Nat) t v, Try.f13.params[j]? = some t → args[j]? = some v → Value.okWide Try.prog W .any base t v)
    (hW : DataW.Whole enc Try.prog Try.f13.params.toList Rows.huntBoundSpec.vars false W args.toList ds gs before) :
    Calls Try.prog 13 args W fun e W' => ∃ v, e = .returned v ∧ Rows.huntBoundSpec.post enc Try.prog Try.f13 false true false false W args v W' := by
  have hW' := hW
  obtain ⟨p, q, hA0, hV, rfl, hfz, hnd⟩ := hW
  have hA : DataW.TrodAll enc Try.prog W 0 (fun _ => true) true Try.f13.params.toList args.toList ds p := hA0
  rw [Try.params13] at hA hval
  obtain ⟨v0, vs0, d0, ds0, p0, q0, hargs, rfl, rfl, h0, r0⟩ := trodAll_cons hA
  obtain ⟨v1, vs1, d1, ds1, p1, q1, rfl, rfl, rfl, h1, r1⟩ := trodAll_cons r0
  obtain ⟨v2, vs2, d2, ds2, p2, q2, rfl, rfl, rfl, h2, r2⟩ := trodAll_cons r1
  obtain ⟨v3, vs3, d3, ds3, p3, q3, rfl, rfl, rfl, h3, r3⟩ := trodAll_cons r2
  obtain ⟨rfl, rfl, rfl⟩ := trodAll_nil r3
  obtain rfl : args = #[v0, v1, v2, v3] := by cases args; simp_all
  obtain ⟨rfl, rfl⟩ := trodVars_none hV
  clear hA0
  have c0 : v0.cells.toList = [v0] := one_of_slice (okWide_slice Try.underlying47 (hval 0 47 v0 rfl rfl))
  obtain ⟨a0, e0, m0⟩ := Arg.one (Arg.slice Try.underlying47 (by kernel_rfl) (Arg.str Try.underlying9)) c0 h0
  have c1 : v1.cells.toList = [v1] := one_of_int (okWide_int Try.underlying3 (hval 1 3 v1 rfl rfl))
  obtain ⟨a1, e1, m1⟩ := Arg.one (Arg.int Try.underlying3) c1 h1
  have c2 : v2.cells.toList = [v2] := one_of_int (okWide_int Try.underlying3 (hval 2 3 v2 rfl rfl))
  obtain ⟨a2, e2, m2⟩ := Arg.one (Arg.int Try.underlying3) c2 h2
  have c3 : v3.cells.toList = [v3] := one_of_slice (okWide_slice Try.underlying27 (hval 3 27 v3 rfl rfl))
  obtain ⟨a3, e3, m3⟩ := Arg.one (Arg.slice Try.underlying27 (by kernel_rfl) (Arg.int Try.underlying5)) c3 h3
  refine (walk W v0 a0 v1 a1 v2 a2 v3 a3 e0 e1 e2 e3).mono fun e W' ⟨he, hb⟩ => ?_
  subst he
  refine ⟨_, rfl, post_of_law (tb := 4) (by kernel_rfl) ?_ (by kernel_rfl) Try.underlying4 rfl ?_ hW' hb⟩
  · rw [Try.params13]
    intro t ht
    simp only [List.mem_cons, List.not_mem_nil, or_false] at ht
    rcases ht with rfl | rfl | rfl | rfl <;> exact ⟨by kernel_rfl, by decide +kernel⟩
  · rw [Try.params13]
    intro l hl
    match l, hl with
    | [x0, x1, x2, x3], _ => rfl

set_option maxRecDepth 100000 in
theorem huntBound_lifted (walk : HuntBoundWalk) (os : Os) (started : os.Started) (H : Type) (enc : TypeId × Value → H) :
    ReturnsInHanded {} Try.checked os 13 .any (Rows.huntBoundSpec.pre6 enc Try.prog Try.f13 Rows.huntBoundRow.domain false) (Rows.huntBoundSpec.post enc Try.prog Try.f13 false true false false) := by
  refine returnsInHanded_of_change (C := Try.checked) (by kernel_rfl : ownKnob Try.prog.godebug = none) started (by kernel_rfl) Try.func13
    (ChangeSpec.witness6 (enc := enc) (C := Try.checked) false ⟨#[], #[.slice none 0 0, .int .i64 0, .int .i64 0, .slice none 0 0], []⟩ 8 (by kernel_rfl) (by kernel_rfl) (by kernel_rfl) (by kernel_rfl)) ?_
  intro W base args ds gs before hval hW _ _
  exact huntBound_contract walk H enc W base args ds gs before hval hW
theorem huntBound_of (walk : HuntBoundWalk) : Rows.HuntBoundSaid :=
  OpenClaim.holds_of_wide 13 Try.f13 rfl rfl rfl rfl rfl rfl rfl ⟨rfl, rfl, rfl, rfl, rfl⟩ rfl rfl rfl rfl rfl (by kernel_rfl) Try.func13 (by kernel_rfl)
    (of_decide_eq_true (by kernel_rfl)) (by unfold Func.isWrapper; first | (rw [if_pos (by decide +kernel)]; kernel_rfl) | (rw [if_neg (by decide +kernel)]; exact ⟨rfl, rfl⟩))
    (fun os started H enc _ => huntBound_lifted walk os started H enc)

end Go.Proofs.Ytflodiljgphkdaa
