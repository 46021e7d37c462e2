/-
  From a walk of each law to the given statement (printed by wip/tools/mklaw.py).
-/
import Derived.Test.YtflodiljgphkdaaGreatBase
namespace Go.Proofs.YtflodiljgphkdaaGreat
open Go.RowKit Go.ChangeShapes Go.WideShapes Go.ChangeAt

/-- The walk that gives HuntServes. -/
def HuntServesWalk : Prop := ∀ (W : World) (v0 : Value) (a0 : (List ByteArray)) (v1 : Value) (a1 : (List Int)) (v2 : Value) (a2 : (List ByteArray)) (v3 : Value) (a3 : Int) (v4 : Value) (a4 : Int) (v5 : Value) (a5 : Bool), (Rp.slice Rp.str).R W (fun k => k < W.heap.size) [v0] a0 → (Rp.slice (Rp.int .i64)).R W (fun k => k < W.heap.size) [v1] a1 → (Rp.slice Rp.str).R W (fun k => k < W.heap.size) [v2] a2 → (Rp.int .i64).R W (fun k => k < W.heap.size) [v3] a3 → (Rp.int .i64).R W (fun k => k < W.heap.size) [v4] a4 → Rp.bool.R W (fun k => k < W.heap.size) [v5] a5 →
    Calls Tryz.prog 3 #[v0, v1, v2, v3, v4, v5] W fun e w' => e = .returned (.bool true) ∧ Kp No W w'

set_option maxRecDepth 100000 in
theorem huntServes_contract (walk : HuntServesWalk) (H : Type) (enc : TypeId × Value → H) (W : World) (base : Nat) (args : Array Value) (ds gs : List (DataW H)) (before : List MemPlace)
    (hval : ∀ (j : Nat) t v, Tryz.f3.params[j]? = some t → args[j]? = some v → Value.okWide Tryz.prog W .any base t v)
    (hW : DataW.Whole enc Tryz.prog Tryz.f3.params.toList Rows.huntServesSpec.vars false W args.toList ds gs before) :
    Calls Tryz.prog 3 args W fun e W' => ∃ v, e = .returned v ∧ Rows.huntServesSpec.post enc Tryz.prog Tryz.f3 false true false false W args v W' := by
  have hW' := hW
  obtain ⟨p, q, hA0, hV, rfl, hfz, hnd⟩ := hW
  have hA : DataW.TrodAll enc Tryz.prog W 0 (fun _ => true) true Tryz.f3.params.toList args.toList ds p := hA0
  rw [Tryz.params3] at hA hval
  obtain ⟨v0, vs0, d0, ds0, p0, q0, hargs, rfl, rfl, h0, r0⟩ := trodAll_cons hA
  obtain ⟨v1, vs1, d1, ds1, p1, q1, rfl, rfl, rfl, h1, r1⟩ := trodAll_cons r0
  obtain ⟨v2, vs2, d2, ds2, p2, q2, rfl, rfl, rfl, h2, r2⟩ := trodAll_cons r1
  obtain ⟨v3, vs3, d3, ds3, p3, q3, rfl, rfl, rfl, h3, r3⟩ := trodAll_cons r2
  obtain ⟨v4, vs4, d4, ds4, p4, q4, rfl, rfl, rfl, h4, r4⟩ := trodAll_cons r3
  obtain ⟨v5, vs5, d5, ds5, p5, q5, rfl, rfl, rfl, h5, r5⟩ := trodAll_cons r4
  obtain ⟨rfl, rfl, rfl⟩ := trodAll_nil r5
  obtain rfl : args = #[v0, v1, v2, v3, v4, v5] := by cases args; simp_all
  obtain ⟨rfl, rfl⟩ := trodVars_none hV
  clear hA0
  have c0 : v0.cells.toList = [v0] := one_of_slice (okWide_slice Tryz.underlying22 (hval 0 22 v0 rfl rfl))
  obtain ⟨a0, e0, m0⟩ := Arg.one (Arg.slice Tryz.underlying22 (by kernel_rfl) (Arg.str Tryz.underlying9)) c0 h0
  have c1 : v1.cells.toList = [v1] := one_of_slice (okWide_slice Tryz.underlying23 (hval 1 23 v1 rfl rfl))
  obtain ⟨a1, e1, m1⟩ := Arg.one (Arg.slice Tryz.underlying23 (by kernel_rfl) (Arg.int Tryz.underlying3)) c1 h1
  have c2 : v2.cells.toList = [v2] := one_of_slice (okWide_slice Tryz.underlying22 (hval 2 22 v2 rfl rfl))
  obtain ⟨a2, e2, m2⟩ := Arg.one (Arg.slice Tryz.underlying22 (by kernel_rfl) (Arg.str Tryz.underlying9)) c2 h2
  have c3 : v3.cells.toList = [v3] := one_of_int (okWide_int Tryz.underlying3 (hval 3 3 v3 rfl rfl))
  obtain ⟨a3, e3, m3⟩ := Arg.one (Arg.int Tryz.underlying3) c3 h3
  have c4 : v4.cells.toList = [v4] := one_of_int (okWide_int Tryz.underlying3 (hval 4 3 v4 rfl rfl))
  obtain ⟨a4, e4, m4⟩ := Arg.one (Arg.int Tryz.underlying3) c4 h4
  have c5 : v5.cells.toList = [v5] := one_of_bool (okWide_bool Tryz.underlying4 (hval 5 4 v5 rfl rfl))
  obtain ⟨a5, e5, m5⟩ := Arg.one (Arg.bool Tryz.underlying4) c5 h5
  refine (walk W v0 a0 v1 a1 v2 a2 v3 a3 v4 a4 v5 a5 e0 e1 e2 e3 e4 e5).mono fun e W' ⟨he, hb⟩ => ?_
  subst he
  refine ⟨_, rfl, post_of_law (tb := 4) (by kernel_rfl) ?_ (by kernel_rfl) Tryz.underlying4 rfl ?_ hW' hb⟩
  · rw [Tryz.params3]
    intro t ht
    simp only [List.mem_cons, List.not_mem_nil, or_false] at ht
    rcases ht with rfl | rfl | rfl | rfl | rfl | rfl <;> exact ⟨by kernel_rfl, by decide +kernel⟩
  · rw [Tryz.params3]
    intro l hl
    match l, hl with
    | [x0, x1, x2, x3, x4, x5], _ => rfl

set_option maxRecDepth 100000 in
theorem huntServes_lifted (walk : HuntServesWalk) (os : Os) (started : os.Started) (H : Type) (enc : TypeId × Value → H) :
    ReturnsInHanded {} Tryz.checked os 3 .any (Rows.huntServesSpec.pre6 enc Tryz.prog Tryz.f3 Rows.huntServesRow.domain false) (Rows.huntServesSpec.post enc Tryz.prog Tryz.f3 false true false false) := by
  refine returnsInHanded_of_change (C := Tryz.checked) (by kernel_rfl : ownKnob Tryz.prog.godebug = none) started (by kernel_rfl) Tryz.func3
    (ChangeSpec.witness6 (enc := enc) (C := Tryz.checked) false ⟨#[], #[.slice none 0 0, .slice none 0 0, .slice none 0 0, .int .i64 0, .int .i64 0, .bool false], []⟩ 8 (by kernel_rfl) (by kernel_rfl) (by kernel_rfl) (by kernel_rfl)) ?_
  intro W base args ds gs before hval hW _ _
  exact huntServes_contract walk H enc W base args ds gs before hval hW
theorem huntServes_of (walk : HuntServesWalk) : Rows.HuntServesSaid :=
  OpenClaim.holds_of_wide 3 Tryz.f3 rfl rfl rfl rfl rfl rfl rfl ⟨rfl, rfl, rfl, rfl, rfl⟩ rfl rfl rfl rfl rfl (by kernel_rfl) Tryz.func3 (by kernel_rfl)
    (of_decide_eq_true (by kernel_rfl)) (by unfold Func.isWrapper; first | (rw [if_pos (by decide +kernel)]; kernel_rfl) | (rw [if_neg (by decide +kernel)]; exact ⟨rfl, rfl⟩))
    (fun os started H enc _ => huntServes_lifted walk os started H enc)

end Go.Proofs.YtflodiljgphkdaaGreat
