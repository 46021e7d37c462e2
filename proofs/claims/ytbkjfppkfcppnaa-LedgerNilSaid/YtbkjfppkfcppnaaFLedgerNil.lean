/-
  From a walk of each law to the given statement (printed by wip/tools/mklaw.py).
-/
import Derived.Test.YtbkjfppkfcppnaaCmdV
namespace Go.Proofs.Ytbkjfppkfcppnaa
open Go.RowKit Go.ChangeShapes Go.WideShapes Go.ChangeAt

/-- The walk that gives LedgerNil. -/
def LedgerNilWalk : Prop := ∀ (W : World) (v0 : Value) (a0 : CmdL) (v1 : Value) (a1 : ByteArray), Rd.cmd.R W (fun k => k < W.heap.size) [v0] a0 → Rp.str.R W (fun k => k < W.heap.size) [v1] a1 →
    Calls Try.prog 11 #[v0, v1] W fun e w' => e = .returned (.bool true) ∧ Kp No W w'

set_option maxRecDepth 100000 in
theorem ledgerNil_contract (walk : LedgerNilWalk) (H : Type) (enc : TypeId × Value → H) (W : World) (base : Nat) (args : Array Value) (ds gs : List (DataW H)) (before : List MemPlace)
    (hval : ∀ (j : Nat) t v, Try.f11.params[j]? = some t → args[j]? = some v → Value.okWide Try.prog W .any base t v)
    (hW : DataW.Whole enc Try.prog Try.f11.params.toList Rows.ledgerNilSpec.vars false W args.toList ds gs before) :
    Calls Try.prog 11 args W fun e W' => ∃ v, e = .returned v ∧ Rows.ledgerNilSpec.post enc Try.prog Try.f11 false true false false W args v W' := by
  have hW' := hW
  obtain ⟨p, q, hA0, hV, rfl, hfz, hnd⟩ := hW
  have hA : DataW.TrodAll enc Try.prog W 0 (fun _ => true) true Try.f11.params.toList args.toList ds p := hA0
  rw [Try.params11] at hA hval
  obtain ⟨v0, vs0, d0, ds0, p0, q0, hargs, rfl, rfl, h0, r0⟩ := trodAll_cons hA
  obtain ⟨v1, vs1, d1, ds1, p1, q1, rfl, rfl, rfl, h1, r1⟩ := trodAll_cons r0
  obtain ⟨rfl, rfl, rfl⟩ := trodAll_nil r1
  obtain rfl : args = #[v0, v1] := by cases args; simp_all
  obtain ⟨rfl, rfl⟩ := trodVars_none hV
  clear hA0
  obtain ⟨a0, e0, m0⟩ := cmd_arg Try.underlying36 (Arg.cmd Try.underlying36 (by kernel_rfl) (by kernel_rfl) (by kernel_rfl) Try.underlying3 Try.underlying3 Try.underlying3 (Arg.opl Try.underlying33 (by kernel_rfl) (by kernel_rfl) (by kernel_rfl) Try.underlying3 Try.underlying3 Try.underlying3 Try.underlying3 Try.underlying3 Try.underlying3 Try.underlying9 (Arg.sht Try.underlying31 (by kernel_rfl) (by kernel_rfl) (by kernel_rfl) Try.underlying3 (Arg.slice Try.underlying29 (by kernel_rfl) (Arg.str Try.underlying9)))) Try.underlying3 Try.underlying3 (Arg.slice Try.underlying34 (by kernel_rfl) (Arg.opl Try.underlying33 (by kernel_rfl) (by kernel_rfl) (by kernel_rfl) Try.underlying3 Try.underlying3 Try.underlying3 Try.underlying3 Try.underlying3 Try.underlying3 Try.underlying9 (Arg.sht Try.underlying31 (by kernel_rfl) (by kernel_rfl) (by kernel_rfl) Try.underlying3 (Arg.slice Try.underlying29 (by kernel_rfl) (Arg.str Try.underlying9))))) Try.underlying3) (hval 0 36 v0 rfl rfl) h0
  have c1 : v1.cells.toList = [v1] := one_of_string (okWide_string Try.underlying9 (hval 1 9 v1 rfl rfl))
  obtain ⟨a1, e1, m1⟩ := Arg.one (Arg.str Try.underlying9) c1 h1
  refine (walk W v0 a0 v1 a1 e0 e1).mono fun e W' ⟨he, hb⟩ => ?_
  subst he
  refine ⟨_, rfl, post_of_law (tb := 4) (by kernel_rfl) ?_ (by kernel_rfl) Try.underlying4 rfl ?_ hW' hb⟩
  · rw [Try.params11]
    intro t ht
    simp only [List.mem_cons, List.not_mem_nil, or_false] at ht
    rcases ht with rfl | rfl <;> exact ⟨by kernel_rfl, by decide +kernel⟩
  · rw [Try.params11]
    intro l hl
    match l, hl with
    | [x0, x1], _ => rfl

set_option maxRecDepth 100000 in
theorem ledgerNil_lifted (walk : LedgerNilWalk) (os : Os) (started : os.Started) (H : Type) (enc : TypeId × Value → H) :
    ReturnsInHanded {} Try.checked os 11 .any (Rows.ledgerNilSpec.pre6 enc Try.prog Try.f11 Rows.ledgerNilRow.domain false) (Rows.ledgerNilSpec.post enc Try.prog Try.f11 false true false false) := by
  refine returnsInHanded_of_change (C := Try.checked) (by kernel_rfl : ownKnob Try.prog.godebug = none) started (by kernel_rfl) Try.func11
    (ChangeSpec.witness6 (enc := enc) (C := Try.checked) false ⟨#[], #[.agg #[.int .i64 0, .int .i64 0, .int .i64 0, .int .i64 0, .int .i64 0, .int .i64 0, .int .i64 0, .int .i64 0, .int .i64 0, .string ByteArray.empty, .int .i64 0, .slice none 0 0, .int .i64 0, .int .i64 0, .slice none 0 0, .int .i64 0], .string ByteArray.empty], []⟩ 8 (by kernel_rfl) (by kernel_rfl) (by kernel_rfl) (by kernel_rfl)) ?_
  intro W base args ds gs before hval hW _ _
  exact ledgerNil_contract walk H enc W base args ds gs before hval hW
theorem ledgerNil_of (walk : LedgerNilWalk) : Rows.LedgerNilSaid :=
  OpenClaim.holds_of_wide 11 Try.f11 rfl rfl rfl rfl rfl rfl rfl ⟨rfl, rfl, rfl, rfl, rfl⟩ rfl rfl rfl rfl rfl (by kernel_rfl) Try.func11 (by kernel_rfl)
    (of_decide_eq_true (by kernel_rfl)) (by unfold Func.isWrapper; first | (rw [if_pos (by decide +kernel)]; kernel_rfl) | (rw [if_neg (by decide +kernel)]; exact ⟨rfl, rfl⟩))
    (fun os started H enc _ => ledgerNil_lifted walk os started H enc)

end Go.Proofs.Ytbkjfppkfcppnaa
